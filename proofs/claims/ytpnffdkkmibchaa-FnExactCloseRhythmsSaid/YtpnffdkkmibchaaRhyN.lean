/-
  Contracts of the normal form of a light: the reference's. Each under the conditions that it states.
-/
import Derived.Test.YtpnffdkkmibchaaRhyJ
set_option linter.unusedVariables false
set_option linter.unnecessarySimpa false
set_option maxRecDepth 100000
set_option linter.unusedSimpArgs false
namespace Go.Proofs.Ytpnffdkkmibchaa
open Go.RowKit BigFrame Go.Deep

theorem cyc_take {W : List Nat} {n : Nat} (hW : 0 < W.length) (h : PerL W n) : cyc (W.take n) = cyc W := by
  have hn := h.le hW
  have hl : (W.take n).length = n := by rw [List.length_take]; omega
  funext t
  have hlt : t % n < n := Nat.mod_lt _ h.1
  rw [← per_mod h.2.1 t, cyc_at (show t % n < W.length by omega)]
  unfold cyc
  rw [hl, List.getD_eq_getElem?_getD, List.getElem?_take, if_pos hlt, List.getElem?_eq_getElem (by omega)]; rfl
/-- The normal phases of a light. -/
def NormR (P : List RPhase) (J : List (Nat × Nat)) : Prop := ∃ M, MinW (tns P) M ∧ J = joinM M
theorem NormR.uniq {P : List RPhase} {J K : List (Nat × Nat)} (h : NormR P J) (h2 : NormR P K) : J = K := by
  obtain ⟨M, hM, rfl⟩ := h
  obtain ⟨N, hN, rfl⟩ := h2
  rw [hM.uniq hN]
theorem NormR.of {P : List RPhase} {n i : Nat} (hW : 0 < (tns P).length) (hP : PerL (tns P) n) (hi : i < n) (hm : isMin (cyc ((tns P).take n)) n i) : NormR P (runs (cyc ((tns P).take n)) i n) := by
  rw [cyc_take hW hP] at hm ⊢
  exact ⟨_, ⟨n, i, hP, hi, hm, rfl⟩, rfl⟩
theorem owns_lessR {w : World} {B B' : Nat} {e : TypeId} {sz : Nat} {v : Value} {n : Nat} {xs : List Value} (h : w.ownsRow B e sz v n xs) (hB : B' ≤ B) : w.ownsRow B' e sz v n xs := by
  obtain ⟨hl, h | ⟨g, cap, cur, e, hb, r⟩⟩ := h
  · exact ⟨hl, .inl h⟩
  · exact ⟨hl, .inr ⟨g, cap, cur, e, Nat.le_trans hB hb, r⟩⟩
theorem codes_take {W : List Nat} (h : codes W) (n : Nat) : codes (W.take n) := fun c hc => h c (List.mem_of_mem_take hc)
set_option maxHeartbeats 1600000 in
theorem spec_Normal (P : List RPhase) (A : Option Addr) (c B : Nat) (w : World) (hs : Sl w B A (flat RPhase.cells P)) (hB : B ≤ w.heap.size) (hv : vPhases P = true) : Calls Try.prog 20 #[.slice A P.length c] w fun e w' => ∃ J, NormR P J ∧ ∃ v, e = .returned v ∧ Below w.heap.size w w' ∧ w'.ownsRow w.heap.size 34 2 v J.length (jc J) := by
  obtain ⟨hW, hl⟩ := tns_pos hv
  have hs' := Lib.hid hs
  have hv' := Lib.hid hv
  clear hs hv
  go_enter Try.func20, Try.ntmps20
  go_wp2_with fail
  refine (spec_Once P A c B _ hs'.out hB hv'.out).mono ?_
  rintro e w1 ⟨n, hP, A2, c2, rfl, hnc, hb1, hsl⟩
  have hn := hP.le hW
  have hn1 := hP.1
  have hVl : ((tns P).take n).length = n := by rw [List.length_take]; omega
  have hof := Lib.hid (fun i hi hm => NormR.of (i := i) hW hP hi hm)
  have hcd := Lib.hid (codes_take (codes_tn (P := P) P.length) n)
  have hcd2 : Hid (codes ((tns P).take n)) := hcd
  obtain ⟨V, hV⟩ : ∃ V, (tns P).take n = V := ⟨_, rfl⟩
  rw [hV] at hsl hVl hof hcd2
  have hsl' := Lib.hid hsl
  subst hVl
  clear hsl hV hcd hP
  go_wp2_with fail
  refine (spec_Least V _ _ w1.heap.size _ hsl'.out (Nat.le_refl _) (by omega) (by omega)).mono ?_
  rintro e w2 ⟨i, ⟨hi, hmin⟩, rfl, hb2⟩
  have hJ := Lib.hid (hof.out i hi hmin)
  have hB2 := bnext hb1 hb2
  have hz2 := hb1.size
  clear hof hmin
  go_wp2_with fail
  refine (spec_Join V _ _ w1.heap.size i _ (hsl'.out.below hb2) hb2.size hcd2.out (by omega) (by omega) (by omega)).mono ?_
  rintro e w3 ⟨v, rfl, hb3, hown⟩
  have hown' := owns_lessR hown (show w.heap.size ≤ w2.heap.size by have := hB2.size; omega)
  clear hown
  go_wp2_with fail
  go_ret
  exact ⟨_, hJ.out, _, rfl, bnext hB2 hb3, hown'⟩
end Go.Proofs.Ytpnffdkkmibchaa
