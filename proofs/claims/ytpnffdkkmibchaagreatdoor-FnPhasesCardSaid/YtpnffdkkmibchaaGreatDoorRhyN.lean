/-
  Contracts of the normal form of a light: the reference's. Each under the conditions that it states.
-/
import Derived.Test.YtpnffdkkmibchaaGreatDoorRhyJ
set_option linter.unusedVariables false
set_option linter.unnecessarySimpa false
set_option maxRecDepth 100000
set_option linter.unusedSimpArgs false
namespace Go.Proofs.YtpnffdkkmibchaaGreatDoor
open Go.RowKit BigFrame Go.Deep

theorem cyc_take {W : List Nat} {n : Nat} (hW : 0 < W.length) (h : PerL W n) : cyc (W.take n) = cyc W := by
  have hn := h.le hW
  have hl : (W.take n).length = n := by rw [List.length_take]; omega
  funext t
  have hlt : t % n < n := Nat.mod_lt _ h.1
  rw [← per_mod h.2.1 t, cyc_at (show t % n < W.length by omega)]
  unfold cyc
  rw [hl, List.getD_eq_getElem?_getD, List.getElem?_take, if_pos hlt, List.getElem?_eq_getElem (by omega)]; rfl
/-- The normal phases of a light. -/
def NormR (P : List RPhase) (J : List (Nat × Nat)) : Prop := ∃ M, MinW (tns P) M ∧ J = joinM M
theorem NormR.uniq {P : List RPhase} {J K : List (Nat × Nat)} (h : NormR P J) (h2 : NormR P K) : J = K := by
  obtain ⟨M, hM, rfl⟩ := h
  obtain ⟨N, hN, rfl⟩ := h2
  rw [hM.uniq hN]
theorem NormR.of {P : List RPhase} {n i : Nat} (hW : 0 < (tns P).length) (hP : PerL (tns P) n) (hi : i < n) (hm : isMin (cyc ((tns P).take n)) n i) : NormR P (runs (cyc ((tns P).take n)) i n) := by
  rw [cyc_take hW hP] at hm ⊢
  exact ⟨_, ⟨n, i, hP, hi, hm, rfl⟩, rfl⟩
theorem owns_lessR {w : World} {B B' : Nat} {e : TypeId} {sz : Nat} {v : Value} {n : Nat} {xs : List Value} (h : w.ownsRow B e sz v n xs) (hB : B' ≤ B) : w.ownsRow B' e sz v n xs := by
  obtain ⟨hl, h | ⟨g, cap, cur, e, hb, r⟩⟩ := h
  · exact ⟨hl, .inl h⟩
  · exact ⟨hl, .inr ⟨g, cap, cur, e, Nat.le_trans hB hb, r⟩⟩
theorem codes_take {W : List Nat} (h : codes W) (n : Nat) : codes (W.take n) := fun c hc => h c (List.mem_of_mem_take hc)
end Go.Proofs.YtpnffdkkmibchaaGreatDoor
