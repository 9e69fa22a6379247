/-
  Contracts of rows of phases that are alike, element by element: the program's closure and the library's EqualFunc. Each under the conditions that it states.
-/
import Derived.Test.YtpnffdkkmibchaaRhyY
set_option linter.unusedVariables false
set_option linter.unnecessarySimpa false
set_option maxRecDepth 100000
set_option linter.unusedSimpArgs false
namespace Go.Proofs.Ytpnffdkkmibchaa
open Go.RowKit BigFrame Go.Deep

theorem impl_clos (a b m n : Nat) (tol : Int) (g : Nat) (ha : a < 256) (hb : b < 256) (hm : m ≤ 1000) (hn : n ≤ 1000) (w : World) (hg : g < w.heap.size) (hT : w.cell? ⟨g, 0, none⟩ = some (.int .i64 tol)) : Calls Try.prog 27 #[.agg #[.string (nm a), .int .i64 m], .agg #[.string (nm b), .int .i64 n], .pointer (some ⟨g, 0, none⟩)] w fun e w' => e = .returned (.bool (closeP tol (a, m) (b, n))) ∧ Below w.heap.size w w' := by
  go_enter Try.func27, Try.ntmps27
  go_wp2_with (go_at_call 28; refine (impl_close a b m n tol ha hb hm hn _).mono ?_; rintro e w1 ⟨rfl, hb1⟩)
  go_ret
  exact ⟨rfl, bnext (by go_grown) hb1⟩
def alikeP (tol : Int) (J U : List (Nat × Nat)) (k : Nat) : Bool := closeP tol (J.getD k (0, 0)) (U.getD k (0, 0))
set_option maxHeartbeats 1600000 in
theorem impl_equalP (J U : List (Nat × Nat)) (A A2 : Option Addr) (c c2 B g : Nat) (tol : Int) (w : World) (hs : Sl w B A (jc J)) (hs2 : Sl w B A2 (jc U)) (hB : B ≤ w.heap.size) (hl : J.length ≤ 1000) (hlen : U.length = J.length) (gJ : goodJ J) (gU : goodJ U) (hg : g < w.heap.size) (hT : w.cell? ⟨g, 0, none⟩ = some (.int .i64 tol)) : Calls Try.prog 26 #[.slice A J.length c, .slice A2 J.length c2, .func (Fn.func 27) #[] #[.pointer (some ⟨g, 0, none⟩)]] w fun e w' => e = .returned (.bool (allTo (alikeP tol J U) J.length)) ∧ Below w.heap.size w w' := by
  have hs' := Lib.hid hs
  have hs2' := Lib.hid hs2
  have gJ' := Lib.hid gJ
  have gU' := Lib.hid gU
  have hlen' := Lib.hid hlen
  clear hs hs2 gJ gU hlen
  go_enter Try.func26, Try.ntmps26
  go_wp2
  go_loopw [17] (fun i wr => ∃ k : Nat, i = .int .i64 k ∧ k ≤ J.length ∧ Hid (allTo (alikeP tol J U) k = true) ∧ Below w.heap.size w wr) (fun i _ => J.length - (intOf i).toNat)
  case atStart => exact ⟨0, rfl, Nat.zero_le _, Lib.hid rfl, by go_grown⟩
  case round =>
    obtain ⟨k, rfl, hk, hv, hB1⟩ := hrel
    have hS1 := hB1.size
    by_cases hlt : k < J.length
    · obtain ⟨bj, oj, rfl, hbj, hej⟩ := jc_w hs'.out hB (by omega)
      obtain ⟨bu, ou, rfl, hbu, heu⟩ := jc_w hs2'.out hB (by have := hlen'.out; omega)
      obtain ⟨p0, p1⟩ := hej wr hB1 k hlt
      obtain ⟨q0, q1⟩ := heu wr hB1 k (by have := hlen'.out; omega)
      obtain ⟨g1, g2⟩ := goodJ_at gJ'.out k
      obtain ⟨g3, g4⟩ := goodJ_at gU'.out k
      have hTr := (bcell hB1).1 g 0 hg
      rw [hT] at hTr
      have hgw : g < wr.heap.size := by omega
      have hbjw : bj < wr.heap.size := by omega
      have hbuw : bu < wr.heap.size := by omega
      have hcf := Lib.hid (show alikeP tol J U k = closeP tol (J.getD k (0, 0)) (U.getD k (0, 0)) from rfl)
      obtain ⟨⟨x, m⟩, hx⟩ : ∃ z, J.getD k (0, 0) = z := ⟨_, rfl⟩
      obtain ⟨⟨y, n⟩, hy⟩ : ∃ z, U.getD k (0, 0) = z := ⟨_, rfl⟩
      rw [hx] at p0 p1 g1 g2 hcf
      rw [hy] at q0 q1 g3 g4 hcf
      dsimp only at p0 p1 q0 q1 g1 g2 g3 g4
      clear hx hy hej heu
      cases hc : closeP tol (x, m) (y, n)
      · have hno := Lib.hid (allTo_hit (f := alikeP tol J U) hlt (by rw [hcf.out, hc]))
        have hC : ∀ w', g < w'.heap.size → w'.cell? ⟨g, 0, none⟩ = some (.int .i64 tol) → Calls Try.prog 27 #[.agg #[.string (nm x), .int .i64 m], .agg #[.string (nm y), .int .i64 n], .pointer (some ⟨g, 0, none⟩)] w' fun e w'' => e = .returned (.bool false) ∧ Below w'.heap.size w' w'' := fun w' h1 h2 => by rw [← hc]; exact impl_clos x y m n tol g g1 g3 (by omega) (by omega) w' h1 h2
        clear hc
        go_wp2_with (go_at_call 27; refine (hC _ (by simp; omega) (by simp [go_sem, *])).mono ?_; rintro e w1 ⟨rfl, hb1⟩)
        go_ret
        exact ⟨ret_bool hno.out.symm, bnext (bnext hB1 (by go_grown)) hb1⟩
      · have hst := Lib.hid (allTo_step (f := alikeP tol J U) hv.out (by rw [hcf.out, hc]))
        have hC : ∀ w', g < w'.heap.size → w'.cell? ⟨g, 0, none⟩ = some (.int .i64 tol) → Calls Try.prog 27 #[.agg #[.string (nm x), .int .i64 m], .agg #[.string (nm y), .int .i64 n], .pointer (some ⟨g, 0, none⟩)] w' fun e w'' => e = .returned (.bool true) ∧ Below w'.heap.size w' w'' := fun w' h1 h2 => by rw [← hc]; exact impl_clos x y m n tol g g1 g3 (by omega) (by omega) w' h1 h2
        clear hc
        go_wp2_with (go_at_call 27; refine (hC _ (by simp; omega) (by simp [go_sem, *])).mono ?_; rintro e w1 ⟨rfl, hb1⟩)
        go_roundw
        case rel => exact ⟨k + 1, by go_num, by omega, hst, bnext (bnext hB1 (by go_grown)) hb1⟩
        case measure => simp [intOf]; omega
    · obtain rfl : k = J.length := by omega
      go_wp2
      go_ret
      exact ⟨ret_bool hv.out.symm, hB1⟩
end Go.Proofs.Ytpnffdkkmibchaa
