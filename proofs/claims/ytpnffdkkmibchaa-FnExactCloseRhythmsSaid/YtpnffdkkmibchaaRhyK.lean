/-
  Contracts of phases that are alike: the program's. Each under the conditions that it states.
-/
import Derived.Test.YtpnffdkkmibchaaRhyW
set_option linter.unusedVariables false
set_option linter.unnecessarySimpa false
set_option maxRecDepth 100000
set_option linter.unusedSimpArgs false
namespace Go.Proofs.Ytpnffdkkmibchaa
open Go.RowKit BigFrame Go.Deep

/-- Two phases are alike: the same color, lengths that differ by no more than the tolerance. -/
def closeP (tol : Int) (p q : Nat × Nat) : Bool := decide (p.1 = q.1) && inB ((p.2 : Int) - (q.2 : Int)) (-tol) tol
/-- Two rows of phases are alike from number i of the second on. -/
def closeAt (tol : Int) (J K : List (Nat × Nat)) (i : Nat) : Bool := allTo (fun k => closeP tol (J.getD k (0, 0)) (K.getD ((i + k) % K.length) (0, 0))) J.length
/-- Two rows of phases are alike from some number on. -/
def closeM (tol : Int) (J K : List (Nat × Nat)) : Bool := decide (J.length = K.length) && !(allTo (fun i => !closeAt tol J K i) K.length)
theorem closeM_len {tol : Int} {J K : List (Nat × Nat)} (h : ¬ J.length = K.length) : closeM tol J K = false := by unfold closeM; rw [decide_eq_false h]; rfl
theorem closeM_hit {tol : Int} {J K : List (Nat × Nat)} (h : J.length = K.length) {i : Nat} (hi : i < K.length) (hc : closeAt tol J K i = true) : closeM tol J K = true := by
  unfold closeM
  rw [decide_eq_true h, allTo_hit hi (by rw [hc]; rfl)]; rfl
theorem closeM_none {tol : Int} {J K : List (Nat × Nat)} (h : allTo (fun i => !closeAt tol J K i) K.length = true) : closeM tol J K = false := by
  unfold closeM
  rw [h]; simp
theorem impl_dist (a b : Int) (ha : 0 ≤ a ∧ a ≤ 1000) (hb : 0 ≤ b ∧ b ≤ 1000) (w : World) : Calls Try.prog 37 #[.int .i64 a, .int .i64 b] w fun e w' => e = .returned (.int .i64 (if a < b then b - a else a - b)) ∧ w = w' := by
  by_cases h : a < b
  · rw [if_pos h]
    go_enter Try.func37, Try.ntmps37
    go_wp2
    all_goals (go_ret; exact ⟨ret_int (by omega), rfl⟩)
  · rw [if_neg h]
    go_enter Try.func37, Try.ntmps37
    go_wp2
    all_goals (go_ret; exact ⟨ret_int (by omega), rfl⟩)
theorem close_eq {tol : Int} {a b m n : Nat} (h : a = b) : closeP tol (a, m) (b, n) = decide ((if (m : Int) < n then (n : Int) - m else (m : Int) - n) ≤ tol) := by
  unfold closeP
  rw [decide_eq_true h, Bool.true_and]
  unfold inB
  dsimp only
  by_cases h1 : (m : Int) < n
  · rw [if_pos h1, Bool.eq_iff_iff]
    simp only [Bool.and_eq_true, decide_eq_true_eq]
    omega
  · rw [if_neg h1, Bool.eq_iff_iff]
    simp only [Bool.and_eq_true, decide_eq_true_eq]
    omega
set_option maxHeartbeats 800000 in
theorem impl_close (a b m n : Nat) (tol : Int) (ha : a < 256) (hb : b < 256) (hm : m ≤ 1000) (hn : n ≤ 1000) (w : World) : Calls Try.prog 28 #[.agg #[.string (nm a), .int .i64 m], .agg #[.string (nm b), .int .i64 n], .int .i64 tol] w fun e w' => e = .returned (.bool (closeP tol (a, m) (b, n))) ∧ Below w.heap.size w w' := by
  have h2 := eq_nm ha hb
  by_cases h : a = b
  · have hm2 := Lib.hid (close_eq (tol := tol) (m := m) (n := n) h)
    rw [decide_eq_true h] at h2
    obtain ⟨x, hx⟩ : ∃ x, nm a = x := ⟨_, rfl⟩
    obtain ⟨y, hy⟩ : ∃ y, nm b = y := ⟨_, rfl⟩
    rw [hx, hy] at h2
    rw [hx, hy]
    clear hx hy h
    obtain ⟨z, hz⟩ : ∃ z : Int, (if (m : Int) < n then (n : Int) - m else (m : Int) - n) = z := ⟨_, rfl⟩
    rw [hz] at hm2
    have hd : ∀ w, Calls Try.prog 37 #[.int .i64 m, .int .i64 n] w fun e w' => e = .returned (.int .i64 z) ∧ w = w' := fun w => by rw [← hz]; exact impl_dist _ _ ⟨by omega, by omega⟩ ⟨by omega, by omega⟩ w
    clear hz
    go_enter Try.func28, Try.ntmps28
    go_wp2_with (go_at_call 37; refine (hd _).mono ?_; rintro e w' ⟨rfl, rfl⟩)
    go_ret
    exact ⟨ret_bool hm2.out.symm, by go_grown⟩
  · have hm2 := Lib.hid (show closeP tol (a, m) (b, n) = false by unfold closeP; rw [decide_eq_false h]; rfl)
    rw [decide_eq_false h] at h2
    obtain ⟨x, hx⟩ : ∃ x, nm a = x := ⟨_, rfl⟩
    obtain ⟨y, hy⟩ : ∃ y, nm b = y := ⟨_, rfl⟩
    rw [hx, hy] at h2
    rw [hx, hy]
    clear hx hy h
    go_enter Try.func28, Try.ntmps28
    go_wp2
    go_ret
    exact ⟨ret_bool hm2.out.symm, by go_grown⟩
end Go.Proofs.Ytpnffdkkmibchaa
