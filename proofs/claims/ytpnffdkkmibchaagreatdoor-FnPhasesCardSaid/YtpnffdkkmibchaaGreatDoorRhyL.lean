/-
  Contracts of the least rotation: the reference's index of it. Each under the conditions that it states.
-/
import Derived.Test.YtpnffdkkmibchaaGreatDoorRhyQ
set_option linter.unusedVariables false
set_option linter.unnecessarySimpa false
set_option maxRecDepth 100000
set_option linter.unusedSimpArgs false
namespace Go.Proofs.YtpnffdkkmibchaaGreatDoor
open Go.RowKit BigFrame Go.Deep

theorem ltF_asym {n : Nat} {u v : Nat → Nat} (h : ltF n u v) : ¬ ltF n v u := fun h2 => ltF_irr (ltF_trans h h2)
/-- None of the first i rotations is less than number b. -/
def bestTo (f : Nat → Nat) (n i b : Nat) : Prop := ∀ j, j < i → ¬ ltF n (rt f j) (rt f b)
theorem best_keep {f : Nat → Nat} {n i b : Nat} (h : bestTo f n i b) (h2 : ¬ ltF n (rt f i) (rt f b)) : bestTo f n (i + 1) b := fun j hj => by
  rcases (by omega : j < i ∨ j = i) with h3 | rfl
  · exact h j h3
  · exact h2
theorem best_new {f : Nat → Nat} {n i b : Nat} (h : bestTo f n i b) (h2 : ltF n (rt f i) (rt f b)) : bestTo f n (i + 1) i := fun j hj h4 => by
  rcases (by omega : j < i ∨ j = i) with h3 | rfl
  · exact h j h3 (ltF_trans h4 h2)
  · exact ltF_irr h4
def agree (f : Nat → Nat) (i b k : Nat) : Prop := ∀ j, j < k → rt f i j = rt f b j
theorem agree_step {f : Nat → Nat} {i b k : Nat} (h : agree f i b k) (e : f (i + k) = f (b + k)) : agree f i b (k + 1) := fun j hj => by
  rcases (by omega : j < k ∨ j = k) with h3 | rfl
  · exact h j h3
  · exact e
theorem agree_all {f : Nat → Nat} {n i b : Nat} (h : agree f i b n) : ¬ ltF n (rt f i) (rt f b) := fun ⟨k, h1, _, h3⟩ => by
  rw [h k h1] at h3; exact Nat.lt_irrefl _ h3
theorem agree_lt {f : Nat → Nat} {n i b k : Nat} (h : agree f i b k) (hk : k < n) (e : f (i + k) < f (b + k)) : ltF n (rt f i) (rt f b) := ⟨k, hk, h, e⟩
theorem agree_gt {f : Nat → Nat} {n i b k : Nat} (h : agree f i b k) (hk : k < n) (e : f (b + k) < f (i + k)) : ¬ ltF n (rt f i) (rt f b) := ltF_asym ⟨k, hk, fun j hj => (h j hj).symm, e⟩
theorem spec_Name0 (w : World) : Calls Tryz.prog 82 #[.int .u8 0] w fun e w' => e = .returned (.string ⟨#[]⟩) ∧ Below w.heap.size w w' := by
  go_enter Tryz.func82, Tryz.ntmps82
  go_wp2
  go_ret
  exact ⟨rfl, by go_grown⟩
end Go.Proofs.YtpnffdkkmibchaaGreatDoor
