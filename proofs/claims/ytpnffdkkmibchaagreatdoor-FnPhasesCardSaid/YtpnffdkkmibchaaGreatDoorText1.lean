/-
  Contracts of texts: names, plain words: the program's and the reference's. Under no condition: for all texts.
-/
import Derived.Test.YtpnffdkkmibchaaGreatDoorPlaces
set_option linter.unusedVariables false
set_option maxRecDepth 100000
set_option linter.unusedSimpArgs false
namespace Go.Proofs.YtpnffdkkmibchaaGreatDoor
open Go.RowKit BigFrame

/-- The byte number k. -/
def byteAt (s : ByteArray) (k : Nat) : Int := (s.get! k).toNat
/-- Whether the first k bytes are all ok. -/
def allTo (f : Nat → Bool) : Nat → Bool
  | 0 => true
  | k + 1 => allTo f k && f k
theorem allTo_hit {f : Nat → Bool} {k n : Nat} (h : k < n) (hf : f k = false) : allTo f n = false := by
  induction n with
  | zero => omega
  | succ n ih =>
    simp only [allTo]
    by_cases hk : k = n
    · subst hk; rw [hf]; simp
    · rw [ih (by omega)]; simp
theorem allTo_step {f : Nat → Bool} {k : Nat} (h : allTo f k = true) (hf : f k = true) : allTo f (k + 1) = true := by
  simp [allTo, h, hf]
theorem some_text {s : ByteArray} (h : ¬ s.size = 0) : s.toList.isEmpty = false := by
  rw [ByteArray.toList_eq]
  cases hl : s.data.toList with
  | nil => exact absurd (show s.data.size = 0 by rw [← Array.length_toList, hl]; rfl) h
  | cons _ _ => rfl
theorem bytes_ne {a b : ByteArray} (h : ¬ a = b) : (a.toList == b.toList) = false := by
  rw [beq_eq_false_iff_ne, ByteArray.toList_eq, ByteArray.toList_eq]
  intro e
  obtain ⟨⟨la⟩⟩ := a
  obtain ⟨⟨lb⟩⟩ := b
  exact h (by simpa using e)
theorem byteAt_is {s : ByteArray} {k : Nat} (h : k < s.size) : ∃ b : Nat, (s[k]'h).toNat = b ∧ b < 256 ∧ byteAt s k = b := by
  refine ⟨_, rfl, (s[k]'h).toNat_lt, ?_⟩
  unfold byteAt
  have : s.get! k = s[k]'h := by
    show s.data[k]! = s.data[k]
    exact getElem!_pos s.data k h
  rw [this]
def plainF (s : ByteArray) (k : Nat) : Bool := inB (byteAt s k) 32 126
def plainM (s : ByteArray) : Bool := allTo (plainF s) s.size

theorem impl_few (n m : Int) (w : World) : Calls Tryz.prog 27 #[.int .i64 n, .int .i64 m] w fun e w' => e = .returned (.bool (decide (n ≤ m))) ∧ w = w' := by
  go_enter Tryz.func27, Tryz.ntmps27
  go_wp2
  all_goals (go_ret; exact ⟨rfl, rfl⟩)

end Go.Proofs.YtpnffdkkmibchaaGreatDoor
