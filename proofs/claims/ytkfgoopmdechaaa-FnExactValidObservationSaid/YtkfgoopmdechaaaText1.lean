/-
  Contracts of texts: names, plain words: the program's and the reference's. Under no condition: for all texts.
-/
import Derived.Test.YtkfgoopmdechaaaPlaces
set_option linter.unusedVariables false
set_option maxRecDepth 100000
set_option linter.unusedSimpArgs false
namespace Go.Proofs.Ytkfgoopmdechaaa
open Go.RowKit BigFrame

/-- The byte number k. -/
def byteAt (s : ByteArray) (k : Nat) : Int := (s.get! k).toNat
/-- Whether the first k bytes are all ok. -/
def allTo (f : Nat → Bool) : Nat → Bool
  | 0 => true
  | k + 1 => allTo f k && f k
theorem allTo_hit {f : Nat → Bool} {k n : Nat} (h : k < n) (hf : f k = false) : allTo f n = false := by
  induction n with
  | zero => omega
  | succ n ih =>
    simp only [allTo]
    by_cases hk : k = n
    · subst hk; rw [hf]; simp
    · rw [ih (by omega)]; simp
theorem allTo_step {f : Nat → Bool} {k : Nat} (h : allTo f k = true) (hf : f k = true) : allTo f (k + 1) = true := by
  simp [allTo, h, hf]
theorem some_text {s : ByteArray} (h : ¬ s.size = 0) : s.toList.isEmpty = false := by
  rw [ByteArray.toList_eq]
  cases hl : s.data.toList with
  | nil => exact absurd (show s.data.size = 0 by rw [← Array.length_toList, hl]; rfl) h
  | cons _ _ => rfl
theorem bytes_ne {a b : ByteArray} (h : ¬ a = b) : (a.toList == b.toList) = false := by
  rw [beq_eq_false_iff_ne, ByteArray.toList_eq, ByteArray.toList_eq]
  intro e
  obtain ⟨⟨la⟩⟩ := a
  obtain ⟨⟨lb⟩⟩ := b
  exact h (by simpa using e)
theorem byteAt_is {s : ByteArray} {k : Nat} (h : k < s.size) : ∃ b : Nat, (s[k]'h).toNat = b ∧ b < 256 ∧ byteAt s k = b := by
  refine ⟨_, rfl, (s[k]'h).toNat_lt, ?_⟩
  unfold byteAt
  have : s.get! k = s[k]'h := by
    show s.data[k]! = s.data[k]
    exact getElem!_pos s.data k h
  rw [this]
def plainF (s : ByteArray) (k : Nat) : Bool := inB (byteAt s k) 32 126
def plainM (s : ByteArray) : Bool := allTo (plainF s) s.size

theorem impl_isPlain (s : ByteArray) (hs : s.size ≤ maxLen) (w : World) : Calls Try.prog 80 #[.string s] w fun e w' => e = .returned (.bool (plainM s)) ∧ w = w' := by
  have hs2 : s.size ≤ 9223372036854775807 := by simpa [maxLen, IntKind.max, IntKind.bits, IntKind.signed] using hs
  go_enter Try.func80, Try.ntmps80
  go_wp2_with fail
  go_loopw [3] (fun i wr => ∃ k : Nat, i = .int .i64 k ∧ k ≤ s.size ∧ allTo (plainF s) k = true ∧ w = wr) (fun i _ => s.size - (intOf i).toNat)
  case atStart => exact ⟨0, rfl, Nat.zero_le _, rfl, rfl⟩
  case round =>
    obtain ⟨k, rfl, hk, hv, rfl⟩ := hrel
    have hv' := Lib.hid hv
    clear hv
    by_cases hlt : k < s.size
    · obtain ⟨b, hb, hb2, hbe⟩ := byteAt_is hlt
      have hin : inB (b : Int) 32 126 = plainF s k := by unfold plainF; rw [hbe]
      clear hbe
      cases hf : plainF s k
      · have hf2 := Lib.hid (allTo_hit hlt hf)
        rw [hf] at hin
        clear hf
        go_wp2_with (go_at_call 49; refine (within_any _ _ _ _).mono ?_; rintro e w' ⟨rfl, rfl⟩)
        go_ret
        exact ⟨ret_bool hf2.out.symm, rfl⟩
      · have hf2 := Lib.hid (allTo_step hv'.out hf)
        rw [hf] at hin
        clear hf
        go_wp2_with (go_at_call 49; refine (within_any _ _ _ _).mono ?_; rintro e w' ⟨rfl, rfl⟩)
        go_roundw
        case rel => exact ⟨k + 1, by go_num, by omega, hf2.out, by first | rfl | trivial⟩
        case measure => simp [intOf]; omega
    · obtain rfl : k = s.size := by omega
      go_wp2
      go_ret
      exact ⟨ret_bool hv'.out.symm, rfl⟩

theorem impl_few (n m : Int) (w : World) : Calls Try.prog 52 #[.int .i64 n, .int .i64 m] w fun e w' => e = .returned (.bool (decide (n ≤ m))) ∧ w = w' := by
  go_enter Try.func52, Try.ntmps52
  go_wp2
  all_goals (go_ret; exact ⟨rfl, rfl⟩)

end Go.Proofs.Ytkfgoopmdechaaa
