/-
  Contracts of texts: names, plain words: the program's and the reference's. Under no condition: for all texts.
-/
import Derived.Test.YthjkkidcpidgdaaGreatDoorPlaces
set_option linter.unusedVariables false
set_option maxRecDepth 100000
set_option linter.unusedSimpArgs false
namespace Go.Proofs.YthjkkidcpidgdaaGreatDoor
open Go.RowKit BigFrame

/-- The byte number k. -/
def byteAt (s : ByteArray) (k : Nat) : Int := (s.get! k).toNat
/-- Whether the first k bytes are all ok. -/
def allTo (f : Nat → Bool) : Nat → Bool
  | 0 => true
  | k + 1 => allTo f k && f k
theorem allTo_hit {f : Nat → Bool} {k n : Nat} (h : k < n) (hf : f k = false) : allTo f n = false := by
  induction n with
  | zero => omega
  | succ n ih =>
    simp only [allTo]
    by_cases hk : k = n
    · subst hk; rw [hf]; simp
    · rw [ih (by omega)]; simp
theorem allTo_step {f : Nat → Bool} {k : Nat} (h : allTo f k = true) (hf : f k = true) : allTo f (k + 1) = true := by
  simp [allTo, h, hf]
theorem some_text {s : ByteArray} (h : ¬ s.size = 0) : s.toList.isEmpty = false := by
  rw [ByteArray.toList_eq]
  cases hl : s.data.toList with
  | nil => exact absurd (show s.data.size = 0 by rw [← Array.length_toList, hl]; rfl) h
  | cons _ _ => rfl
theorem bytes_ne {a b : ByteArray} (h : ¬ a = b) : (a.toList == b.toList) = false := by
  rw [beq_eq_false_iff_ne, ByteArray.toList_eq, ByteArray.toList_eq]
  intro e
  obtain ⟨⟨la⟩⟩ := a
  obtain ⟨⟨lb⟩⟩ := b
  exact h (by simpa using e)
theorem byteAt_is {s : ByteArray} {k : Nat} (h : k < s.size) : ∃ b : Nat, (s[k]'h).toNat = b ∧ b < 256 ∧ byteAt s k = b := by
  refine ⟨_, rfl, (s[k]'h).toNat_lt, ?_⟩
  unfold byteAt
  have : s.get! k = s[k]'h := by
    show s.data[k]! = s.data[k]
    exact getElem!_pos s.data k h
  rw [this]
def plainF (s : ByteArray) (k : Nat) : Bool := inB (byteAt s k) 32 126
def plainM (s : ByteArray) : Bool := allTo (plainF s) s.size

theorem impl_few (n m : Int) (w : World) : Calls Tryz.prog 60 #[.int .i64 n, .int .i64 m] w fun e w' => e = .returned (.bool (decide (n ≤ m))) ∧ w = w' := by
  go_enter Tryz.func60, Tryz.ntmps60
  go_wp2
  all_goals (go_ret; exact ⟨rfl, rfl⟩)

theorem impl_isDigit (b : Int) (w : World) : Calls Tryz.prog 103 #[.int .u8 b] w fun e w' => e = .returned (.bool (inB b 48 57)) ∧ w = w' := by
  go_enter Tryz.func103, Tryz.ntmps103
  go_wp2
  all_goals (go_ret; exact ⟨ret_bool (by first | (simp [inB, *]; done) | (simp [inB, *]; omega)), rfl⟩)

theorem spec_Small (b : Int) (w : World) : Calls Tryz.prog 112 #[.int .u8 b] w fun e w' => e = .returned (.bool (inB b 97 122)) ∧ w = w' := by
  go_enter Tryz.func112, Tryz.ntmps112
  go_wp2
  all_goals (go_ret; exact ⟨ret_bool (by first | (simp [inB, *]; done) | (simp [inB, *]; omega)), rfl⟩)

theorem spec_Digit (b : Int) (w : World) : Calls Tryz.prog 113 #[.int .u8 b] w fun e w' => e = .returned (.bool (inB b 48 57)) ∧ w = w' := by
  go_enter Tryz.func113, Tryz.ntmps113
  go_wp2
  all_goals (go_ret; exact ⟨ret_bool (by first | (simp [inB, *]; done) | (simp [inB, *]; omega)), rfl⟩)

def nameF (s : ByteArray) (k : Nat) : Bool := inB (byteAt s k) 97 122 || (!(decide (k = 0)) && inB (byteAt s k) 48 57)
def nameM (s : ByteArray) : Bool := allTo (nameF s) s.size && (!(decide (s.size = 0)) && decide (s.size ≤ 10))
set_option maxHeartbeats 800000 in
theorem impl_IsName (s : ByteArray) (hs : s.size ≤ maxLen) (w : World) : Calls Tryz.prog 77 #[.string s] w fun e w' => e = .returned (.bool (nameM s)) ∧ w = w' := by
  have hs2 : s.size ≤ 9223372036854775807 := by simpa [maxLen, IntKind.max, IntKind.bits, IntKind.signed] using hs
  go_enter Tryz.func77, Tryz.ntmps77
  go_wp2_with fail
  go_loopw [3] (fun i wr => ∃ k : Nat, i = .int .i64 k ∧ k ≤ s.size ∧ allTo (nameF s) k = true ∧ w = wr) (fun i _ => s.size - (intOf i).toNat)
  case atStart => exact ⟨0, rfl, Nat.zero_le _, rfl, rfl⟩
  case round =>
    obtain ⟨k, rfl, hk, hv, rfl⟩ := hrel
    have hv' := Lib.hid hv
    clear hv
    by_cases hlt : k < s.size
    · obtain ⟨b, hb, hb2, hbe⟩ := byteAt_is hlt
      have hF : Hid (nameF s k = (inB (b : Int) 97 122 || (!(decide (k = 0)) && inB (b : Int) 48 57))) := by apply Lib.hid; unfold nameF; rw [hbe]
      clear hbe
      by_cases h1 : 97 ≤ b ∧ b ≤ 122
      · have hf2 := Lib.hid (allTo_step hv'.out (show nameF s k = true by rw [hF.out, inB_yes.2 ⟨by omega, by omega⟩]; rfl))
        have t1 : decide (97 ≤ (b : Int)) = true := decide_eq_true (by omega)
        have t2 : decide ((b : Int) ≤ 122) = true := decide_eq_true (by omega)
        clear h1
        go_wp2
        go_roundw
        case rel => exact ⟨k + 1, by go_num, by omega, hf2.out, by first | rfl | trivial⟩
        case measure => simp [intOf]; omega
      · have hn1 : inB (b : Int) 97 122 = false := inB_un (by omega)
        have hcase : b < 97 ∨ (97 ≤ b ∧ 122 < b) := by omega
        clear h1
        rcases hcase with hlo | ⟨hge, hhi⟩
        · have t1 : decide (97 ≤ (b : Int)) = false := decide_eq_false (by omega)
          clear hlo
          by_cases hk0 : k = 0
          · obtain rfl := hk0
            have hf2 := Lib.hid (allTo_hit hlt (show nameF s 0 = false by rw [hF.out, hn1]; rfl))
            have hm : Hid (nameM s = false) := by apply Lib.hid; unfold nameM; rw [hf2.out]; rfl
            go_wp2_with (go_at_call 103; refine (impl_isDigit _ _).mono ?_; rintro e w' ⟨rfl, rfl⟩)
            go_ret
            exact ⟨ret_bool hm.out.symm, rfl⟩
          · have hk1 : ((k : Int) == 0) = false := beq_eq_false_iff_ne.2 (by omega)
            cases hd : inB (b : Int) 48 57
            · have hf2 := Lib.hid (allTo_hit hlt (show nameF s k = false by rw [hF.out, hn1, hd]; simp))
              have hm : Hid (nameM s = false) := by apply Lib.hid; unfold nameM; rw [hf2.out]; rfl
              go_wp2_with (go_at_call 103; refine (impl_isDigit _ _).mono ?_; rintro e w' ⟨rfl, rfl⟩)
              go_ret
              exact ⟨ret_bool hm.out.symm, rfl⟩
            · have hf2 := Lib.hid (allTo_step hv'.out (show nameF s k = true by rw [hF.out, hd, decide_eq_false hk0]; simp))
              go_wp2_with (go_at_call 103; refine (impl_isDigit _ _).mono ?_; rintro e w' ⟨rfl, rfl⟩)
              go_roundw
              case rel => exact ⟨k + 1, by go_num, by omega, hf2.out, by first | rfl | trivial⟩
              case measure => simp [intOf]; omega
        · have t1 : decide (97 ≤ (b : Int)) = true := decide_eq_true (by omega)
          have t2 : decide ((b : Int) ≤ 122) = false := decide_eq_false (by omega)
          clear hge hhi
          by_cases hk0 : k = 0
          · obtain rfl := hk0
            have hf2 := Lib.hid (allTo_hit hlt (show nameF s 0 = false by rw [hF.out, hn1]; rfl))
            have hm : Hid (nameM s = false) := by apply Lib.hid; unfold nameM; rw [hf2.out]; rfl
            go_wp2_with (go_at_call 103; refine (impl_isDigit _ _).mono ?_; rintro e w' ⟨rfl, rfl⟩)
            go_ret
            exact ⟨ret_bool hm.out.symm, rfl⟩
          · have hk1 : ((k : Int) == 0) = false := beq_eq_false_iff_ne.2 (by omega)
            cases hd : inB (b : Int) 48 57
            · have hf2 := Lib.hid (allTo_hit hlt (show nameF s k = false by rw [hF.out, hn1, hd]; simp))
              have hm : Hid (nameM s = false) := by apply Lib.hid; unfold nameM; rw [hf2.out]; rfl
              go_wp2_with (go_at_call 103; refine (impl_isDigit _ _).mono ?_; rintro e w' ⟨rfl, rfl⟩)
              go_ret
              exact ⟨ret_bool hm.out.symm, rfl⟩
            · have hf2 := Lib.hid (allTo_step hv'.out (show nameF s k = true by rw [hF.out, hd, decide_eq_false hk0]; simp))
              go_wp2_with (go_at_call 103; refine (impl_isDigit _ _).mono ?_; rintro e w' ⟨rfl, rfl⟩)
              go_roundw
              case rel => exact ⟨k + 1, by go_num, by omega, hf2.out, by first | rfl | trivial⟩
              case measure => simp [intOf]; omega
    · obtain rfl : k = s.size := by omega
      by_cases h0 : s.size = 0
      · have hm : Hid (nameM s = false) := by apply Lib.hid; unfold nameM; rw [decide_eq_true h0]; simp
        obtain rfl : s = ⟨#[]⟩ := by
          obtain ⟨d⟩ := s
          have : d.size = 0 := h0
          rw [Array.eq_empty_of_size_eq_zero this]
        go_wp2
        go_ret
        exact ⟨ret_bool hm.out.symm, rfl⟩
      · have hm : Hid (nameM s = decide ((s.size : Int) ≤ 10)) := by apply Lib.hid; unfold nameM; rw [decide_eq_false h0, hv'.out]; simp; omega
        have hne : s.toList.isEmpty = false := some_text h0
        clear h0
        go_wp2_with (go_at_call 60; refine (impl_few _ _ _).mono ?_; rintro e w' ⟨rfl, rfl⟩)
        go_ret
        exact ⟨ret_bool hm.out.symm, rfl⟩

set_option maxHeartbeats 800000 in
theorem spec_Name (s : ByteArray) (hs : s.size ≤ maxLen) (w : World) : Calls Tryz.prog 85 #[.string s] w fun e w' => e = .returned (.bool (nameM s)) ∧ w = w' := by
  have hs2 : s.size ≤ 9223372036854775807 := by simpa [maxLen, IntKind.max, IntKind.bits, IntKind.signed] using hs
  by_cases h0 : s.size = 0
  · have hm : Hid (nameM s = false) := by apply Lib.hid; unfold nameM; rw [decide_eq_true h0]; simp
    obtain rfl : s = ⟨#[]⟩ := by
      obtain ⟨d⟩ := s
      have : d.size = 0 := h0
      rw [Array.eq_empty_of_size_eq_zero this]
    go_enter Tryz.func85, Tryz.ntmps85
    go_wp2
    go_ret
    exact ⟨ret_bool hm.out.symm, rfl⟩
  have hne : s.toList.isEmpty = false := some_text h0
  by_cases h10 : s.size ≤ 10
  · have hlt0 : 0 < s.size := by omega
    obtain ⟨b0, hb0, hb02, hbe0⟩ := byteAt_is hlt0
    have h10' : decide (10 < (s.size : Int)) = false := decide_eq_false (by omega)
    have hm : Hid (nameM s = allTo (nameF s) s.size) := by apply Lib.hid; unfold nameM; rw [decide_eq_false h0, decide_eq_true h10]; simp
    clear h0 h10
    cases hsm : inB (b0 : Int) 97 122
    · have hf2 := Lib.hid (allTo_hit hlt0 (show nameF s 0 = false by unfold nameF; rw [hbe0, hsm]; rfl))
      clear hbe0
      go_enter Tryz.func85, Tryz.ntmps85
      go_wp2_with (go_at_call 112; refine (spec_Small _ _).mono ?_; rintro e w' ⟨rfl, rfl⟩)
      go_ret
      exact ⟨ret_bool (by rw [hm.out, hf2.out]), rfl⟩
    · have hsm0 : Hid (nameF s 0 = true) := by apply Lib.hid; unfold nameF; rw [hbe0, hsm]; rfl
      clear hbe0
      go_enter Tryz.func85, Tryz.ntmps85
      go_wp2_with (go_at_call 112; refine (spec_Small _ _).mono ?_; rintro e w' ⟨rfl, rfl⟩)
      go_loopw [3] (fun i wr => ∃ k : Nat, i = .int .i64 k ∧ k ≤ s.size ∧ allTo (nameF s) k = true ∧ w = wr) (fun i _ => s.size - (intOf i).toNat)
      case atStart => exact ⟨0, rfl, Nat.zero_le _, rfl, rfl⟩
      case round =>
        clear hb0 hsm
        obtain ⟨k, rfl, hk, hv, rfl⟩ := hrel
        have hv' := Lib.hid hv
        clear hv
        by_cases hlt : k < s.size
        · obtain ⟨b, hb, hb2, hbe⟩ := byteAt_is hlt
          have hF : Hid (nameF s k = (inB (b : Int) 97 122 || (!(decide (k = 0)) && inB (b : Int) 48 57))) := by apply Lib.hid; unfold nameF; rw [hbe]
          clear hbe
          cases h1 : inB (b : Int) 97 122
          · have hk0 : ¬ k = 0 := fun e => by
              subst e
              have h2 := hsm0.out
              rw [hF.out, h1] at h2
              simp at h2
            cases hd : inB (b : Int) 48 57
            · have hf2 := Lib.hid (allTo_hit hlt (show nameF s k = false by rw [hF.out, h1, hd]; simp))
              go_wp2_with (first | (go_at_call 112; refine (spec_Small _ _).mono ?_; rintro e w' ⟨rfl, rfl⟩) | (go_at_call 113; refine (spec_Digit _ _).mono ?_; rintro e w' ⟨rfl, rfl⟩))
              go_ret
              exact ⟨ret_bool (by rw [hm.out, hf2.out]), rfl⟩
            · have hf2 := Lib.hid (allTo_step hv'.out (show nameF s k = true by rw [hF.out, hd, decide_eq_false hk0]; simp))
              go_wp2_with (first | (go_at_call 112; refine (spec_Small _ _).mono ?_; rintro e w' ⟨rfl, rfl⟩) | (go_at_call 113; refine (spec_Digit _ _).mono ?_; rintro e w' ⟨rfl, rfl⟩))
              go_roundw
              case rel => exact ⟨k + 1, by go_num, by omega, hf2.out, by first | rfl | trivial⟩
              case measure => simp [intOf]; omega
          · have hf2 := Lib.hid (allTo_step hv'.out (show nameF s k = true by rw [hF.out, h1]; rfl))
            go_wp2_with (first | (go_at_call 112; refine (spec_Small _ _).mono ?_; rintro e w' ⟨rfl, rfl⟩) | (go_at_call 113; refine (spec_Digit _ _).mono ?_; rintro e w' ⟨rfl, rfl⟩))
            go_roundw
            case rel => exact ⟨k + 1, by go_num, by omega, hf2.out, by first | rfl | trivial⟩
            case measure => simp [intOf]; omega
        · obtain rfl : k = s.size := by omega
          go_wp2
          go_ret
          exact ⟨ret_bool (by rw [hm.out, hv'.out]), rfl⟩
  · have hm : Hid (nameM s = false) := by apply Lib.hid; unfold nameM; rw [decide_eq_false h10]; simp
    have h10' : decide (10 < (s.size : Int)) = true := decide_eq_true (by omega)
    clear h0 h10
    go_enter Tryz.func85, Tryz.ntmps85
    go_wp2
    go_ret
    exact ⟨ret_bool hm.out.symm, rfl⟩

end Go.Proofs.YthjkkidcpidgdaaGreatDoor
