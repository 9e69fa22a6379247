/-
  Contracts of rows of phases: the copies that the laws make, their equality, their size; what a color is: the program's and the reference's. Each under the conditions that it states.
-/
import Derived.Test.YtpnffdkkmibchaaGreatDoorText1
import Derived.Test.YtpnffdkkmibchaaGreatDoorRow
import Derived.Lib.Strings
import Derived.Lib.Walk
import Derived.Lib.Bytealg
set_option linter.unusedVariables false
set_option linter.unnecessarySimpa false
set_option maxRecDepth 100000
set_option linter.unusedSimpArgs false
namespace Go.Proofs.YtpnffdkkmibchaaGreatDoor
open Go.RowKit BigFrame

structure RPhase where
  f0 : ByteArray
  f1 : Int
instance : Inhabited RPhase := ⟨⟨⟨#[]⟩, 0⟩⟩
def RPhase.cells (a : RPhase) : List Value := [.string a.f0, .int .i64 a.f1]
theorem RPhase.len (a : RPhase) : a.cells.length = 2 := rfl
def RPhase.ok (a : RPhase) : Prop := a.f0.size ≤ maxLen ∧ IntKind.i64.has a.f1
def RPhase.same (a b : RPhase) : Bool := decide (a.f0 = b.f0) && (decide (a.f1 = b.f1))
set_option maxHeartbeats 1000000 in
theorem lib_indexByte (s : ByteArray) (c : Int) (w : World) : Calls Tryz.prog 111 #[.string s, .int .u8 c] w fun e w' => e = .returned (.int .i64 (Lib.indexByte s.data.toList c.toNat.toUInt8)) ∧ w' = w := by
  go_enter Tryz.func111, Tryz.ntmps111
  go_wp2
  rw [run_callFunc_extern Tryz.func122 (by kernel_rfl) (by kernel_rfl) (by kernel_rfl) (e := Extern.BytealgIndexByte.indexByte) (by kernel_rfl), Lib.run_indexByteString]
  simp only [Result.andThen]
  rw [Oper.upon_value]
  go_wp2
  go_ret
  exact ⟨rfl, rfl⟩

set_option maxHeartbeats 2000000 in
theorem lib_index_one (s : ByteArray) (c : UInt8) (w : World) : Calls Tryz.prog 93 #[.string s, .string ⟨#[c]⟩] w fun e w' => e = .returned (.int .i64 (Lib.indexByte s.data.toList c)) ∧ w' = w := by
  go_enter Tryz.func93, Tryz.ntmps93
  go_wp2_with (go_at_call 111; refine (lib_indexByte _ _ _).mono ?_; rintro e w' ⟨rfl, rfl⟩)
  · have h : ([c] == s.toList) = true := by assumption
    go_ret
    refine ⟨?_, rfl⟩
    have e : s.data.toList = [c] := by rw [← Lib.toList_data]; exact (beq_iff_eq.1 h).symm
    rw [e]
    simp [Lib.indexByte]
  · go_ret
    exact ⟨rfl, rfl⟩

theorem lib_strings_index (s : ByteArray) (c : UInt8) (w : World) : Calls Tryz.prog 70 #[.string s, .string ⟨#[c]⟩] w fun e w' => e = .returned (.int .i64 (Lib.indexByte s.data.toList c)) ∧ w' = w := by
  go_enter Tryz.func70, Tryz.ntmps70
  go_wp2_with (go_at_call 93; refine (lib_index_one _ _ _).mono ?_; rintro e w' ⟨rfl, rfl⟩)
  go_ret
  exact ⟨rfl, rfl⟩

theorem lib_contains (s : ByteArray) (c : UInt8) (w : World) : Calls Tryz.prog 63 #[.string s, .string ⟨#[c]⟩] w fun e w' => e = .returned (.bool (decide (0 ≤ Lib.indexByte s.data.toList c))) ∧ w' = w := by
  go_enter Tryz.func63, Tryz.ntmps63
  go_wp2_with (go_at_call 70; refine (lib_strings_index _ _ _).mono ?_; rintro e w' ⟨rfl, rfl⟩)
  go_ret
  exact ⟨rfl, rfl⟩

def colorM (s : ByteArray) : Bool := s.toList == [87] || (s.toList == [82] || (s.toList == [71] || s.toList == [89]))
theorem color_one (c : UInt8) : decide (0 ≤ Lib.indexByte [87, 82, 71, 89] c) = colorM ⟨#[c]⟩ := by
  have e : (⟨#[c]⟩ : ByteArray).toList = [c] := by rw [ByteArray.toList_eq]
  unfold colorM
  rw [e]
  by_cases h1 : c = 87
  · subst h1; decide
  by_cases h2 : c = 82
  · subst h2; decide
  by_cases h3 : c = 71
  · subst h3; decide
  by_cases h4 : c = 89
  · subst h4; decide
  simp [Lib.indexByte, h1, h2, h3, h4, Ne.symm h1, Ne.symm h2, Ne.symm h3, Ne.symm h4]
theorem color_long {s : ByteArray} (h : ¬ s.size = 1) : colorM s = false := by
  have hl : s.toList.length = s.size := by rw [ByteArray.toList_eq]; rfl
  have key : ∀ b : UInt8, (s.toList == [b]) = false := fun b => beq_eq_false_iff_ne.2 fun e => by rw [e] at hl; simp at hl; omega
  unfold colorM
  rw [key, key, key, key]; rfl
theorem impl_isColor (s : ByteArray) (hs : s.size ≤ maxLen) (w : World) : Calls Tryz.prog 46 #[.string s] w fun e w' => e = .returned (.bool (colorM s)) ∧ w = w' := by
  have hs2 : s.size ≤ 9223372036854775807 := by simpa [maxLen, IntKind.max, IntKind.bits, IntKind.signed] using hs
  by_cases h : s.size = 1
  · obtain ⟨c, rfl⟩ : ∃ c : UInt8, s = ⟨#[c]⟩ := by
      obtain ⟨⟨l⟩⟩ := s
      match l, h with
      | [c], _ => exact ⟨c, rfl⟩
    have hm := Lib.hid (color_one c)
    clear h hs hs2
    go_enter Tryz.func46, Tryz.ntmps46
    go_wp2_with (go_at_call 63; refine (lib_contains _ _ _).mono ?_; rintro e w' ⟨rfl, rfl⟩)
    go_ret
    exact ⟨ret_bool hm.out, rfl⟩
  · have hm := Lib.hid (color_long h)
    have hb : ((s.size : Int) == 1) = false := beq_eq_false_iff_ne.2 (by omega)
    clear h
    go_enter Tryz.func46, Tryz.ntmps46
    go_wp2
    go_ret
    exact ⟨ret_bool hm.out.symm, rfl⟩

end Go.Proofs.YtpnffdkkmibchaaGreatDoor
