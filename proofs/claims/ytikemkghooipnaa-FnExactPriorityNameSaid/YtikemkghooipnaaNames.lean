/-
  Contracts of the names: of faults, notices, priorities: the program's and the reference's. Under no condition: for every number.
-/
import Derived.Test.YtikemkghooipnaaBase
namespace Go.Proofs.Ytikemkghooipnaa
open Go.RowKit

def faultNames : List ByteArray := [⟨#[]⟩, ⟨#[111, 117, 116]⟩, ⟨#[114, 104, 121, 116, 104, 109]⟩, ⟨#[112, 108, 97, 99, 101]⟩, ⟨#[115, 111, 117, 110, 100]⟩]
theorem impl_FaultName (n : Int) (w : World) :
    Calls Try.prog 10 #[.int .i64 n] w fun e w' => e = .returned (.string (pickS n faultNames)) ∧ Below w.heap.size w w' := by
  have hs := Sl.new w #[.string ⟨#[]⟩, .string ⟨#[111, 117, 116]⟩, .string ⟨#[114, 104, 121, 116, 104, 109]⟩, .string ⟨#[112, 108, 97, 99, 101]⟩, .string ⟨#[115, 111, 117, 110, 100]⟩] 9
  go_enter Try.func10, Try.ntmps10
  go_wp2_with fail
  refine (pick_any n faultNames _ _ _ _ hs (by decide)).mono ?_
  rintro e w' ⟨rfl, rfl⟩
  go_wp2_with fail
  go_ret
  exact ⟨ret_str rfl, by go_grown⟩

theorem spec_FaultName (n : Int) (w : World) :
    Calls Try.prog 9 #[.int .i64 n] w fun e w' => e = .returned (.string (pickS n faultNames)) ∧ Below w.heap.size w w' := by
  by_cases h : 1 ≤ n ∧ n ≤ 4
  · have hc : n = 1 ∨ n = 2 ∨ n = 3 ∨ n = 4 := by omega
    clear h
    rcases hc with rfl | rfl | rfl | rfl
    all_goals
      go_enter Try.func9, Try.ntmps9
      go_wp2
      go_ret
      exact ⟨ret_str rfl, by go_grown⟩
  · have ht : inB n 1 4 = false := inB_un h
    have hp : pickS n faultNames = ⟨#[]⟩ := by
      unfold pickS
      by_cases h2 : 0 ≤ n ∧ n < (faultNames.length : Nat)
      · have h3 : n = 0 := by have h4 : faultNames.length = 5 := rfl; omega
        subst h3; rfl
      · rw [if_neg h2]
    have HP := Lib.hid hp
    clear hp h
    go_enter Try.func9, Try.ntmps9
    go_wp2_with (first | (go_at_call 29; refine (in_any _ _ _ _).mono ?_; rintro e w' ⟨rfl, rfl⟩) | go_in)
    go_ret
    exact ⟨ret_str HP.out.symm, by go_grown⟩

def noticeNames : List ByteArray := [⟨#[]⟩, ⟨#[110, 101, 119]⟩, ⟨#[99, 104, 97, 110, 103, 101]⟩, ⟨#[100, 114, 111, 112]⟩, ⟨#[99, 97, 110, 99, 101, 108]⟩]
theorem impl_NoticeName (n : Int) (w : World) :
    Calls Try.prog 12 #[.int .i64 n] w fun e w' => e = .returned (.string (pickS n noticeNames)) ∧ Below w.heap.size w w' := by
  have hs := Sl.new w #[.string ⟨#[]⟩, .string ⟨#[110, 101, 119]⟩, .string ⟨#[99, 104, 97, 110, 103, 101]⟩, .string ⟨#[100, 114, 111, 112]⟩, .string ⟨#[99, 97, 110, 99, 101, 108]⟩] 9
  go_enter Try.func12, Try.ntmps12
  go_wp2_with fail
  refine (pick_any n noticeNames _ _ _ _ hs (by decide)).mono ?_
  rintro e w' ⟨rfl, rfl⟩
  go_wp2_with fail
  go_ret
  exact ⟨ret_str rfl, by go_grown⟩

theorem spec_NoticeName (n : Int) (w : World) :
    Calls Try.prog 11 #[.int .i64 n] w fun e w' => e = .returned (.string (pickS n noticeNames)) ∧ Below w.heap.size w w' := by
  by_cases h : 1 ≤ n ∧ n ≤ 4
  · have hc : n = 1 ∨ n = 2 ∨ n = 3 ∨ n = 4 := by omega
    clear h
    rcases hc with rfl | rfl | rfl | rfl
    all_goals
      go_enter Try.func11, Try.ntmps11
      go_wp2
      go_ret
      exact ⟨ret_str rfl, by go_grown⟩
  · have ht : inB n 1 4 = false := inB_un h
    have hp : pickS n noticeNames = ⟨#[]⟩ := by
      unfold pickS
      by_cases h2 : 0 ≤ n ∧ n < (noticeNames.length : Nat)
      · have h3 : n = 0 := by have h4 : noticeNames.length = 5 := rfl; omega
        subst h3; rfl
      · rw [if_neg h2]
    have HP := Lib.hid hp
    clear hp h
    go_enter Try.func11, Try.ntmps11
    go_wp2_with (first | (go_at_call 29; refine (in_any _ _ _ _).mono ?_; rintro e w' ⟨rfl, rfl⟩) | go_in)
    go_ret
    exact ⟨ret_str HP.out.symm, by go_grown⟩

def priorityNames : List ByteArray := [⟨#[]⟩, ⟨#[118, 105, 116, 97, 108]⟩, ⟨#[105, 109, 112, 111, 114, 116, 97, 110, 116]⟩, ⟨#[114, 111, 117, 116, 105, 110, 101]⟩]
theorem impl_PriorityName (n : Int) (w : World) :
    Calls Try.prog 19 #[.int .i64 n] w fun e w' => e = .returned (.string (pickS n priorityNames)) ∧ Below w.heap.size w w' := by
  have hs := Sl.new w #[.string ⟨#[]⟩, .string ⟨#[118, 105, 116, 97, 108]⟩, .string ⟨#[105, 109, 112, 111, 114, 116, 97, 110, 116]⟩, .string ⟨#[114, 111, 117, 116, 105, 110, 101]⟩] 9
  go_enter Try.func19, Try.ntmps19
  go_wp2_with fail
  refine (pick_any n priorityNames _ _ _ _ hs (by decide)).mono ?_
  rintro e w' ⟨rfl, rfl⟩
  go_wp2_with fail
  go_ret
  exact ⟨ret_str rfl, by go_grown⟩

theorem spec_PriorityName (n : Int) (w : World) :
    Calls Try.prog 18 #[.int .i64 n] w fun e w' => e = .returned (.string (pickS n priorityNames)) ∧ Below w.heap.size w w' := by
  by_cases h : 1 ≤ n ∧ n ≤ 3
  · have hc : n = 1 ∨ n = 2 ∨ n = 3 := by omega
    clear h
    rcases hc with rfl | rfl | rfl
    all_goals
      go_enter Try.func18, Try.ntmps18
      go_wp2
      go_ret
      exact ⟨ret_str rfl, by go_grown⟩
  · have ht : inB n 1 3 = false := inB_un h
    have hp : pickS n priorityNames = ⟨#[]⟩ := by
      unfold pickS
      by_cases h2 : 0 ≤ n ∧ n < (priorityNames.length : Nat)
      · have h3 : n = 0 := by have h4 : priorityNames.length = 4 := rfl; omega
        subst h3; rfl
      · rw [if_neg h2]
    have HP := Lib.hid hp
    clear hp h
    go_enter Try.func18, Try.ntmps18
    go_wp2_with (first | (go_at_call 29; refine (in_any _ _ _ _).mono ?_; rintro e w' ⟨rfl, rfl⟩) | go_in)
    go_ret
    exact ⟨ret_str HP.out.symm, by go_grown⟩

end Go.Proofs.Ytikemkghooipnaa
