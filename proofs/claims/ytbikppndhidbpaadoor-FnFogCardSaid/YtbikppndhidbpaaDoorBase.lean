/-
  Contracts of the program's and the reference's smallest functions: ranges, names, angles. Under no condition but those that each theorem states.
-/
import Derived.Test.YtbikppndhidbpaaDoorRows
import Derived.Test.YtbikppndhidbpaaDoorKit
set_option linter.unusedVariables false
set_option maxRecDepth 100000
set_option linter.unusedSimpArgs false
namespace Go.Proofs.YtbikppndhidbpaaDoor
open Go.RowKit BigFrame

theorem within_any (n lo hi : Int) (w : World) :
    Calls Tryd.prog 61 #[.int .i64 n, .int .i64 lo, .int .i64 hi] w fun e w' => e = .returned (.bool (inB n lo hi)) ∧ w = w' := by
  unfold inB
  by_cases h1 : lo ≤ n
  · go_enter Tryd.func61, Tryd.ntmps61
    go_wp2
    all_goals (go_ret; exact ⟨by simp [*]; try omega, rfl⟩)
  · go_enter Tryd.func61, Tryd.ntmps61
    go_wp2
    all_goals (go_ret; exact ⟨by simp [*]; try omega, rfl⟩)

theorem in_any (n lo hi : Int) (w : World) :
    Calls Tryd.prog 114 #[.int .i64 n, .int .i64 lo, .int .i64 hi] w fun e w' => e = .returned (.bool (inB n lo hi)) ∧ w = w' := by
  unfold inB
  by_cases h1 : lo ≤ n
  · go_enter Tryd.func114, Tryd.ntmps114
    go_wp2
    all_goals (go_ret; exact ⟨by simp [*]; try omega, rfl⟩)
  · go_enter Tryd.func114, Tryd.ntmps114
    go_wp2
    all_goals (go_ret; exact ⟨by simp [*]; try omega, rfl⟩)

theorem at_any (n : Int) (k : Nat) (w : World) :
    Calls Tryd.prog 146 #[.int .i64 n, .int .i64 k] w fun e w' => e = .returned (.bool (inB n 0 (k - 1))) ∧ w = w' := by
  unfold inB
  by_cases h1 : 0 ≤ n
  · go_enter Tryd.func146, Tryd.ntmps146
    go_wp2
    all_goals (go_ret; exact ⟨by simp [*]; try omega, rfl⟩)
  · go_enter Tryd.func146, Tryd.ntmps146
    go_wp2
    all_goals (go_ret; exact ⟨by simp [*]; try omega, rfl⟩)

theorem pick_any (n : Int) (ss : List ByteArray) (A : Option Addr) (c B : Nat) (w : World) (hs : Sl w B A (ss.map Value.string)) (hl : ss.length ≤ 1000) :
    Calls Tryd.prog 126 #[.int .i64 n, .slice A ss.length c] w fun e w' => e = .returned (.string (pickS n ss)) ∧ w = w' := by
  by_cases h : 0 ≤ n ∧ n < ss.length
  · obtain ⟨h0, h1⟩ := h
    obtain ⟨k, rfl⟩ := Int.eq_ofNat_of_zero_le h0
    have hk : k < ss.length := by omega
    obtain ⟨b, o, rfl, hb, hc⟩ := hs (by intro e; rw [List.map_eq_nil_iff] at e; subst e; simp at hk)
    have hck : w.cell? ⟨b, o + k, none⟩ = some (.string (ss.getD k ⟨#[]⟩)) := hc k _ (by rw [List.getElem?_map, List.getElem?_eq_getElem hk]; simp [List.getD, List.getElem?_eq_getElem hk])
    have ht : inB (k : Int) 0 (ss.length - 1) = true := inB_mk (by omega) (by omega)
    have hp : pickS (k : Int) ss = ss.getD k ⟨#[]⟩ := by unfold pickS; rw [if_pos ⟨h0, h1⟩]; simp
    have HP := Lib.hid hp
    clear hp hc
    go_enter Tryd.func126, Tryd.ntmps126
    go_wp2_with (go_at_call 146; refine (at_any _ _ _).mono ?_; rintro e w' ⟨rfl, rfl⟩)
    go_ret
    exact ⟨ret_str (by rw [HP.out]; simp [List.getD, hk]), rfl⟩
  · have ht : inB n 0 (ss.length - 1) = false := inB_un (by omega)
    have hp : pickS n ss = ⟨#[]⟩ := by unfold pickS; rw [if_neg h]
    have HP := Lib.hid hp
    clear hp hs h
    go_enter Tryd.func126, Tryd.ntmps126
    go_wp2_with (go_at_call 146; refine (at_any _ _ _).mono ?_; rintro e w' ⟨rfl, rfl⟩)
    go_ret
    exact ⟨ret_str (by rw [HP.out]), rfl⟩

end Go.Proofs.YtbikppndhidbpaaDoor
