/-
  Contracts of points, roots, quotients, distances: the program's and the reference's. Each under the conditions that it states: coordinates and numbers in their bounds.
-/
import Derived.Test.YthjkkidcpidgdaaGreatDoorBase
import Derived.Test.YthjkkidcpidgdaaGreatDoorNum
set_option linter.unusedVariables false
set_option maxRecDepth 100000
set_option linter.unusedSimpArgs false
namespace Go.Proofs.YthjkkidcpidgdaaGreatDoor
open Go.RowKit BigFrame

def vPoint (x y : Int) : Bool := inB x 0 200000 && inB y 0 200000
theorem vPoint_yes {x y : Int} (h : vPoint x y = true) : (0 ≤ x ∧ x ≤ 200000) ∧ (0 ≤ y ∧ y ≤ 200000) := by
  unfold vPoint at h; rw [Bool.and_eq_true, inB_yes, inB_yes] at h; exact h
def sqM (ax ay bx by_ : Int) : Int := (ax - bx) * (ax - bx) + (ay - by_) * (ay - by_)
def distM (ax ay bx by_ : Int) : Int := rootM (sqM ax ay bx by_)
def crossM (ax ay bx by_ cx cy : Int) : Int := (bx - ax) * (cy - ay) - (by_ - ay) * (cx - ax)

theorem impl_ValidPoint (x y : Int) (w : World) :
    Calls Tryz.prog 50 #[.agg #[.int .i64 x, .int .i64 y]] w fun e w' => e = .returned (.bool (vPoint x y)) ∧ Below w.heap.size w w' := by
  unfold vPoint
  go_enter Tryz.func50, Tryz.ntmps50
  go_wp2_with (go_at_call 74; refine (within_any _ _ _ _).mono ?_; rintro e w' ⟨rfl, rfl⟩)
  all_goals (go_ret; exact ⟨ret_bool (by simp [*]), by go_grown⟩)

theorem spec_l02Ok (x y : Int) (w : World) :
    Calls Tryz.prog 86 #[.agg #[.int .i64 x, .int .i64 y]] w fun e w' => e = .returned (.bool (vPoint x y)) ∧ Below w.heap.size w w' := by
  unfold vPoint
  go_enter Tryz.func86, Tryz.ntmps86
  go_wp2_with (go_at_call 87; refine (in_any _ _ _ _).mono ?_; rintro e w' ⟨rfl, rfl⟩)
  all_goals (go_ret; exact ⟨ret_bool (by simp [*]), by go_grown⟩)

theorem impl_squared (ax ay bx by_ : Int) (w : World) (h1 : 0 ≤ ax ∧ ax ≤ 200000) (h2 : 0 ≤ ay ∧ ay ≤ 200000) (h3 : 0 ≤ bx ∧ bx ≤ 200000) (h4 : 0 ≤ by_ ∧ by_ ≤ 200000) :
    Calls Tryz.prog 89 #[.agg #[.int .i64 ax, .int .i64 ay], .agg #[.int .i64 bx, .int .i64 by_]] w fun e w' => e = .returned (.int .i64 (sqM ax ay bx by_)) ∧ Below w.heap.size w w' := by
  have k1 := sq_bd (x := ax - bx) (B := 200000) (by omega) (by omega)
  have k2 := sq_bd (x := ay - by_) (B := 200000) (by omega) (by omega)
  go_enter Tryz.func89, Tryz.ntmps89
  go_wp2
  go_ret
  exact ⟨rfl, by go_grown⟩

theorem impl_cross (ax ay bx by_ cx cy : Int) (w : World) (h1 : 0 ≤ ax ∧ ax ≤ 200000) (h2 : 0 ≤ ay ∧ ay ≤ 200000) (h3 : 0 ≤ bx ∧ bx ≤ 200000) (h4 : 0 ≤ by_ ∧ by_ ≤ 200000) (h5 : 0 ≤ cx ∧ cx ≤ 200000) (h6 : 0 ≤ cy ∧ cy ≤ 200000) :
    Calls Tryz.prog 101 #[.agg #[.int .i64 ax, .int .i64 ay], .agg #[.int .i64 bx, .int .i64 by_], .agg #[.int .i64 cx, .int .i64 cy]] w fun e w' => e = .returned (.int .i64 (crossM ax ay bx by_ cx cy)) ∧ Below w.heap.size w w' := by
  have k1 := mul_bd (x := bx - ax) (y := cy - ay) (B := 200000) (C := 200000) (by omega) (by omega) (by omega) (by omega)
  have k2 := mul_bd (x := by_ - ay) (y := cx - ax) (B := 200000) (C := 200000) (by omega) (by omega) (by omega) (by omega)
  go_enter Tryz.func101, Tryz.ntmps101
  go_wp2
  go_ret
  exact ⟨rfl, by go_grown⟩

theorem impl_RootOf (n : Int) (w : World) (hn : n ≤ 9223372036854775807) :
    Calls Tryz.prog 88 #[.int .i64 n] w fun e w' => e = .returned (.int .i64 (rootM n)) ∧ w = w' := by
  by_cases h0 : n < 0
  · have hr := Lib.hid (rootM_neg n (by omega))
    go_enter Tryz.func88, Tryz.ntmps88
    go_wp2
    go_ret
    exact ⟨ret_int hr.out.symm, rfl⟩
  · have hx := rootM_max n hn
    have hy := rootM_nonneg n
    go_enter Tryz.func88, Tryz.ntmps88
    go_wp2
    go_loop [3, 4] (fun s t => ∃ l h : Int, s = .int .i64 l ∧ t = .int .i64 h ∧ 0 ≤ l ∧ h ≤ 3037000499 ∧ l ≤ rootM n ∧ rootM n ≤ h) (fun s t => (intOf t - intOf s).toNat)
    case atStart => exact ⟨_, _, rfl, rfl, by omega, by omega, hy, hx⟩
    case round =>
      obtain ⟨l, h, rfl, rfl, hl, hh, h1, h2⟩ := hrel
      have hm := sq_bd (x := (l + h + 1) / 2) (B := 3037000499) (by omega) (by omega)
      by_cases hlt : l < h
      · have key := rootM_iff ((l + h + 1) / 2) n (by omega)
        by_cases hk : (l + h + 1) / 2 ≤ rootM n
        · have k2 := key.2 hk
          clear key
          go_wp2
          go_round
          case rel => exact ⟨_, _, rfl, rfl, by omega, by omega, by omega, by omega⟩
          case measure => simp [intOf]; omega
        · have k2 : ¬ ((l + h + 1) / 2 * ((l + h + 1) / 2) ≤ n) := fun e => hk (key.1 e)
          clear key
          go_wp2
          go_round
          case rel => exact ⟨_, _, rfl, rfl, by omega, by omega, by omega, by omega⟩
          case measure => simp [intOf]; omega
      · go_wp2
        go_ret
        exact ⟨ret_int (by omega), rfl⟩

theorem spec_Div (a b : Int) (w : World) (hb : b ≠ 0) (ha1 : -2000000000000000000 ≤ a) (ha2 : a ≤ 2000000000000000000) (hb1 : -2000000000000000000 ≤ b) (hb2 : b ≤ 2000000000000000000) :
    Calls Tryz.prog 104 #[.int .i64 a, .int .i64 b] w fun e w' => e = .returned (.int .i64 (divR a b)) ∧ w = w' := by
  by_cases hb0 : b < 0
  · by_cases ha0 : -a < 0
    · have m3 := Int.ediv_nonneg (show 0 ≤ -b - 2 * -a by omega) (show 0 ≤ 2 * -b by omega)
      have m4 := Int.ediv_le_self (a := -b - 2 * -a) (2 * -b) (by omega)
      go_enter Tryz.func104, Tryz.ntmps104
      go_wp2
      go_ret
      exact ⟨ret_int (by unfold divR; rw [if_pos (by omega), if_pos (by omega)]), rfl⟩
    · go_enter Tryz.func104, Tryz.ntmps104
      go_wp2
      go_ret
      exact ⟨ret_int (by unfold divR; rw [if_pos (by omega), if_neg (by omega)]), rfl⟩
  · by_cases ha0 : a < 0
    · have m3 := Int.ediv_nonneg (show 0 ≤ b - 2 * a by omega) (show 0 ≤ 2 * b by omega)
      have m4 := Int.ediv_le_self (a := b - 2 * a) (2 * b) (by omega)
      go_enter Tryz.func104, Tryz.ntmps104
      go_wp2
      go_ret
      exact ⟨ret_int (by unfold divR; rw [if_neg (by omega), if_pos (by omega)]), rfl⟩
    · go_enter Tryz.func104, Tryz.ntmps104
      go_wp2
      go_ret
      exact ⟨ret_int (by unfold divR; rw [if_neg (by omega), if_neg (by omega)]), rfl⟩

end Go.Proofs.YthjkkidcpidgdaaGreatDoor
