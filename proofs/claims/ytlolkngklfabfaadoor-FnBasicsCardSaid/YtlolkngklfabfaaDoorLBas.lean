/-
  FnBasics: roots are rounded down, quotients are nearest, and texts are read back. Under no condition; the library's variables read as their texts lay them (the card ties them).
-/
import Derived.Test.YtlolkngklfabfaaDoorR8
import Derived.Test.YtlolkngklfabfaaDoorListR
import Derived.Test.YtlolkngklfabfaaDoorEnv
set_option linter.unusedVariables false
set_option linter.unnecessarySimpa false
set_option maxRecDepth 100000
set_option linter.unusedSimpArgs false
namespace Go.Proofs.YtlolkngklfabfaaDoor
open Go.RowKit BigFrame

theorem divR_pos (a : Int) {b : Int} (hb : 1 ≤ b) : divR a b = if a < 0 then -((b - 2 * a) / (2 * b)) else (2 * a + b) / (2 * b) := by
  unfold divR
  rw [if_neg (by omega)]
theorem divR_near {a b : Int} (hb : 1 ≤ b) : 2 * (a - divR a b * b) ≤ b ∧ -b ≤ 2 * (a - divR a b * b) ∧ divR (-a) b = -divR a b := by
  have hp : ∀ A : Int, 0 ≤ A → 2 * (A - (2 * A + b) / (2 * b) * b) ≤ b ∧ -b ≤ 2 * (A - (2 * A + b) / (2 * b) * b) := by
    intro A hA
    obtain ⟨Q, hQ⟩ : ∃ Q, (2 * A + b) / (2 * b) = Q := ⟨_, rfl⟩
    have h1 := Int.emod_nonneg (2 * A + b) (show 2 * b ≠ 0 by omega)
    have h2 := Int.emod_lt_of_pos (2 * A + b) (show 0 < 2 * b by omega)
    have h3 := Int.mul_ediv_add_emod (2 * A + b) (2 * b)
    rw [hQ] at h3 ⊢
    generalize (2 * A + b) % (2 * b) = R at h1 h2 h3
    have h4 : 2 * b * Q = 2 * (Q * b) := by rw [Int.mul_assoc, Int.mul_comm b Q]
    rw [h4] at h3
    generalize Q * b = p at h3 ⊢
    omega
  rw [divR_pos a hb, divR_pos (-a) hb]
  by_cases ha : a < 0
  · rw [if_pos ha, if_neg (show ¬ -a < 0 by omega)]
    have h := hp (-a) (by omega)
    have e : b - 2 * a = 2 * -a + b := by omega
    rw [e]
    generalize (2 * -a + b) / (2 * b) = Q at h ⊢
    have e2 : -Q * b = -(Q * b) := Int.neg_mul _ _
    rw [e2]
    generalize Q * b = p at h ⊢
    omega
  · rw [if_neg ha]
    have h := hp a (by omega)
    refine ⟨h.1, h.2, ?_⟩
    by_cases ha0 : a = 0
    · subst ha0
      have e0 : (2 * (0 : Int) + b) / (2 * b) = 0 := Int.ediv_eq_zero_of_lt (by omega) (by omega)
      rw [if_neg (by omega)]
      have e1 : (2 * -(0 : Int) + b) / (2 * b) = 0 := Int.ediv_eq_zero_of_lt (by omega) (by omega)
      rw [e0, e1]; rfl
    · rw [if_pos (by omega)]
      have e : b - 2 * -a = 2 * a + b := by omega
      rw [e]
theorem l5_new (w : World) (a b c d f : Int) (t : TypeId) : Sl (w.alloc (.cells #[.int .i64 a, .int .i64 b, .int .i64 c, .int .i64 d, .int .i64 f] t)) (w.heap.size + 1) (some ⟨w.heap.size, 0, none⟩) (ints [a, b, c, d, f]) := Sl.new w _ t
theorem q_bd {a b q : Int} (ha : -100000 ≤ a ∧ a ≤ 3600000000) (hb : 1 ≤ b ∧ b ≤ 5000) (h1 : 2 * (a - q * b) ≤ b) (h2 : -b ≤ 2 * (a - q * b)) : -4000000000 ≤ q ∧ q ≤ 4000000000 := by
  constructor
  · rcases (by omega : -4000000000 ≤ q ∨ q < -4000000000) with h | h
    · exact h
    · exfalso
      have : q * b ≤ q * 1 := by
        have := Int.mul_le_mul_of_nonneg_left (show (1 : Int) ≤ b by omega) (show 0 ≤ -q by omega)
        rw [Int.neg_mul, Int.neg_mul] at this; omega
      omega
  · rcases (by omega : q ≤ 4000000000 ∨ 4000000000 < q) with h | h
    · exact h
    · exfalso
      have : q * 1 ≤ q * b := Int.mul_le_mul_of_nonneg_left (by omega) (by omega)
      omega
namespace fnBasics
open Go.ChangeShapes Go.WideShapes Go.ChangeAt Go.RowKit
set_option linter.unusedVariables false
set_option maxHeartbeats 1000000 in
theorem walk (W : World) (A0 : Option Addr) (c0 : Nat) (L0 : List Int) (s0 : Sl W W.heap.size A0 (bytesL L0)) (b0 : ∀ z ∈ L0, IntKind.u8.has z) (m0 : L0.length ≤ maxLen) (A1 : Option Addr) (c1 : Nat) (L1 : List Int) (s1 : Sl W W.heap.size A1 (bytesL L1)) (b1 : ∀ z ∈ L1, IntKind.u8.has z) (m1 : L1.length ≤ maxLen) (hE : Env W) :
    Calls Tryd.prog 5 #[.slice A0 L0.length c0, .slice A1 L1.length c1] W fun e w' => e = .returned (.bool true) ∧ Below W.heap.size W w' := by
  have hE' := Lib.hid hE
  have S0 := Lib.hid s0
  have U0 := Lib.hid b0
  have S1 := Lib.hid s1
  have U1 := Lib.hid b1
  clear hE s0 s1 b0 b1
  by_cases hlong : 1048576 < L0.length ∨ 1048576 < L1.length
  · have hb : (decide (1048576 < L0.length) || decide (1048576 < L1.length)) = true := by simpa using hlong
    have hL : ∀ w, Calls Tryd.prog 13 #[.slice A0 L0.length c0, .slice A1 L1.length c1] w fun e w' => e = .returned (.bool true) ∧ w = w' := fun w => by have h := long8_any L0.length L1.length c0 c1 A0 A1 w m0 m1; rw [hb] at h; exact h
    revert W
    intro w hE' S0 S1
    go_enter Tryd.func5, Tryd.ntmps5
    go_wp2_with (go_at_call 13; refine (hL _).mono ?_; rintro e w' ⟨rfl, rfl⟩)
    go_ret
    exact ⟨rfl, Below.refl _ _⟩
  have hb : (decide (1048576 < L0.length) || decide (1048576 < L1.length)) = false := by simpa using hlong
  have hL : ∀ w, Calls Tryd.prog 13 #[.slice A0 L0.length c0, .slice A1 L1.length c1] w fun e w' => e = .returned (.bool false) ∧ w = w' := fun w => by have h := long8_any L0.length L1.length c0 c1 A0 A1 w m0 m1; rw [hb] at h; exact h
  have n0 : L0.length ≤ 1048576 := by omega
  have n1 : L1.length ≤ 1048576 := by omega
  clear hb hlong
  go_enter Tryd.func5, Tryd.ntmps5
  go_wp2_with (go_at_call 13; refine (hL _).mono ?_; rintro e w' ⟨rfl, rfl⟩)
  refine (r8_numbers L0 A0 c0 W.heap.size _ S0.out (Nat.le_refl _) U0.out n0).mono ?_
  rintro e w1 ⟨a, b, ha, hb, rfl, hB1⟩
  have hR : ∀ w, Calls Tryd.prog 15 #[.int .i64 a] w fun e w' => e = .returned (.int .i64 (rootM a)) ∧ w = w' := fun w => impl_RootOf a w (by omega)
  have hB1s := hB1.size
  by_cases ha0 : a < 0
  · have hr := rootM_neg a (by omega)
    rw [hr] at hR
    clear hr
    go_wp2_with (go_at_call 15; refine (hR _).mono ?_; rintro e w' ⟨rfl, rfl⟩)
    obtain ⟨d1, d2, d3⟩ := divR_near (a := a) (b := b) (by omega)
    have hD : ∀ w, Calls Tryd.prog 16 #[.int .i64 a, .int .i64 b] w fun e w' => e = .returned (.int .i64 (divR a b)) ∧ w = w' := fun w => impl_DivRound a b w (by omega) (by omega) (by omega) (by omega) (by omega)
    have hD2 : ∀ w, Calls Tryd.prog 16 #[.int .i64 (-a), .int .i64 b] w fun e w' => e = .returned (.int .i64 (-divR a b)) ∧ w = w' := fun w => by rw [← d3]; exact impl_DivRound (-a) b w (by omega) (by omega) (by omega) (by omega) (by omega)
    clear d3
    obtain ⟨q, hq⟩ : ∃ q, divR a b = q := ⟨_, rfl⟩
    rw [hq] at d1 d2 hD hD2
    have hqb := q_bd ha hb d1 d2
    clear hq
    obtain ⟨p, hp⟩ : ∃ p, q * b = p := ⟨_, rfl⟩
    rw [hp] at d1 d2
    obtain ⟨t, ht0, ht1, hT⟩ : ∃ t : Int, 0 ≤ t ∧ 2 * t ≤ b ∧ ∀ w, Calls Tryd.prog 17 #[.int .i64 (a - p)] w fun e w' => e = .returned (.int .i64 t) ∧ w = w' := ⟨_, by split <;> omega, by split <;> omega, fun w => r8Abs_any (a - p) w (by omega) (by omega)⟩
    have hpb : -4000000000 ≤ q * b ∧ q * b ≤ 4000000000 := by rw [hp]; omega
    go_wp2_with (first | (go_at_call 16; with_reducible refine (hD _).mono ?_; rintro e w' ⟨rfl, rfl⟩) | (go_at_call 16; with_reducible refine (hD2 _).mono ?_; rintro e w' ⟨rfl, rfl⟩) | ((try rw [hp]); (go_at_call 17; with_reducible refine (hT _).mono ?_; rintro e w' ⟨rfl, rfl⟩)))
    all_goals try (exfalso; omega)
    refine (r8Wide_any L1 A1 c1 W.heap.size 0 1000 _ (S1.out.below hB1) U1.out (by omega) (by omega) (by omega) (by omega)).mono ?_
    rintro e w' ⟨x, hx, rfl, rfl⟩
    go_wp2_with fail
    refine (r8Wide_any L1 A1 c1 W.heap.size 2 5000 _ (S1.out.below hB1) U1.out (by omega) (by omega) (by omega) (by omega)).mono ?_
    rintro e w' ⟨y0, hy, rfl, rfl⟩
    go_wp2_with fail
    refine (r8Wide_any L1 A1 c1 W.heap.size 4 5000 _ (S1.out.below hB1) U1.out (by omega) (by omega) (by omega) (by omega)).mono ?_
    rintro e w' ⟨z0, hz, rfl, rfl⟩
    obtain ⟨y, hye⟩ : ∃ y, y0 - 2500 = y := ⟨_, rfl⟩
    obtain ⟨z, hze⟩ : ∃ z, z0 - 2500 = z := ⟨_, rfl⟩
    have hyb : -2500 ≤ y ∧ y ≤ 2500 := by omega
    have hzb : -2500 ≤ z ∧ z ≤ 2500 := by omega
    have hv := blM_bd hyb hzb hx.1 hx.2
    have e0 : blM y z 0 = y := rfl
    have e1 : blM y z 1000 = z := rfl
    have hV : ∀ w, Calls Tryd.prog 19 #[.int .i64 0, .int .i64 y, .int .i64 1000, .int .i64 z, .int .i64 x] w fun e w' => e = .returned (.int .i64 (blM y z x)) ∧ w = w' := fun w => impl_Blend y z x w hyb hzb ⟨hx.1, by omega⟩
    have hV0 : ∀ w, Calls Tryd.prog 19 #[.int .i64 0, .int .i64 y, .int .i64 1000, .int .i64 z, .int .i64 0] w fun e w' => e = .returned (.int .i64 y) ∧ w = w' := fun w => impl_Blend y z 0 w hyb hzb ⟨by omega, by omega⟩
    have hV1 : ∀ w, Calls Tryd.prog 19 #[.int .i64 0, .int .i64 y, .int .i64 1000, .int .i64 z, .int .i64 1000] w fun e w' => e = .returned (.int .i64 z) ∧ w = w' := fun w => impl_Blend y z 1000 w hyb hzb ⟨by omega, by omega⟩
    generalize blM y z x = v at hv hV
    clear e0 e1 hD hD2 hT hp hpb d1 d2 ht0 ht1 hqb
    go_wp2_with (first | ((try rw [hye]); (try rw [hze]); (go_at_call 19; with_reducible refine (hV _).mono ?_; rintro e w' ⟨rfl, rfl⟩)) | (go_at_call 19; with_reducible refine (hV0 _).mono ?_; rintro e w' ⟨rfl, rfl⟩) | (go_at_call 19; with_reducible refine (hV1 _).mono ?_; rintro e w' ⟨rfl, rfl⟩))
    all_goals try (exfalso; omega)
    refine (impl_List [a, b, x, y, z] (some ⟨w1.heap.size, 0, none⟩) 5 (w1.heap.size + 1) _ (l5_new w1 a b x y z _) (by simp) (by intro u hu; simp at hu; rcases hu with rfl | rfl | rfl | rfl | rfl <;> exact inB_mk (by omega) (by omega)) (by simp) (by simp) (hE'.out.on (hB1.alloc hB1s _)).tab).mono ?_
    rintro e w2 ⟨rfl, hb2⟩
    have hB2 := bnext (hB1.alloc hB1s (.cells #[.int .i64 a, .int .i64 b, .int .i64 x, .int .i64 y, .int .i64 z] 2)) hb2
    have hlb := list_back (L := [a, b, x, y, z]) (by simp) (by simp) (by intro u hu; simp at hu; rcases hu with rfl | rfl | rfl | rfl | rfl <;> omega)
    have hls : (listT [a, b, x, y, z]).size ≤ 1048576 := by
      have h := joinTo_size (L := [a, b, x, y, z]) (by intro u hu; simp at hu; rcases hu with rfl | rfl | rfl | rfl | rfl <;> (simp [IntKind.has, IntKind.min, IntKind.max, IntKind.signed, IntKind.bits]; omega)) 5 (by simp)
      unfold listT
      rw [if_neg (by simp)]
      exact Nat.le_trans h (by omega)
    go_wp2_with fail
    refine (impl_RList (listT [a, b, x, y, z]) hls _ (hE'.out.on hB2)).mono ?_
    rintro e w3 ⟨A3, c3, rfl, hA3, hb3⟩
    rw [hlb.2] at hA3
    rw [hlb.1, hlb.2]
    have hlen : ([a, b, x, y, z] : List Int).length = 5 := rfl
    rw [hlen]
    have hB3 := bnext hB2 hb3
    have hda := dec_back (v := a) (by omega) (by omega)
    have hds := decT_size (n := a) (by omega) (by omega)
    clear hlb hls
    go_wp2_with fail
    refine (impl_Dec a (by omega) (by omega) _ (hE'.out.on hB3).tab).mono ?_
    rintro e w4 ⟨rfl, hb4⟩
    have hB4 := bnext hB3 hb4
    go_wp2_with fail
    refine (impl_RDec (decT a) (by omega) _ (hE'.out.on hB4)).mono ?_
    rintro e w5 ⟨rfl, hb5⟩
    rw [hda.1, hda.2]
    have hB5 := bnext hB4 hb5
    have hA5 : Sl w5 w5.heap.size A3 (ints [a, b, x, y, z]) := (hA3.below (bnext hb4 hb5)).more (Nat.le_trans hb4.size hb5.size)
    have hx5 : Below (w1.alloc (.cells #[.int .i64 a, .int .i64 b, .int .i64 x, .int .i64 y, .int .i64 z] 2)).heap.size (w1.alloc (.cells #[.int .i64 a, .int .i64 b, .int .i64 x, .int .i64 y, .int .i64 z] 2)) w5 := bnext (bnext (bnext hb2 hb3) hb4) hb5
    have hC5 : Sl w5 w5.heap.size (some ⟨w1.heap.size, 0, none⟩) (ints [a, b, x, y, z]) := (((l5_new w1 a b x y z 2).more (show w1.heap.size + 1 ≤ (w1.alloc (.cells #[.int .i64 a, .int .i64 b, .int .i64 x, .int .i64 y, .int .i64 z] 2)).heap.size by simp)).below hx5).more hx5.size
    clear hA3 hda hds hb2 hb3 hb4 hb5 hx5
    go_wp2_with fail
    refine (r8Same_same [a, b, x, y, z] A3 _ _ _ w5.heap.size _ hA5 hC5 (Nat.le_refl _) (by simp)).mono ?_
    rintro e w6 ⟨rfl, hb6⟩
    have hB6 := bnext hB5 hb6
    go_wp2
    go_ret
    exact ⟨rfl, hB6⟩
  · have r0 := rootM_nonneg a
    have r1 := rootM_le a (by omega)
    have r2 := rootM_lt a (by omega)
    have r3 := rootM_bd (n := a) (B := 60000) (by omega) (by omega)
    have r4 := mul_bd (x := rootM a) (y := rootM a) (B := 60000) (C := 60000) (by omega) (by omega) (by omega) (by omega)
    have r5 := mul_bd (x := rootM a + 1) (y := rootM a + 1) (B := 60001) (C := 60001) (by omega) (by omega) (by omega) (by omega)
    obtain ⟨r, hr⟩ : ∃ r, rootM a = r := ⟨_, rfl⟩
    rw [hr] at r0 r1 r2 r3 r4 r5 hR
    clear hr
    have r6 : decide ((r + 1) * (r + 1) ≤ a) = false := decide_eq_false (by omega)
    have r7 : decide (a < r * r) = false := decide_eq_false (by omega)
    have r8 : decide (r < 0) = false := decide_eq_false (by omega)
    have r9 : decide (3000000000 < r) = false := decide_eq_false (by omega)
    go_wp2_with (go_at_call 15; refine (hR _).mono ?_; rintro e w' ⟨rfl, rfl⟩)
    all_goals try (exfalso; omega)
    clear r0 r1 r2 r3 r4 r5 r6 r7 r8 r9 hR
    obtain ⟨d1, d2, d3⟩ := divR_near (a := a) (b := b) (by omega)
    have hD : ∀ w, Calls Tryd.prog 16 #[.int .i64 a, .int .i64 b] w fun e w' => e = .returned (.int .i64 (divR a b)) ∧ w = w' := fun w => impl_DivRound a b w (by omega) (by omega) (by omega) (by omega) (by omega)
    have hD2 : ∀ w, Calls Tryd.prog 16 #[.int .i64 (-a), .int .i64 b] w fun e w' => e = .returned (.int .i64 (-divR a b)) ∧ w = w' := fun w => by rw [← d3]; exact impl_DivRound (-a) b w (by omega) (by omega) (by omega) (by omega) (by omega)
    clear d3
    obtain ⟨q, hq⟩ : ∃ q, divR a b = q := ⟨_, rfl⟩
    rw [hq] at d1 d2 hD hD2
    have hqb := q_bd ha hb d1 d2
    clear hq
    obtain ⟨p, hp⟩ : ∃ p, q * b = p := ⟨_, rfl⟩
    rw [hp] at d1 d2
    obtain ⟨t, ht0, ht1, hT⟩ : ∃ t : Int, 0 ≤ t ∧ 2 * t ≤ b ∧ ∀ w, Calls Tryd.prog 17 #[.int .i64 (a - p)] w fun e w' => e = .returned (.int .i64 t) ∧ w = w' := ⟨_, by split <;> omega, by split <;> omega, fun w => r8Abs_any (a - p) w (by omega) (by omega)⟩
    have hpb : -4000000000 ≤ q * b ∧ q * b ≤ 4000000000 := by rw [hp]; omega
    go_wp2_with (first | (go_at_call 16; with_reducible refine (hD _).mono ?_; rintro e w' ⟨rfl, rfl⟩) | (go_at_call 16; with_reducible refine (hD2 _).mono ?_; rintro e w' ⟨rfl, rfl⟩) | ((try rw [hp]); (go_at_call 17; with_reducible refine (hT _).mono ?_; rintro e w' ⟨rfl, rfl⟩)))
    all_goals try (exfalso; omega)
    refine (r8Wide_any L1 A1 c1 W.heap.size 0 1000 _ (S1.out.below hB1) U1.out (by omega) (by omega) (by omega) (by omega)).mono ?_
    rintro e w' ⟨x, hx, rfl, rfl⟩
    go_wp2_with fail
    refine (r8Wide_any L1 A1 c1 W.heap.size 2 5000 _ (S1.out.below hB1) U1.out (by omega) (by omega) (by omega) (by omega)).mono ?_
    rintro e w' ⟨y0, hy, rfl, rfl⟩
    go_wp2_with fail
    refine (r8Wide_any L1 A1 c1 W.heap.size 4 5000 _ (S1.out.below hB1) U1.out (by omega) (by omega) (by omega) (by omega)).mono ?_
    rintro e w' ⟨z0, hz, rfl, rfl⟩
    obtain ⟨y, hye⟩ : ∃ y, y0 - 2500 = y := ⟨_, rfl⟩
    obtain ⟨z, hze⟩ : ∃ z, z0 - 2500 = z := ⟨_, rfl⟩
    have hyb : -2500 ≤ y ∧ y ≤ 2500 := by omega
    have hzb : -2500 ≤ z ∧ z ≤ 2500 := by omega
    have hv := blM_bd hyb hzb hx.1 hx.2
    have e0 : blM y z 0 = y := rfl
    have e1 : blM y z 1000 = z := rfl
    have hV : ∀ w, Calls Tryd.prog 19 #[.int .i64 0, .int .i64 y, .int .i64 1000, .int .i64 z, .int .i64 x] w fun e w' => e = .returned (.int .i64 (blM y z x)) ∧ w = w' := fun w => impl_Blend y z x w hyb hzb ⟨hx.1, by omega⟩
    have hV0 : ∀ w, Calls Tryd.prog 19 #[.int .i64 0, .int .i64 y, .int .i64 1000, .int .i64 z, .int .i64 0] w fun e w' => e = .returned (.int .i64 y) ∧ w = w' := fun w => impl_Blend y z 0 w hyb hzb ⟨by omega, by omega⟩
    have hV1 : ∀ w, Calls Tryd.prog 19 #[.int .i64 0, .int .i64 y, .int .i64 1000, .int .i64 z, .int .i64 1000] w fun e w' => e = .returned (.int .i64 z) ∧ w = w' := fun w => impl_Blend y z 1000 w hyb hzb ⟨by omega, by omega⟩
    generalize blM y z x = v at hv hV
    clear e0 e1 hD hD2 hT hp hpb d1 d2 ht0 ht1 hqb
    go_wp2_with (first | ((try rw [hye]); (try rw [hze]); (go_at_call 19; with_reducible refine (hV _).mono ?_; rintro e w' ⟨rfl, rfl⟩)) | (go_at_call 19; with_reducible refine (hV0 _).mono ?_; rintro e w' ⟨rfl, rfl⟩) | (go_at_call 19; with_reducible refine (hV1 _).mono ?_; rintro e w' ⟨rfl, rfl⟩))
    all_goals try (exfalso; omega)
    refine (impl_List [a, b, x, y, z] (some ⟨w1.heap.size, 0, none⟩) 5 (w1.heap.size + 1) _ (l5_new w1 a b x y z _) (by simp) (by intro u hu; simp at hu; rcases hu with rfl | rfl | rfl | rfl | rfl <;> exact inB_mk (by omega) (by omega)) (by simp) (by simp) (hE'.out.on (hB1.alloc hB1s _)).tab).mono ?_
    rintro e w2 ⟨rfl, hb2⟩
    have hB2 := bnext (hB1.alloc hB1s (.cells #[.int .i64 a, .int .i64 b, .int .i64 x, .int .i64 y, .int .i64 z] 2)) hb2
    have hlb := list_back (L := [a, b, x, y, z]) (by simp) (by simp) (by intro u hu; simp at hu; rcases hu with rfl | rfl | rfl | rfl | rfl <;> omega)
    have hls : (listT [a, b, x, y, z]).size ≤ 1048576 := by
      have h := joinTo_size (L := [a, b, x, y, z]) (by intro u hu; simp at hu; rcases hu with rfl | rfl | rfl | rfl | rfl <;> (simp [IntKind.has, IntKind.min, IntKind.max, IntKind.signed, IntKind.bits]; omega)) 5 (by simp)
      unfold listT
      rw [if_neg (by simp)]
      exact Nat.le_trans h (by omega)
    go_wp2_with fail
    refine (impl_RList (listT [a, b, x, y, z]) hls _ (hE'.out.on hB2)).mono ?_
    rintro e w3 ⟨A3, c3, rfl, hA3, hb3⟩
    rw [hlb.2] at hA3
    rw [hlb.1, hlb.2]
    have hlen : ([a, b, x, y, z] : List Int).length = 5 := rfl
    rw [hlen]
    have hB3 := bnext hB2 hb3
    have hda := dec_back (v := a) (by omega) (by omega)
    have hds := decT_size (n := a) (by omega) (by omega)
    clear hlb hls
    go_wp2_with fail
    refine (impl_Dec a (by omega) (by omega) _ (hE'.out.on hB3).tab).mono ?_
    rintro e w4 ⟨rfl, hb4⟩
    have hB4 := bnext hB3 hb4
    go_wp2_with fail
    refine (impl_RDec (decT a) (by omega) _ (hE'.out.on hB4)).mono ?_
    rintro e w5 ⟨rfl, hb5⟩
    rw [hda.1, hda.2]
    have hB5 := bnext hB4 hb5
    have hA5 : Sl w5 w5.heap.size A3 (ints [a, b, x, y, z]) := (hA3.below (bnext hb4 hb5)).more (Nat.le_trans hb4.size hb5.size)
    have hx5 : Below (w1.alloc (.cells #[.int .i64 a, .int .i64 b, .int .i64 x, .int .i64 y, .int .i64 z] 2)).heap.size (w1.alloc (.cells #[.int .i64 a, .int .i64 b, .int .i64 x, .int .i64 y, .int .i64 z] 2)) w5 := bnext (bnext (bnext hb2 hb3) hb4) hb5
    have hC5 : Sl w5 w5.heap.size (some ⟨w1.heap.size, 0, none⟩) (ints [a, b, x, y, z]) := (((l5_new w1 a b x y z 2).more (show w1.heap.size + 1 ≤ (w1.alloc (.cells #[.int .i64 a, .int .i64 b, .int .i64 x, .int .i64 y, .int .i64 z] 2)).heap.size by simp)).below hx5).more hx5.size
    clear hA3 hda hds hb2 hb3 hb4 hb5 hx5
    go_wp2_with fail
    refine (r8Same_same [a, b, x, y, z] A3 _ _ _ w5.heap.size _ hA5 hC5 (Nat.le_refl _) (by simp)).mono ?_
    rintro e w6 ⟨rfl, hb6⟩
    have hB6 := bnext hB5 hb6
    go_wp2
    go_ret
    exact ⟨rfl, hB6⟩

theorem lifted (os : Os) (started : os.Started) (H : Type) (enc : TypeId × Value → H) :
    ReturnsInHanded {} Tryd.checked os 5 .any (fun w args => (Rows.fnBasicsSpec.pre enc Tryd.prog Tryd.f5 Rows.fnBasicsRow.domain false w args ∧ laidMetH Tryd.prog Rows.fnBasicsRow.laid w) ∧ sizedMet enc Tryd.prog Tryd.f5 (OpenSpec.ofChange Rows.fnBasicsSpec) false w args) (Rows.fnBasicsSpec.post enc Tryd.prog Tryd.f5 false true false false) := by
  refine change_sh (C := Tryd.checked) (X := fun w _ => laidMetH Tryd.prog Rows.fnBasicsRow.laid w) (fun _ _ _ hh h => h.of_heap hh) own started (by kernel_rfl) Tryd.func5
    (ChangeSpec.witness_shaped (enc := enc) (C := Tryd.checked) (os := os) (X := fun w _ => laidMetH Tryd.prog Rows.fnBasicsRow.laid w) false (World.laidAll Tryd.prog os Rows.fnBasicsRow.laid) #[.slice none 0 0, .slice none 0 0] 8 (World.laidAll_os _ _ _)
      (World.shaped_of_ZipB (by kernel_rfl) (by kernel_rfl)) (by kernel_rfl) (by kernel_rfl) (by kernel_rfl)
      (by rw [MakeChecks.laidMetH_plain _ _ _ (by kernel_rfl)]; exact laidMet_laidAll _ (by kernel_rfl) (by kernel_rfl))) ?_
  intro W base args ds gs before hval0 hW hcnd _ hsh hL _
  have hval : ∀ (j : Nat) t v, Tryd.f5.params[j]? = some t → args[j]? = some v → Value.okWide Tryd.prog W .any base t v := hval0
  have hW' := hW
  obtain ⟨p, q, hA0, hV, rfl, hfz, hnd⟩ := hW
  have hA : DataW.TrodAll enc Tryd.prog W 0 (fun _ => true) true Tryd.f5.params.toList args.toList ds p := hA0
  rw [Tryd.params5] at hA hval
  obtain ⟨v0, vs0, d0, ds0, p0, q0, hargs, rfl, rfl, h0, r0⟩ := trodAll_cons hA
  obtain ⟨v1, vs1, d1, ds1, p1, q1, rfl, rfl, rfl, h1, r1⟩ := trodAll_cons r0
  obtain ⟨rfl, rfl, rfl⟩ := trodAll_nil r1
  obtain rfl : args = #[v0, v1] := by cases args; simp_all
  have g0 := h0
  have g1 := h1
  obtain ⟨rfl, rfl⟩ := trodVars_none hV
  clear hA0 hval0
  simp only [List.append_nil] at hW'
  have hlt : ∀ x ∈ p0 ++ (p1), x.block < W.heap.size := fun x hx => by simpa using hW'.lt x (by simpa using hx)
  obtain ⟨fu0, hf0⟩ := h0
  obtain ⟨A0, c0, L0, hv0, s0, b0, m0⟩ := open_row8 Tryd.underlying33 Tryd.underlying5 (by kernel_rfl) hf0
  obtain ⟨va0, vl0, vc0, rfl⟩ := Go.WideShapes.okWide_slice Tryd.underlying33 (hval 0 33 _ rfl rfl)
  obtain ⟨rfl, rfl, rfl⟩ : A0 = va0 ∧ L0.length = vl0 ∧ c0 = vc0 := by have := hv0; simp [Value.cells] at this; exact ⟨this.1.symm, this.2.1.symm, this.2.2.symm⟩
  obtain ⟨fu1, hf1⟩ := h1
  obtain ⟨A1, c1, L1, hv1, s1, b1, m1⟩ := open_row8 Tryd.underlying33 Tryd.underlying5 (by kernel_rfl) hf1
  obtain ⟨va1, vl1, vc1, rfl⟩ := Go.WideShapes.okWide_slice Tryd.underlying33 (hval 1 33 _ rfl rfl)
  obtain ⟨rfl, rfl, rfl⟩ : A1 = va1 ∧ L1.length = vl1 ∧ c1 = vc1 := by have := hv1; simp [Value.cells] at this; exact ⟨this.1.symm, this.2.1.symm, this.2.2.symm⟩
  refine (walk W A0 c0 L0 s0 b0 m0 A1 c1 L1 s1 b1 m1 (env_of hsh hL)).mono fun e W' ⟨he, hg⟩ => ?_
  subst he
  exact ⟨_, rfl, post_below (pa := _) hW' (trodAll_cons_mk (shut_bool Tryd.underlying4 _) trodAll_mk0) (trodAll_cons_mk (Below.trod laidOut (by kernel_rfl) (of_decide_eq_true (by kernel_rfl)) g0 hg (fun x hx => hlt x (by simp [hx]))) (trodAll_cons_mk (Below.trod laidOut (by kernel_rfl) (of_decide_eq_true (by kernel_rfl)) g1 hg (fun x hx => hlt x (by simp [hx]))) trodAll_mk0)) rfl (by simp) hg⟩

theorem over : Rows.fnBasicsRow.holds Tryd.pinned (OpenSpec.ofChange Rows.fnBasicsSpec) :=
  OpenClaim.holds_of_wide 5 Tryd.f5 rfl rfl rfl rfl rfl rfl rfl ⟨rfl, rfl, rfl, rfl, rfl⟩ rfl rfl rfl rfl rfl (by kernel_rfl) Tryd.func5 (by kernel_rfl)
    (of_decide_eq_true (by kernel_rfl)) (by unfold Func.isWrapper; first | (rw [if_pos (by decide +kernel)]; kernel_rfl) | (rw [if_neg (by decide +kernel)]; exact ⟨rfl, rfl⟩))
    (fun os started H enc _ => lifted os started H enc)

theorem proved : Rows.FnBasicsCardSaid :=
  Claim7.holds_tied_plain_at .later [] [.data, .data, .data, .data, .sentinel, .sentinel, .pinned] true (true, "45b96a5e8dfd957f5c94c1e4d35eac3eda632ca058f13002aff17f858640a35d") true over (fun _ h => by cases h) (by kernel_rfl) (fun _ h => by cases h) fnBasics_row_tie rfl ⟨rfl, rfl⟩ (by kernel_rfl) rfl
    (fun f fn hf hfn => by
      obtain rfl : f = 5 := Option.some.inj ((show Tryd.prog.funcNamed "loop.example/g00953/laws.FnBasics" = some 5 by kernel_rfl).symm.trans hf) |>.symm
      obtain rfl : fn = Tryd.f5 := (Option.some.inj (Tryd.func5.symm.trans hfn)).symm
      exact ⟨by kernel_rfl, fun j t ht => by
        rw [Tryd.params5] at ht
        have hm : t ∈ [33, 33] := by simpa using Array.mem_of_getElem? ht
        have hall : ([33, 33].all fun u => !Tryd.prog.wantsStandIn u) = true := by kernel_rfl
        exact (show Tryd.prog.wantsStandIn t = false by simpa using List.all_eq_true.1 hall t hm)⟩)
    (by kernel_rfl)
#print axioms proved
end fnBasics

end Go.Proofs.YtlolkngklfabfaaDoor
