/-
  Contracts of the numbers that a law's bytes choose, and of the small functions that the law of basics asks for. Under the conditions that each states.
-/
import Derived.Test.YtlolkngklfabfaaDoorRow8
import Derived.Test.YtlolkngklfabfaaDoorInts
import Derived.Test.YtlolkngklfabfaaDoorDraw2
import Derived.Test.YtlolkngklfabfaaDoorPlaces
set_option linter.unusedVariables false
set_option linter.unnecessarySimpa false
set_option maxRecDepth 100000
set_option linter.unusedSimpArgs false
namespace Go.Proofs.YtlolkngklfabfaaDoor
open Go.RowKit BigFrame Go.Deep

theorem long8_any (n m c d : Nat) (A A2 : Option Addr) (w : World) (hn : n ≤ maxLen) (hm : m ≤ maxLen) : Calls Tryd.prog 13 #[.slice A n c, .slice A2 m d] w fun e w' => e = .returned (.bool (decide (1048576 < n) || decide (1048576 < m))) ∧ w = w' := by
  have hn2 : n ≤ 9223372036854775807 := by simpa [maxLen, IntKind.max, IntKind.bits, IntKind.signed] using hn
  have hm2 : m ≤ 9223372036854775807 := by simpa [maxLen, IntKind.max, IntKind.bits, IntKind.signed] using hm
  by_cases h : 1048576 < n
  · go_enter Tryd.func13, Tryd.ntmps13
    go_wp2
    all_goals try (exfalso; omega)
    all_goals (go_ret; exact ⟨ret_bool (by simp; omega), rfl⟩)
  · by_cases h2 : 1048576 < m
    · go_enter Tryd.func13, Tryd.ntmps13
      go_wp2
      all_goals try (exfalso; omega)
      all_goals (go_ret; exact ⟨ret_bool (by simp; omega), rfl⟩)
    · go_enter Tryd.func13, Tryd.ntmps13
      go_wp2
      all_goals try (exfalso; omega)
      all_goals (go_ret; exact ⟨ret_bool (by simp; omega), rfl⟩)
theorem r8At_any (L : List Int) (A : Option Addr) (c B k : Nat) (n : Int) (w : World) (hs : Sl w B A (bytesL L)) (hu : ∀ z ∈ L, IntKind.u8.has z) (hl : L.length ≤ 1048576) (hn : 2 ≤ n) (hn2 : n ≤ 1000000) :
    Calls Tryd.prog 39 #[.slice A L.length c, .int .i64 k, .int .i64 n] w fun e w' => ∃ r : Int, (0 ≤ r ∧ r < n) ∧ e = .returned (.int .i64 r) ∧ w = w' := by
  by_cases hk : k < L.length
  · obtain ⟨b, o, rfl, hb, hc⟩ := hs (by intro e; unfold bytesL at e; rw [List.map_eq_nil_iff] at e; subst e; simp at hk)
    have d0 : w.cell? ⟨b, o + k, none⟩ = some (.int .u8 L[k]) := hc k _ (by unfold bytesL; rw [List.getElem?_map, List.getElem?_eq_getElem hk]; rfl)
    have hz := has_u8 (hu _ (List.getElem_mem hk))
    obtain ⟨z, hz2⟩ : ∃ z, L[k] = z := ⟨_, rfl⟩
    rw [hz2] at d0 hz
    have hm : 0 ≤ z % n ∧ z % n < n := ⟨Int.emod_nonneg _ (by omega), Int.emod_lt_of_pos _ (by omega)⟩
    clear hc hs hu hz2
    go_enter Tryd.func39, Tryd.ntmps39
    go_wp2
    go_ret
    exact ⟨_, hm, rfl, rfl⟩
  · clear hs hu
    go_enter Tryd.func39, Tryd.ntmps39
    go_wp2
    go_ret
    exact ⟨0, by omega, rfl, rfl⟩
theorem r8Wide_any (L : List Int) (A : Option Addr) (c B k : Nat) (n : Int) (w : World) (hs : Sl w B A (bytesL L)) (hu : ∀ z ∈ L, IntKind.u8.has z) (hl : L.length ≤ 1048576) (hk : k ≤ 1000) (hn : 1 ≤ n) (hn2 : n ≤ 1000000000000) :
    Calls Tryd.prog 18 #[.slice A L.length c, .int .i64 k, .int .i64 n] w fun e w' => ∃ r : Int, (0 ≤ r ∧ r < n) ∧ e = .returned (.int .i64 r) ∧ w = w' := by
  have hs' := Lib.hid hs
  have hu' := Lib.hid hu
  clear hs hu
  go_enter Tryd.func18, Tryd.ntmps18
  go_wp2_with fail
  refine (r8At_any L A c B k 256 _ hs'.out hu'.out hl (by omega) (by omega)).mono ?_
  rintro e w1 ⟨r, hr, rfl, rfl⟩
  go_wp2_with fail
  refine (r8At_any L A c B (k + 1) 256 _ hs'.out hu'.out hl (by omega) (by omega)).mono ?_
  rintro e w1 ⟨q, hq, rfl, rfl⟩
  have hm : 0 ≤ (256 * r + q) % n ∧ (256 * r + q) % n < n := ⟨Int.emod_nonneg _ (by omega), Int.emod_lt_of_pos _ (by omega)⟩
  go_wp2
  go_ret
  exact ⟨_, hm, rfl, rfl⟩
theorem r8Abs_any (n : Int) (w : World) (h1 : -1000000000000 ≤ n) (h2 : n ≤ 1000000000000) : Calls Tryd.prog 17 #[.int .i64 n] w fun e w' => e = .returned (.int .i64 (if n < 0 then -n else n)) ∧ w = w' := by
  by_cases h : n < 0
  · rw [if_pos h]
    go_enter Tryd.func17, Tryd.ntmps17
    go_wp2
    all_goals (go_ret; exact ⟨ret_int (by omega), rfl⟩)
  · rw [if_neg h]
    go_enter Tryd.func17, Tryd.ntmps17
    go_wp2
    all_goals (go_ret; exact ⟨ret_int (by omega), rfl⟩)
set_option maxHeartbeats 800000 in
theorem r8Same_same (L : List Int) (A A2 : Option Addr) (c c2 B : Nat) (w : World) (hs : Sl w B A (ints L)) (hs2 : Sl w B A2 (ints L)) (hB : B ≤ w.heap.size) (hl : L.length ≤ 1048576) : Calls Tryd.prog 24 #[.slice A L.length c, .slice A2 L.length c2] w fun e w' => e = .returned (.bool true) ∧ Below w.heap.size w w' := by
  have hs' := Lib.hid hs
  have hs2' := Lib.hid hs2
  clear hs hs2
  go_enter Tryd.func24, Tryd.ntmps24
  go_wp2
  go_loopw [5] (fun i wr => ∃ k : Nat, i = .int .i64 k ∧ k ≤ L.length ∧ Below w.heap.size w wr) (fun i _ => L.length - (intOf i).toNat)
  case atStart => exact ⟨0, rfl, Nat.zero_le _, Below.refl _ _⟩
  case round =>
    obtain ⟨k, rfl, hk, hB1⟩ := hrel
    have hS1 := hB1.size
    by_cases hlt : k < L.length
    · have hne : ints L ≠ [] := by intro e; unfold ints at e; rw [List.map_eq_nil_iff] at e; subst e; simp at hlt
      obtain ⟨bp, op, rfl, hbp, hp⟩ := (hs'.out.below (hB1.mono hB)) hne
      obtain ⟨bq, oq, rfl, hbq, hq⟩ := (hs2'.out.below (hB1.mono hB)) hne
      have dp := hp k _ (ints_at hlt)
      have dq := hq k _ (ints_at hlt)
      have hwp : bp < wr.heap.size := by omega
      have hwq : bq < wr.heap.size := by omega
      clear hp hq hne
      go_wp2_with fail
      refine wp_region_grew (by kernel_rfl) (by kernel_rfl) ?_
      repeat (first | (go_big_quiet_step (fail)) | (quiet_step (fail)))
      refine wpQuiet_nil ?_
      rintro _ ⟨⟨w9, hb9⟩, rfl⟩
      try dsimp only
      obtain ⟨hc9, hf9⟩ := bcell hb9
      go_wp2
      go_roundw
      case rel => exact ⟨k + 1, by go_num, by omega, bnext hB1 hb9⟩
      case measure => simp [intOf]; omega
    · obtain rfl : k = L.length := by omega
      go_wp2
      go_ret
      exact ⟨rfl, hB1⟩
theorem mul_6e4 {p q : Int} (hp : 0 ≤ p ∧ p < 60000) (hq : 0 ≤ q ∧ q < 60000) : 0 ≤ p * q ∧ p * q ≤ 3600000000 := by
  have := mul_bd (x := p) (y := q) (B := 60000) (C := 60000) (by omega) (by omega) (by omega) (by omega)
  exact ⟨Int.mul_nonneg hp.1 hq.1, by omega⟩
theorem r8_numbers (L : List Int) (A : Option Addr) (c B : Nat) (w : World) (hs : Sl w B A (bytesL L)) (hB : B ≤ w.heap.size) (hu : ∀ z ∈ L, IntKind.u8.has z) (hl : L.length ≤ 1048576) :
    Calls Tryd.prog 14 #[.slice A L.length c] w fun e w' => ∃ a b : Int, (-100000 ≤ a ∧ a ≤ 3600000000) ∧ (1 ≤ b ∧ b ≤ 5000) ∧ e = .returned (.tuple #[.int .i64 a, .int .i64 b]) ∧ Below w.heap.size w w' := by
  go_enter Tryd.func14, Tryd.ntmps14
  go_wp2_with fail
  refine (src_from L _ _ B _ hs hB hu hl).mono ?_
  rintro e w1 ⟨rfl, hb1, hs1⟩
  go_wp2_with fail
  refine (src_pick B _ 0 60000 _ (by omega) (by omega) hs1 (by omega)).mono ?_
  rintro e w2 ⟨p, hp, rfl, hg2, hs2⟩
  go_wp2_with fail
  refine (src_pick B _ 2 60000 _ (by omega) (by omega) hs2 (by omega)).mono ?_
  rintro e w3 ⟨q, hq, rfl, hg3, hs3⟩
  have hpq := mul_6e4 hp hq
  obtain ⟨x, hx⟩ : ∃ x, p * q = x := ⟨_, rfl⟩
  rw [hx] at hpq
  go_wp2_with fail
  try rw [hx]
  refine (src_pick B _ 4 5000 _ (by omega) (by omega) hs3 (by omega)).mono ?_
  rintro e w4 ⟨r, hr, rfl, hg4, hs4⟩
  have hB4 : Below w.heap.size w w4 := ((hb1.grown hg2 hb1.size (fun k e => by cases e; exact Nat.le_refl _)).grown hg3 (Nat.le_trans hb1.size hg2.size) (fun k e => by cases e; exact Nat.le_refl _)).grown hg4 (Nat.le_trans (Nat.le_trans hb1.size hg2.size) hg3.size) (fun k e => by cases e; exact Nat.le_refl _)
  go_wp2
  go_ret2
  exact ⟨x - 100000, 1 + r, by omega, by omega, by first | rfl | (rw [hx]), hB4⟩
theorem impl_DivRound (a b : Int) (w : World) (hb : b ≠ 0) (ha1 : -1000000000000 ≤ a) (ha2 : a ≤ 1000000000000) (hb1 : -1000000000000 ≤ b) (hb2 : b ≤ 1000000000000) : Calls Tryd.prog 16 #[.int .i64 a, .int .i64 b] w fun e w' => e = .returned (.int .i64 (divR a b)) ∧ w = w' := by
  have h0 : (b == 0) = false := beq_eq_false_iff_ne.2 hb
  have h1 : inB a (-1000000000000) 1000000000000 = true := inB_mk (by omega) (by omega)
  have h2 : inB b (-1000000000000) 1000000000000 = true := inB_mk (by omega) (by omega)
  go_enter Tryd.func16, Tryd.ntmps16
  go_wp2_with (first | (go_at_call 37; refine (within_any _ _ _ _).mono ?_; rintro e w' ⟨rfl, rfl⟩) | (go_at_call 38; refine (impl_divRound _ _ _ hb (by omega) (by omega) (by omega) (by omega)).mono ?_; rintro e w' ⟨rfl, rfl⟩))
  go_ret
  exact ⟨rfl, rfl⟩
def blM (y z x : Int) : Int := if x ≤ 0 then y else if 1000 ≤ x then z else y + divR ((z - y) * x) 1000
theorem divR_bd {D x : Int} (hD : -10000 ≤ D) (hD2 : D ≤ 10000) (hx : 0 ≤ x) (hx2 : x < 1000) : (0 ≤ D → 0 ≤ divR (D * x) 1000 ∧ divR (D * x) 1000 ≤ D) ∧ (D < 0 → D ≤ divR (D * x) 1000 ∧ divR (D * x) 1000 ≤ 0) := by
  constructor
  · intro h
    have h1 : 0 ≤ D * x := Int.mul_nonneg h hx
    have h2 : D * x ≤ D * 999 := Int.mul_le_mul_of_nonneg_left (by omega) h
    generalize D * x = p at h1 h2 ⊢
    unfold divR
    rw [if_neg (by omega), if_neg (by omega)]
    omega
  · intro h
    have h1 : D * x ≤ 0 := by have := Int.mul_nonneg (show 0 ≤ -D by omega) hx; rw [Int.neg_mul] at this; omega
    have h2 : D * 999 ≤ D * x := by
      have := Int.mul_le_mul_of_nonneg_left (show x ≤ 999 by omega) (show 0 ≤ -D by omega)
      rw [Int.neg_mul, Int.neg_mul] at this; omega
    generalize D * x = p at h1 h2 ⊢
    unfold divR
    rw [if_neg (by omega)]
    split <;> omega
theorem blM_bd {y z x : Int} (hy : -2500 ≤ y ∧ y ≤ 2500) (hz : -2500 ≤ z ∧ z ≤ 2500) (hx : 0 ≤ x) (hx2 : x < 1000) : (y ≤ blM y z x ∧ blM y z x ≤ z) ∨ (z ≤ blM y z x ∧ blM y z x ≤ y) := by
  have h := divR_bd (D := z - y) (x := x) (by omega) (by omega) hx hx2
  unfold blM
  rw [if_neg (show ¬ 1000 ≤ x by omega)]
  split
  · omega
  · omega
theorem impl_blend (y z x : Int) (w : World) (hy : -2500 ≤ y ∧ y ≤ 2500) (hz : -2500 ≤ z ∧ z ≤ 2500) (hx : 0 ≤ x ∧ x ≤ 1000) : Calls Tryd.prog 40 #[.int .i64 0, .int .i64 y, .int .i64 1000, .int .i64 z, .int .i64 x] w fun e w' => e = .returned (.int .i64 (blM y z x)) ∧ w = w' := by
  by_cases h0 : x ≤ 0
  · have hm : Hid (blM y z x = y) := Lib.hid (by unfold blM; rw [if_pos h0])
    go_enter Tryd.func40, Tryd.ntmps40
    go_wp2
    go_ret
    exact ⟨ret_int hm.out.symm, rfl⟩
  by_cases h1 : 1000 ≤ x
  · have hm : Hid (blM y z x = z) := Lib.hid (by unfold blM; rw [if_neg h0, if_pos h1])
    go_enter Tryd.func40, Tryd.ntmps40
    go_wp2
    go_ret
    exact ⟨ret_int hm.out.symm, rfl⟩
  have hb := divR_bd (D := z - y) (x := x) (by omega) (by omega) (by omega) (by omega)
  have hpb := mul_bd (x := z - y) (y := x) (B := 10000) (C := 1000) (by omega) (by omega) (by omega) (by omega)
  have hm : Hid (blM y z x = y + divR ((z - y) * x) 1000) := Lib.hid (by unfold blM; rw [if_neg h0, if_neg h1])
  obtain ⟨p, hp⟩ : ∃ p, (z - y) * x = p := ⟨_, rfl⟩
  rw [hp] at hb hpb hm
  have hq : -10000 ≤ divR p 1000 ∧ divR p 1000 ≤ 10000 := by
    rcases (by omega : 0 ≤ z - y ∨ z - y < 0) with h | h
    · have := hb.1 h; omega
    · have := hb.2 h; omega
  have hdr : ∀ w, Calls Tryd.prog 38 #[.int .i64 p, .int .i64 1000] w fun e w' => e = .returned (.int .i64 (divR p 1000)) ∧ w = w' := fun w => impl_divRound p 1000 w (by omega) (by omega) (by omega) (by omega) (by omega)
  generalize divR p 1000 = q at hq hm hdr
  clear hb
  go_enter Tryd.func40, Tryd.ntmps40
  go_wp2_with ((try rw [hp]); (go_at_call 38; refine (hdr _).mono ?_; rintro e w' ⟨rfl, rfl⟩))
  go_ret
  exact ⟨ret_int hm.out.symm, rfl⟩
set_option maxHeartbeats 800000 in
theorem impl_Blend (y z x : Int) (w : World) (hy : -2500 ≤ y ∧ y ≤ 2500) (hz : -2500 ≤ z ∧ z ≤ 2500) (hx : 0 ≤ x ∧ x ≤ 1000) : Calls Tryd.prog 19 #[.int .i64 0, .int .i64 y, .int .i64 1000, .int .i64 z, .int .i64 x] w fun e w' => e = .returned (.int .i64 (blM y z x)) ∧ w = w' := by
  have i0 : inB 0 (-1000000) 1000000 = true := by decide
  have i1 : inB y (-1000000) 1000000 = true := inB_mk (by omega) (by omega)
  have i2 : inB 1000 (-1000000) 1000000 = true := by decide
  have i3 : inB z (-1000000) 1000000 = true := inB_mk (by omega) (by omega)
  have hget : ∀ k : Nat, k < 4 → ∃ v, (#[.int .i64 0, .int .i64 y, .int .i64 1000, .int .i64 z] : Array Value)[k]? = some (.int .i64 v) ∧ inB v (-1000000) 1000000 = true := fun k hk => by
    match k, hk with
    | 0, _ => exact ⟨0, rfl, i0⟩
    | 1, _ => exact ⟨y, rfl, i1⟩
    | 2, _ => exact ⟨1000, rfl, i2⟩
    | 3, _ => exact ⟨z, rfl, i3⟩
  have hget' := Lib.hid hget
  clear hget i0 i1 i2 i3
  go_enter Tryd.func19, Tryd.ntmps19
  go_wp2_with fail
  generalize (#[.int .i64 0, .int .i64 y, .int .i64 1000, .int .i64 z] : Array Value) = cs at hget' ⊢
  go_loopw [18] (fun i wr => ∃ k : Nat, i = .int .i64 k ∧ k ≤ 4 ∧ w = wr) (fun i _ => 4 - (intOf i).toNat)
  case atStart => exact ⟨0, rfl, by omega, rfl⟩
  case round =>
    obtain ⟨k, rfl, hk, rfl⟩ := hrel
    by_cases hlt : k < 4
    · obtain ⟨v, hv, hin⟩ := hget'.out k hlt
      have hix := fun w => run_index_arr (P := Tryd.prog) (w := w) (e := 2) Tryd.underlying63 Tryd.underlying2 (by kernel_rfl) k hlt hv
      go_wp2_with (go_at_call 37; refine (within_any _ _ _ _).mono ?_; rintro e w' ⟨rfl, rfl⟩)
      go_roundw
      case rel => exact ⟨k + 1, by go_num, by omega, by first | rfl | trivial⟩
      case measure => simp [intOf]; omega
    · obtain rfl : k = 4 := by omega
      go_wp2_with (go_at_call 40; refine (impl_blend y z x _ hy hz hx).mono ?_; rintro e w' ⟨rfl, rfl⟩)
      go_ret
      exact ⟨rfl, rfl⟩
end Go.Proofs.YtlolkngklfabfaaDoor
