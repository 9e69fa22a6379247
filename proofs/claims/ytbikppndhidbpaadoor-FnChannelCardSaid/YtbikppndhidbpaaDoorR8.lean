/-
  Contracts of the numbers that a law's bytes choose, and of the small functions that the law of basics asks for. Under the conditions that each states.
-/
import Derived.Test.YtbikppndhidbpaaDoorRow8
import Derived.Test.YtbikppndhidbpaaDoorInts
import Derived.Test.YtbikppndhidbpaaDoorDraw2
import Derived.Test.YtbikppndhidbpaaDoorPlaces
set_option linter.unusedVariables false
set_option linter.unnecessarySimpa false
set_option maxRecDepth 100000
set_option linter.unusedSimpArgs false
namespace Go.Proofs.YtbikppndhidbpaaDoor
open Go.RowKit BigFrame Go.Deep

theorem long8_any (n m c d : Nat) (A A2 : Option Addr) (w : World) (hn : n ≤ maxLen) (hm : m ≤ maxLen) : Calls Tryd.prog 7 #[.slice A n c, .slice A2 m d] w fun e w' => e = .returned (.bool (decide (1048576 < n) || decide (1048576 < m))) ∧ w = w' := by
  have hn2 : n ≤ 9223372036854775807 := by simpa [maxLen, IntKind.max, IntKind.bits, IntKind.signed] using hn
  have hm2 : m ≤ 9223372036854775807 := by simpa [maxLen, IntKind.max, IntKind.bits, IntKind.signed] using hm
  by_cases h : 1048576 < n
  · go_enter Tryd.func7, Tryd.ntmps7
    go_wp2
    all_goals try (exfalso; omega)
    all_goals (go_ret; exact ⟨ret_bool (by simp; omega), rfl⟩)
  · by_cases h2 : 1048576 < m
    · go_enter Tryd.func7, Tryd.ntmps7
      go_wp2
      all_goals try (exfalso; omega)
      all_goals (go_ret; exact ⟨ret_bool (by simp; omega), rfl⟩)
    · go_enter Tryd.func7, Tryd.ntmps7
      go_wp2
      all_goals try (exfalso; omega)
      all_goals (go_ret; exact ⟨ret_bool (by simp; omega), rfl⟩)
theorem r8At_any (L : List Int) (A : Option Addr) (c B k : Nat) (n : Int) (w : World) (hs : Sl w B A (bytesL L)) (hu : ∀ z ∈ L, IntKind.u8.has z) (hl : L.length ≤ 1048576) (hn : 2 ≤ n) (hn2 : n ≤ 1000000) :
    Calls Tryd.prog 8 #[.slice A L.length c, .int .i64 k, .int .i64 n] w fun e w' => ∃ r : Int, (0 ≤ r ∧ r < n) ∧ e = .returned (.int .i64 r) ∧ w = w' := by
  by_cases hk : k < L.length
  · obtain ⟨b, o, rfl, hb, hc⟩ := hs (by intro e; unfold bytesL at e; rw [List.map_eq_nil_iff] at e; subst e; simp at hk)
    have d0 : w.cell? ⟨b, o + k, none⟩ = some (.int .u8 L[k]) := hc k _ (by unfold bytesL; rw [List.getElem?_map, List.getElem?_eq_getElem hk]; rfl)
    have hz := has_u8 (hu _ (List.getElem_mem hk))
    obtain ⟨z, hz2⟩ : ∃ z, L[k] = z := ⟨_, rfl⟩
    rw [hz2] at d0 hz
    have hm : 0 ≤ z % n ∧ z % n < n := ⟨Int.emod_nonneg _ (by omega), Int.emod_lt_of_pos _ (by omega)⟩
    clear hc hs hu hz2
    go_enter Tryd.func8, Tryd.ntmps8
    go_wp2
    go_ret
    exact ⟨_, hm, rfl, rfl⟩
  · clear hs hu
    go_enter Tryd.func8, Tryd.ntmps8
    go_wp2
    go_ret
    exact ⟨0, by omega, rfl, rfl⟩
theorem r8Wide_any (L : List Int) (A : Option Addr) (c B k : Nat) (n : Int) (w : World) (hs : Sl w B A (bytesL L)) (hu : ∀ z ∈ L, IntKind.u8.has z) (hl : L.length ≤ 1048576) (hk : k ≤ 1000) (hn : 1 ≤ n) (hn2 : n ≤ 1000000000000) :
    Calls Tryd.prog 41 #[.slice A L.length c, .int .i64 k, .int .i64 n] w fun e w' => ∃ r : Int, (0 ≤ r ∧ r < n) ∧ e = .returned (.int .i64 r) ∧ w = w' := by
  have hs' := Lib.hid hs
  have hu' := Lib.hid hu
  clear hs hu
  go_enter Tryd.func41, Tryd.ntmps41
  go_wp2_with fail
  refine (r8At_any L A c B k 256 _ hs'.out hu'.out hl (by omega) (by omega)).mono ?_
  rintro e w1 ⟨r, hr, rfl, rfl⟩
  go_wp2_with fail
  refine (r8At_any L A c B (k + 1) 256 _ hs'.out hu'.out hl (by omega) (by omega)).mono ?_
  rintro e w1 ⟨q, hq, rfl, rfl⟩
  have hm : 0 ≤ (256 * r + q) % n ∧ (256 * r + q) % n < n := ⟨Int.emod_nonneg _ (by omega), Int.emod_lt_of_pos _ (by omega)⟩
  go_wp2
  go_ret
  exact ⟨_, hm, rfl, rfl⟩
def blM (y z x : Int) : Int := if x ≤ 0 then y else if 1000 ≤ x then z else y + divR ((z - y) * x) 1000
theorem divR_bdK {D x : Int} (hD : -10000 ≤ D) (hD2 : D ≤ 10000) (hx : 0 ≤ x) (hx2 : x < 1000) : (0 ≤ D → 0 ≤ divR (D * x) 1000 ∧ divR (D * x) 1000 ≤ D) ∧ (D < 0 → D ≤ divR (D * x) 1000 ∧ divR (D * x) 1000 ≤ 0) := by
  constructor
  · intro h
    have h1 : 0 ≤ D * x := Int.mul_nonneg h hx
    have h2 : D * x ≤ D * 999 := Int.mul_le_mul_of_nonneg_left (by omega) h
    generalize D * x = p at h1 h2 ⊢
    unfold divR
    rw [if_neg (by omega), if_neg (by omega)]
    omega
  · intro h
    have h1 : D * x ≤ 0 := by have := Int.mul_nonneg (show 0 ≤ -D by omega) hx; rw [Int.neg_mul] at this; omega
    have h2 : D * 999 ≤ D * x := by
      have := Int.mul_le_mul_of_nonneg_left (show x ≤ 999 by omega) (show 0 ≤ -D by omega)
      rw [Int.neg_mul, Int.neg_mul] at this; omega
    generalize D * x = p at h1 h2 ⊢
    unfold divR
    rw [if_neg (by omega)]
    split <;> omega
theorem blM_bd {y z x : Int} (hy : -2500 ≤ y ∧ y ≤ 2500) (hz : -2500 ≤ z ∧ z ≤ 2500) (hx : 0 ≤ x) (hx2 : x < 1000) : (y ≤ blM y z x ∧ blM y z x ≤ z) ∨ (z ≤ blM y z x ∧ blM y z x ≤ y) := by
  have h := divR_bdK (D := z - y) (x := x) (by omega) (by omega) hx hx2
  unfold blM
  rw [if_neg (show ¬ 1000 ≤ x by omega)]
  split
  · omega
  · omega
theorem impl_blend (y z x : Int) (w : World) (hy : -2500 ≤ y ∧ y ≤ 2500) (hz : -2500 ≤ z ∧ z ≤ 2500) (hx : 0 ≤ x ∧ x ≤ 1000) : Calls Tryd.prog 127 #[.int .i64 0, .int .i64 y, .int .i64 1000, .int .i64 z, .int .i64 x] w fun e w' => e = .returned (.int .i64 (blM y z x)) ∧ w = w' := by
  by_cases h0 : x ≤ 0
  · have hm : Hid (blM y z x = y) := Lib.hid (by unfold blM; rw [if_pos h0])
    go_enter Tryd.func127, Tryd.ntmps127
    go_wp2
    go_ret
    exact ⟨ret_int hm.out.symm, rfl⟩
  by_cases h1 : 1000 ≤ x
  · have hm : Hid (blM y z x = z) := Lib.hid (by unfold blM; rw [if_neg h0, if_pos h1])
    go_enter Tryd.func127, Tryd.ntmps127
    go_wp2
    go_ret
    exact ⟨ret_int hm.out.symm, rfl⟩
  have hb := divR_bdK (D := z - y) (x := x) (by omega) (by omega) (by omega) (by omega)
  have hpb := mul_bd (x := z - y) (y := x) (B := 10000) (C := 1000) (by omega) (by omega) (by omega) (by omega)
  have hm : Hid (blM y z x = y + divR ((z - y) * x) 1000) := Lib.hid (by unfold blM; rw [if_neg h0, if_neg h1])
  obtain ⟨p, hp⟩ : ∃ p, (z - y) * x = p := ⟨_, rfl⟩
  rw [hp] at hb hpb hm
  have hq : -10000 ≤ divR p 1000 ∧ divR p 1000 ≤ 10000 := by
    rcases (by omega : 0 ≤ z - y ∨ z - y < 0) with h | h
    · have := hb.1 h; omega
    · have := hb.2 h; omega
  have hdr : ∀ w, Calls Tryd.prog 111 #[.int .i64 p, .int .i64 1000] w fun e w' => e = .returned (.int .i64 (divR p 1000)) ∧ w = w' := fun w => impl_divRound p 1000 w (by omega) (by omega) (by omega) (by omega) (by omega)
  generalize divR p 1000 = q at hq hm hdr
  clear hb
  go_enter Tryd.func127, Tryd.ntmps127
  go_wp2_with ((try rw [hp]); (go_at_call 111; refine (hdr _).mono ?_; rintro e w' ⟨rfl, rfl⟩))
  go_ret
  exact ⟨ret_int hm.out.symm, rfl⟩
end Go.Proofs.YtbikppndhidbpaaDoor
