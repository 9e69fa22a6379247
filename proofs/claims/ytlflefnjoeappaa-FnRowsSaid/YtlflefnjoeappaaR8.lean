/-
  Contracts of the numbers that a law's bytes choose, and of the small functions that the law of basics asks for. Under the conditions that each states.
-/
import Derived.Test.YtlflefnjoeappaaRow8
import Derived.Test.YtlflefnjoeappaaInts
import Derived.Test.YtlflefnjoeappaaDraw2
import Derived.Test.YtlflefnjoeappaaPlaces
set_option linter.unusedVariables false
set_option linter.unnecessarySimpa false
set_option maxRecDepth 100000
set_option linter.unusedSimpArgs false
namespace Go.Proofs.Ytlflefnjoeappaa
open Go.RowKit BigFrame Go.Deep

theorem long8_any (n m c d : Nat) (A A2 : Option Addr) (w : World) (hn : n ≤ maxLen) (hm : m ≤ maxLen) : Calls Try.prog 30 #[.slice A n c, .slice A2 m d] w fun e w' => e = .returned (.bool (decide (1048576 < n) || decide (1048576 < m))) ∧ w = w' := by
  have hn2 : n ≤ 9223372036854775807 := by simpa [maxLen, IntKind.max, IntKind.bits, IntKind.signed] using hn
  have hm2 : m ≤ 9223372036854775807 := by simpa [maxLen, IntKind.max, IntKind.bits, IntKind.signed] using hm
  by_cases h : 1048576 < n
  · go_enter Try.func30, Try.ntmps30
    go_wp2
    all_goals try (exfalso; omega)
    all_goals (go_ret; exact ⟨ret_bool (by simp; omega), rfl⟩)
  · by_cases h2 : 1048576 < m
    · go_enter Try.func30, Try.ntmps30
      go_wp2
      all_goals try (exfalso; omega)
      all_goals (go_ret; exact ⟨ret_bool (by simp; omega), rfl⟩)
    · go_enter Try.func30, Try.ntmps30
      go_wp2
      all_goals try (exfalso; omega)
      all_goals (go_ret; exact ⟨ret_bool (by simp; omega), rfl⟩)
theorem r8At_any (L : List Int) (A : Option Addr) (c B k : Nat) (n : Int) (w : World) (hs : Sl w B A (bytesL L)) (hu : ∀ z ∈ L, IntKind.u8.has z) (hl : L.length ≤ 1048576) (hn : 2 ≤ n) (hn2 : n ≤ 1000000) :
    Calls Try.prog 37 #[.slice A L.length c, .int .i64 k, .int .i64 n] w fun e w' => ∃ r : Int, (0 ≤ r ∧ r < n) ∧ e = .returned (.int .i64 r) ∧ w = w' := by
  by_cases hk : k < L.length
  · obtain ⟨b, o, rfl, hb, hc⟩ := hs (by intro e; unfold bytesL at e; rw [List.map_eq_nil_iff] at e; subst e; simp at hk)
    have d0 : w.cell? ⟨b, o + k, none⟩ = some (.int .u8 L[k]) := hc k _ (by unfold bytesL; rw [List.getElem?_map, List.getElem?_eq_getElem hk]; rfl)
    have hz := has_u8 (hu _ (List.getElem_mem hk))
    obtain ⟨z, hz2⟩ : ∃ z, L[k] = z := ⟨_, rfl⟩
    rw [hz2] at d0 hz
    have hm : 0 ≤ z % n ∧ z % n < n := ⟨Int.emod_nonneg _ (by omega), Int.emod_lt_of_pos _ (by omega)⟩
    clear hc hs hu hz2
    go_enter Try.func37, Try.ntmps37
    go_wp2
    go_ret
    exact ⟨_, hm, rfl, rfl⟩
  · clear hs hu
    go_enter Try.func37, Try.ntmps37
    go_wp2
    go_ret
    exact ⟨0, by omega, rfl, rfl⟩
theorem r8Wide_any (L : List Int) (A : Option Addr) (c B k : Nat) (n : Int) (w : World) (hs : Sl w B A (bytesL L)) (hu : ∀ z ∈ L, IntKind.u8.has z) (hl : L.length ≤ 1048576) (hk : k ≤ 1000) (hn : 1 ≤ n) (hn2 : n ≤ 1000000000000) :
    Calls Try.prog 32 #[.slice A L.length c, .int .i64 k, .int .i64 n] w fun e w' => ∃ r : Int, (0 ≤ r ∧ r < n) ∧ e = .returned (.int .i64 r) ∧ w = w' := by
  have hs' := Lib.hid hs
  have hu' := Lib.hid hu
  clear hs hu
  go_enter Try.func32, Try.ntmps32
  go_wp2_with fail
  refine (r8At_any L A c B k 256 _ hs'.out hu'.out hl (by omega) (by omega)).mono ?_
  rintro e w1 ⟨r, hr, rfl, rfl⟩
  go_wp2_with fail
  refine (r8At_any L A c B (k + 1) 256 _ hs'.out hu'.out hl (by omega) (by omega)).mono ?_
  rintro e w1 ⟨q, hq, rfl, rfl⟩
  have hm : 0 ≤ (256 * r + q) % n ∧ (256 * r + q) % n < n := ⟨Int.emod_nonneg _ (by omega), Int.emod_lt_of_pos _ (by omega)⟩
  go_wp2
  go_ret
  exact ⟨_, hm, rfl, rfl⟩
set_option maxHeartbeats 800000 in
theorem r8Same_same (L : List Int) (A A2 : Option Addr) (c c2 B : Nat) (w : World) (hs : Sl w B A (ints L)) (hs2 : Sl w B A2 (ints L)) (hB : B ≤ w.heap.size) (hl : L.length ≤ 1048576) : Calls Try.prog 38 #[.slice A L.length c, .slice A2 L.length c2] w fun e w' => e = .returned (.bool true) ∧ Below w.heap.size w w' := by
  have hs' := Lib.hid hs
  have hs2' := Lib.hid hs2
  clear hs hs2
  go_enter Try.func38, Try.ntmps38
  go_wp2
  go_loopw [5] (fun i wr => ∃ k : Nat, i = .int .i64 k ∧ k ≤ L.length ∧ Below w.heap.size w wr) (fun i _ => L.length - (intOf i).toNat)
  case atStart => exact ⟨0, rfl, Nat.zero_le _, Below.refl _ _⟩
  case round =>
    obtain ⟨k, rfl, hk, hB1⟩ := hrel
    have hS1 := hB1.size
    by_cases hlt : k < L.length
    · have hne : ints L ≠ [] := by intro e; unfold ints at e; rw [List.map_eq_nil_iff] at e; subst e; simp at hlt
      obtain ⟨bp, op, rfl, hbp, hp⟩ := (hs'.out.below (hB1.mono hB)) hne
      obtain ⟨bq, oq, rfl, hbq, hq⟩ := (hs2'.out.below (hB1.mono hB)) hne
      have dp := hp k _ (ints_at hlt)
      have dq := hq k _ (ints_at hlt)
      have hwp : bp < wr.heap.size := by omega
      have hwq : bq < wr.heap.size := by omega
      clear hp hq hne
      go_wp2_with fail
      refine wp_region_grew (by kernel_rfl) (by kernel_rfl) ?_
      repeat (first | (go_big_quiet_step (fail)) | (quiet_step (fail)))
      refine wpQuiet_nil ?_
      rintro _ ⟨⟨w9, hb9⟩, rfl⟩
      try dsimp only
      obtain ⟨hc9, hf9⟩ := bcell hb9
      go_wp2
      go_roundw
      case rel => exact ⟨k + 1, by go_num, by omega, bnext hB1 hb9⟩
      case measure => simp [intOf]; omega
    · obtain rfl : k = L.length := by omega
      go_wp2
      go_ret
      exact ⟨rfl, hB1⟩
end Go.Proofs.Ytlflefnjoeappaa
