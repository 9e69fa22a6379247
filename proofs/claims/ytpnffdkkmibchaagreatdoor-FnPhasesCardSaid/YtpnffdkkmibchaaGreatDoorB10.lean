/-
  Contracts of the laws' own helpers that choose numbers by bytes. Under the conditions that each states.
-/
import Derived.Test.YtpnffdkkmibchaaGreatDoorBase
set_option linter.unusedVariables false
set_option linter.unnecessarySimpa false
set_option maxRecDepth 100000
set_option linter.unusedSimpArgs false
namespace Go.Proofs.YtpnffdkkmibchaaGreatDoor
open Go.RowKit BigFrame

theorem b10Long_any (n c : Nat) (A : Option Addr) (w : World) (hn : n ≤ maxLen) : Calls Tryz.prog 4 #[.slice A n c] w fun e w' => e = .returned (.bool (decide (1048576 < n))) ∧ w = w' := by
  have hn2 : n ≤ 9223372036854775807 := by simpa [maxLen, IntKind.max, IntKind.bits, IntKind.signed] using hn
  by_cases h : 1048576 < n
  · go_enter Tryz.func4, Tryz.ntmps4
    go_wp2
    go_ret
    exact ⟨ret_bool (by simp; omega), rfl⟩
  · go_enter Tryz.func4, Tryz.ntmps4
    go_wp2
    go_ret
    exact ⟨ret_bool (by simp; omega), rfl⟩
theorem b10At_any (L : List Int) (A : Option Addr) (c B k : Nat) (n : Int) (w : World) (hs : Sl w B A (L.map (Value.int .u8))) (hu : ∀ z ∈ L, IntKind.u8.has z) (hl : L.length ≤ 1048576) (hk : k ≤ 1000000) (hn : 2 ≤ n) (hn2 : n ≤ 1000000) :
    Calls Tryz.prog 36 #[.slice A L.length c, .int .i64 k, .int .i64 n] w fun e w' => ∃ r : Int, (0 ≤ r ∧ r < n) ∧ e = .returned (.int .i64 r) ∧ w = w' := by
  by_cases hlt : k < L.length
  · obtain ⟨b, o, rfl, hb, hc⟩ := hs (by intro e; rw [List.map_eq_nil_iff] at e; subst e; simp at hlt)
    have d0 : w.cell? ⟨b, o + k, none⟩ = some (.int .u8 L[k]) := hc k _ (by rw [List.getElem?_map, List.getElem?_eq_getElem hlt]; rfl)
    have hz := has_u8 (hu _ (List.getElem_mem hlt))
    obtain ⟨z, hz2⟩ : ∃ z, L[k] = z := ⟨_, rfl⟩
    rw [hz2] at d0 hz
    have hm : 0 ≤ z % n ∧ z % n < n := ⟨Int.emod_nonneg _ (by omega), Int.emod_lt_of_pos _ (by omega)⟩
    clear hc hs hu hz2
    go_enter Tryz.func36, Tryz.ntmps36
    go_wp2
    go_ret
    exact ⟨_, hm, rfl, rfl⟩
  · clear hs hu
    have hm : 0 ≤ ((k : Int) * 37 + 11) % n ∧ ((k : Int) * 37 + 11) % n < n := ⟨Int.emod_nonneg _ (by omega), Int.emod_lt_of_pos _ (by omega)⟩
    go_enter Tryz.func36, Tryz.ntmps36
    go_wp2
    go_ret
    exact ⟨_, hm, rfl, rfl⟩
theorem b10Wide_any (L : List Int) (A : Option Addr) (c B k : Nat) (n : Int) (w : World) (hs : Sl w B A (L.map (Value.int .u8))) (hu : ∀ z ∈ L, IntKind.u8.has z) (hl : L.length ≤ 1048576) (hk : k ≤ 1000) (hn : 1 ≤ n) (hn2 : n ≤ 1000000000000) :
    Calls Tryz.prog 14 #[.slice A L.length c, .int .i64 k, .int .i64 n] w fun e w' => ∃ r : Int, (0 ≤ r ∧ r < n) ∧ e = .returned (.int .i64 r) ∧ w = w' := by
  have hs' := Lib.hid hs
  have hu' := Lib.hid hu
  clear hs hu
  go_enter Tryz.func14, Tryz.ntmps14
  go_wp2_with fail
  refine (b10At_any L A c B k 256 _ hs'.out hu'.out hl (by omega) (by omega) (by omega)).mono ?_
  rintro e w1 ⟨r, hr, rfl, rfl⟩
  go_wp2_with fail
  refine (b10At_any L A c B (k + 1) 256 _ hs'.out hu'.out hl (by omega) (by omega) (by omega)).mono ?_
  rintro e w1 ⟨q, hq, rfl, rfl⟩
  have hm : 0 ≤ (256 * r + q) % n ∧ (256 * r + q) % n < n := ⟨Int.emod_nonneg _ (by omega), Int.emod_lt_of_pos _ (by omega)⟩
  go_wp2
  go_ret
  exact ⟨_, hm, rfl, rfl⟩
end Go.Proofs.YtpnffdkkmibchaaGreatDoor
