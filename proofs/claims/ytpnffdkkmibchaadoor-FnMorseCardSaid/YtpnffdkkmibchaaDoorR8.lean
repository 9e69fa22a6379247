/-
  Contracts of the numbers that a law's bytes choose, and of the small functions that the law of basics asks for. Under the conditions that each states.
-/
import Derived.Test.YtpnffdkkmibchaaDoorRow8
import Derived.Test.YtpnffdkkmibchaaDoorInts
import Derived.Test.YtpnffdkkmibchaaDoorDraw2
import Derived.Test.YtpnffdkkmibchaaDoorPlaces
set_option linter.unusedVariables false
set_option linter.unnecessarySimpa false
set_option maxRecDepth 100000
set_option linter.unusedSimpArgs false
namespace Go.Proofs.YtpnffdkkmibchaaDoor
open Go.RowKit BigFrame Go.Deep

theorem long8_any (n m c d : Nat) (A A2 : Option Addr) (w : World) (hn : n ≤ maxLen) (hm : m ≤ maxLen) : Calls Tryd.prog 4 #[.slice A n c, .slice A2 m d] w fun e w' => e = .returned (.bool (decide (1048576 < n) || decide (1048576 < m))) ∧ w = w' := by
  have hn2 : n ≤ 9223372036854775807 := by simpa [maxLen, IntKind.max, IntKind.bits, IntKind.signed] using hn
  have hm2 : m ≤ 9223372036854775807 := by simpa [maxLen, IntKind.max, IntKind.bits, IntKind.signed] using hm
  by_cases h : 1048576 < n
  · go_enter Tryd.func4, Tryd.ntmps4
    go_wp2
    all_goals try (exfalso; omega)
    all_goals (go_ret; exact ⟨ret_bool (by simp; omega), rfl⟩)
  · by_cases h2 : 1048576 < m
    · go_enter Tryd.func4, Tryd.ntmps4
      go_wp2
      all_goals try (exfalso; omega)
      all_goals (go_ret; exact ⟨ret_bool (by simp; omega), rfl⟩)
    · go_enter Tryd.func4, Tryd.ntmps4
      go_wp2
      all_goals try (exfalso; omega)
      all_goals (go_ret; exact ⟨ret_bool (by simp; omega), rfl⟩)
theorem r8At_any (L : List Int) (A : Option Addr) (c B k : Nat) (n : Int) (w : World) (hs : Sl w B A (bytesL L)) (hu : ∀ z ∈ L, IntKind.u8.has z) (hl : L.length ≤ 1048576) (hn : 2 ≤ n) (hn2 : n ≤ 1000000) :
    Calls Tryd.prog 5 #[.slice A L.length c, .int .i64 k, .int .i64 n] w fun e w' => ∃ r : Int, (0 ≤ r ∧ r < n) ∧ e = .returned (.int .i64 r) ∧ w = w' := by
  by_cases hk : k < L.length
  · obtain ⟨b, o, rfl, hb, hc⟩ := hs (by intro e; unfold bytesL at e; rw [List.map_eq_nil_iff] at e; subst e; simp at hk)
    have d0 : w.cell? ⟨b, o + k, none⟩ = some (.int .u8 L[k]) := hc k _ (by unfold bytesL; rw [List.getElem?_map, List.getElem?_eq_getElem hk]; rfl)
    have hz := has_u8 (hu _ (List.getElem_mem hk))
    obtain ⟨z, hz2⟩ : ∃ z, L[k] = z := ⟨_, rfl⟩
    rw [hz2] at d0 hz
    have hm : 0 ≤ z % n ∧ z % n < n := ⟨Int.emod_nonneg _ (by omega), Int.emod_lt_of_pos _ (by omega)⟩
    clear hc hs hu hz2
    go_enter Tryd.func5, Tryd.ntmps5
    go_wp2
    go_ret
    exact ⟨_, hm, rfl, rfl⟩
  · clear hs hu
    go_enter Tryd.func5, Tryd.ntmps5
    go_wp2
    go_ret
    exact ⟨0, by omega, rfl, rfl⟩
end Go.Proofs.YtpnffdkkmibchaaDoor
