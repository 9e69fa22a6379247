/-
  Contracts of drawn angles: the source out of a text, an angle, two angles. Each under the conditions that it states.
-/
import Derived.Test.YtnikdafbnkedkaaDraw
set_option linter.unusedVariables false
set_option linter.unnecessarySimpa false
set_option maxRecDepth 100000
set_option linter.unusedSimpArgs false
namespace Go.Proofs.Ytnikdafbnkedkaa
open Go.RowKit BigFrame

theorem src_from (L : List Int) (A : Option Addr) (c B : Nat) (w : World) (hs : Sl w B A (L.map (Value.int .u8))) (hB : B ≤ w.heap.size) (hu : ∀ z ∈ L, IntKind.u8.has z) (hl : L.length ≤ 1048576) :
    Calls Try.prog 71 #[.slice A L.length c] w fun e w' => e = .returned (.pointer (some ⟨w.heap.size, 0, none⟩)) ∧ Below w.heap.size w w' ∧ SrcAt w' B w.heap.size 0 := by
  have hs' := Lib.hid hs
  have hu' := Lib.hid hu
  clear hs hu
  go_enter Try.func71, Try.ntmps71
  go_wp2
  go_ret
  exact ⟨rfl, by go_grown, hB, by simp, by omega, A, c, L, 0, 0, by simp [go_sem], by simp [go_sem], by simp [go_sem], by simp [go_sem], by simp [go_sem], hs'.out.below (by go_grown), hu'.out, hl, Nat.le_refl _, by simp [IntKind.has, IntKind.min, IntKind.max, IntKind.signed, IntKind.bits]⟩

theorem src_angle (B g K : Nat) (w : World) (hs : SrcAt w B g K) (hK : K + 4 ≤ 1000000000) :
    Calls Try.prog 82 #[.pointer (some ⟨g, 0, none⟩)] w fun e w' => ∃ r : Int, IntKind.i64.has r ∧ e = .returned (.int .i64 r) ∧ w.grownBy w' (some g) ∧ SrcAt w' B g (K + 4) := by
  go_enter Try.func82, Try.ntmps82
  go_wp2_with fail
  refine (src_one B g K 4 _ (by omega) (by omega) hs (by omega)).mono ?_
  rintro e w1 ⟨b, rfl, hg1, hs1⟩
  cases b
  · go_wp2_with fail
    refine (src_pick B g (K + 2) 720 _ (by omega) (by omega) hs1 (by omega)).mono ?_
    rintro e w2 ⟨r, hr, rfl, hg2, hs2⟩
    go_wp2
    go_ret
    exact ⟨r - 360, by simp [IntKind.has, IntKind.min, IntKind.max, IntKind.signed, IntKind.bits]; omega, rfl, World.grownBy.trans hg1 hg2, hs2⟩
  · go_wp2_with fail
    refine (src_among B g (K + 2) w1.heap.size 0 9 [0, 90, 180, 270, 360, -90, 450, 9223372036854775807, -9223372036854775808] _ (by simp) (by simp) (hs1.on (by go_grown)) (by omega) (by simp) (by have := hs1.2.1; omega) (fun j u hu => by rw [Nat.zero_add, World.cell?_alloc_new]; simpa using hu)).mono ?_
    rintro e w2 ⟨r, hr, rfl, hg2, hs2⟩
    go_wp2
    go_ret
    exact ⟨r, by simp [IntKind.has, IntKind.min, IntKind.max, IntKind.signed, IntKind.bits]; simp at hr; omega, rfl, World.grownBy.trans (Go.Lib.grownBy_allocR hg1 _) hg2, hs2⟩
theorem draw_turn (L : List Int) (A : Option Addr) (c B : Nat) (w : World) (hs : Sl w B A (L.map (Value.int .u8))) (hB : B ≤ w.heap.size) (hu : ∀ z ∈ L, IntKind.u8.has z) (hl : L.length ≤ 1048576) :
    Calls Try.prog 19 #[.slice A L.length c] w fun e w' => ∃ a b : Int, IntKind.i64.has a ∧ IntKind.i64.has b ∧ e = .returned (.tuple #[.int .i64 a, .int .i64 b]) ∧ Below w.heap.size w w' := by
  go_enter Try.func19, Try.ntmps19
  go_wp2_with fail
  refine (src_from L _ _ B _ hs hB hu hl).mono ?_
  rintro e w1 ⟨rfl, hb1, hs1⟩
  go_wp2_with fail
  refine (src_angle B _ 0 _ hs1 (by omega)).mono ?_
  rintro e w2 ⟨a, ha, rfl, hg2, hs2⟩
  go_wp2_with fail
  refine (src_angle B _ 4 _ hs2 (by omega)).mono ?_
  rintro e w3 ⟨b, hb, rfl, hg3, hs3⟩
  have hB3 : Below w.heap.size w w3 := (hb1.grown hg2 hb1.size (fun k e => by cases e; exact Nat.le_refl _)).grown hg3 (Nat.le_trans hb1.size hg2.size) (fun k e => by cases e; exact Nat.le_refl _)
  go_wp2
  go_ret2
  exact ⟨a, b, ha, hb, rfl, hB3⟩
end Go.Proofs.Ytnikdafbnkedkaa
