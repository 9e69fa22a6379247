/-
  Contracts of drawn latitudes, days and seasons. Each under the conditions that it states.
-/
import Derived.Test.YtbikppndhidbpaaDraw2
set_option linter.unusedVariables false
set_option linter.unnecessarySimpa false
set_option maxRecDepth 100000
set_option linter.unusedSimpArgs false
namespace Go.Proofs.Ytbikppndhidbpaa
open Go.RowKit BigFrame

theorem src_lat (B g K : Nat) (w : World) (hs : SrcAt w B g K) (hK : K + 4 ≤ 1000000000) :
    Calls Try.prog 35 #[.pointer (some ⟨g, 0, none⟩)] w fun e w' => ∃ r : Int, (-67 ≤ r ∧ r ≤ 67) ∧ e = .returned (.int .i64 r) ∧ w.grownBy w' (some g) ∧ SrcAt w' B g (K + 4) := by
  go_enter Try.func35, Try.ntmps35
  go_wp2_with fail
  refine (src_one B g K 8 _ (by omega) (by omega) hs (by omega)).mono ?_
  rintro e w1 ⟨b, rfl, hg1, hs1⟩
  cases b
  · go_wp2_with fail
    refine (src_pick B g (K + 2) 133 _ (by omega) (by omega) hs1 (by omega)).mono ?_
    rintro e w2 ⟨r, hr, rfl, hg2, hs2⟩
    go_wp2
    go_ret
    exact ⟨r - 66, by omega, rfl, World.grownBy.trans hg1 hg2, hs2⟩
  · go_wp2_with fail
    refine (src_among B g (K + 2) w1.heap.size 0 5 ([-66, 66, 67, -67, 0]) _ (by simp) (by simp) (hs1.on (by go_grown)) (by omega) (by simp) (by have := hs1.2.1; omega) (fun j u hu => by rw [Nat.zero_add, World.cell?_alloc_new]; simpa using hu)).mono ?_
    rintro e w2 ⟨r, hr, rfl, hg2, hs2⟩
    go_wp2
    go_ret
    exact ⟨r, by simp at hr; omega, rfl, World.grownBy.trans (Go.Lib.grownBy_allocR hg1 _) hg2, hs2⟩
theorem src_day (B g K : Nat) (w : World) (hs : SrcAt w B g K) (hK : K + 4 ≤ 1000000000) :
    Calls Try.prog 36 #[.pointer (some ⟨g, 0, none⟩)] w fun e w' => ∃ r : Int, (-1 ≤ r ∧ r ≤ 100000) ∧ e = .returned (.int .i64 r) ∧ w.grownBy w' (some g) ∧ SrcAt w' B g (K + 4) := by
  go_enter Try.func36, Try.ntmps36
  go_wp2_with fail
  refine (src_pick B g K 8 _ (by omega) (by omega) hs (by omega)).mono ?_
  rintro e w1 ⟨b, hb, rfl, hg1, hs1⟩
  rcases (by omega : b = 0 ∨ b = 1 ∨ 2 ≤ b) with rfl | rfl | hb2
  · go_wp2_with fail
    refine (src_among B g (K + 2) w1.heap.size 0 4 ([-1, 0, 99999, 100000]) _ (by simp) (by simp) (hs1.on (by go_grown)) (by omega) (by simp) (by have := hs1.2.1; omega) (fun j u hu => by rw [Nat.zero_add, World.cell?_alloc_new]; simpa using hu)).mono ?_
    rintro e w2 ⟨r, hr, rfl, hg2, hs2⟩
    go_wp2
    go_ret
    exact ⟨r, by simp at hr; omega, rfl, World.grownBy.trans (Go.Lib.grownBy_allocR hg1 _) hg2, hs2⟩
  · go_wp2_with fail
    refine (src_among B g (K + 2) w1.heap.size 0 4 ([171, 172, 355, 356]) _ (by simp) (by simp) (hs1.on (by go_grown)) (by omega) (by simp) (by have := hs1.2.1; omega) (fun j u hu => by rw [Nat.zero_add, World.cell?_alloc_new]; simpa using hu)).mono ?_
    rintro e w2 ⟨r, hr, rfl, hg2, hs2⟩
    have hr2 : 171 ≤ r ∧ r ≤ 356 := by simp at hr; omega
    go_wp2
    go_ret
    exact ⟨9000 + r, by omega, rfl, World.grownBy.trans (Go.Lib.grownBy_allocR hg1 _) hg2, hs2⟩
  · go_wp2_with fail
    refine (src_pick B g (K + 2) 800 _ (by omega) (by omega) hs1 (by omega)).mono ?_
    rintro e w2 ⟨r, hr, rfl, hg2, hs2⟩
    go_wp2
    go_ret
    exact ⟨9000 + r, by omega, rfl, World.grownBy.trans hg1 hg2, hs2⟩
theorem src_season (B g K : Nat) (w : World) (hs : SrcAt w B g K) (hK : K + 14 ≤ 1000000000) :
    Calls Try.prog 43 #[.pointer (some ⟨g, 0, none⟩)] w fun e w' => ∃ (lat day : Int) (n : Nat), (-67 ≤ lat ∧ lat ≤ 67) ∧ (-1 ≤ day ∧ day ≤ 100000) ∧ n ≤ 401 ∧ e = .returned (.tuple #[.int .i64 lat, .int .i64 day, .int .i64 (n : Int)]) ∧ w.grownBy w' (some g) := by
  go_enter Try.func43, Try.ntmps43
  go_wp2_with fail
  refine (src_lat B g K _ hs (by omega)).mono ?_
  rintro e w1 ⟨lat, hlat, rfl, hg1, hs1⟩
  go_wp2_with fail
  refine (src_day B g (K + 4) _ hs1 (by omega)).mono ?_
  rintro e w2 ⟨day, hday, rfl, hg2, hs2⟩
  have hg2 := World.grownBy.trans hg1 hg2
  clear hg1
  go_wp2_with fail
  refine (src_pick B g (K + 8) 40 _ (by omega) (by omega) hs2 (by omega)).mono ?_
  rintro e w3 ⟨c, hc, rfl, hg3, hs3⟩
  have hg3 := World.grownBy.trans hg2 hg3
  clear hg2
  go_wp2_with fail
  refine (src_one B g (K + 10) 10 _ (by omega) (by omega) hs3 (by omega)).mono ?_
  rintro e w4 ⟨b, rfl, hg4, hs4⟩
  have hg4 := World.grownBy.trans hg3 hg4
  clear hg3
  cases b
  · go_wp2_with fail
    go_ret3
    exact ⟨lat, day, (c + 1).toNat, hlat, hday, by omega, by rw [show (((c + 1).toNat : Nat) : Int) = c + 1 by omega] <;> rfl, hg4⟩
  · go_wp2_with fail
    refine (src_among B g (K + 12) w4.heap.size 0 4 ([0, 400, 401, 1]) _ (by simp) (by simp) (hs4.on (by go_grown)) (by omega) (by simp) (by have := hs4.2.1; omega) (fun j u hu => by rw [Nat.zero_add, World.cell?_alloc_new]; simpa using hu)).mono ?_
    rintro e w5 ⟨r, hr, rfl, hg5, hs5⟩
    go_wp2
    go_ret3
    exact ⟨lat, day, r.toNat, hlat, hday, by simp at hr; omega, by rw [show ((r.toNat : Nat) : Int) = r by simp at hr; omega] <;> rfl, World.grownBy.trans (Go.Lib.grownBy_allocR hg4 _) hg5⟩
theorem draw_dark (L : List Int) (A : Option Addr) (c B : Nat) (w : World) (hs : Sl w B A (L.map (Value.int .u8))) (hB : B ≤ w.heap.size) (hu : ∀ z ∈ L, IntKind.u8.has z) (hl : L.length ≤ 1048576) :
    Calls Try.prog 12 #[.slice A L.length c] w fun e w' => ∃ a b : Int, (-67 ≤ a ∧ a ≤ 67) ∧ (-1 ≤ b ∧ b ≤ 100000) ∧ e = .returned (.tuple #[.int .i64 a, .int .i64 b]) ∧ Below w.heap.size w w' := by
  go_enter Try.func12, Try.ntmps12
  go_wp2_with fail
  refine (src_from L _ _ B _ hs hB hu hl).mono ?_
  rintro e w1 ⟨rfl, hb1, hs1⟩
  go_wp2_with fail
  refine (src_lat B _ 0 _ hs1 (by omega)).mono ?_
  rintro e w2 ⟨a, ha, rfl, hg2, hs2⟩
  go_wp2_with fail
  refine (src_day B _ 4 _ hs2 (by omega)).mono ?_
  rintro e w3 ⟨b, hb, rfl, hg3, hs3⟩
  have hB3 : Below w.heap.size w w3 := (hb1.grown hg2 hb1.size (fun k e => by cases e; exact Nat.le_refl _)).grown hg3 (Nat.le_trans hb1.size hg2.size) (fun k e => by cases e; exact Nat.le_refl _)
  go_wp2
  go_ret2
  exact ⟨a, b, ha, hb, rfl, hB3⟩
theorem draw_season (L : List Int) (A : Option Addr) (c B : Nat) (w : World) (hs : Sl w B A (L.map (Value.int .u8))) (hB : B ≤ w.heap.size) (hu : ∀ z ∈ L, IntKind.u8.has z) (hl : L.length ≤ 1048576) :
    Calls Try.prog 19 #[.slice A L.length c] w fun e w' => ∃ (a b : Int) (n : Nat), (-67 ≤ a ∧ a ≤ 67) ∧ (-1 ≤ b ∧ b ≤ 100000) ∧ n ≤ 401 ∧ e = .returned (.tuple #[.int .i64 a, .int .i64 b, .int .i64 (n : Int)]) ∧ Below w.heap.size w w' := by
  go_enter Try.func19, Try.ntmps19
  go_wp2_with fail
  refine (src_from L _ _ B _ hs hB hu hl).mono ?_
  rintro e w1 ⟨rfl, hb1, hs1⟩
  go_wp2_with fail
  refine (src_season B _ 0 _ hs1 (by omega)).mono ?_
  rintro e w2 ⟨a, b, n, ha, hb, hn, rfl, hg2⟩
  have hB2 : Below w.heap.size w w2 := hb1.grown hg2 hb1.size (fun k e => by cases e; exact Nat.le_refl _)
  go_wp2
  go_ret3
  exact ⟨a, b, n, ha, hb, hn, rfl, hB2⟩
end Go.Proofs.Ytbikppndhidbpaa
