/-
  Contracts of fog signals that are drawn, of times and winds. Each under the conditions that it states.
-/
import Derived.Test.YtbikppndhidbpaaDoorDraw2
import Derived.Test.YtbikppndhidbpaaDoorR8C
import Derived.Test.YtbikppndhidbpaaDoorPlD
import Derived.Test.YtbikppndhidbpaaDoorAngle
set_option linter.unusedVariables false
set_option linter.unnecessarySimpa false
set_option maxRecDepth 100000
set_option linter.unusedSimpArgs false
namespace Go.Proofs.YtbikppndhidbpaaDoor
open Go.RowKit BigFrame

/-- A fog signal in a variable that may be written. -/
def F4 (w : World) (g : Nat) (a b c d : Int) : Prop := En w g 4 ∧ (w.cell? ⟨g, 0, none⟩ = some (.int .i64 a) ∧ w.cell? ⟨g, 1, none⟩ = some (.int .i64 b) ∧ w.cell? ⟨g, 2, none⟩ = some (.int .i64 c) ∧ w.cell? ⟨g, 3, none⟩ = some (.int .i64 d))
theorem F4.on {w w1 : World} {g : Nat} {a b c d : Int} (h : F4 w g a b c d) (hb : Below w.heap.size w w1) : F4 w1 g a b c d := by
  obtain ⟨e, h0, h1, h2, h3⟩ := h
  obtain ⟨hc, _⟩ := bcell hb
  exact ⟨e.on hb, (hc _ _ e.1).trans h0, (hc _ _ e.1).trans h1, (hc _ _ e.1).trans h2, (hc _ _ e.1).trans h3⟩
theorem F4.far {w w' : World} {row : Option Nat} {g : Nat} {a b c d : Int} (h : F4 w g a b c d) (hg : w.grownBy w' row) (hne : row ≠ some g) : F4 w' g a b c d := by
  obtain ⟨e, h0, h1, h2, h3⟩ := h
  exact ⟨e.far hg hne, far_cell h0 hg hne, far_cell h1 hg hne, far_cell h2 hg hne, far_cell h3 hg hne⟩
theorem F4.new (w : World) (a b c d : Int) (t : TypeId) : F4 (w.alloc (.cells #[.int .i64 a, .int .i64 b, .int .i64 c, .int .i64 d] t)) w.heap.size a b c d := ⟨En.new w _ t, by simp, by simp, by simp, by simp⟩
theorem some_set2 {w : World} {p q : Addr} {v : Value} (h : (w.cell? q).isSome = true) : ((w.setCell p v).cell? q).isSome = true := by
  by_cases e : p = q
  · subst e
    obtain ⟨u, hu⟩ := Option.isSome_iff_exists.1 h
    rw [World.cell?_setCell_same _ _ _ hu]; rfl
  · rw [World.cell?_setCell_other _ _ _ _ e]; exact h
theorem En.setc {w : World} {g n c k : Nat} {v : Value} (h : En w g n) : En (w.setCell ⟨c, k, none⟩ v) g n := by
  refine ⟨by simpa using h.1, fun q hq => ⟨?_, by simpa [go_sem] using (h.2 q hq).2⟩⟩
  exact some_set2 (h.2 q hq).1
theorem F4.ne {w : World} {g i j : Nat} {u v : Value} (hij : i ≠ j) (h : w.cell? ⟨g, j, none⟩ = some u) : (w.setCell ⟨g, i, none⟩ v).cell? ⟨g, j, none⟩ = some u := by
  rw [World.cell?_setCell_other _ _ _ _ (fun e => by injection e with _ e2; exact hij e2)]; exact h
theorem F4.s0 {w : World} {g : Nat} {a b c d : Int} (h : F4 w g a b c d) (x : Int) : F4 (w.setCell ⟨g, 0, none⟩ (.int .i64 x)) g x b c d :=
  ⟨h.1.setc, World.cell?_setCell_same _ _ _ h.2.1, F4.ne (by decide) h.2.2.1, F4.ne (by decide) h.2.2.2.1, F4.ne (by decide) h.2.2.2.2⟩
theorem F4.s1 {w : World} {g : Nat} {a b c d : Int} (h : F4 w g a b c d) (x : Int) : F4 (w.setCell ⟨g, 1, none⟩ (.int .i64 x)) g a x c d :=
  ⟨h.1.setc, F4.ne (by decide) h.2.1, World.cell?_setCell_same _ _ _ h.2.2.1, F4.ne (by decide) h.2.2.2.1, F4.ne (by decide) h.2.2.2.2⟩
theorem F4.s2 {w : World} {g : Nat} {a b c d : Int} (h : F4 w g a b c d) (x : Int) : F4 (w.setCell ⟨g, 2, none⟩ (.int .i64 x)) g a b x d :=
  ⟨h.1.setc, F4.ne (by decide) h.2.1, F4.ne (by decide) h.2.2.1, World.cell?_setCell_same _ _ _ h.2.2.2.1, F4.ne (by decide) h.2.2.2.2⟩
theorem F4.s3 {w : World} {g : Nat} {a b c d : Int} (h : F4 w g a b c d) (x : Int) : F4 (w.setCell ⟨g, 3, none⟩ (.int .i64 x)) g a b c x :=
  ⟨h.1.setc, F4.ne (by decide) h.2.1, F4.ne (by decide) h.2.2.1, F4.ne (by decide) h.2.2.2.1, World.cell?_setCell_same _ _ _ h.2.2.2.2⟩
theorem four_F {w wf : World} {g : Nat} {a b c d : Int} (h : En w g 4) (hw : wf = (((w.setCell ⟨g, 0, none⟩ (.int .i64 a)).setCell ⟨g, 1, none⟩ (.int .i64 b)).setCell ⟨g, 2, none⟩ (.int .i64 c)).setCell ⟨g, 3, none⟩ (.int .i64 d)) : F4 wf g a b c d ∧ w.grownBy wf (some g) := by
  subst hw
  have ht := h.read (vs := [.int .i64 a, .int .i64 b, .int .i64 c, .int .i64 d]) (wf := (((w.setCell ⟨g, 0, none⟩ (.int .i64 a)).setCell ⟨g, 1, none⟩ (.int .i64 b)).setCell ⟨g, 2, none⟩ (.int .i64 c)).setCell ⟨g, 3, none⟩ (.int .i64 d)) rfl
  exact ⟨⟨h.setc.setc.setc.setc, ht 0 _ rfl, ht 1 _ rfl, ht 2 _ rfl, ht 3 _ rfl⟩, Go.Lib.grownBy_setB (Go.Lib.grownBy_setB (Go.Lib.grownBy_setB (Go.Lib.grownBy_setB (World.grownBy.refl w (some g)) 0 _) 1 _) 2 _) 3 _⟩
theorem f4_four {w : World} {h c : Nat} {p q r s a1 a2 a3 a4 : Value} (m1 : h ≠ c) (h1 : w.cell? ⟨h, 0, none⟩ = some p) (h2 : w.cell? ⟨h, 1, none⟩ = some q) (h3 : w.cell? ⟨h, 2, none⟩ = some r) (h4 : w.cell? ⟨h, 3, none⟩ = some s) : ((((w.setCell ⟨c, 0, none⟩ a1).setCell ⟨c, 1, none⟩ a2).setCell ⟨c, 2, none⟩ a3).setCell ⟨c, 3, none⟩ a4).cell? ⟨h, 0, none⟩ = some p ∧ ((((w.setCell ⟨c, 0, none⟩ a1).setCell ⟨c, 1, none⟩ a2).setCell ⟨c, 2, none⟩ a3).setCell ⟨c, 3, none⟩ a4).cell? ⟨h, 1, none⟩ = some q ∧ ((((w.setCell ⟨c, 0, none⟩ a1).setCell ⟨c, 1, none⟩ a2).setCell ⟨c, 2, none⟩ a3).setCell ⟨c, 3, none⟩ a4).cell? ⟨h, 2, none⟩ = some r ∧ ((((w.setCell ⟨c, 0, none⟩ a1).setCell ⟨c, 1, none⟩ a2).setCell ⟨c, 2, none⟩ a3).setCell ⟨c, 3, none⟩ a4).cell? ⟨h, 3, none⟩ = some s := by
  have n : ∀ (k o : Nat), (⟨c, k, none⟩ : Addr) ≠ ⟨h, o, none⟩ := fun k o e => m1 (congrArg Addr.block e).symm
  refine ⟨?_, ?_, ?_, ?_⟩ <;> (rw [World.cell?_setCell_other _ _ _ _ (n _ _), World.cell?_setCell_other _ _ _ _ (n _ _), World.cell?_setCell_other _ _ _ _ (n _ _), World.cell?_setCell_other _ _ _ _ (n _ _)]; assumption)
def fb (x : Int) : Prop := -10000 ≤ x ∧ x ≤ 10000
def lenF (k : Int) : Int := if k = 1 then 20 else if k = 2 then 40 else if k = 3 then 5 else if k = 4 then 30 else 0
theorem spec_LenF (k : Int) (w : World) (hk : 1 ≤ k ∧ k ≤ 4) : Calls Tryd.prog 166 #[.int .i64 k] w fun e w' => e = .returned (.int .i64 (lenF k)) ∧ Below w.heap.size w w' := by
  rcases (by omega : k = 1 ∨ k = 2 ∨ k = 3 ∨ k = 4) with rfl | rfl | rfl | rfl
  all_goals
    go_enter Tryd.func166, Tryd.ntmps166
    go_wp2
    go_ret
    exact ⟨rfl, by go_grown⟩
theorem lenF_bd {k : Int} (hk : 1 ≤ k ∧ k ≤ 4) : 5 ≤ lenF k ∧ lenF k ≤ 40 := by
  rcases (by omega : k = 1 ∨ k = 2 ∨ k = 3 ∨ k = 4) with rfl | rfl | rfl | rfl <;> decide
theorem least_bd {k b : Int} (hk : 1 ≤ k ∧ k ≤ 4) (hb : 1 ≤ b ∧ b ≤ 6) : 10 ≤ 2 * b * lenF k ∧ 2 * b * lenF k ≤ 480 := by
  have h := lenF_bd hk
  have h1 := Int.mul_le_mul (show 2 ≤ 2 * b by omega) h.1 (by omega) (by omega)
  have h2 := Int.mul_le_mul (show 2 * b ≤ 12 by omega) h.2 (by omega) (by omega)
  omega
theorem spec_LeastF (g : Nat) (k b p q : Int) (w : World) (hF : F4 w g k b p q) (hk : 1 ≤ k ∧ k ≤ 4) (hb : 1 ≤ b ∧ b ≤ 6) : Calls Tryd.prog 144 #[.pointer (some ⟨g, 0, none⟩)] w fun e w' => e = .returned (.int .i64 (2 * b * lenF k)) ∧ Below w.heap.size w w' := by
  obtain ⟨⟨hl, _⟩, c0, c1, c2, c3⟩ := id hF
  have h := lenF_bd hk
  have h2 := least_bd hk hb
  have hL := fun w => spec_LenF k w hk
  generalize lenF k = n at h h2 hL
  go_enter Tryd.func144, Tryd.ntmps144
  go_wp2_with fail
  refine wp_region_grew (by kernel_rfl) (by kernel_rfl) ?_
  repeat (first | (go_big_quiet_step ((go_at_call 166; exact grew_of (hL _)))) | (quiet_step ((go_at_call 166; exact grew_of (hL _)))))
  refine wpQuiet_nil ?_
  rintro _ ⟨⟨w9, hb9⟩, rfl⟩
  try dsimp only
  obtain ⟨hc9, hf9⟩ := bcell hb9
  go_wp2
  go_ret
  exact ⟨rfl, hb9⟩
set_option maxHeartbeats 1600000 in
theorem src_fogok (B g K : Nat) (w : World) (hs : SrcAt w B g K) (hBw : B ≤ w.heap.size) (hK : K + 8 ≤ 1000000000) :
    Calls Tryd.prog 121 #[.pointer (some ⟨g, 0, none⟩)] w fun e w' => ∃ k b p q : Int, fb k ∧ fb b ∧ (0 ≤ p ∧ p ≤ 1200) ∧ fb q ∧ e = .returned (.agg #[.int .i64 k, .int .i64 b, .int .i64 p, .int .i64 q]) ∧ w.grownBy w' (some g) ∧ SrcAt w' B g (K + 8) := by
  have hgl := hs.2.1
  have hba : Below w.heap.size w (w.alloc (.cells #[.int .i64 0, .int .i64 0, .int .i64 0, .int .i64 0] 56)) := by go_grown
  have hE0 : En (w.alloc (.cells #[.int .i64 0, .int .i64 0, .int .i64 0, .int .i64 0] 56)) w.heap.size 4 := En.new w #[.int .i64 0, .int .i64 0, .int .i64 0, .int .i64 0] 56
  have hG0 := grown_none' hba (some g)
  go_enter Tryd.func121, Tryd.ntmps121
  go_wp2_with fail
  refine (src_pick B g (K) 4 _ (by omega) (by omega) (hs.on hba) (by omega)).mono ?_
  rintro e w1 ⟨k0, hk0, rfl, hgn, hs1⟩
  have hG1 := grown_go hG0 hgn
  have hz1 := hgn.size
  simp only [World.size_alloc] at hz1
  replace hE0 := hE0.far hgn (fun e => by have := Option.some.inj e; omega)
  clear hgn hG0 hba
  have hF0 := F4.new w1 (k0 + 1) 0 0 0 56
  have hal : Below w1.heap.size w1 (w1.alloc (.cells #[.int .i64 (k0 + 1), .int .i64 0, .int .i64 0, .int .i64 0] 56)) := by go_grown
  obtain ⟨h, hh⟩ : ∃ h, w1.heap.size = h := ⟨_, rfl⟩
  go_wp2_with fail
  refine (src_pick B g ((K + 2)) 6 _ (by omega) (by omega) (hs1.on hal) (by omega)).mono ?_
  rintro e w2 ⟨b0, hb0, rfl, hgn, hs2⟩
  have hG2 := grown_go (grown_on hG1 hal) hgn
  have hz2 := hgn.size
  simp only [World.size_alloc] at hz2
  replace hE0 := (hE0.on hal).far hgn (fun e => by have := Option.some.inj e; omega)
  have hF := hF0.far hgn (fun e => by have := Option.some.inj e; omega)
  rw [hh] at hF
  clear hgn hG1 hal hF0 hs1
  obtain ⟨hel, f0, f1, f2, f3⟩ := id hF
  obtain ⟨_, z0⟩ := hel.at (k := 0) (by omega)
  obtain ⟨_, z1⟩ := hel.at (k := 1) (by omega)
  obtain ⟨_, z2⟩ := hel.at (k := 2) (by omega)
  obtain ⟨_, z3⟩ := hel.at (k := 3) (by omega)
  have hll := hel.1
  go_upto_region 3 with fail
  refine wp_atB ?_
  intro w3 hw3
  have hG3 : w.grownBy w3 (some g) := by rw [hw3]; exact grown_setP hG2 (by omega)
  have hF3 : F4 w3 h (k0 + 1) (b0 + 1) 0 0 := by rw [hw3]; exact hF.s1 _
  have hs3 : SrcAt w3 B g (K + 2 + 2) := by rw [hw3]; exact hs2.setne (by omega) (by omega)
  have hE3 : En w3 w.heap.size 4 := by rw [hw3]; exact hE0.setc
  have hz3 : w3.heap.size = w2.heap.size := by rw [hw3]; simp
  clear hel f0 f1 f2 f3 z0 z1 z2 z3 hll
  clear hw3 hG2 hs2 hF hE0
  go_wp2_with fail
  refine (src_pick B g ((K + 2 + 2)) 81 _ (by omega) (by omega) hs3 (by omega)).mono ?_
  rintro e w4 ⟨q0, hq0, rfl, hgn, hs4⟩
  have hG4 := grown_go hG3 hgn
  have hz4 := hgn.size
  replace hE3 := hE3.far hgn (fun e => by have := Option.some.inj e; omega)
  have hF := hF3.far hgn (fun e => by have := Option.some.inj e; omega)
  clear hgn hG3 hs3 hF3
  obtain ⟨hel, f0, f1, f2, f3⟩ := id hF
  obtain ⟨_, z0⟩ := hel.at (k := 0) (by omega)
  obtain ⟨_, z1⟩ := hel.at (k := 1) (by omega)
  obtain ⟨_, z2⟩ := hel.at (k := 2) (by omega)
  obtain ⟨_, z3⟩ := hel.at (k := 3) (by omega)
  have hll := hel.1
  go_upto_region 4 with fail
  refine wp_atB ?_
  intro w5 hw5
  have hG5 : w.grownBy w5 (some g) := by rw [hw5]; exact grown_setP hG4 (by omega)
  have hF5 : F4 w5 h (k0 + 1) (b0 + 1) 0 (q0 + 60) := by rw [hw5]; exact hF.s3 _
  have hs5 : SrcAt w5 B g (K + 2 + 2 + 2) := by rw [hw5]; exact hs4.setne (by omega) (by omega)
  have hE5 : En w5 w.heap.size 4 := by rw [hw5]; exact hE3.setc
  have hz5 : w5.heap.size = w4.heap.size := by rw [hw5]; simp
  clear hel f0 f1 f2 f3 z0 z1 z2 z3 hll
  clear hw5 hG4 hs4 hF hE3
  go_wp2_with fail
  refine (spec_LeastF h (k0 + 1) (b0 + 1) 0 (q0 + 60) _ hF5 (by omega) (by omega)).mono ?_
  rintro e w6 ⟨rfl, hb6⟩
  have hlb := least_bd (k := k0 + 1) (b := b0 + 1) (by omega) (by omega)
  generalize 2 * (b0 + 1) * lenF (k0 + 1) = n at hlb
  have hz6 := hb6.size
  have hG6 := grown_on hG5 hb6
  have hF6 := hF5.on hb6
  have hs6 := hs5.on hb6
  have hE6 := hE5.on hb6
  clear hb6 hG5 hF5 hs5 hE5
  go_wp2_with fail
  have hal : Below w6.heap.size w6 (w6.alloc (.cells #[.int .i64 0, .int .i64 5, .int .i64 100, .int .i64 300, .int .i64 1, .int .i64 700] 2)) := by go_grown
  refine (src_among B g (K + 2 + 2 + 2) w6.heap.size 0 6 [0, 5, 100, 300, 1, 700] _ (by simp) (by simp) (hs6.on hal) (by omega) (by simp) (by have := hs6.2.1; omega) (fun j u hu => by rw [Nat.zero_add, World.cell?_alloc_new]; simpa using hu)).mono ?_
  rintro e w7 ⟨z, hmem, rfl, hgn, hs7⟩
  have hz : 0 ≤ z ∧ z ≤ 700 := by simp at hmem; omega
  have hG7 := grown_go (grown_on hG6 hal) hgn
  have hz7 := hgn.size
  simp only [World.size_alloc] at hz7
  replace hE6 := (hE6.on hal).far hgn (fun e => by have := Option.some.inj e; omega)
  have hF := (hF6.on hal).far hgn (fun e => by have := Option.some.inj e; omega)
  clear hgn hG6 hs6 hF6 hal hmem
  have hmin := fun w => min_any 1200 (n + z) w
  obtain ⟨m, hm⟩ : ∃ m, min 1200 (n + z) = m := ⟨_, rfl⟩
  have hmb : 0 ≤ m ∧ m ≤ 1200 := by omega
  obtain ⟨hel, f0, f1, f2, f3⟩ := id hF
  obtain ⟨_, z0⟩ := hel.at (k := 0) (by omega)
  obtain ⟨_, z1⟩ := hel.at (k := 1) (by omega)
  obtain ⟨_, z2⟩ := hel.at (k := 2) (by omega)
  obtain ⟨_, z3⟩ := hel.at (k := 3) (by omega)
  have hll := hel.1
  rw [hm] at hmin
  clear hm
  go_wp2_with fail
  refine (hmin _).mono ?_
  rintro e w' ⟨rfl, rfl⟩
  go_upto_region 5 with fail
  refine wp_atB ?_
  intro w8 hw8
  have hG8 : w.grownBy w8 (some g) := by rw [hw8]; exact grown_setP hG7 (by omega)
  have hF8 : F4 w8 h (k0 + 1) (b0 + 1) m (q0 + 60) := by rw [hw8]; exact hF.s2 _
  have hs8 : SrcAt w8 B g (K + 2 + 2 + 2 + 2) := by rw [hw8]; exact hs7.setne (by omega) (by omega)
  have hE8 : En w8 w.heap.size 4 := by rw [hw8]; exact hE6.setc
  clear hel f0 f1 f2 f3 z0 z1 z2 z3 hll
  clear hw8 hG7 hs7 hF hE6
  obtain ⟨_, f0, f1, f2, f3⟩ := id hF8
  obtain ⟨⟨r0, y0⟩, y1⟩ := hE8.at (k := 0) (by omega)
  obtain ⟨⟨r1, y2⟩, y3⟩ := hE8.at (k := 1) (by omega)
  obtain ⟨⟨r2, y4⟩, y5⟩ := hE8.at (k := 2) (by omega)
  obtain ⟨⟨r3, y6⟩, y7⟩ := hE8.at (k := 3) (by omega)
  go_wp2_with fail
  refine end_atA ?_
  intro wf hwf
  obtain ⟨⟨_, t0, t1, t2, t3⟩, hgw⟩ := four_F hE8 hwf
  have hGf := grown_row hG8 hgw (fun k e => by have := Option.some.inj e; omega)
  have hSf := hs8.far (by have := hG8.size; omega) hgw (fun k e => by have := Option.some.inj e; omega)
  clear hwf hgw y0 y1 y2 y3 y4 y5 y6 y7
  refine bodyPost_ret (by simp [results, Tryd.results121, go_sem, t0, t1, t2, t3]; try rfl) rfl ?_
  exact ⟨k0 + 1, b0 + 1, m, q0 + 60, ⟨by omega, by omega⟩, ⟨by omega, by omega⟩, ⟨by omega, by omega⟩, ⟨by omega, by omega⟩, rfl, hGf, hSf.le (by omega) (by omega)⟩
set_option maxHeartbeats 3200000 in
theorem src_fog (B g K : Nat) (w : World) (hs : SrcAt w B g K) (hBw : B ≤ w.heap.size) (hK : K + 12 ≤ 1000000000) :
    Calls Tryd.prog 75 #[.pointer (some ⟨g, 0, none⟩)] w fun e w' => ∃ k b p q : Int, fb k ∧ fb b ∧ (-10001 ≤ p ∧ p ≤ 10000) ∧ fb q ∧ e = .returned (.agg #[.int .i64 k, .int .i64 b, .int .i64 p, .int .i64 q]) ∧ w.grownBy w' (some g) ∧ SrcAt w' B g (K + 12) := by
  have hgl := hs.2.1
  have hba : Below w.heap.size w (w.alloc (.cells #[.int .i64 0, .int .i64 0, .int .i64 0, .int .i64 0] 56)) := by go_grown
  have hE0 : En (w.alloc (.cells #[.int .i64 0, .int .i64 0, .int .i64 0, .int .i64 0] 56)) w.heap.size 4 := En.new w #[.int .i64 0, .int .i64 0, .int .i64 0, .int .i64 0] 56
  have hG0 := grown_none' hba (some g)
  go_enter Tryd.func75, Tryd.ntmps75
  go_wp2_with fail
  refine (src_fogok B g K _ (hs.on hba) (by simp; omega) (by omega)).mono ?_
  rintro e w1 ⟨k, b, p, q, hk, hb, hp, hq, rfl, hgn, hs1⟩
  have hG1 := grown_go hG0 hgn
  have hz1 := hgn.size
  simp only [World.size_alloc] at hz1
  replace hE0 := hE0.far hgn (fun e => by have := Option.some.inj e; omega)
  clear hgn hG0 hba
  have hF0 := F4.new w1 k b p q 56
  have hal : Below w1.heap.size w1 (w1.alloc (.cells #[.int .i64 k, .int .i64 b, .int .i64 p, .int .i64 q] 56)) := by go_grown
  obtain ⟨h, hh⟩ : ∃ h, w1.heap.size = h := ⟨_, rfl⟩
  go_wp2_with fail
  refine (src_pick B g (K + 8) 18 _ (by omega) (by omega) (hs1.on hal) (by omega)).mono ?_
  rintro e w2 ⟨n, hn, rfl, hgn, hs2⟩
  have hG2 := grown_go (grown_on hG1 hal) hgn
  have hz2 := hgn.size
  simp only [World.size_alloc] at hz2
  replace hE0 := (hE0.on hal).far hgn (fun e => by have := Option.some.inj e; omega)
  have hF := hF0.far hgn (fun e => by have := Option.some.inj e; omega)
  rw [hh] at hF
  clear hgn hG1 hal hF0 hs1
  obtain ⟨hel, f0, f1, f2, f3⟩ := id hF
  obtain ⟨_, z0⟩ := hel.at (k := 0) (by omega)
  obtain ⟨_, z1⟩ := hel.at (k := 1) (by omega)
  obtain ⟨_, z2⟩ := hel.at (k := 2) (by omega)
  obtain ⟨_, z3⟩ := hel.at (k := 3) (by omega)
  have hll := hel.1
  rcases (by omega : n = 0 ∨ n = 1 ∨ n = 2 ∨ n = 3 ∨ 4 ≤ n) with rfl | rfl | rfl | rfl | h4
  · have hal : Below w2.heap.size w2 (w2.alloc (.cells #[.int .i64 0, .int .i64 5] 2)) := by go_grown
    go_wp2_with fail
    refine (src_among B g (K + 10) w2.heap.size 0 2 [0, 5] _ (by simp) (by simp) (hs2.on hal) (by omega) (by simp) (by have := hs2.2.1; omega) (fun j u hu => by rw [Nat.zero_add, World.cell?_alloc_new]; simpa using hu)).mono ?_
    rintro e w3 ⟨z, hmem, rfl, hgn, hs3⟩
    have hz : fb z := by simp at hmem; unfold fb; rcases hmem with rfl | rfl <;> omega
    have hG3 := grown_go (grown_on hG2 hal) hgn
    have hz3 := hgn.size
    simp only [World.size_alloc] at hz3
    replace hE0 := (hE0.on hal).far hgn (fun e => by have := Option.some.inj e; omega)
    replace hF := (hF.on hal).far hgn (fun e => by have := Option.some.inj e; omega)
    clear hgn hG2 hs2 hal hmem
    clear hel f0 f1 f2 f3 z0 z1 z2 z3 hll
    obtain ⟨hel, f0, f1, f2, f3⟩ := id hF
    obtain ⟨_, z0⟩ := hel.at (k := 0) (by omega)
    obtain ⟨_, z1⟩ := hel.at (k := 1) (by omega)
    obtain ⟨_, z2⟩ := hel.at (k := 2) (by omega)
    obtain ⟨_, z3⟩ := hel.at (k := 3) (by omega)
    have hll := hel.1
    go_upto_region 11 with fail
    refine wp_atB ?_
    intro w4 hw4
    have hG4 : w.grownBy w4 (some g) := by rw [hw4]; exact grown_setP hG3 (by omega)
    have hF4 := (show F4 w4 h z b p q by rw [hw4]; exact hF.s0 _)
    have hs4 : SrcAt w4 B g (K + 10 + 2) := by rw [hw4]; exact hs3.setne (by omega) (by omega)
    have hE4 : En w4 w.heap.size 4 := by rw [hw4]; exact hE0.setc
    clear hel f0 f1 f2 f3 z0 z1 z2 z3 hll
    clear hw4 hG3 hs3 hF hE0
    obtain ⟨_, f0, f1, f2, f3⟩ := id hF4
    obtain ⟨⟨r0, y0⟩, y1⟩ := hE4.at (k := 0) (by omega)
    obtain ⟨⟨r1, y2⟩, y3⟩ := hE4.at (k := 1) (by omega)
    obtain ⟨⟨r2, y4⟩, y5⟩ := hE4.at (k := 2) (by omega)
    obtain ⟨⟨r3, y6⟩, y7⟩ := hE4.at (k := 3) (by omega)
    go_wp2_with fail
    refine end_atA ?_
    intro wf hwf
    obtain ⟨⟨_, t0, t1, t2, t3⟩, hgw⟩ := four_F hE4 hwf
    have hGf := grown_row hG4 hgw (fun k e => by have := Option.some.inj e; omega)
    have hSf := hs4.far (by have := hG4.size; omega) hgw (fun k e => by have := Option.some.inj e; omega)
    clear hwf hgw y0 y1 y2 y3 y4 y5 y6 y7
    refine bodyPost_ret (by simp [results, Tryd.results75, go_sem, t0, t1, t2, t3]; try rfl) rfl ?_
    exact ⟨z, b, p, q, hz, hb, ⟨by omega, by omega⟩, hq, rfl, hGf, hSf.le (by omega) (by omega)⟩
  · have hal : Below w2.heap.size w2 (w2.alloc (.cells #[.int .i64 0, .int .i64 7] 2)) := by go_grown
    go_wp2_with fail
    refine (src_among B g (K + 10) w2.heap.size 0 2 [0, 7] _ (by simp) (by simp) (hs2.on hal) (by omega) (by simp) (by have := hs2.2.1; omega) (fun j u hu => by rw [Nat.zero_add, World.cell?_alloc_new]; simpa using hu)).mono ?_
    rintro e w3 ⟨z, hmem, rfl, hgn, hs3⟩
    have hz : fb z := by simp at hmem; unfold fb; rcases hmem with rfl | rfl <;> omega
    have hG3 := grown_go (grown_on hG2 hal) hgn
    have hz3 := hgn.size
    simp only [World.size_alloc] at hz3
    replace hE0 := (hE0.on hal).far hgn (fun e => by have := Option.some.inj e; omega)
    replace hF := (hF.on hal).far hgn (fun e => by have := Option.some.inj e; omega)
    clear hgn hG2 hs2 hal hmem
    clear hel f0 f1 f2 f3 z0 z1 z2 z3 hll
    obtain ⟨hel, f0, f1, f2, f3⟩ := id hF
    obtain ⟨_, z0⟩ := hel.at (k := 0) (by omega)
    obtain ⟨_, z1⟩ := hel.at (k := 1) (by omega)
    obtain ⟨_, z2⟩ := hel.at (k := 2) (by omega)
    obtain ⟨_, z3⟩ := hel.at (k := 3) (by omega)
    have hll := hel.1
    go_upto_region 11 with fail
    refine wp_atB ?_
    intro w4 hw4
    have hG4 : w.grownBy w4 (some g) := by rw [hw4]; exact grown_setP hG3 (by omega)
    have hF4 := (show F4 w4 h k z p q by rw [hw4]; exact hF.s1 _)
    have hs4 : SrcAt w4 B g (K + 10 + 2) := by rw [hw4]; exact hs3.setne (by omega) (by omega)
    have hE4 : En w4 w.heap.size 4 := by rw [hw4]; exact hE0.setc
    clear hel f0 f1 f2 f3 z0 z1 z2 z3 hll
    clear hw4 hG3 hs3 hF hE0
    obtain ⟨_, f0, f1, f2, f3⟩ := id hF4
    obtain ⟨⟨r0, y0⟩, y1⟩ := hE4.at (k := 0) (by omega)
    obtain ⟨⟨r1, y2⟩, y3⟩ := hE4.at (k := 1) (by omega)
    obtain ⟨⟨r2, y4⟩, y5⟩ := hE4.at (k := 2) (by omega)
    obtain ⟨⟨r3, y6⟩, y7⟩ := hE4.at (k := 3) (by omega)
    go_wp2_with fail
    refine end_atA ?_
    intro wf hwf
    obtain ⟨⟨_, t0, t1, t2, t3⟩, hgw⟩ := four_F hE4 hwf
    have hGf := grown_row hG4 hgw (fun k e => by have := Option.some.inj e; omega)
    have hSf := hs4.far (by have := hG4.size; omega) hgw (fun k e => by have := Option.some.inj e; omega)
    clear hwf hgw y0 y1 y2 y3 y4 y5 y6 y7
    refine bodyPost_ret (by simp [results, Tryd.results75, go_sem, t0, t1, t2, t3]; try rfl) rfl ?_
    exact ⟨k, z, p, q, hk, hz, ⟨by omega, by omega⟩, hq, rfl, hGf, hSf.le (by omega) (by omega)⟩
  · have hal : Below w2.heap.size w2 (w2.alloc (.cells #[.int .i64 (p - 1), .int .i64 1200, .int .i64 1201] 2)) := by go_grown
    go_wp2_with fail
    refine (src_among B g (K + 10) w2.heap.size 0 3 [p - 1, 1200, 1201] _ (by simp) (by simp) (hs2.on hal) (by omega) (by simp) (by have := hs2.2.1; omega) (fun j u hu => by rw [Nat.zero_add, World.cell?_alloc_new]; simpa using hu)).mono ?_
    rintro e w3 ⟨z, hmem, rfl, hgn, hs3⟩
    have hz : fb z := by simp at hmem; unfold fb; rcases hmem with rfl | rfl | rfl <;> omega
    have hG3 := grown_go (grown_on hG2 hal) hgn
    have hz3 := hgn.size
    simp only [World.size_alloc] at hz3
    replace hE0 := (hE0.on hal).far hgn (fun e => by have := Option.some.inj e; omega)
    replace hF := (hF.on hal).far hgn (fun e => by have := Option.some.inj e; omega)
    clear hgn hG2 hs2 hal hmem
    clear hel f0 f1 f2 f3 z0 z1 z2 z3 hll
    obtain ⟨hel, f0, f1, f2, f3⟩ := id hF
    obtain ⟨_, z0⟩ := hel.at (k := 0) (by omega)
    obtain ⟨_, z1⟩ := hel.at (k := 1) (by omega)
    obtain ⟨_, z2⟩ := hel.at (k := 2) (by omega)
    obtain ⟨_, z3⟩ := hel.at (k := 3) (by omega)
    have hll := hel.1
    go_upto_region 11 with fail
    refine wp_atB ?_
    intro w4 hw4
    have hG4 : w.grownBy w4 (some g) := by rw [hw4]; exact grown_setP hG3 (by omega)
    have hF4 := (show F4 w4 h k b z q by rw [hw4]; exact hF.s2 _)
    have hs4 : SrcAt w4 B g (K + 10 + 2) := by rw [hw4]; exact hs3.setne (by omega) (by omega)
    have hE4 : En w4 w.heap.size 4 := by rw [hw4]; exact hE0.setc
    clear hel f0 f1 f2 f3 z0 z1 z2 z3 hll
    clear hw4 hG3 hs3 hF hE0
    obtain ⟨_, f0, f1, f2, f3⟩ := id hF4
    obtain ⟨⟨r0, y0⟩, y1⟩ := hE4.at (k := 0) (by omega)
    obtain ⟨⟨r1, y2⟩, y3⟩ := hE4.at (k := 1) (by omega)
    obtain ⟨⟨r2, y4⟩, y5⟩ := hE4.at (k := 2) (by omega)
    obtain ⟨⟨r3, y6⟩, y7⟩ := hE4.at (k := 3) (by omega)
    go_wp2_with fail
    refine end_atA ?_
    intro wf hwf
    obtain ⟨⟨_, t0, t1, t2, t3⟩, hgw⟩ := four_F hE4 hwf
    have hGf := grown_row hG4 hgw (fun k e => by have := Option.some.inj e; omega)
    have hSf := hs4.far (by have := hG4.size; omega) hgw (fun k e => by have := Option.some.inj e; omega)
    clear hwf hgw y0 y1 y2 y3 y4 y5 y6 y7
    refine bodyPost_ret (by simp [results, Tryd.results75, go_sem, t0, t1, t2, t3]; try rfl) rfl ?_
    exact ⟨k, b, z, q, hk, hb, ⟨by unfold fb at hz; omega, by unfold fb at hz; omega⟩, hq, rfl, hGf, hSf.le (by omega) (by omega)⟩
  · have hal : Below w2.heap.size w2 (w2.alloc (.cells #[.int .i64 59, .int .i64 60, .int .i64 140, .int .i64 141] 2)) := by go_grown
    go_wp2_with fail
    refine (src_among B g (K + 10) w2.heap.size 0 4 [59, 60, 140, 141] _ (by simp) (by simp) (hs2.on hal) (by omega) (by simp) (by have := hs2.2.1; omega) (fun j u hu => by rw [Nat.zero_add, World.cell?_alloc_new]; simpa using hu)).mono ?_
    rintro e w3 ⟨z, hmem, rfl, hgn, hs3⟩
    have hz : fb z := by simp at hmem; unfold fb; rcases hmem with rfl | rfl | rfl | rfl <;> omega
    have hG3 := grown_go (grown_on hG2 hal) hgn
    have hz3 := hgn.size
    simp only [World.size_alloc] at hz3
    replace hE0 := (hE0.on hal).far hgn (fun e => by have := Option.some.inj e; omega)
    replace hF := (hF.on hal).far hgn (fun e => by have := Option.some.inj e; omega)
    clear hgn hG2 hs2 hal hmem
    clear hel f0 f1 f2 f3 z0 z1 z2 z3 hll
    obtain ⟨hel, f0, f1, f2, f3⟩ := id hF
    obtain ⟨_, z0⟩ := hel.at (k := 0) (by omega)
    obtain ⟨_, z1⟩ := hel.at (k := 1) (by omega)
    obtain ⟨_, z2⟩ := hel.at (k := 2) (by omega)
    obtain ⟨_, z3⟩ := hel.at (k := 3) (by omega)
    have hll := hel.1
    go_upto_region 11 with fail
    refine wp_atB ?_
    intro w4 hw4
    have hG4 : w.grownBy w4 (some g) := by rw [hw4]; exact grown_setP hG3 (by omega)
    have hF4 := (show F4 w4 h k b p z by rw [hw4]; exact hF.s3 _)
    have hs4 : SrcAt w4 B g (K + 10 + 2) := by rw [hw4]; exact hs3.setne (by omega) (by omega)
    have hE4 : En w4 w.heap.size 4 := by rw [hw4]; exact hE0.setc
    clear hel f0 f1 f2 f3 z0 z1 z2 z3 hll
    clear hw4 hG3 hs3 hF hE0
    obtain ⟨_, f0, f1, f2, f3⟩ := id hF4
    obtain ⟨⟨r0, y0⟩, y1⟩ := hE4.at (k := 0) (by omega)
    obtain ⟨⟨r1, y2⟩, y3⟩ := hE4.at (k := 1) (by omega)
    obtain ⟨⟨r2, y4⟩, y5⟩ := hE4.at (k := 2) (by omega)
    obtain ⟨⟨r3, y6⟩, y7⟩ := hE4.at (k := 3) (by omega)
    go_wp2_with fail
    refine end_atA ?_
    intro wf hwf
    obtain ⟨⟨_, t0, t1, t2, t3⟩, hgw⟩ := four_F hE4 hwf
    have hGf := grown_row hG4 hgw (fun k e => by have := Option.some.inj e; omega)
    have hSf := hs4.far (by have := hG4.size; omega) hgw (fun k e => by have := Option.some.inj e; omega)
    clear hwf hgw y0 y1 y2 y3 y4 y5 y6 y7
    refine bodyPost_ret (by simp [results, Tryd.results75, go_sem, t0, t1, t2, t3]; try rfl) rfl ?_
    exact ⟨k, b, p, z, hk, hb, ⟨by omega, by omega⟩, hz, rfl, hGf, hSf.le (by omega) (by omega)⟩
  · have t1 : (n == 0) = false := beq_eq_false_iff_ne.2 (by omega)
    have t2 : (n == 1) = false := beq_eq_false_iff_ne.2 (by omega)
    have t3 : (n == 2) = false := beq_eq_false_iff_ne.2 (by omega)
    have t4 : (n == 3) = false := beq_eq_false_iff_ne.2 (by omega)
    obtain ⟨⟨r0, y0⟩, y1⟩ := hE0.at (k := 0) (by omega)
    obtain ⟨⟨r1, y2⟩, y3⟩ := hE0.at (k := 1) (by omega)
    obtain ⟨⟨r2, y4⟩, y5⟩ := hE0.at (k := 2) (by omega)
    obtain ⟨⟨r3, y6⟩, y7⟩ := hE0.at (k := 3) (by omega)
    go_wp2_with fail
    refine end_atA ?_
    intro wf hwf
    obtain ⟨⟨_, t0, t1, t2, t3⟩, hgw⟩ := four_F hE0 hwf
    have hGf := grown_row hG2 hgw (fun k e => by have := Option.some.inj e; omega)
    have hSf := hs2.far (by have := hG2.size; omega) hgw (fun k e => by have := Option.some.inj e; omega)
    clear hwf hgw y0 y1 y2 y3 y4 y5 y6 y7
    refine bodyPost_ret (by simp [results, Tryd.results75, go_sem, t0, t1, t2, t3]; try rfl) rfl ?_
    exact ⟨k, b, p, q, hk, hb, ⟨by omega, by omega⟩, hq, rfl, hGf, hSf.le (by omega) (by omega)⟩
theorem src_time (B g K : Nat) (w : World) (hs : SrcAt w B g K) (hK : K + 4 ≤ 1000000000) :
    Calls Tryd.prog 76 #[.pointer (some ⟨g, 0, none⟩)] w fun e w' => ∃ t : Int, (-1 ≤ t ∧ t ≤ 1000000000001) ∧ e = .returned (.int .i64 t) ∧ w.grownBy w' (some g) ∧ SrcAt w' B g (K + 4) := by
  go_enter Tryd.func76, Tryd.ntmps76
  go_wp2_with fail
  refine (src_one B g K 8 _ (by omega) (by omega) hs (by omega)).mono ?_
  rintro e w1 ⟨b, rfl, hg1, hs1⟩
  cases b
  · go_wp2_with fail
    refine (src_pick B g (K + 2) 3000 _ (by omega) (by omega) hs1 (by omega)).mono ?_
    rintro e w2 ⟨r, hr, rfl, hg2, hs2⟩
    go_wp2
    go_ret
    exact ⟨r, by omega, rfl, World.grownBy.trans hg1 hg2, hs2⟩
  · go_wp2_with fail
    have hal : Below w1.heap.size w1 (w1.alloc (.cells #[.int .i64 (-1), .int .i64 0, .int .i64 1000000000000, .int .i64 1000000000001] 2)) := by go_grown
    refine (src_among B g (K + 2) w1.heap.size 0 4 [-1, 0, 1000000000000, 1000000000001] _ (by simp) (by simp) (hs1.on hal) (by omega) (by simp) (by have := hs1.2.1; omega) (fun j u hu => by rw [Nat.zero_add, World.cell?_alloc_new]; simpa using hu)).mono ?_
    rintro e w2 ⟨z, hmem, rfl, hg2, hs2⟩
    have hz : -1 ≤ z ∧ z ≤ 1000000000001 := by simp at hmem; omega
    go_wp2
    go_ret
    exact ⟨z, hz, rfl, grown_go (grown_on hg1 hal) hg2, hs2⟩
theorem src_wind (B g K : Nat) (w : World) (hs : SrcAt w B g K) (hK : K + 2 ≤ 1000000000) :
    Calls Tryd.prog 85 #[.pointer (some ⟨g, 0, none⟩)] w fun e w' => ∃ t : Int, (-4 ≤ t ∧ t ≤ 4) ∧ e = .returned (.int .i64 t) ∧ w.grownBy w' (some g) ∧ SrcAt w' B g (K + 2) := by
  go_enter Tryd.func85, Tryd.ntmps85
  go_wp2_with fail
  refine (src_pick B g K 9 _ (by omega) (by omega) hs (by omega)).mono ?_
  rintro e w2 ⟨r, hr, rfl, hg2, hs2⟩
  go_wp2
  go_ret
  exact ⟨r - 4, by omega, rfl, hg2, hs2⟩
theorem draw_pow (L : List Int) (A : Option Addr) (c B : Nat) (w : World) (hs : Sl w B A (L.map (Value.int .u8))) (hB : B ≤ w.heap.size) (hu : ∀ z ∈ L, IntKind.u8.has z) (hl : L.length ≤ 1048576) :
    Calls Tryd.prog 35 #[.slice A L.length c] w fun e w' => ∃ d wd : Int, (-1 ≤ d ∧ d ≤ 300001) ∧ (-4 ≤ wd ∧ wd ≤ 4) ∧ e = .returned (.tuple #[.int .i64 d, .int .i64 wd]) ∧ Below w.heap.size w w' := by
  go_enter Tryd.func35, Tryd.ntmps35
  go_wp2_with fail
  refine (src_from L _ _ B _ hs hB hu hl).mono ?_
  rintro e w1 ⟨rfl, hb1, hs1⟩
  have hgl := hs1.2.1
  go_wp2_with fail
  refine (src_pick B _ 0 9000 _ (by omega) (by omega) hs1 (by omega)).mono ?_
  rintro e w2 ⟨r, hr, rfl, hg2, hs2⟩
  have hB2 := hb1.grown hg2 (by omega) (fun k e => by have := Option.some.inj e; omega)
  go_wp2_with fail
  refine (src_one B _ 2 6 _ (by omega) (by omega) hs2 (by omega)).mono ?_
  rintro e w3 ⟨b, rfl, hg3, hs3⟩
  have hB3 := hB2.grown hg3 (by have := hg2.size; omega) (fun k e => by have := Option.some.inj e; omega)
  have hz3 := hB3.size
  have hgl3 := hs3.2.1
  clear hb1 hg2 hB2 hg3 hs2 hs1
  cases b
  · go_wp2_with fail
    refine (src_wind B _ 4 _ hs3 (by omega)).mono ?_
    rintro e w4 ⟨t, ht, rfl, hg4, hs4⟩
    have hB4 := hB3.grown hg4 (by omega) (fun k e => by have := Option.some.inj e; omega)
    go_wp2
    go_ret2
    exact ⟨r, t, by omega, ht, rfl, hB4⟩
  · go_wp2_with fail
    have hal : Below w3.heap.size w3 (w3.alloc (.cells #[.int .i64 (-1), .int .i64 0, .int .i64 50, .int .i64 51, .int .i64 14000, .int .i64 14001, .int .i64 300000, .int .i64 300001] 2)) := by go_grown
    refine (src_among B _ 4 w3.heap.size 0 8 [-1, 0, 50, 51, 14000, 14001, 300000, 300001] _ (by simp) (by simp) (hs3.on hal) (by omega) (by simp) (by omega) (fun j u hu => by rw [Nat.zero_add, World.cell?_alloc_new]; simpa using hu)).mono ?_
    rintro e w4 ⟨z, hmem, rfl, hg4, hs4⟩
    have hz : -1 ≤ z ∧ z ≤ 300001 := by simp at hmem; omega
    have hB4 := (bnext hB3 hal).grown hg4 (by simp; omega) (fun k e => by have := Option.some.inj e; omega)
    have hz4 := hB4.size
    go_wp2_with fail
    refine (src_wind B _ 6 _ hs4 (by omega)).mono ?_
    rintro e w5 ⟨t, ht, rfl, hg5, hs5⟩
    have hB5 := hB4.grown hg5 (by omega) (fun k e => by have := Option.some.inj e; omega)
    go_wp2
    go_ret2
    exact ⟨z, t, hz, ht, rfl, hB5⟩
set_option maxHeartbeats 800000 in
theorem draw_nb (L : List Int) (A : Option Addr) (c B : Nat) (w : World) (hs : Sl w B A (L.map (Value.int .u8))) (hB : B ≤ w.heap.size) (hu : ∀ z ∈ L, IntKind.u8.has z) (hl : L.length ≤ 1048576) :
    Calls Tryd.prog 29 #[.slice A L.length c] w fun e w' => ∃ k b p q t : Int, fb k ∧ fb b ∧ (-10001 ≤ p ∧ p ≤ 10000) ∧ fb q ∧ (-1 ≤ t ∧ t ≤ 1000000000001) ∧ e = .returned (.tuple #[.agg #[.int .i64 k, .int .i64 b, .int .i64 p, .int .i64 q], .int .i64 t]) ∧ Below w.heap.size w w' := by
  have hba : Below w.heap.size w (w.alloc (.cells #[.int .i64 0, .int .i64 0, .int .i64 0, .int .i64 0] 56)) := by go_grown
  have hE0 : En (w.alloc (.cells #[.int .i64 0, .int .i64 0, .int .i64 0, .int .i64 0] 56)) w.heap.size 4 := En.new w #[.int .i64 0, .int .i64 0, .int .i64 0, .int .i64 0] 56
  go_enter Tryd.func29, Tryd.ntmps29
  go_wp2_with fail
  refine (src_from L _ _ B _ (hs.below (hba.mono hB)) (by simp; omega) hu hl).mono ?_
  rintro e w1 ⟨rfl, hb1, hs1⟩
  have hz1 := hb1.size
  simp only [World.size_alloc] at hs1 hz1
  have hB1 := bnext hba hb1
  replace hE0 := hE0.on hb1
  have hgl := hs1.2.1
  obtain ⟨g, hg⟩ : ∃ g, w.heap.size + 1 = g := ⟨_, rfl⟩
  rw [hg] at hs1
  clear hba hb1
  go_wp2_with fail
  try rw [hg]
  refine (src_fog B g 0 _ hs1 (by omega) (by omega)).mono ?_
  rintro e w2 ⟨k, b, p, q, hk, hb, hp, hq, rfl, hgn, hs2⟩
  have hB2 := hB1.grown hgn (by omega) (fun k e => by have := Option.some.inj e; omega)
  have hE2 := hE0.far hgn (fun e => by have := Option.some.inj e; omega)
  have hz2 := hgn.size
  have hF := F4.new w2 k b p q 56
  have hal : Below w2.heap.size w2 (w2.alloc (.cells #[.int .i64 k, .int .i64 b, .int .i64 p, .int .i64 q] 56)) := by go_grown
  have hs3 := hs2.on hal
  have hE3 := hE2.on hal
  have hB3 := bnext hB2 hal
  obtain ⟨h, hh⟩ : ∃ h, w2.heap.size = h := ⟨_, rfl⟩
  rw [hh] at hF
  clear hgn hB1 hE0 hs1 hs2 hE2 hB2
  go_upto_region 3 with fail
  refine wp_atB ?_
  intro w3 hw3
  have hs3' : w3.heap.size = h + 1 := by rw [hw3]; simp [hh]
  rw [← hw3] at hF hs3 hE3 hB3
  have hgh : g < h := by omega
  have hww : h ≠ w.heap.size := by omega
  clear hw3 hal hh
  have n1 : (some g : Option Nat) ≠ some h := fun e => by have := Option.some.inj e; omega
  have n2 : (some g : Option Nat) ≠ some w.heap.size := fun e => by have := Option.some.inj e; omega
  have hK0 : 0 + 12 + 4 ≤ 1000000000 := by omega
  obtain ⟨⟨hl4, hen4⟩, k0, k1, k2, k3⟩ := id hF
  have d0 : w3.drew.cell? ⟨h, 0, none⟩ = some (.int .i64 k) := k0
  have d1 : w3.drew.cell? ⟨h, 1, none⟩ = some (.int .i64 b) := k1
  have d2 : w3.drew.cell? ⟨h, 2, none⟩ = some (.int .i64 p) := k2
  have d3 : w3.drew.cell? ⟨h, 3, none⟩ = some (.int .i64 q) := k3
  have HB := Lib.hid hB3
  clear hB3
  go_region_held3 (fun w' => w'.cell? ⟨h, 0, none⟩ = some (.int .i64 k) ∧ w'.cell? ⟨h, 1, none⟩ = some (.int .i64 b) ∧ w'.cell? ⟨h, 2, none⟩ = some (.int .i64 p) ∧ w'.cell? ⟨h, 3, none⟩ = some (.int .i64 q)) (first | (with_reducible exact ⟨d0, d1, d2, d3⟩) | (with_reducible exact ⟨q0, q1, q2, q3⟩) | (with_reducible exact f4_four hww q0 q1 q2 q3)) ((go_at_call 76; (with_reducible refine (src_time B g (0 + 12) _ (hs3.on (by go_grown)) hK0).mono ?_); rintro e w9 ⟨t, ht, rfl, hg9, hs9⟩; have hF9 := (hF.on (by go_grown)).far hg9 n1; have hE9 := (hE3.on (by go_grown)).far hg9 n2; obtain ⟨_, q0, q1, q2, q3⟩ := id hF9; obtain ⟨⟨r0, y0⟩, y1⟩ := hE9.at (k := 0) (by omega); obtain ⟨⟨r1, y2⟩, y3⟩ := hE9.at (k := 1) (by omega); obtain ⟨⟨r2, y4⟩, y5⟩ := hE9.at (k := 2) (by omega); obtain ⟨⟨r3, y6⟩, y7⟩ := hE9.at (k := 3) (by omega)))
  refine then_at2 ?_
  intro wf hwf
  obtain ⟨⟨_, t0, t1, t2, t3⟩, hgw⟩ := four_F hE9 hwf
  have hB9 : Below w.heap.size w w9 := (bnext HB.out ((Below.refl _ _).drew)).grown hg9 (by have := HB.out.size; simpa using this) (fun k e => by have := Option.some.inj e; omega)
  have hBf := hB9.grown hgw hB9.size (fun k e => by have := Option.some.inj e; omega)
  clear hwf hgw y0 y1 y2 y3 y4 y5 y6 y7 d0 d1 d2 d3 k0 k1 k2 k3 q0 q1 q2 q3
  go_wp2_with fail
  refine bodyPost_ret (by simp [results, Tryd.results29, go_sem, t0, t1, t2, t3]; try rfl) rfl ?_
  exact ⟨k, b, p, q, t, hk, hb, hp, hq, ht, rfl, hBf⟩
end Go.Proofs.YtbikppndhidbpaaDoor
