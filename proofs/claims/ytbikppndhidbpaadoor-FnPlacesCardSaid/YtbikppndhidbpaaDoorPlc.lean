/-
  Contracts of places for all points, valid or not: distances, sides, points between, the nearest of some. Under the conditions that each states.
-/
import Derived.Test.YtbikppndhidbpaaDoorBtw
import Derived.Test.YtbikppndhidbpaaDoorRow
import Derived.Test.YtbikppndhidbpaaDoorChan
import Derived.Test.YtbikppndhidbpaaDoorAlong
set_option linter.unusedVariables false
set_option linter.unnecessarySimpa false
set_option maxRecDepth 100000
set_option linter.unusedSimpArgs false
namespace Go.Proofs.YtbikppndhidbpaaDoor
open Go.RowKit BigFrame

theorem vp_bd {x y : Int} (h : vPoint x y = true) : (0 ≤ x ∧ x ≤ 200000) ∧ (0 ≤ y ∧ y ≤ 200000) := vPoint_yes h
def v3 (ax ay bx by_ px py : Int) : Bool := vPoint ax ay && (vPoint bx by_ && vPoint px py)
theorem v3_yes {ax ay bx by_ px py : Int} (h : v3 ax ay bx by_ px py = true) : vPoint ax ay = true ∧ vPoint bx by_ = true ∧ vPoint px py = true := by
  unfold v3 at h; rw [Bool.and_eq_true, Bool.and_eq_true] at h; exact h
theorem vPoint2_yes {ax ay bx by_ : Int} (h : vPoint2 ax ay bx by_ = true) : vPoint ax ay = true ∧ vPoint bx by_ = true := by
  unfold vPoint2 at h; rw [Bool.and_eq_true] at h; exact h
def dstV (ax ay bx by_ : Int) : Int := if vPoint2 ax ay bx by_ then distM ax ay bx by_ else 0
def gapV (ax ay bx by_ px py : Int) : Int := if v3 ax ay bx by_ px py then gapM ax ay bx by_ px py else 0
def sidV (ax ay bx by_ px py : Int) : Int := if v3 ax ay bx by_ px py then sideM (crossM ax ay bx by_ px py) else 0
theorem dstV_symm (ax ay bx by_ : Int) : dstV ax ay bx by_ = dstV bx by_ ax ay := by
  unfold dstV vPoint2
  rw [Bool.and_comm, distM_symm]
theorem v3_symm (ax ay bx by_ px py : Int) : v3 ax ay bx by_ px py = v3 bx by_ ax ay px py := by
  unfold v3
  cases vPoint ax ay <;> cases vPoint bx by_ <;> rfl
theorem gapV_symm (ax ay bx by_ px py : Int) : gapV ax ay bx by_ px py = gapV bx by_ ax ay px py := by
  unfold gapV
  rw [v3_symm, gap_symm]
theorem sidV_symm (ax ay bx by_ px py : Int) : sidV ax ay bx by_ px py = -sidV bx by_ ax ay px py := by
  have e : crossM ax ay bx by_ px py = -crossM bx by_ ax ay px py := crossM_symm bx by_ ax ay px py
  unfold sidV
  rw [v3_symm ax ay bx by_, e, sideM_neg]
  split
  · rfl
  · rfl
theorem dstV_bd (ax ay bx by_ : Int) : 0 ≤ dstV ax ay bx by_ ∧ dstV ax ay bx by_ ≤ 282843 := by
  unfold dstV
  split
  · rename_i h
    obtain ⟨h1, h2⟩ := vPoint2_yes h
    exact ⟨distM_nonneg _ _ _ _, dist_le (vp_bd h1).1 (vp_bd h1).2 (vp_bd h2).1 (vp_bd h2).2⟩
  · omega
theorem gapV_nonneg (ax ay bx by_ px py : Int) : 0 ≤ gapV ax ay bx by_ px py := by
  unfold gapV
  split
  · exact gapM_nonneg _ _ _ _ _ _
  · omega
theorem sidV_bd (ax ay bx by_ px py : Int) : -1 ≤ sidV ax ay bx by_ px py ∧ sidV ax ay bx by_ px py ≤ 1 := by
  unfold sidV sideM
  split
  · split
    · omega
    · split <;> omega
  · omega
theorem arePoints_three (x1 y1 x2 y2 x3 y3 : Int) (g : Nat) (w : World) (hg : g < w.heap.size) (c0 : w.cell? ⟨g, 0, none⟩ = some (.int .i64 x1)) (c1 : w.cell? ⟨g, 1, none⟩ = some (.int .i64 y1)) (c2 : w.cell? ⟨g, 2, none⟩ = some (.int .i64 x2)) (c3 : w.cell? ⟨g, 3, none⟩ = some (.int .i64 y2)) (c4 : w.cell? ⟨g, 4, none⟩ = some (.int .i64 x3)) (c5 : w.cell? ⟨g, 5, none⟩ = some (.int .i64 y3)) :
    Calls Tryd.prog 60 #[.slice (some ⟨g, 0, none⟩) 3 3] w fun e w' => e = .returned (.bool (v3 x1 y1 x2 y2 x3 y3)) ∧ Below w.heap.size w w' := by
  have hs : Sl w w.heap.size (some ⟨g, 0, none⟩) (pcells [(x1, y1), (x2, y2), (x3, y3)]) := fun _ => ⟨g, 0, rfl, hg, fun j u hu => by
    rw [Nat.zero_add]
    match j, hu with
    | 0, hu => simp [pcells] at hu; rw [c0, hu]
    | 1, hu => simp [pcells] at hu; rw [c1, hu]
    | 2, hu => simp [pcells] at hu; rw [c2, hu]
    | 3, hu => simp [pcells] at hu; rw [c3, hu]
    | 4, hu => simp [pcells] at hu; rw [c4, hu]
    | 5, hu => simp [pcells] at hu; rw [c5, hu]
    | j + 6, hu => simp [pcells] at hu⟩
  have h := arePoints_any [(x1, y1), (x2, y2), (x3, y3)] _ 3 _ w hs (Nat.le_refl _) (by simp)
  have e : vPoints [(x1, y1), (x2, y2), (x3, y3)] = v3 x1 y1 x2 y2 x3 y3 := by simp [vPoints, v3]
  rw [e] at h
  exact h
theorem impl_DistV (ax ay bx by_ : Int) (w : World) : Calls Tryd.prog 19 #[.agg #[.int .i64 ax, .int .i64 ay], .agg #[.int .i64 bx, .int .i64 by_]] w fun e w' => e = .returned (.int .i64 (dstV ax ay bx by_)) ∧ Below w.heap.size w w' := by
  cases h : vPoint2 ax ay bx by_
  · have hV : Hid (dstV ax ay bx by_ = 0) := Lib.hid (by unfold dstV; rw [h]; rfl)
    have hA := fun g w a b c d e => arePoints_two ax ay bx by_ g w a b c d e
    rw [h] at hA
    go_enter Tryd.func19, Tryd.ntmps19
    go_wp2_with (go_at_call 60; refine (hA _ _ (by simp) (by simp [go_sem]) (by simp [go_sem]) (by simp [go_sem]) (by simp [go_sem])).mono ?_; rintro e w1 ⟨rfl, hb1⟩; have hB1 := bnext (w := w) (by go_grown) hb1; have hS1 := hB1.size; (skip); obtain ⟨hc1, hf1⟩ := bcell hb1; clear hb1)
    go_ret
    exact ⟨ret_int hV.out.symm, hB1⟩
  · obtain ⟨h1, h2⟩ := vPoint2_yes h
    have := impl_Distance ax ay bx by_ w (vp_bd h1).1 (vp_bd h1).2 (vp_bd h2).1 (vp_bd h2).2
    unfold dstV
    rw [h]
    exact this
theorem impl_GapV (ax ay bx by_ px py : Int) (w : World) : Calls Tryd.prog 20 #[.agg #[.int .i64 ax, .int .i64 ay], .agg #[.int .i64 bx, .int .i64 by_], .agg #[.int .i64 px, .int .i64 py]] w fun e w' => e = .returned (.int .i64 (gapV ax ay bx by_ px py)) ∧ Below w.heap.size w w' := by
  cases h : v3 ax ay bx by_ px py
  · have hV : Hid (gapV ax ay bx by_ px py = 0) := Lib.hid (by unfold gapV; rw [h]; rfl)
    have hA := fun g w a b c d e f k => arePoints_three ax ay bx by_ px py g w a b c d e f k
    rw [h] at hA
    go_enter Tryd.func20, Tryd.ntmps20
    go_wp2_with (go_at_call 60; refine (hA _ _ (by simp) (by simp [go_sem]) (by simp [go_sem]) (by simp [go_sem]) (by simp [go_sem]) (by simp [go_sem]) (by simp [go_sem])).mono ?_; rintro e w1 ⟨rfl, hb1⟩; have hB1 := bnext (w := w) (by go_grown) hb1; have hS1 := hB1.size; (skip); obtain ⟨hc1, hf1⟩ := bcell hb1; clear hb1)
    go_ret
    exact ⟨ret_int hV.out.symm, hB1⟩
  · obtain ⟨h1, h2, h3⟩ := v3_yes h
    have := impl_DTS ax ay bx by_ px py w (vp_bd h1).1 (vp_bd h1).2 (vp_bd h2).1 (vp_bd h2).2 (vp_bd h3).1 (vp_bd h3).2
    unfold gapV
    rw [h]
    exact this
theorem impl_SidV (ax ay bx by_ px py : Int) (w : World) : Calls Tryd.prog 23 #[.agg #[.int .i64 ax, .int .i64 ay], .agg #[.int .i64 bx, .int .i64 by_], .agg #[.int .i64 px, .int .i64 py]] w fun e w' => e = .returned (.int .i64 (sidV ax ay bx by_ px py)) ∧ Below w.heap.size w w' := by
  cases h : v3 ax ay bx by_ px py
  · have hV : Hid (sidV ax ay bx by_ px py = 0) := Lib.hid (by unfold sidV; rw [h]; rfl)
    have hA := fun g w a b c d e f k => arePoints_three ax ay bx by_ px py g w a b c d e f k
    rw [h] at hA
    go_enter Tryd.func23, Tryd.ntmps23
    go_wp2_with (go_at_call 60; refine (hA _ _ (by simp) (by simp [go_sem]) (by simp [go_sem]) (by simp [go_sem]) (by simp [go_sem]) (by simp [go_sem]) (by simp [go_sem])).mono ?_; rintro e w1 ⟨rfl, hb1⟩; have hB1 := bnext (w := w) (by go_grown) hb1; have hS1 := hB1.size; (skip); obtain ⟨hc1, hf1⟩ := bcell hb1; clear hb1)
    go_ret
    exact ⟨ret_int hV.out.symm, hB1⟩
  · obtain ⟨h1, h2, h3⟩ := v3_yes h
    have := impl_SideOf ax ay bx by_ px py w (vp_bd h1).1 (vp_bd h1).2 (vp_bd h2).1 (vp_bd h2).2 (vp_bd h3).1 (vp_bd h3).2
    unfold sidV
    rw [h]
    exact this
theorem spec_VPoint (x y : Int) (w : World) : Calls Tryd.prog 22 #[.agg #[.int .i64 x, .int .i64 y]] w fun e w' => e = .returned (.bool (vPoint x y)) ∧ Below w.heap.size w w' := by
  go_enter Tryd.func22, Tryd.ntmps22
  go_wp2_with (go_at_call 68; refine (spec_l02Ok _ _ _).mono ?_; rintro e w1 ⟨rfl, hb1⟩; have hB1 := bnext (w := w) (by go_grown) hb1; have hS1 := hB1.size; (skip); obtain ⟨hc1, hf1⟩ := bcell hb1; clear hb1)
  go_ret
  exact ⟨rfl, by go_grown⟩
theorem spec_DistV (x1 y1 x2 y2 : Int) (w : World) (h1 : vPoint x1 y1 = true) (h2 : vPoint x2 y2 = true) : Calls Tryd.prog 26 #[.agg #[.int .i64 x1, .int .i64 y1], .agg #[.int .i64 x2, .int .i64 y2]] w fun e w' => e = .returned (.int .i64 (distM x1 y1 x2 y2)) ∧ Below w.heap.size w w' := by
  have hA := fun w => spec_l02Ok x1 y1 w
  have hC := fun w => spec_l02Ok x2 y2 w
  rw [h1] at hA
  rw [h2] at hC
  have hq := fun w => spec_Apart x1 y1 x2 y2 w (vp_bd h1).1 (vp_bd h1).2 (vp_bd h2).1 (vp_bd h2).2
  clear h1 h2
  have hP1 : PtB ((w.alloc (.cells #[.int .i64 x1, .int .i64 y1] 38)).alloc (.cells #[.int .i64 x2, .int .i64 y2] 38)) w.heap.size x1 y1 := ⟨by simp; omega, by simp [go_sem], by simp [go_sem]⟩
  have hP2 : PtB ((w.alloc (.cells #[.int .i64 x1, .int .i64 y1] 38)).alloc (.cells #[.int .i64 x2, .int .i64 y2] 38)) (w.heap.size + 1) x2 y2 := ⟨by simp, by simp [go_sem], by simp [go_sem]⟩
  go_enter Tryd.func26, Tryd.ntmps26
  go_wp2_with fail
  refine (hA _).mono ?_
  rintro e w1 ⟨rfl, hb1⟩
  have hB1 := bnext (w := w) (by go_grown) hb1
  replace hP1 := hP1.on hb1
  replace hP2 := hP2.on hb1
  obtain ⟨_, a0, a1⟩ := id hP1
  obtain ⟨_, a2, a3⟩ := id hP2
  clear hb1
  go_wp2_with fail
  refine (hC _).mono ?_
  rintro e w2 ⟨rfl, hb2⟩
  have hB2 := bnext hB1 hb2
  replace hP1 := hP1.on hb2
  replace hP2 := hP2.on hb2
  clear a0 a1 a2 a3
  obtain ⟨_, a0, a1⟩ := id hP1
  obtain ⟨_, a2, a3⟩ := id hP2
  clear hb2
  go_wp2_with fail
  refine (hq _).mono ?_
  rintro e w3 ⟨rfl, hb3⟩
  go_wp2
  go_ret
  exact ⟨rfl, bnext hB2 hb3⟩
def betC (ax ay bx by_ i n : Int) : Int := if vPoint2 ax ay bx by_ then (if inB n 1 1000000 && inB i 0 n then 0 else 2) else 1
def betX (ax ay bx by_ i n : Int) : Int := if betC ax ay bx by_ i n = 0 then (btwM ax ay bx by_ i n).1 else 0
def betY (ax ay bx by_ i n : Int) : Int := if betC ax ay bx by_ i n = 0 then (btwM ax ay bx by_ i n).2 else 0
theorem bet_ok {ax ay bx by_ i n : Int} (h : betC ax ay bx by_ i n = 0) : vPoint ax ay = true ∧ vPoint bx by_ = true ∧ (1 ≤ n ∧ n ≤ 1000000) ∧ 0 ≤ i ∧ i ≤ n := by
  unfold betC at h
  split at h
  · rename_i h1
    split at h
    · rename_i h2
      rw [Bool.and_eq_true, inB_yes, inB_yes] at h2
      exact ⟨(vPoint2_yes h1).1, (vPoint2_yes h1).2, h2.1, h2.2⟩
    · omega
  · omega
theorem bet_symm (ax ay bx by_ i n : Int) : betC bx by_ ax ay (n - i) n = betC ax ay bx by_ i n ∧ betX bx by_ ax ay (n - i) n = betX ax ay bx by_ i n ∧ betY bx by_ ax ay (n - i) n = betY ax ay bx by_ i n := by
  have e : betC bx by_ ax ay (n - i) n = betC ax ay bx by_ i n := by
    have e1 : vPoint2 bx by_ ax ay = vPoint2 ax ay bx by_ := by unfold vPoint2; rw [Bool.and_comm]
    have e2 : inB (n - i) 0 n = inB i 0 n := by
      cases h : inB i 0 n
      · rw [inB_no] at h; exact inB_un (by omega)
      · rw [inB_yes] at h; exact inB_mk (by omega) (by omega)
    unfold betC
    rw [e1, e2]
  unfold betX betY
  rw [e]
  refine ⟨rfl, ?_, ?_⟩
  · split
    · rename_i h; rw [btw_symm ax ay bx by_ i n (bet_ok h).2.2.1.1]
    · rfl
  · split
    · rename_i h; rw [btw_symm ax ay bx by_ i n (bet_ok h).2.2.1.1]
    · rfl
set_option maxHeartbeats 800000 in
theorem impl_Bet (ax ay bx by_ i n : Int) (w : World) : Calls Tryd.prog 18 #[.agg #[.int .i64 ax, .int .i64 ay], .agg #[.int .i64 bx, .int .i64 by_], .int .i64 i, .int .i64 n] w fun e w' => e = .returned (.tuple #[.agg #[.int .i64 (betX ax ay bx by_ i n), .int .i64 (betY ax ay bx by_ i n)], .int .i64 (betC ax ay bx by_ i n)]) ∧ Below w.heap.size w w' := by
  have hA := fun g w a b c d e => arePoints_two ax ay bx by_ g w a b c d e
  have hN := fun w => within_any n 1 1000000 w
  have hI := fun w => within_any i 0 n w
  obtain ⟨C, hC⟩ : ∃ C, betC ax ay bx by_ i n = C := ⟨_, rfl⟩
  obtain ⟨X, hX⟩ : ∃ X, betX ax ay bx by_ i n = X := ⟨_, rfl⟩
  obtain ⟨Y, hY⟩ : ∃ Y, betY ax ay bx by_ i n = Y := ⟨_, rfl⟩
  have hE0 : Ey (((w.alloc (.cells #[.int .i64 ax, .int .i64 ay] 38)).alloc (.cells #[.int .i64 bx, .int .i64 by_] 38)).alloc (.cells #[.int .i64 0, .int .i64 0] 38)) (w.heap.size + 2) := by have := Ey.new ((w.alloc (.cells #[.int .i64 ax, .int .i64 ay] 38)).alloc (.cells #[.int .i64 bx, .int .i64 by_] 38)) 0 0 38; simpa using this
  rw [hC, hX, hY]
  obtain ⟨v, hvv⟩ : ∃ v, vPoint2 ax ay bx by_ = v := ⟨_, rfl⟩
  have hP1 : PtB (((w.alloc (.cells #[.int .i64 ax, .int .i64 ay] 38)).alloc (.cells #[.int .i64 bx, .int .i64 by_] 38)).alloc (.cells #[.int .i64 0, .int .i64 0] 38)) w.heap.size ax ay := ⟨by simp; omega, by simp [go_sem], by simp [go_sem]⟩
  have hP2 : PtB (((w.alloc (.cells #[.int .i64 ax, .int .i64 ay] 38)).alloc (.cells #[.int .i64 bx, .int .i64 by_] 38)).alloc (.cells #[.int .i64 0, .int .i64 0] 38)) (w.heap.size + 1) bx by_ := ⟨by simp, by simp [go_sem], by simp [go_sem]⟩
  simp only [hvv] at hA
  have hBt : v = true → inB n 1 1000000 = true → inB i 0 n = true → ∀ w, Calls Tryd.prog 62 #[.agg #[.int .i64 ax, .int .i64 ay], .agg #[.int .i64 bx, .int .i64 by_], .int .i64 i, .int .i64 n] w fun e w' => e = .returned (.agg #[.int .i64 X, .int .i64 Y]) ∧ Below w.heap.size w w' := fun hv q1 q2 w => by
    rw [hv] at hvv
    obtain ⟨h1, h2⟩ := vPoint2_yes hvv
    have hn := inB_yes.1 q1
    have hi := inB_yes.1 q2
    have h1 := vp_bd h1
    have h2 := vp_bd h2
    have hb := impl_btw ax ay bx by_ i n w (by omega) (by omega) (by omega) (by omega) hi hn
    have hc : betC ax ay bx by_ i n = 0 := by unfold betC; rw [hvv, q1, q2]; rfl
    rw [← hX, ← hY]
    unfold betX betY
    rw [hc]
    exact hb
  have hv0 : Hid (v = false → C = 1 ∧ X = 0 ∧ Y = 0) := Lib.hid (fun h => by
    have hc : betC ax ay bx by_ i n = 1 := by unfold betC; rw [hvv, h]; rfl
    refine ⟨by rw [← hC, hc], by rw [← hX]; unfold betX; rw [hc]; rfl, by rw [← hY]; unfold betY; rw [hc]; rfl⟩)
  have hv1 : Hid (v = true → (inB n 1 1000000 && inB i 0 n) = false → C = 2 ∧ X = 0 ∧ Y = 0) := Lib.hid (fun h h2 => by
    have hc : betC ax ay bx by_ i n = 2 := by unfold betC; rw [hvv, h, h2]; rfl
    refine ⟨by rw [← hC, hc], by rw [← hX]; unfold betX; rw [hc]; rfl, by rw [← hY]; unfold betY; rw [hc]; rfl⟩)
  have hv2 : Hid (v = true → (inB n 1 1000000 && inB i 0 n) = true → C = 0) := Lib.hid (fun h h2 => by
    rw [← hC]; unfold betC; rw [hvv, h, h2]; rfl)
  clear hC hX hY hvv
  go_enter Tryd.func18, Tryd.ntmps18
  go_upto_region 1 with fail
  refine wp_atB ?_
  intro wa hwa
  have hba : Below w.heap.size w wa := by rw [hwa]; go_grown
  rw [← hwa] at hE0 hP1 hP2
  clear hwa
  obtain ⟨_, a0, a1⟩ := id hP1
  obtain ⟨_, a2, a3⟩ := id hP2
  have hza : w.heap.size + 2 < wa.heap.size := hE0.1
  go_wp2_with fail
  refine (hA _ _ (by simp) (by simp [go_sem]) (by simp [go_sem]) (by simp [go_sem]) (by simp [go_sem])).mono ?_
  rintro e w1 ⟨rfl, hb1⟩
  have hb1' := bnext (show Below wa.heap.size wa _ by go_grown) hb1
  have hB1 := bnext hba hb1'
  replace hE0 := hE0.on hb1'
  replace hP1 := hP1.on hb1'
  replace hP2 := hP2.on hb1'
  clear hb1 hb1' a0 a1 a2 a3 hba hA
  obtain ⟨_, ⟨d0, d1⟩, d2, d3⟩ := id hE0
  have d0 := heldB_is d0
  have d1 := heldB_is d1
  obtain ⟨_, a0, a1⟩ := id hP1
  obtain ⟨_, a2, a3⟩ := id hP2
  cases v
  · obtain ⟨rfl, rfl, rfl⟩ := hv0.out rfl
    go_wp2_with fail
    refine end_atA ?_
    intro wf hwf
    obtain ⟨t0, t1⟩ : wf.cell? ⟨w.heap.size + 2, 0, none⟩ = some _ ∧ wf.cell? ⟨w.heap.size + 2, 1, none⟩ = some _ := by rw [hwf]; exact hE0.read _ _
    have hBf : Below w.heap.size w wf := by rw [hwf]; exact (hB1.setCell (by simp; omega) _).setCell (by simp; omega) _
    clear hwf
    refine bodyPost_ret (by simp [results, Tryd.results18, go_sem, t0, t1]; try rfl) rfl ?_
    exact ⟨rfl, hBf⟩
  cases hn : inB n 1 1000000
  · obtain ⟨rfl, rfl, rfl⟩ := hv1.out rfl (by rw [hn]; rfl)
    rw [hn] at hN
    go_wp2_with (go_at_call 61; refine (hN _).mono ?_; rintro e w' ⟨rfl, rfl⟩)
    refine end_atA ?_
    intro wf hwf
    obtain ⟨t0, t1⟩ : wf.cell? ⟨w.heap.size + 2, 0, none⟩ = some _ ∧ wf.cell? ⟨w.heap.size + 2, 1, none⟩ = some _ := by rw [hwf]; exact hE0.read _ _
    have hBf : Below w.heap.size w wf := by rw [hwf]; exact (hB1.setCell (by simp; omega) _).setCell (by simp; omega) _
    clear hwf
    refine bodyPost_ret (by simp [results, Tryd.results18, go_sem, t0, t1]; try rfl) rfl ?_
    exact ⟨rfl, hBf⟩
  cases hi : inB i 0 n
  · obtain ⟨rfl, rfl, rfl⟩ := hv1.out rfl (by rw [hi, hn]; rfl)
    rw [hn] at hN
    rw [hi] at hI
    clear hn hi
    go_wp2_with (first | (go_at_call 61; with_reducible refine (hN _).mono ?_; rintro e w' ⟨rfl, rfl⟩) | (go_at_call 61; with_reducible refine (hI _).mono ?_; rintro e w' ⟨rfl, rfl⟩))
    refine end_atA ?_
    intro wf hwf
    obtain ⟨t0, t1⟩ : wf.cell? ⟨w.heap.size + 2, 0, none⟩ = some _ ∧ wf.cell? ⟨w.heap.size + 2, 1, none⟩ = some _ := by rw [hwf]; exact hE0.read _ _
    have hBf : Below w.heap.size w wf := by rw [hwf]; exact (hB1.setCell (by simp; omega) _).setCell (by simp; omega) _
    clear hwf
    refine bodyPost_ret (by simp [results, Tryd.results18, go_sem, t0, t1]; try rfl) rfl ?_
    exact ⟨rfl, hBf⟩
  · obtain rfl := hv2.out rfl (by rw [hi, hn]; rfl)
    rw [hn] at hN
    rw [hi] at hI
    have hBt' := hBt rfl hn hi
    clear hn hi hBt
    go_wp2_with (first | (go_at_call 61; with_reducible refine (hN _).mono ?_; rintro e w' ⟨rfl, rfl⟩) | (go_at_call 61; with_reducible refine (hI _).mono ?_; rintro e w' ⟨rfl, rfl⟩))
    refine (hBt' _).mono ?_
    rintro e w2 ⟨rfl, hb2⟩
    have hB2 := bnext hB1 hb2
    have hE2 := hE0.on hb2
    clear hb2 d0 d1 d2 d3 hBt'
    obtain ⟨_, ⟨d0, d1⟩, d2, d3⟩ := id hE2
    have d0 := heldB_is d0
    have d1 := heldB_is d1
    go_wp2_with fail
    refine end_atA ?_
    intro wf hwf
    obtain ⟨t0, t1⟩ : wf.cell? ⟨w.heap.size + 2, 0, none⟩ = some _ ∧ wf.cell? ⟨w.heap.size + 2, 1, none⟩ = some _ := by rw [hwf]; exact hE2.read _ _
    have hBf : Below w.heap.size w wf := by rw [hwf]; exact (hB2.setCell (by simp; omega) _).setCell (by simp; omega) _
    clear hwf
    refine bodyPost_ret (by simp [results, Tryd.results18, go_sem, t0, t1]; try rfl) rfl ?_
    exact ⟨rfl, hBf⟩
def ptsOf (P : List RPoint) : List (Int × Int) := P.map fun p => (p.f0, p.f1)
theorem pts_cells (P : List RPoint) : pcells (ptsOf P) = flat RPoint.cells P := by
  unfold pcells ptsOf flat
  rw [List.flatMap_map]
  rfl
theorem pts_all {P : List RPoint} (h : vPoints (ptsOf P) = true) : ∀ p ∈ P, vPoint p.f0 p.f1 = true := fun p hp => by
  unfold vPoints ptsOf at h
  rw [List.all_eq_true] at h
  exact h _ (List.mem_map.2 ⟨p, hp, rfl⟩)
def sqP (P : List RPoint) (x y : Int) (k : Nat) : Int := sqM (P.getD k default).f0 (P.getD k default).f1 x y
def NearK (P : List RPoint) (x y k : Int) : Prop := vPoint x y = true ∧ (∀ p ∈ P, vPoint p.f0 p.f1 = true) ∧ ∃ m : Nat, k = m ∧ m < P.length ∧ ∀ j, j < P.length → sqP P x y m ≤ sqP P x y j
theorem near_keep {P : List RPoint} {x y : Int} {k b : Nat} (h : ∀ j, j < k → sqP P x y b ≤ sqP P x y j) (hn : sqP P x y b ≤ sqP P x y k) : ∀ j, j < k + 1 → sqP P x y b ≤ sqP P x y j := fun j hj => by
  rcases (by omega : j < k ∨ j = k) with h1 | rfl
  · exact h j h1
  · exact hn
theorem near_turn {P : List RPoint} {x y : Int} {k b : Nat} (h : ∀ j, j < k → sqP P x y b ≤ sqP P x y j) (hn : sqP P x y k < sqP P x y b) : ∀ j, j < k + 1 → sqP P x y k ≤ sqP P x y j := fun j hj => by
  rcases (by omega : j < k ∨ j = k) with h1 | rfl
  · have := h j h1; omega
  · exact Int.le_refl _
set_option maxHeartbeats 1600000 in
theorem impl_Nearest (P : List RPoint) (A : Option Addr) (c B : Nat) (x y : Int) (w : World) (hP : Sl w B A (flat RPoint.cells P)) (hB : B ≤ w.heap.size) (hl : P.length ≤ 1000) :
    Calls Tryd.prog 25 #[.slice A P.length c, .agg #[.int .i64 x, .int .i64 y]] w fun e w' => ∃ k cd : Int, e = .returned (.tuple #[.int .i64 k, .int .i64 cd]) ∧ Below w.heap.size w w' ∧ ((cd ≠ 0 ∧ k = 0) ∨ (cd = 0 ∧ NearK P x y k)) := by
  have hpl : (ptsOf P).length = P.length := List.length_map ..
  have hA := fun w hP hB => arePoints_any (ptsOf P) A c B w hP hB (by omega)
  simp only [pts_cells, hpl] at hA
  have hP' := Lib.hid hP
  obtain ⟨v, hv⟩ : ∃ v, vPoints (ptsOf P) = v := ⟨_, rfl⟩
  rw [hv] at hA
  have hvp := fun w => impl_ValidPoint x y w
  obtain ⟨u, hu⟩ : ∃ u, vPoint x y = u := ⟨_, rfl⟩
  simp only [hu] at hvp
  have hba : Below w.heap.size w (w.alloc (.cells #[.int .i64 x, .int .i64 y] 38)) := by go_grown
  have hPt : PtB (w.alloc (.cells #[.int .i64 x, .int .i64 y] 38)) w.heap.size x y := ⟨by simp, by simp, by simp⟩
  clear hP
  go_enter Tryd.func25, Tryd.ntmps25
  go_wp2_with fail
  refine (hA _ (hP'.out.below (hba.mono hB)) (by simp; omega)).mono ?_
  rintro e w1 ⟨rfl, hb1⟩
  have hB1 := bnext hba hb1
  replace hPt := hPt.on hb1
  obtain ⟨_, a0, a1⟩ := id hPt
  clear hb1 hba hA
  cases v
  · go_wp2_with fail
    go_ret2
    exact ⟨0, 1, rfl, hB1, .inl ⟨by omega, rfl⟩⟩
  go_wp2_with fail
  refine (hvp _).mono ?_
  rintro e w2 ⟨rfl, hb2⟩
  have hB2 := bnext hB1 hb2
  replace hPt := hPt.on hb2
  clear hb2 hB1 hvp a0 a1
  obtain ⟨_, a0, a1⟩ := id hPt
  cases u
  · go_wp2_with fail
    go_ret2
    exact ⟨0, 1, rfl, hB2, .inl ⟨by omega, rfl⟩⟩
  by_cases h64 : P.length ≤ 64
  rotate_left
  · have hf : decide ((P.length : Int) ≤ 64) = false := decide_eq_false (by omega)
    go_wp2_with (go_at_call 70; refine (impl_few _ _ _).mono ?_; rintro e w' ⟨rfl, rfl⟩)
    go_ret2
    exact ⟨0, 5, rfl, hB2, .inl ⟨by omega, rfl⟩⟩
  have hf : decide ((P.length : Int) ≤ 64) = true := decide_eq_true (by omega)
  by_cases h0 : P.length = 0
  · have e0 : ((P.length : Int) == 0) = true := by rw [h0]; rfl
    go_wp2_with (go_at_call 70; refine (impl_few _ _ _).mono ?_; rintro e w' ⟨rfl, rfl⟩)
    go_ret2
    exact ⟨0, 6, rfl, hB2, .inl ⟨by omega, rfl⟩⟩
  have e0 : ((P.length : Int) == 0) = false := beq_eq_false_iff_ne.2 (by omega)
  have hall := Lib.hid (pts_all hv)
  have hxy := vp_bd hu
  have hu' := Lib.hid hu
  clear hv hu
  go_wp2_with (go_at_call 70; refine (impl_few _ _ _).mono ?_; rintro e w' ⟨rfl, rfl⟩)
  go_loopw [6, 29] (fun s i wr => ∃ b k : Nat, s = .int .i64 b ∧ i = .int .i64 k ∧ k ≤ P.length ∧ b < P.length ∧ Hid (∀ j, j < k → sqP P x y b ≤ sqP P x y j) ∧ Below w.heap.size w wr ∧ PtB wr w.heap.size x y) (fun _ i _ => P.length - (intOf i).toNat)
  case atStart => exact ⟨0, 0, rfl, rfl, Nat.zero_le _, by omega, Lib.hid (fun j hj => by omega), hB2, hPt⟩
  case round =>
    clear hPt hB2 a0 a1
    obtain ⟨b, k, rfl, rfl, hk, hbl, hle, hBr, hPt⟩ := hrel
    obtain ⟨hpz, a0, a1⟩ := id hPt
    have hSr := hBr.size
    by_cases hlt : k < P.length
    · obtain ⟨g, o, rfl, hg, he⟩ := Sl.elem RPoint.len (by decide) (hP'.out.below (hBr.mono hB)) hlt
      obtain ⟨g', o', e', _, he2⟩ := Sl.elem RPoint.len (by decide) (hP'.out.below (hBr.mono hB)) hbl
      cases e'
      have hm1 := hall.out _ (List.getElem_mem hlt)
      have hm2 := hall.out _ (List.getElem_mem hbl)
      have q1 : sqP P x y k = sqM (P[k]).f0 (P[k]).f1 x y := by unfold sqP; rw [List.getD_eq_getElem?_getD, List.getElem?_eq_getElem hlt]; rfl
      have q2 : sqP P x y b = sqM (P[b]).f0 (P[b]).f1 x y := by unfold sqP; rw [List.getD_eq_getElem?_getD, List.getElem?_eq_getElem hbl]; rfl
      obtain ⟨a, ha⟩ : ∃ a, P[k] = a := ⟨_, rfl⟩
      obtain ⟨d, hd⟩ : ∃ d, P[b] = d := ⟨_, rfl⟩
      rw [ha] at he hm1 q1
      rw [hd] at he2 hm2 q2
      clear ha hd
      have d0 : wr.cell? ⟨g, o + k * 2, none⟩ = some (.int .i64 a.f0) := by have := he 0 _ rfl; simpa [Nat.add_assoc] using this
      have d1 : wr.cell? ⟨g, o + k * 2 + 1, none⟩ = some (.int .i64 a.f1) := by have := he 1 _ rfl; simpa [Nat.add_assoc] using this
      have n0 : wr.cell? ⟨g, o + b * 2, none⟩ = some (.int .i64 d.f0) := by have := he2 0 _ rfl; simpa [Nat.add_assoc] using this
      have n1 : wr.cell? ⟨g, o + b * 2 + 1, none⟩ = some (.int .i64 d.f1) := by have := he2 1 _ rfl; simpa [Nat.add_assoc] using this
      clear he he2
      have hs1 := fun w => impl_squared a.f0 a.f1 x y w (vp_bd hm1).1 (vp_bd hm1).2 hxy.1 hxy.2
      have hs2 := fun w => impl_squared d.f0 d.f1 x y w (vp_bd hm2).1 (vp_bd hm2).2 hxy.1 hxy.2
      obtain ⟨s1, e1⟩ : ∃ s, sqM a.f0 a.f1 x y = s := ⟨_, rfl⟩
      obtain ⟨s2, e2⟩ : ∃ s, sqM d.f0 d.f1 x y = s := ⟨_, rfl⟩
      rw [e1] at hs1 q1
      rw [e2] at hs2 q2
      have hgw : g < wr.heap.size := by omega
      have hq := Lib.hid (And.intro q1 q2)
      clear q1 q2 e1 e2 hm1 hm2
      have hki : (k : Int) < (P.length : Int) := by omega
      have hbi : (b : Int) < (P.length : Int) := by omega
      have hpz' := Lib.hid hPt
      by_cases hc : s1 < s2
      · have hn := Lib.hid (near_turn hle.out (by rw [hq.out.1, hq.out.2]; exact hc))
        go_wp2_with fail
        refine wp_region_grew (by kernel_rfl) (by kernel_rfl) ?_
        repeat (first | (go_big_quiet_step ((first | (go_at_call 64; with_reducible exact grew_of (hs1 _)) | (go_at_call 64; with_reducible exact grew_of (hs2 _))))) | (quiet_step ((first | (go_at_call 64; with_reducible exact grew_of (hs1 _)) | (go_at_call 64; with_reducible exact grew_of (hs2 _))))))
        refine wpQuiet_nil ?_
        rintro _ ⟨⟨w9, hb9⟩, rfl⟩
        try dsimp only
        obtain ⟨hc9, hf9⟩ := bcell hb9
        go_wp2
        go_roundw
        case rel => exact ⟨k, k + 1, rfl, by go_num, by omega, by omega, hn, bnext hBr (bnext (by go_grown) hb9), hpz'.out.on (bnext (by go_grown) hb9)⟩
        case measure => simp [intOf]; omega
      · have hn := Lib.hid (near_keep hle.out (by rw [hq.out.1, hq.out.2]; omega))
        go_wp2_with fail
        refine wp_region_grew (by kernel_rfl) (by kernel_rfl) ?_
        repeat (first | (go_big_quiet_step ((first | (go_at_call 64; with_reducible exact grew_of (hs1 _)) | (go_at_call 64; with_reducible exact grew_of (hs2 _))))) | (quiet_step ((first | (go_at_call 64; with_reducible exact grew_of (hs1 _)) | (go_at_call 64; with_reducible exact grew_of (hs2 _))))))
        refine wpQuiet_nil ?_
        rintro _ ⟨⟨w9, hb9⟩, rfl⟩
        try dsimp only
        obtain ⟨hc9, hf9⟩ := bcell hb9
        go_wp2
        go_roundw
        case rel => exact ⟨b, k + 1, rfl, by go_num, by omega, by omega, hn, bnext hBr (bnext (by go_grown) hb9), hpz'.out.on (bnext (by go_grown) hb9)⟩
        case measure => simp [intOf]; omega
    · obtain rfl : k = P.length := by omega
      go_wp2
      go_ret2
      exact ⟨b, 0, rfl, hBr, .inr ⟨rfl, hu'.out, hall.out, b, rfl, hbl, hle.out⟩⟩
end Go.Proofs.YtbikppndhidbpaaDoor
