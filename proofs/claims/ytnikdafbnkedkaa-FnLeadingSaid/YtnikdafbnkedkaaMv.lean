/-
  Contracts of a point that is moved, with its code, for the law of bearings. Each under the conditions that it states.
-/
import Derived.Test.YtnikdafbnkedkaaMove
import Derived.Test.YtnikdafbnkedkaaFix
set_option linter.unusedVariables false
set_option linter.unnecessarySimpa false
set_option maxRecDepth 100000
set_option linter.unusedSimpArgs false
namespace Go.Proofs.Ytnikdafbnkedkaa
open Go.RowKit BigFrame

def mvX (x b d : Int) : Int := x + stepM d (sinM b)
def mvY (y b d : Int) : Int := y + stepM d (cosM b)
def mvC (x y b d : Int) : Int := if vPoint x y then (if inB d 0 300000 then (if vPoint (mvX x b d) (mvY y b d) then 0 else 6) else 2) else 1
def mvV (x y b d n : Int) : Int := if mvC x y b d = 0 then n else 0
/-- The point and the result's variable, in a world that has grown. -/
def Fm (w : World) (x y : Int) (w' : World) : Prop := Below w.heap.size w w' ∧ w.heap.size + 1 < w'.heap.size ∧ w'.cell? ⟨w.heap.size, 0, none⟩ = some (.int .i64 x) ∧ w'.cell? ⟨w.heap.size, 1, none⟩ = some (.int .i64 y) ∧ w'.cell? ⟨w.heap.size + 1, 0, none⟩ = some (.int .i64 0) ∧ w'.cell? ⟨w.heap.size + 1, 1, none⟩ = some (.int .i64 0) ∧ w'.frozen? ⟨w.heap.size + 1, 0, none⟩ = false ∧ w'.frozen? ⟨w.heap.size + 1, 1, none⟩ = false
theorem Fm.on {w w1 w2 : World} {x y : Int} (h : Fm w x y w1) (hb : Below w1.heap.size w1 w2) : Fm w x y w2 := by
  obtain ⟨h1, h2, c0, c1, c2, c3, f0, f1⟩ := h
  obtain ⟨hc, hf⟩ := bcell hb
  exact ⟨bnext h1 hb, Nat.lt_of_lt_of_le h2 hb.size, (hc _ _ (by omega)).trans c0, (hc _ _ (by omega)).trans c1, (hc _ _ (by omega)).trans c2, (hc _ _ (by omega)).trans c3, (hf _ _ (by omega)).trans f0, (hf _ _ (by omega)).trans f1⟩
theorem Fm.new (w : World) (x y : Int) (t : TypeId) : Fm w x y ((w.alloc (.cells #[.int .i64 x, .int .i64 y] t)).alloc (.cells #[.int .i64 0, .int .i64 0] t)) :=
  ⟨by go_grown, by simp, by simp [go_sem], by simp [go_sem], by simp [go_sem], by simp [go_sem], by simp [go_sem], by simp [go_sem]⟩
theorem Fm.alloc {w w1 : World} {x y : Int} (h : Fm w x y w1) (o : Obj) : Fm w x y (w1.alloc o) := h.on ((Below.refl _ _).alloc (Nat.le_refl _) o)
theorem pt_made {w w1 : World} {a b : Int} {t : TypeId} (hb : Below (w.alloc (.cells #[.int .i64 a, .int .i64 b] t)).heap.size (w.alloc (.cells #[.int .i64 a, .int .i64 b] t)) w1) : Pt w1 w.heap.size a b :=
  Pt.on ⟨by simp, by simp [go_sem], by simp [go_sem]⟩ hb
set_option maxHeartbeats 1600000 in
theorem impl_Move (x y b d : Int) (w : World) :
    Calls Try.prog 18 #[.agg #[.int .i64 x, .int .i64 y], .int .i64 b, .int .i64 d] w fun e w' => e = .returned (.tuple #[.agg #[.int .i64 (mvV x y b d (mvX x b d)), .int .i64 (mvV x y b d (mvY y b d))], .int .i64 (mvC x y b d)]) ∧ Below w.heap.size w w' := by
  cases h1 : vPoint x y
  · have hC : Hid (mvC x y b d = 1) := by apply Lib.hid; unfold mvC; rw [h1]; rfl
    have hV : Hid (∀ n, mvV x y b d n = 0) := Lib.hid fun n => by unfold mvV; rw [hC.out]; rfl
    go_enter Try.func18, Try.ntmps18
    go_wp2_with (first | (go_at_call 79; refine (impl_ValidPoint _ _ _).mono ?_; rintro e w1 ⟨rfl, hb1⟩; (have hF := Fm.on (by first | assumption | exact Fm.new _ _ _ _ | exact Fm.alloc (by assumption) _) hb1); (obtain ⟨hB1, hx1, p0, p1, n0, n1, r0, r1⟩ := id hF); (try have hN := pt_made hb1); (try obtain ⟨_, z0, z1⟩ := id hN); clear hb1) | (go_at_call 80; refine (within_any _ _ _ _).mono ?_; rintro e w' ⟨rfl, rfl⟩))
    refine end_at ?_
    intro wf hwf
    have ht : wf.cell? ⟨w.heap.size + 1, 0, none⟩ = some (.int .i64 (0)) ∧ wf.cell? ⟨w.heap.size + 1, 1, none⟩ = some (.int .i64 (0)) := by rw [hwf]; exact two_read n0 n1 _ _
    have hBf : Below w.heap.size w wf := by rw [hwf]; exact two_below (by omega) hB1 _ _
    obtain ⟨t0, t1⟩ := ht
    clear hwf
    refine bodyPost_ret (by simp [results, Try.results18, go_sem, t0, t1]; try rfl) rfl ?_
    exact ⟨by rw [hV.out, hV.out, hC.out]; (try rw [HX.out, HY.out]); (try rfl), hBf⟩
  cases h2 : inB d 0 300000
  · have hC : Hid (mvC x y b d = 2) := by apply Lib.hid; unfold mvC; rw [h1, h2]; rfl
    have hV : Hid (∀ n, mvV x y b d n = 0) := Lib.hid fun n => by unfold mvV; rw [hC.out]; rfl
    go_enter Try.func18, Try.ntmps18
    go_wp2_with (first | (go_at_call 79; refine (impl_ValidPoint _ _ _).mono ?_; rintro e w1 ⟨rfl, hb1⟩; (have hF := Fm.on (by first | assumption | exact Fm.new _ _ _ _ | exact Fm.alloc (by assumption) _) hb1); (obtain ⟨hB1, hx1, p0, p1, n0, n1, r0, r1⟩ := id hF); (try have hN := pt_made hb1); (try obtain ⟨_, z0, z1⟩ := id hN); clear hb1) | (go_at_call 80; refine (within_any _ _ _ _).mono ?_; rintro e w' ⟨rfl, rfl⟩))
    refine end_at ?_
    intro wf hwf
    have ht : wf.cell? ⟨w.heap.size + 1, 0, none⟩ = some (.int .i64 (0)) ∧ wf.cell? ⟨w.heap.size + 1, 1, none⟩ = some (.int .i64 (0)) := by rw [hwf]; exact two_read n0 n1 _ _
    have hBf : Below w.heap.size w wf := by rw [hwf]; exact two_below (by omega) hB1 _ _
    obtain ⟨t0, t1⟩ := ht
    clear hwf
    refine bodyPost_ret (by simp [results, Try.results18, go_sem, t0, t1]; try rfl) rfl ?_
    exact ⟨by rw [hV.out, hV.out, hC.out]; (try rw [HX.out, HY.out]); (try rfl), hBf⟩
  obtain ⟨b1, b2⟩ := vPoint_yes h1
  have b3 := inB_yes.1 h2
  obtain ⟨X, hX⟩ : ∃ X, mvX x b d = X := ⟨_, rfl⟩
  obtain ⟨Y, hY⟩ : ∃ Y, mvY y b d = Y := ⟨_, rfl⟩
  have hmv : ∀ w, Calls Try.prog 81 #[.agg #[.int .i64 x, .int .i64 y], .int .i64 b, .int .i64 d] w fun e w' => e = .returned (.agg #[.int .i64 X, .int .i64 Y]) ∧ Below w.heap.size w w' := fun w => by rw [← hX, ← hY]; exact impl_moved x y b d w (by omega) (by omega) (by omega)
  have HX := Lib.hid hX
  have HY := Lib.hid hY
  clear hX hY
  cases h3 : vPoint X Y
  · have hC : Hid (mvC x y b d = 6) := by apply Lib.hid; unfold mvC; rw [h1, h2, HX.out, HY.out, h3]; rfl
    have hV : Hid (∀ n, mvV x y b d n = 0) := Lib.hid fun n => by unfold mvV; rw [hC.out]; rfl
    go_enter Try.func18, Try.ntmps18
    go_wp2_with (first | (go_at_call 81; refine (hmv _).mono ?_; rintro e w1 ⟨rfl, hb1⟩; (have hF := Fm.on (by first | assumption | exact Fm.new _ _ _ _ | exact Fm.alloc (by assumption) _) hb1); (obtain ⟨hB1, hx1, p0, p1, n0, n1, r0, r1⟩ := id hF); (try have hN := pt_made hb1); (try obtain ⟨_, z0, z1⟩ := id hN); clear hb1) | (first | (go_at_call 79; refine (impl_ValidPoint _ _ _).mono ?_; rintro e w1 ⟨rfl, hb1⟩; (have hF := Fm.on (by first | assumption | exact Fm.new _ _ _ _ | exact Fm.alloc (by assumption) _) hb1); (obtain ⟨hB1, hx1, p0, p1, n0, n1, r0, r1⟩ := id hF); (try have hN := pt_made hb1); (try obtain ⟨_, z0, z1⟩ := id hN); clear hb1) | (go_at_call 80; refine (within_any _ _ _ _).mono ?_; rintro e w' ⟨rfl, rfl⟩)))
    refine end_at ?_
    intro wf hwf
    have ht : wf.cell? ⟨w.heap.size + 1, 0, none⟩ = some (.int .i64 (0)) ∧ wf.cell? ⟨w.heap.size + 1, 1, none⟩ = some (.int .i64 (0)) := by rw [hwf]; exact two_read n0 n1 _ _
    have hBf : Below w.heap.size w wf := by rw [hwf]; exact two_below (by omega) hB1 _ _
    obtain ⟨t0, t1⟩ := ht
    clear hwf
    refine bodyPost_ret (by simp [results, Try.results18, go_sem, t0, t1]; try rfl) rfl ?_
    exact ⟨by rw [hV.out, hV.out, hC.out]; (try rw [HX.out, HY.out]); (try rfl), hBf⟩
  · have hC : Hid (mvC x y b d = 0) := by apply Lib.hid; unfold mvC; rw [h1, h2, HX.out, HY.out, h3]; rfl
    have hV : Hid (∀ n, mvV x y b d n = n) := Lib.hid fun n => by unfold mvV; rw [hC.out]; rfl
    go_enter Try.func18, Try.ntmps18
    go_wp2_with (first | (go_at_call 81; refine (hmv _).mono ?_; rintro e w1 ⟨rfl, hb1⟩; (have hF := Fm.on (by first | assumption | exact Fm.new _ _ _ _ | exact Fm.alloc (by assumption) _) hb1); (obtain ⟨hB1, hx1, p0, p1, n0, n1, r0, r1⟩ := id hF); (try have hN := pt_made hb1); (try obtain ⟨_, z0, z1⟩ := id hN); clear hb1) | (first | (go_at_call 79; refine (impl_ValidPoint _ _ _).mono ?_; rintro e w1 ⟨rfl, hb1⟩; (have hF := Fm.on (by first | assumption | exact Fm.new _ _ _ _ | exact Fm.alloc (by assumption) _) hb1); (obtain ⟨hB1, hx1, p0, p1, n0, n1, r0, r1⟩ := id hF); (try have hN := pt_made hb1); (try obtain ⟨_, z0, z1⟩ := id hN); clear hb1) | (go_at_call 80; refine (within_any _ _ _ _).mono ?_; rintro e w' ⟨rfl, rfl⟩)))
    refine end_at ?_
    intro wf hwf
    have ht : wf.cell? ⟨w.heap.size + 1, 0, none⟩ = some (.int .i64 (X)) ∧ wf.cell? ⟨w.heap.size + 1, 1, none⟩ = some (.int .i64 (Y)) := by rw [hwf]; exact two_read n0 n1 _ _
    have hBf : Below w.heap.size w wf := by rw [hwf]; exact two_below (by omega) hB1 _ _
    obtain ⟨t0, t1⟩ := ht
    clear hwf
    refine bodyPost_ret (by simp [results, Try.results18, go_sem, t0, t1]; try rfl) rfl ?_
    exact ⟨by rw [hV.out, hV.out, hC.out]; (try rw [HX.out, HY.out]); (try rfl), hBf⟩
end Go.Proofs.Ytnikdafbnkedkaa
