/-
  FnLeading: on the line the lights are in line; beside it they are open to the side; the least rear light is just enough. Under no condition.
-/
import Derived.Test.YtnikdafbnkedkaaDrawL
set_option linter.unusedVariables false
set_option linter.unnecessarySimpa false
set_option maxRecDepth 100000
set_option linter.unusedSimpArgs false
namespace Go.Proofs.Ytnikdafbnkedkaa
open Go.RowKit BigFrame
theorem own : ownKnob Try.prog.godebug = none := by kernel_rfl
theorem laidOut : laidOutB Try.prog = true := by kernel_rfl

/-- What the law carries: the line and the point on it. -/
def Lq (W : World) (gl gp : Nat) (x y x2 y2 lo hi p q : Int) (w : World) : Prop := Below W.heap.size W w ∧ Ld w gl x y x2 y2 lo hi ∧ Pt w gp p q
theorem Lq.on {W w w' : World} {gl gp : Nat} {x y x2 y2 lo hi p q : Int} (h : Lq W gl gp x y x2 y2 lo hi p q w) (hb : Below w.heap.size w w') : Lq W gl gp x y x2 y2 lo hi p q w' := ⟨bnext h.1 hb, h.2.1.on hb, h.2.2.on hb⟩
theorem Lq.s {W w : World} {gl gp : Nat} {x y x2 y2 lo hi p q : Int} (h : Lq W gl gp x y x2 y2 lo hi p q w) : w.cell? ⟨gp, 0, none⟩ = some (.int .i64 p) ∧ w.cell? ⟨gp, 1, none⟩ = some (.int .i64 q) := h.2.2.2
theorem keepQ {W w w' : World} {gl gp : Nat} {x y x2 y2 lo hi p q : Int} (h : Lq W gl gp x y x2 y2 lo hi p q w) (hb : Below w.heap.size w w') : w'.cell? ⟨gp, 0, none⟩ = some (.int .i64 p) ∧ w'.cell? ⟨gp, 1, none⟩ = some (.int .i64 q) := (h.on hb).2.2.2
theorem vlead_of {x1 y1 x2 y2 lo hi : Int} (b1 : 0 ≤ x1 ∧ x1 ≤ 200000) (b2 : 0 ≤ y1 ∧ y1 ≤ 200000) (b3 : 0 ≤ x2 ∧ x2 ≤ 200000) (b4 : 0 ≤ y2 ∧ y2 ≤ 200000) (hn : ¬ (x1 = x2 ∧ y1 = y2)) (h1 : 0 ≤ lo) (h2 : hi ≤ 3000) (h3 : lo < hi) : vLead x1 y1 x2 y2 lo hi = true := by
  unfold vLead vPoint
  have e : (x1 == x2 && y1 == y2) = false := by
    cases h : (x1 == x2 && y1 == y2)
    · rfl
    · simp at h; exact absurd h hn
  rw [e, inB_mk b1.1 b1.2, inB_mk b2.1 b2.2, inB_mk b3.1 b3.2, inB_mk b4.1 b4.2, inB_mk h1 (by omega), inB_mk (by omega) h2, decide_eq_true h3]
  rfl
theorem vpoint_of {p q : Int} (b5 : 0 ≤ p ∧ p ≤ 200000) (b6 : 0 ≤ q ∧ q ≤ 200000) : vPoint p q = true := by
  unfold vPoint; rw [inB_mk b5.1 b5.2, inB_mk b6.1 b6.2]; rfl
/-- The contracts at a point on the line. -/
structure OnLine (x y x2 y2 lo hi p q : Int) : Prop where
  off : offV x y x2 y2 lo hi p q = 0
  code : okC (vLead x y x2 y2 lo hi && vPoint p q) = 0
  opn : openV x y x2 y2 lo hi p q = 0
  opc : openC x y x2 y2 lo hi p q = 0
  ahd : 1 ≤ aheadV x y x2 y2 lo hi p q
  ahm : 1 ≤ aheadM x y x2 y2 p q
  inl : inLineM x y x2 y2 lo hi p q 0 = true
theorem on_line {x y x2 y2 lo hi k : Int} (vl : vLead x y x2 y2 lo hi = true) (hn : ¬ (x = x2 ∧ y = y2)) (hk : 1 ≤ k) (vp : vPoint (x + k * (x - x2)) (y + k * (y - y2)) = true) : OnLine x y x2 y2 lo hi (x + k * (x - x2)) (y + k * (y - y2)) := by
  have hb : (vLead x y x2 y2 lo hi && vPoint (x + k * (x - x2)) (y + k * (y - y2))) = true := by rw [vl, vp]; rfl
  have ha := ahead_line (k := k) hk hn
  have kx : ∀ z : Int, k * z = 0 → z = 0 := fun z h => by
    rcases Int.mul_eq_zero.1 h with h | h
    · omega
    · exact h
  have e1 : ¬ (x + k * (x - x2) = x ∧ y + k * (y - y2) = y) := fun ⟨h1, h2⟩ => hn ⟨by have := kx (x - x2) (by omega); omega, by have := kx (y - y2) (by omega); omega⟩
  have ky : ∀ z : Int, (k + 1) * z = 0 → z = 0 := fun z h => by
    rcases Int.mul_eq_zero.1 h with h | h
    · omega
    · exact h
  have e2 : ¬ (x + k * (x - x2) = x2 ∧ y + k * (y - y2) = y2) := fun ⟨h1, h2⟩ => hn ⟨by have := ky (x - x2) (by grind); omega, by have := ky (y - y2) (by grind); omega⟩
  have hc : openC x y x2 y2 lo hi (x + k * (x - x2)) (y + k * (y - y2)) = 0 := by
    unfold openC; rw [if_pos hb, if_neg (by rintro (h | h); exact e1 h; exact e2 h)]
  have ho := open_line (cross_line x y x2 y2 k) e1 e2
  refine ⟨?_, by rw [hb]; rfl, ?_, hc, ?_, ha, ?_⟩
  · unfold offV; rw [if_pos hb]; exact off_line k hn
  · unfold openV; rw [if_pos hc]; exact ho
  · unfold aheadV; rw [if_pos hb]; exact ha
  · unfold inLineM
    rw [ho, hb, inB_mk (by omega) (by omega), decide_eq_true (by omega : 0 < aheadM x y x2 y2 (x + k * (x - x2)) (y + k * (y - y2)))]
    rfl

theorem ask_of {x y x2 y2 lo hi p q eye : Int} (vl : vLead x y x2 y2 lo hi = true) (vp : vPoint p q = true) (he : 0 ≤ eye ∧ eye ≤ 3000) (ha : 1 ≤ aheadM x y x2 y2 p q) : askM x y x2 y2 lo hi p q eye = 0 := by
  unfold askM
  have hb : (vLead x y x2 y2 lo hi && vPoint p q) = true := by rw [vl, vp]; rfl
  rw [if_pos hb, if_pos (inB_mk he.1 he.2), if_neg (by omega)]
theorem beside {x y x2 y2 lo hi u v : Int} (vl : vLead x y x2 y2 lo hi = true) (hn : ¬ (x = x2 ∧ y = y2)) (vp : vPoint u v = true) : okC (vLead x y x2 y2 lo hi && vPoint u v) = 0 ∧ (openC x y x2 y2 lo hi u v ≠ 0 ∨ (openC x y x2 y2 lo hi u v = 0 ∧ ¬ ((0 < offV x y x2 y2 lo hi u v ∧ openV x y x2 y2 lo hi u v < 0) ∨ (offV x y x2 y2 lo hi u v < 0 ∧ 0 < openV x y x2 y2 lo hi u v)))) := by
  have hb : (vLead x y x2 y2 lo hi && vPoint u v) = true := by rw [vl, vp]; rfl
  refine ⟨by rw [hb]; rfl, ?_⟩
  by_cases hc : openC x y x2 y2 lo hi u v = 0
  · obtain ⟨_, _, e1, e2⟩ := openC_ok hc
    refine Or.inr ⟨hc, ?_⟩
    unfold offV openV
    rw [if_pos hb, if_pos hc]
    exact open_side hn e1 e2
  · exact Or.inl hc
theorem band_facts {x y x2 y2 lo hi : Int} (vl : vLead x y x2 y2 lo hi = true) : bandOk x y x2 y2 lo hi 2000 1000 = 0 ∧ bandOk x y x2 y2 lo hi 2000 2000 = 0 ∧ 0 ≤ bandV x y x2 y2 lo hi 2000 1000 ∧ bandV x y x2 y2 lo hi 2000 1000 ≤ bandV x y x2 y2 lo hi 2000 2000 := by
  have h1 : bandOk x y x2 y2 lo hi 2000 1000 = 0 := by unfold bandOk; rw [vl]; rfl
  have h2 : bandOk x y x2 y2 lo hi 2000 2000 = 0 := by unfold bandOk; rw [vl]; rfl
  have hd : 0 ≤ distM x y x2 y2 := rootM_nonneg _
  have hw := band_wider (distM x y x2 y2) 2000 (by omega) hd
  refine ⟨h1, h2, ?_, ?_⟩
  · unfold bandV; rw [if_pos h1]; omega
  · unfold bandV; rw [if_pos h1, if_pos h2]; omega

namespace fnLeading
open Go.ChangeShapes Go.WideShapes Go.ChangeAt Go.RowKit
set_option linter.unusedVariables false
set_option maxHeartbeats 3200000 in
theorem walk (W : World) (A0 : Option Addr) (c0 : Nat) (L0 : List Int) (s0 : Sl W W.heap.size A0 (bytesL L0)) (b0 : ∀ z ∈ L0, IntKind.u8.has z) (m0 : L0.length ≤ maxLen) (A1 : Option Addr) (c1 : Nat) (L1 : List Int) (s1 : Sl W W.heap.size A1 (bytesL L1)) (b1 : ∀ z ∈ L1, IntKind.u8.has z) (m1 : L1.length ≤ maxLen) :
    Calls Try.prog 11 #[.slice A0 L0.length c0, .slice A1 L1.length c1] W fun e w' => e = .returned (.bool true) ∧ Below W.heap.size W w' := by
  by_cases hl0 : 1048576 < L0.length
  · go_enter Try.func11, Try.ntmps11
    go_wp2_with (go_at_call 61; refine (r8Long_any _ _ _ _ _ _ _ (by assumption) (by assumption)).mono ?_; rintro e w' ⟨rfl, rfl⟩)
    go_ret
    exact ⟨rfl, Below.refl _ _⟩
  by_cases hl1 : 1048576 < L1.length
  · go_enter Try.func11, Try.ntmps11
    go_wp2_with (go_at_call 61; refine (r8Long_any _ _ _ _ _ _ _ (by assumption) (by assumption)).mono ?_; rintro e w' ⟨rfl, rfl⟩)
    go_ret
    exact ⟨rfl, Below.refl _ _⟩
  have S0 := Lib.hid s0
  have S1 := Lib.hid s1
  have U0 := Lib.hid b0
  have U1 := Lib.hid b1
  have hl0' : L0.length ≤ 1048576 := by omega
  have hl1' : L1.length ≤ 1048576 := by omega
  clear s0 s1 b0 b1
  go_enter Try.func11, Try.ntmps11
  go_wp2_with (go_at_call 61; refine (r8Long_any _ _ _ _ _ _ _ (by assumption) (by assumption)).mono ?_; rintro e w' ⟨rfl, rfl⟩)
  clear hl0 hl1
  refine (draw_lead L0 _ _ W.heap.size _ S0.out (Nat.le_refl _) U0.out hl0').mono ?_
  rintro e w ⟨x, y, b, d, lo, hi, p1, p2, p3, p4, p5, rfl, hB0⟩
  have hst := step_bd (d := d) (b := b) (by omega) (by omega)
  have hmv := step_moves (d := d) (b := b) (by omega)
  obtain ⟨x2, hx2⟩ : ∃ X, x + stepM d (sinM b) = X := ⟨_, rfl⟩
  obtain ⟨y2, hy2⟩ : ∃ X, y + stepM d (cosM b) = X := ⟨_, rfl⟩
  rw [hx2, hy2]
  have b1 : 0 ≤ x ∧ x ≤ 200000 := by omega
  have b2 : 0 ≤ y ∧ y ≤ 200000 := by omega
  have b3 : 0 ≤ x2 ∧ x2 ≤ 200000 := by omega
  have b4 : 0 ≤ y2 ∧ y2 ≤ 200000 := by omega
  have bx : -4000 ≤ x - x2 ∧ x - x2 ≤ 4000 := by omega
  have by' : -4000 ≤ y - y2 ∧ y - y2 ≤ 4000 := by omega
  have hn : ¬ (x = x2 ∧ y = y2) := by omega
  have vl : vLead x y x2 y2 lo hi = true := vlead_of b1 b2 b3 b4 hn (by omega) (by omega) (by omega)
  clear hst hmv hx2 hy2
  go_wp2_with fail
  refine (r8At_any L1 _ _ W.heap.size 0 3 _ (S1.out.below (bnext hB0 (show Below w.heap.size w _ by go_grown))) U1.out hl1' (by omega) (by omega)).mono ?_
  rintro e w' ⟨r, hr, rfl, rfl⟩
  obtain ⟨k, hk⟩ : ∃ k, 1 + r = k := ⟨_, rfl⟩
  have m1 : -12000 ≤ k * (x - x2) ∧ k * (x - x2) ≤ 12000 := by rcases (by omega : k = 1 ∨ k = 2 ∨ k = 3) with rfl | rfl | rfl <;> omega
  have m2 : -12000 ≤ k * (y - y2) ∧ k * (y - y2) ≤ 12000 := by rcases (by omega : k = 1 ∨ k = 2 ∨ k = 3) with rfl | rfl | rfl <;> omega
  have b5 : 0 ≤ x + k * (x - x2) ∧ x + k * (x - x2) ≤ 200000 := by omega
  have b6 : 0 ≤ y + k * (y - y2) ∧ y + k * (y - y2) ≤ 200000 := by omega
  have hOn := on_line vl hn (k := k) (by omega) (vpoint_of b5 b6)
  have bp : 8000 ≤ x + k * (x - x2) ∧ x + k * (x - x2) ≤ 35000 := by omega
  have bq : 8000 ≤ y + k * (y - y2) ∧ y + k * (y - y2) ≤ 35000 := by omega
  obtain ⟨p, hp⟩ : ∃ p, x + k * (x - x2) = p := ⟨_, rfl⟩
  obtain ⟨q, hq⟩ : ∃ q, y + k * (y - y2) = q := ⟨_, rfl⟩
  rw [hp, hq] at hOn
  rw [hp] at b5 bp
  rw [hq] at b6 bq
  have vp := vpoint_of b5 b6
  have hoff : ∀ w, Calls Try.prog 64 #[.agg #[.int .i64 x, .int .i64 y, .int .i64 x2, .int .i64 y2, .int .i64 lo, .int .i64 hi], .agg #[.int .i64 p, .int .i64 q]] w fun e w' => e = .returned (.tuple #[.int .i64 0, .int .i64 0]) ∧ Below w.heap.size w w' := fun w => by
    have h := impl_OffLine x y x2 y2 lo hi p q w
    rw [hOn.off, hOn.code] at h
    exact h
  have hopn : ∀ w, Calls Try.prog 65 #[.agg #[.int .i64 x, .int .i64 y, .int .i64 x2, .int .i64 y2, .int .i64 lo, .int .i64 hi], .agg #[.int .i64 p, .int .i64 q]] w fun e w' => e = .returned (.tuple #[.int .i64 0, .int .i64 0]) ∧ Below w.heap.size w w' := fun w => by
    have h := impl_OpenOf x y x2 y2 lo hi p q w
    rw [hOn.opn, hOn.opc] at h
    exact h
  have hahd : ∀ w, Calls Try.prog 66 #[.agg #[.int .i64 x, .int .i64 y, .int .i64 x2, .int .i64 y2, .int .i64 lo, .int .i64 hi], .agg #[.int .i64 p, .int .i64 q]] w fun e w' => e = .returned (.tuple #[.int .i64 (aheadV x y x2 y2 lo hi p q), .int .i64 0]) ∧ Below w.heap.size w w' := fun w => by
    have h := impl_AheadOf x y x2 y2 lo hi p q w
    rw [hOn.code] at h
    exact h
  have hinl : ∀ w, Calls Try.prog 67 #[.agg #[.int .i64 x, .int .i64 y, .int .i64 x2, .int .i64 y2, .int .i64 lo, .int .i64 hi], .agg #[.int .i64 p, .int .i64 q], .int .i64 0] w fun e w' => e = .returned (.bool true) ∧ Below w.heap.size w w' := fun w => by
    have h := impl_InLine x y x2 y2 lo hi p q 0 w
    rw [hOn.inl] at h
    exact h
  have ha1 := hOn.ahd
  have ha2 := hOn.ahm
  generalize aheadV x y x2 y2 lo hi p q = av at hahd ha1
  clear hOn
  go_upto_region 6 with fail
  refine wp_at ?_
  intro wq hwq
  have hQ : Lq W w.heap.size (w.heap.size + 1) x y x2 y2 lo hi p q wq := by
    rw [hwq]
    exact ⟨bnext hB0 (by go_grown), Ld.on (ld_alloc w 91 x y x2 y2 lo hi) (by go_grown), by simp, by simp [go_sem], by simp [go_sem]⟩
  clear hwq hB0
  generalize w.heap.size = gl at hQ ⊢
  have hk' := Lib.hid hk
  clear hk hp hq m1 m2 bx by'
  obtain ⟨_, ⟨gl0, l0, l1, l2, l3, l4, l5⟩, gp0, p0, p1⟩ := id hQ
  go_wp2_with fail
  clear l0 l1 l2 l3 l4 l5 p0 p1 gl0 gp0
  refine (hoff _).mono ?_
  rintro e w11 ⟨rfl, hb11⟩
  replace hQ := hQ.on hb11
  clear hb11
  obtain ⟨_, ⟨gl0, l0, l1, l2, l3, l4, l5⟩, gp0, p0, p1⟩ := id hQ
  go_wp2_with fail
  clear l0 l1 l2 l3 l4 l5 p0 p1 gl0 gp0
  refine (hopn _).mono ?_
  rintro e w12 ⟨rfl, hb12⟩
  replace hQ := hQ.on hb12
  clear hb12
  obtain ⟨_, ⟨gl0, l0, l1, l2, l3, l4, l5⟩, gp0, p0, p1⟩ := id hQ
  go_wp2_with fail
  clear l0 l1 l2 l3 l4 l5 p0 p1 gl0 gp0
  refine (hahd _).mono ?_
  rintro e w13 ⟨rfl, hb13⟩
  replace hQ := hQ.on hb13
  clear hb13
  obtain ⟨_, ⟨gl0, l0, l1, l2, l3, l4, l5⟩, gp0, p0, p1⟩ := id hQ
  go_wp2_with fail
  clear l0 l1 l2 l3 l4 l5 p0 p1 gl0 gp0
  refine (hinl _).mono ?_
  rintro e w14 ⟨rfl, hb14⟩
  replace hQ := hQ.on hb14
  clear hb14
  clear hoff hopn hahd hinl
  go_upto_region 11 with fail
  go_cut [14] (fun s wx => ∃ (gq : Nat) (u v : Int), s = .pointer (some ⟨gq, 0, none⟩) ∧ (7900 ≤ u ∧ u ≤ 35100) ∧ (7900 ≤ v ∧ v ≤ 35100) ∧ Lq W gl (gl + 1) x y x2 y2 lo hi p q wx ∧ Pt wx gq u v)
  case first =>
    have hcl := hQ.s
    have za : (0 : Int) ≤ 1 ∧ (1 : Int) ≤ 10 := by omega
    have zb : (0 : Int) ≤ 2 ∧ (2 : Int) ≤ 10 := by omega
    have zc : (1 : Int) ≤ 200 ∧ (200 : Int) ≤ 100000 := by omega
    have hm := Lib.hid (fun w' (hb : Below w14.heap.size w14 w') => S1.out.below (bnext hQ.1 hb))
    go_region_held3 (fun w' => w'.cell? ⟨gl + 1, 0, none⟩ = some (.int .i64 p) ∧ w'.cell? ⟨gl + 1, 1, none⟩ = some (.int .i64 q)) (first | (with_reducible assumption) | (with_reducible refine keepQ hQ ?_; go_grown; done)) (first | (go_at_call 63; (with_reducible refine (r8At_any L1 _ _ W.heap.size 1 200 _ (hm.out _ (by go_grown)) U1.out hl1' za zc).mono ?_); rintro e w8 ⟨r1, hr1, rfl, rfl⟩) | (go_at_call 63; (with_reducible refine (r8At_any L1 _ _ W.heap.size 2 200 _ (hm.out _ (by go_grown)) U1.out hl1' zb zc).mono ?_); rintro e w8 ⟨r2, hr2, rfl, rfl⟩))
    all_goals
      have h1 : IntKind.i64.wrap (p + r1) = p + r1 := IntWalk.i64_in _ (by omega)
      have h2 : IntKind.i64.wrap (q + r2) = q + r2 := IntWalk.i64_in _ (by omega)
      have h3 : IntKind.i64.wrap (p + r1 - 100) = p + r1 - 100 := IntWalk.i64_in _ (by clear h1 h2; omega)
      have h4 : IntKind.i64.wrap (q + r2 - 100) = q + r2 - 100 := IntWalk.i64_in _ (by clear h1 h2 h3; omega)
      simp only [h1, h2, h3, h4]
      clear h1 h2 h3 h4
      obtain ⟨u, hu⟩ : ∃ u, p + r1 - 100 = u := ⟨_, rfl⟩
      obtain ⟨v, hv⟩ : ∃ v, q + r2 - 100 = v := ⟨_, rfl⟩
      simp only [hu, hv]
      have hub : 7900 ≤ u ∧ u ≤ 35100 := by omega
      have hvb : 7900 ≤ v ∧ v ≤ 35100 := by omega
      clear hu hv
      go_wp2_with fail
      go_meet
      exact ⟨_, u, v, rfl, hub, hvb, hQ.on (by go_grown), by simp, by simp [go_sem], by simp [go_sem]⟩
  case rest =>
    obtain ⟨gq, u, v, rfl, hu, hv, hQ, hU⟩ := hcut
    have vpu : vPoint u v = true := vpoint_of (by omega) (by omega)
    obtain ⟨ho1, ho2⟩ := beside vl hn vpu
    have hoff : ∀ w, Calls Try.prog 64 #[.agg #[.int .i64 x, .int .i64 y, .int .i64 x2, .int .i64 y2, .int .i64 lo, .int .i64 hi], .agg #[.int .i64 u, .int .i64 v]] w fun e w' => e = .returned (.tuple #[.int .i64 (offV x y x2 y2 lo hi u v), .int .i64 0]) ∧ Below w.heap.size w w' := fun w => by
      have h := impl_OffLine x y x2 y2 lo hi u v w
      rw [ho1] at h
      exact h
    have hopn := fun w => impl_OpenOf x y x2 y2 lo hi u v w
    generalize offV x y x2 y2 lo hi u v = ov at hoff ho2
    generalize openV x y x2 y2 lo hi u v = nv at hopn ho2
    generalize openC x y x2 y2 lo hi u v = nc at hopn ho2
    clear ho1 hu hv
    obtain ⟨_, ⟨gl0, l0, l1, l2, l3, l4, l5⟩, gp0, p0, p1⟩ := id hQ
    obtain ⟨_, u0, u1⟩ := id hU
    go_wp2_with fail
    clear l0 l1 l2 l3 l4 l5 p0 p1 gl0 gp0
    clear u0 u1
    refine (hoff _).mono ?_
    rintro e w21 ⟨rfl, hb⟩
    replace hQ := hQ.on hb
    replace hU := hU.on hb
    clear hb hoff
    obtain ⟨_, ⟨gl0, l0, l1, l2, l3, l4, l5⟩, gp0, p0, p1⟩ := id hQ
    obtain ⟨_, u0, u1⟩ := id hU
    go_wp2_with fail
    clear l0 l1 l2 l3 l4 l5 p0 p1 gl0 gp0
    clear u0 u1
    refine (hopn _).mono ?_
    rintro e w22 ⟨rfl, hb⟩
    replace hQ := hQ.on hb
    clear hb hopn hU
    go_upto_region 14 with fail
    go_cut [156] (fun t wx => t = .bool false ∧ Lq W gl (gl + 1) x y x2 y2 lo hi p q wx)
    case first =>
      rcases (by omega : ¬ nc = 0 ∨ (nc = 0 ∧ 0 < ov ∧ ¬ nv < 0) ∨ (nc = 0 ∧ ov < 0 ∧ ¬ 0 < nv) ∨ (nc = 0 ∧ ov = 0)) with h | ⟨h, h1, h2⟩ | ⟨h, h1, h2⟩ | ⟨h, h1⟩
      · have g1 : (nc == 0) = false := beq_eq_false_iff_ne.2 h
        clear ho2 h
        go_wp2_with fail
        go_meet
        exact ⟨rfl, hQ⟩
      · have g1 : (nc == 0) = true := beq_iff_eq.2 h
        clear ho2 h
        go_wp2_with fail
        go_meet
        exact ⟨rfl, hQ⟩
      · have g1 : (nc == 0) = true := beq_iff_eq.2 h
        clear ho2 h
        go_wp2_with fail
        go_meet
        exact ⟨rfl, hQ⟩
      · have g1 : (nc == 0) = true := beq_iff_eq.2 h
        have g2 : ¬ 0 < ov := by omega
        have g3 : ¬ ov < 0 := by omega
        clear ho2 h h1
        go_wp2_with fail
        go_meet
        exact ⟨rfl, hQ⟩
    case rest =>
      obtain ⟨rfl, hQ⟩ := hcut
      clear ho2
      obtain ⟨q1, q2, q3, q4⟩ := band_facts vl
      have hba : ∀ w, Calls Try.prog 68 #[.agg #[.int .i64 x, .int .i64 y, .int .i64 x2, .int .i64 y2, .int .i64 lo, .int .i64 hi], .int .i64 2000, .int .i64 1000] w fun e w' => e = .returned (.tuple #[.int .i64 (bandV x y x2 y2 lo hi 2000 1000), .int .i64 0]) ∧ Below w.heap.size w w' := fun w => by
        have h := impl_BandAt x y x2 y2 lo hi 2000 1000 w
        rw [q1] at h
        exact h
      have hbb : ∀ w, Calls Try.prog 68 #[.agg #[.int .i64 x, .int .i64 y, .int .i64 x2, .int .i64 y2, .int .i64 lo, .int .i64 hi], .int .i64 2000, .int .i64 2000] w fun e w' => e = .returned (.tuple #[.int .i64 (bandV x y x2 y2 lo hi 2000 2000), .int .i64 0]) ∧ Below w.heap.size w w' := fun w => by
        have h := impl_BandAt x y x2 y2 lo hi 2000 2000 w
        rw [q2] at h
        exact h
      generalize bandV x y x2 y2 lo hi 2000 1000 = nb at hba q3 q4
      generalize bandV x y x2 y2 lo hi 2000 2000 = wb at hbb q4
      clear q1 q2
      obtain ⟨_, ⟨gl0, l0, l1, l2, l3, l4, l5⟩, gp0, p0, p1⟩ := id hQ
      go_wp2_with fail
      clear l0 l1 l2 l3 l4 l5 p0 p1 gl0 gp0
      refine (hba _).mono ?_
      rintro e w31 ⟨rfl, hb31⟩
      replace hQ := hQ.on hb31
      clear hb31
      obtain ⟨_, ⟨gl0, l0, l1, l2, l3, l4, l5⟩, gp0, p0, p1⟩ := id hQ
      go_wp2_with fail
      clear l0 l1 l2 l3 l4 l5 p0 p1 gl0 gp0
      refine (hbb _).mono ?_
      rintro e w32 ⟨rfl, hb32⟩
      replace hQ := hQ.on hb32
      clear hb32
      clear hba hbb
      obtain ⟨_, ⟨gl0, l0, l1, l2, l3, l4, l5⟩, gp0, p0, p1⟩ := id hQ
      go_wp2_with fail
      clear l0 l1 l2 l3 l4 l5 p0 p1 gl0 gp0
      refine (r8At_any L1 _ _ W.heap.size 3 200 _ (S1.out.below (bnext hQ.1 (by go_grown))) U1.out hl1' (by decide) (by decide)).mono ?_
      rintro e w' ⟨eye, he, rfl, rfl⟩
      have hask := ask_of (lo := lo) (hi := hi) (eye := eye) vl vp (by omega) ha2
      have hlr := fun w => impl_LeastRear x y x2 y2 lo hi p q eye w
      by_cases hk2 : leastK x y x2 y2 lo p q eye < leastN lo
      rotate_left
      · have e1 : leastV x y x2 y2 lo hi p q eye = 0 := by unfold leastV; rw [if_pos hask, if_neg hk2]
        have e2 : leastC x y x2 y2 lo hi p q eye = 3 := by unfold leastC; rw [if_pos hask, if_neg hk2]
        rw [e1, e2] at hlr
        clear e1 e2 hask hk2
        obtain ⟨_, ⟨gl0, l0, l1, l2, l3, l4, l5⟩, gp0, p0, p1⟩ := id hQ
        go_wp2_with fail
        clear l0 l1 l2 l3 l4 l5 p0 p1 gl0 gp0
        refine (hlr _).mono ?_
        rintro e w41 ⟨rfl, hb41⟩
        replace hQ := hQ.on hb41
        clear hb41
        go_wp2
        go_ret
        exact ⟨rfl, hQ.1⟩
      have e1 : leastV x y x2 y2 lo hi p q eye = lo + 1 + leastK x y x2 y2 lo p q eye := by unfold leastV; rw [if_pos hask, if_pos hk2]
      have e2 : leastC x y x2 y2 lo hi p q eye = 0 := by unfold leastC; rw [if_pos hask, if_pos hk2]
      rw [e1, e2] at hlr
      obtain ⟨f1, f2⟩ := least_facts hask hk2
      unfold leastN at hk2
      generalize leastK x y x2 y2 lo p q eye = kk at hk2 hlr f1 f2
      obtain ⟨H, hH⟩ : ∃ H, lo + 1 + (kk : Int) = H := ⟨_, rfl⟩
      rw [hH] at f1 f2 hlr
      have vlH : vLead x y x2 y2 lo H = true := vlead_of (by omega) (by omega) (by omega) (by omega) hn (by omega) (by omega) (by omega)
      have hra : ∀ w, Calls Try.prog 70 #[.agg #[.int .i64 x, .int .i64 y, .int .i64 x2, .int .i64 y2, .int .i64 lo, .int .i64 H], .agg #[.int .i64 p, .int .i64 q], .int .i64 eye] w fun e w' => e = .returned (.tuple #[.bool true, .int .i64 0]) ∧ Below w.heap.size w w' := fun w => by
        have h := impl_RearAbove x y x2 y2 lo H p q eye w
        have hz := ask_of (lo := lo) (hi := H) (eye := eye) vlH vp (by omega) ha2
        rw [hz, show rearV x y x2 y2 lo H p q eye = true by unfold rearV; rw [if_pos hz]; exact f1] at h
        exact h
      clear e1 e2 hask
      obtain ⟨_, ⟨gl0, l0, l1, l2, l3, l4, l5⟩, gp0, p0, p1⟩ := id hQ
      go_wp2_with fail
      clear l0 l1 l2 l3 l4 l5 p0 p1 gl0 gp0
      refine (hlr _).mono ?_
      rintro e w42 ⟨rfl, hb42⟩
      replace hQ := hQ.on hb42
      clear hb42
      obtain ⟨_, ⟨gl0, l0, l1, l2, l3, l4, l5⟩, gp0, p0, p1⟩ := id hQ
      go_upto_region 26 with fail
      refine wp_at ?_
      intro wz hwz
      have hQ42 := hQ.1.size
      have hB26 : Below w42.heap.size w42 wz := by rw [hwz]; go_grown
      have hX : Ld wz w42.heap.size x y x2 y2 lo H := by
        rw [hwz]
        exact ⟨by simp, by simp [go_sem], by simp [go_sem], by simp [go_sem], by simp [go_sem], by simp [go_sem], by simp [go_sem]⟩
      have hF : wz.frozen? ⟨w42.heap.size, 5, none⟩ = false := by rw [hwz]; simp [go_sem]
      clear l0 l1 l2 l3 l4 l5 p0 p1 gl0 gp0
      clear hwz
      replace hQ := hQ.on hB26
      have hgx : W.heap.size ≤ w42.heap.size := Nat.le_trans hQ42 (Nat.le_refl _)
      generalize w42.heap.size = gx at hX hF hB26 hgx ⊢
      obtain ⟨_, ⟨gl0, l0, l1, l2, l3, l4, l5⟩, gp0, p0, p1⟩ := id hQ
      obtain ⟨gx0, x0, x1, x2', x3, x4, x5⟩ := id hX
      go_wp2_with fail
      clear l0 l1 l2 l3 l4 l5 p0 p1 gl0 gp0
      clear gx0 x0 x1 x2' x3 x4 x5
      refine (hra _).mono ?_
      rintro e w51 ⟨rfl, hb51⟩
      have hF1 : w51.frozen? ⟨gx, 5, none⟩ = false := (hb51.frozen (p := ⟨gx, 5, none⟩) hX.1).trans hF
      replace hX := hX.on hb51
      replace hQ := hQ.on hb51
      clear hb51 hra hF hB26
      have hH1 : lo < H := by omega
      by_cases hk0 : kk = 0
      · have g1 : (H == lo + 1) = true := beq_iff_eq.2 (by omega)
        clear hH hk2 f2 hk0
        obtain ⟨_, ⟨gl0, l0, l1, l2, l3, l4, l5⟩, gp0, p0, p1⟩ := id hQ
        go_wp2
        go_ret
        exact ⟨rfl, hQ.1⟩
      have g1 : (H == lo + 1) = false := beq_eq_false_iff_ne.2 (by omega)
      have f3 := f2 (by omega)
      have vlG : vLead x y x2 y2 lo (H - 1) = true := vlead_of (by omega) (by omega) (by omega) (by omega) hn (by omega) (by omega) (by omega)
      have hrb : ∀ w, Calls Try.prog 70 #[.agg #[.int .i64 x, .int .i64 y, .int .i64 x2, .int .i64 y2, .int .i64 lo, .int .i64 (H - 1)], .agg #[.int .i64 p, .int .i64 q], .int .i64 eye] w fun e w' => e = .returned (.tuple #[.bool false, .int .i64 0]) ∧ Below w.heap.size w w' := fun w => by
        have h := impl_RearAbove x y x2 y2 lo (H - 1) p q eye w
        have hz := ask_of (lo := lo) (hi := H - 1) (eye := eye) vlG vp (by omega) ha2
        rw [hz, show rearV x y x2 y2 lo (H - 1) p q eye = false by unfold rearV; rw [if_pos hz]; exact f3] at h
        exact h
      have hHb : -1000000 ≤ H ∧ H ≤ 1000000 := by omega
      clear f1 f2 f3 hH hk2 hk0 vlG
      obtain ⟨_, ⟨gl0, l0, l1, l2, l3, l4, l5⟩, gp0, p0, p1⟩ := id hQ
      obtain ⟨gx0, x0, x1, x2', x3, x4, x5⟩ := id hX
      go_wp2_with fail
      clear l0 l1 l2 l3 l4 l5 p0 p1 gl0 gp0
      refine (hrb _).mono ?_
      rintro e w61 ⟨rfl, hb61⟩
      have hB61 := bnext (show Below W.heap.size W _ from hQ.1.setCell hgx _) hb61
      go_wp2
      go_ret
      exact ⟨rfl, hB61⟩

theorem lifted (os : Os) (started : os.Started) (H : Type) (enc : TypeId × Value → H) :
    ReturnsInHanded {} Try.checked os 11 .any (Rows.fnLeadingSpec.pre6 enc Try.prog Try.f11 Rows.fnLeadingRow.domain false) (Rows.fnLeadingSpec.post enc Try.prog Try.f11 false true false false) := by
  refine returnsInHanded_of_change (C := Try.checked) own started (by kernel_rfl) Try.func11
    (ChangeSpec.witness6 (enc := enc) (C := Try.checked) false ⟨#[], #[.slice none 0 0, .slice none 0 0], []⟩ 8 (by kernel_rfl) (by kernel_rfl) (by kernel_rfl) (by kernel_rfl)) ?_
  intro W base args ds gs before hval0 hW hcnd _
  have hval : ∀ (j : Nat) t v, Try.f11.params[j]? = some t → args[j]? = some v → Value.okWide Try.prog W .any base t v := hval0
  have hW' := hW
  obtain ⟨p, q, hA0, hV, rfl, hfz, hnd⟩ := hW
  have hA : DataW.TrodAll enc Try.prog W 0 (fun _ => true) true Try.f11.params.toList args.toList ds p := hA0
  rw [Try.params11] at hA hval
  obtain ⟨v0, vs0, d0, ds0, p0, q0, hargs, rfl, rfl, h0, r0⟩ := trodAll_cons hA
  obtain ⟨v1, vs1, d1, ds1, p1, q1, rfl, rfl, rfl, h1, r1⟩ := trodAll_cons r0
  obtain ⟨rfl, rfl, rfl⟩ := trodAll_nil r1
  obtain rfl : args = #[v0, v1] := by cases args; simp_all
  have g0 := h0
  have g1 := h1
  obtain ⟨rfl, rfl⟩ := trodVars_none hV
  clear hA0 hval0
  simp only [List.append_nil] at hW'
  have hlt : ∀ x ∈ p0 ++ (p1), x.block < W.heap.size := fun x hx => by simpa using hW'.lt x (by simpa using hx)
  obtain ⟨fu0, hf0⟩ := h0
  obtain ⟨A0, c0, L0, hv0, s0, b0, m0⟩ := open_row8 Try.underlying22 Try.underlying5 (by kernel_rfl) hf0
  obtain ⟨va0, vl0, vc0, rfl⟩ := Go.WideShapes.okWide_slice Try.underlying22 (hval 0 22 _ rfl rfl)
  obtain ⟨rfl, rfl, rfl⟩ : A0 = va0 ∧ L0.length = vl0 ∧ c0 = vc0 := by have := hv0; simp [Value.cells] at this; exact ⟨this.1.symm, this.2.1.symm, this.2.2.symm⟩
  obtain ⟨fu1, hf1⟩ := h1
  obtain ⟨A1, c1, L1, hv1, s1, b1, m1⟩ := open_row8 Try.underlying22 Try.underlying5 (by kernel_rfl) hf1
  obtain ⟨va1, vl1, vc1, rfl⟩ := Go.WideShapes.okWide_slice Try.underlying22 (hval 1 22 _ rfl rfl)
  obtain ⟨rfl, rfl, rfl⟩ : A1 = va1 ∧ L1.length = vl1 ∧ c1 = vc1 := by have := hv1; simp [Value.cells] at this; exact ⟨this.1.symm, this.2.1.symm, this.2.2.symm⟩
  refine (walk W A0 c0 L0 s0 b0 m0 A1 c1 L1 s1 b1 m1).mono fun e W' ⟨he, hg⟩ => ?_
  subst he
  exact ⟨_, rfl, post_below (pa := _) hW' (trodAll_cons_mk (shut_bool Try.underlying4 _) trodAll_mk0) (trodAll_cons_mk (Below.trod laidOut (by kernel_rfl) (of_decide_eq_true (by kernel_rfl)) g0 hg (fun x hx => hlt x (by simp [hx]))) (trodAll_cons_mk (Below.trod laidOut (by kernel_rfl) (of_decide_eq_true (by kernel_rfl)) g1 hg (fun x hx => hlt x (by simp [hx]))) trodAll_mk0)) rfl (by simp) hg⟩

theorem over : Rows.fnLeadingRow.holds Try.pinned (OpenSpec.ofChange Rows.fnLeadingSpec) :=
  OpenClaim.holds_of_wide 11 Try.f11 rfl rfl rfl rfl rfl rfl rfl ⟨rfl, rfl, rfl, rfl, rfl⟩ rfl rfl rfl rfl rfl (by kernel_rfl) Try.func11 (by kernel_rfl)
    (of_decide_eq_true (by kernel_rfl)) (by unfold Func.isWrapper; first | (rw [if_pos (by decide +kernel)]; kernel_rfl) | (rw [if_neg (by decide +kernel)]; exact ⟨rfl, rfl⟩))
    (fun os started H enc _ => lifted os started H enc)

theorem proved : Rows.FnLeadingSaid := over
#print axioms proved
end fnLeading

end Go.Proofs.Ytnikdafbnkedkaa
