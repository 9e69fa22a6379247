/-
  Contracts of the clearance of a danger from a path: the program's and the reference's. Each under the conditions that it states.
-/
import Derived.Test.YtnikdafbnkedkaaGap
import Derived.Test.YtnikdafbnkedkaaFixS
import Derived.Test.YtnikdafbnkedkaaDanger
import Derived.IntWalk
set_option linter.unusedVariables false
set_option linter.unnecessarySimpa false
set_option maxRecDepth 100000
set_option linter.unusedSimpArgs false
namespace Go.Proofs.Ytnikdafbnkedkaa
open Go.RowKit BigFrame

theorem distM_sym (a b c d : Int) : distM a b c d = distM c d a b := by unfold distM; congr 1; unfold sqM; grind
theorem root_mono {a b : Int} (h : a ≤ b) : rootM a ≤ rootM b := by
  rcases Int.lt_or_le (rootM a) 1 with h1 | h1
  · have := rootM_nonneg b; omega
  · rw [← rootM_iff _ _ h1]
    have := (rootM_iff (rootM a) a h1).2 (Int.le_refl _)
    omega
/-- A segment is no farther than its first end. -/
theorem gap_le {ax ay bx by_ px py : Int} (b1 : 0 ≤ ax ∧ ax ≤ 200000) (b2 : 0 ≤ ay ∧ ay ≤ 200000) (b3 : 0 ≤ bx ∧ bx ≤ 200000) (b4 : 0 ≤ by_ ∧ by_ ≤ 200000) : gapM ax ay bx by_ px py ≤ distM ax ay px py := by
  unfold gapM
  split
  · exact Int.le_refl _
  · rename_i h1
    split
    · rename_i h2
      refine root_mono ?_
      have e : sqM bx by_ px py = sqM ax ay px py - 2 * ((bx - ax) * (px - ax) + (by_ - ay) * (py - ay)) + sqM ax ay bx by_ := by unfold sqM; grind
      have := (sqM_bd b1 b2 b3 b4).1
      omega
    · rename_i h2
      have hq : 1 ≤ sqM ax ay bx by_ := by omega
      rcases Int.lt_or_le (farM (max (crossM ax ay bx by_ px py) (-(crossM ax ay bx by_ px py))) (sqM ax ay bx by_)) 1 with h3 | h3
      · have : 0 ≤ distM ax ay px py := rootM_nonneg _
        omega
      · have h4 := (far_iff (x := max (crossM ax ay bx by_ px py) (-(crossM ax ay bx by_ px py))) hq h3).2 (Int.le_refl _)
        unfold distM
        rw [← rootM_iff _ _ h3]
        generalize farM (max (crossM ax ay bx by_ px py) (-(crossM ax ay bx by_ px py))) (sqM ax ay bx by_) = F at *
        have e : max (crossM ax ay bx by_ px py) (-(crossM ax ay bx by_ px py)) * max (crossM ax ay bx by_ px py) (-(crossM ax ay bx by_ px py)) = crossM ax ay bx by_ px py * crossM ax ay bx by_ px py := by
          rcases Int.le_total 0 (crossM ax ay bx by_ px py) with h | h
          · rw [show max (crossM ax ay bx by_ px py) (-(crossM ax ay bx by_ px py)) = crossM ax ay bx by_ px py by omega]
          · rw [show max (crossM ax ay bx by_ px py) (-(crossM ax ay bx by_ px py)) = -(crossM ax ay bx by_ px py) by omega, Int.neg_mul_neg]
        rw [e] at h4
        have e2 : crossM ax ay bx by_ px py * crossM ax ay bx by_ px py + ((px - ax) * (bx - ax) + (py - ay) * (by_ - ay)) * ((px - ax) * (bx - ax) + (py - ay) * (by_ - ay)) = sqM ax ay px py * sqM ax ay bx by_ := by unfold crossM sqM; grind
        have n := sqr_nonneg ((px - ax) * (bx - ax) + (py - ay) * (by_ - ay))
        exact Int.le_of_mul_le_mul_right (show F * F * sqM ax ay bx by_ ≤ sqM ax ay px py * sqM ax ay bx by_ by omega) (by omega)
theorem gap_nonneg (ax ay bx by_ px py : Int) : 0 ≤ gapM ax ay bx by_ px py := by
  unfold gapM
  split
  · exact rootM_nonneg _
  · split
    · exact rootM_nonneg _
    · exact farM_nonneg _ _
/-- The least gap of the first k pieces. -/
def ctM (L : List (Int × Int)) (px py : Int) : Nat → Int
  | 0 => distM (L.getD 0 (0, 0)).1 (L.getD 0 (0, 0)).2 px py
  | k + 1 => min (ctM L px py k) (gapM (L.getD k (0, 0)).1 (L.getD k (0, 0)).2 (L.getD (k + 1) (0, 0)).1 (L.getD (k + 1) (0, 0)).2 px py)
def pathM (L : List (Int × Int)) : Bool := decide (1 ≤ L.length) && (decide (L.length ≤ 64) && vPoints L)

theorem spec_Path (L : List (Int × Int)) (A : Option Addr) (c B : Nat) (w : World) (hs : Sl w B A (pcells L)) (hB : B ≤ w.heap.size) (hl : L.length ≤ 1048576) : Calls Try.prog 102 #[.slice A L.length c] w fun e w' => e = .returned (.bool (pathM L)) ∧ Below w.heap.size w w' := by
  have hs' := Lib.hid hs
  clear hs
  rcases (by omega : L.length < 1 ∨ (1 ≤ L.length ∧ 64 < L.length) ∨ (1 ≤ L.length ∧ L.length ≤ 64)) with h | ⟨h, h2⟩ | ⟨h, h2⟩
  · have HP : Hid (pathM L = false) := Lib.hid (by unfold pathM; rw [decide_eq_false (by omega)]; rfl)
    have d : ¬ (1 : Int) ≤ (L.length : Int) := by omega
    have d' : decide ((1 : Int) ≤ (L.length : Int)) = false := decide_eq_false d
    go_enter Try.func102, Try.ntmps102
    go_wp2
    go_ret
    exact ⟨ret_bool HP.out.symm, Below.refl _ _⟩
  · have HP : Hid (pathM L = false) := Lib.hid (by unfold pathM; rw [decide_eq_false (by omega : ¬ L.length ≤ 64), Bool.false_and, Bool.and_false])
    have d' : decide ((1 : Int) ≤ (L.length : Int)) = true := decide_eq_true (by omega)
    have d2 : decide ((L.length : Int) ≤ 64) = false := decide_eq_false (by omega)
    go_enter Try.func102, Try.ntmps102
    go_wp2
    go_ret
    exact ⟨ret_bool HP.out.symm, Below.refl _ _⟩
  · have HP : Hid (pathM L = vPoints L) := Lib.hid (by unfold pathM; rw [decide_eq_true h, decide_eq_true h2]; rfl)
    have d' : decide ((1 : Int) ≤ (L.length : Int)) = true := decide_eq_true (by omega)
    have d2 : decide ((L.length : Int) ≤ 64) = true := decide_eq_true (by omega)
    go_enter Try.func102, Try.ntmps102
    go_wp2_with (first | (go_at_call 113; refine (spec_l02All L _ _ B _ hs'.out (by omega) (by omega)).mono ?_; rintro e w1 ⟨rfl, hb1⟩))
    go_ret
    exact ⟨ret_bool HP.out.symm, hb1⟩
theorem impl_Path (L : List (Int × Int)) (A : Option Addr) (c B : Nat) (w : World) (hs : Sl w B A (pcells L)) (hB : B ≤ w.heap.size) (hl : L.length ≤ 1048576) : Calls Try.prog 104 #[.slice A L.length c] w fun e w' => e = .returned (.bool (pathM L)) ∧ Below w.heap.size w w' := by
  have hs' := Lib.hid hs
  clear hs
  cases hin : inB (L.length : Int) 1 64
  · have h := inB_no.1 hin
    have HP : Hid (pathM L = false) := Lib.hid (by
      unfold pathM
      rcases (by omega : L.length < 1 ∨ 64 < L.length) with h2 | h2
      · rw [decide_eq_false (by omega)]; rfl
      · rw [decide_eq_false (by omega : ¬ L.length ≤ 64), Bool.false_and, Bool.and_false])
    clear h
    go_enter Try.func104, Try.ntmps104
    go_wp2_with (go_at_call 80; refine (within_any _ _ _ _).mono ?_; rintro e w' ⟨rfl, rfl⟩)
    go_ret
    exact ⟨ret_bool HP.out.symm, Below.refl _ _⟩
  · have h := inB_yes.1 hin
    have HP : Hid (pathM L = vPoints L) := Lib.hid (by unfold pathM; rw [decide_eq_true (by omega : 1 ≤ L.length), decide_eq_true (by omega : L.length ≤ 64)]; rfl)
    clear h
    go_enter Try.func104, Try.ntmps104
    go_wp2_with (first | (go_at_call 80; refine (within_any _ _ _ _).mono ?_; rintro e w' ⟨rfl, rfl⟩) | (go_at_call 74; refine (arePoints_any L _ _ B _ hs'.out (by omega) (by omega)).mono ?_; rintro e w1 ⟨rfl, hb1⟩))
    go_ret
    exact ⟨ret_bool HP.out.symm, hb1⟩
theorem ctM_bd {L : List (Int × Int)} {px py : Int} (hv : vPoints L = true) (hp : vPoint px py = true) : ∀ k, k < L.length → 0 ≤ ctM L px py k ∧ ctM L px py k ≤ 282842
  | 0, h => by
    have a := vPoint_yes (vPoints_at hv h)
    have b := vPoint_yes hp
    have := distM_bd a.1 a.2 b.1 b.2
    unfold ctM
    rw [getD_at' h]
    exact this
  | k + 1, h => by
    have ih := ctM_bd hv hp k (by omega)
    have := gap_nonneg (L.getD k (0, 0)).1 (L.getD k (0, 0)).2 (L.getD (k + 1) (0, 0)).1 (L.getD (k + 1) (0, 0)).2 px py
    unfold ctM
    omega
theorem Dn.on' {w w' : World} {g : Nat} {s : ByteArray} {x y r : Int} (h : Dn w g 0 s x y r) (hb : Below w.heap.size w w') : Dn w' g 0 s x y r := h.on hb
theorem lmin_any (a b : Int) (w : World) : Calls Try.prog 149 #[.int .i64 a, .int .i64 b] w fun e w' => e = .returned (.int .i64 (min a b)) ∧ w = w' := min_any a b w
set_option maxHeartbeats 1600000 in
theorem spec_ClearA (L : List (Int × Int)) (A : Option Addr) (c B : Nat) (g q : Nat) (s : ByteArray) (x y r : Int) (w : World) (hs : Sl w B A (pcells L)) (hB : B ≤ w.heap.size) (hv : vPoints L = true) (hl : 1 ≤ L.length) (hl2 : L.length ≤ 64) (hd : Dn w g q s x y r) (hp : vPoint x y = true) (hr : 0 ≤ r ∧ r ≤ 20000) :
    Calls Try.prog 103 #[.pointer (some ⟨g, q, none⟩), .slice A L.length c] w fun e w' => e = .returned (.int .i64 (ctM L x y (L.length - 1) - r)) ∧ Below w.heap.size w w' := by
  have hs' := Lib.hid hs
  have hv' := Lib.hid hv
  have hct : Hid (∀ k, k < L.length → 0 ≤ ctM L x y k ∧ ctM L x y k ≤ 282842) := Lib.hid (fun k hk => ctM_bd hv hp k hk)
  have pb := vPoint_yes hp
  clear hs
  have hd' := Lib.hid hd
  have hgl := hd.1
  have d1 := hd.2.2.1
  have d2 := hd.2.2.2.1
  obtain ⟨b, o, rfl, hb, c0, c1⟩ := Sl.point hs'.out (show 0 < L.length by omega)
  have v0 := vPoint_yes (vPoints_at hv (show 0 < L.length by omega))
  have hap := fun w => spec_Apart L[0].1 L[0].2 x y w v0.1 v0.2 pb.1 pb.2
  have h0 : Hid (distM L[0].1 L[0].2 x y = ctM L x y 0) := Lib.hid (by rw [ctM, getD_at' (show 0 < L.length by omega)])
  rw [h0.out] at hap
  generalize L[0] = p0 at *
  obtain ⟨ax, ay⟩ := p0
  simp only [Nat.zero_mul, Nat.add_zero] at hap c0 c1
  have hbw : b < w.heap.size := by omega
  clear hd v0 h0 hv
  go_enter Try.func103, Try.ntmps103
  go_wp2_with fail
  refine wp_region_grew (by kernel_rfl) (by kernel_rfl) ?_
  repeat (first | (go_big_quiet_step ((first | (go_at_call 78; exact grew_of (hap _))))) | (quiet_step ((first | (go_at_call 78; exact grew_of (hap _))))))
  refine wpQuiet_nil ?_
  rintro w9 ⟨⟨w8, hb9⟩, rfl⟩
  try dsimp only
  obtain ⟨hc9, hf9⟩ := bcell hb9
  go_wp2_with fail
  clear d1 d2 c0 c1 hc9 hf9 hap
  go_loopw [5, 6] (fun m i wr => ∃ k : Nat, i = .int .i64 ((k : Int) + 1) ∧ k + 1 ≤ L.length ∧ m = .int .i64 (ctM L x y k) ∧ Below w.heap.size w wr) (fun _ i _ => L.length - (intOf i).toNat)
  case atStart => exact ⟨0, rfl, hl, rfl, hb9⟩
  case round =>
    clear hb9
    obtain ⟨k, rfl, hk, rfl, hB1⟩ := hrel
    have hS1 := hB1.size
    have hcb := hct.out k (by omega)
    by_cases hlt : k + 1 < L.length
    · obtain ⟨b1', o1', e1', hb, c0, c1⟩ := Sl.point (hs'.out.below (hB1.mono hB)) (show k < L.length by omega)
      cases e1'
      obtain ⟨b', o', e', hb', c2, c3⟩ := Sl.point (hs'.out.below (hB1.mono hB)) hlt
      cases e'
      have va := vPoint_yes (vPoints_at hv'.out (show k < L.length by omega))
      have vb := vPoint_yes (vPoints_at hv'.out hlt)
      have hst : ctM L x y (k + 1) = min (ctM L x y k) (gapM L[k].1 L[k].2 L[k + 1].1 L[k + 1].2 x y) := by rw [ctM, getD_at' (show k < L.length by omega), getD_at' hlt]
      have hg0 := gap_nonneg L[k].1 L[k].2 L[k + 1].1 L[k + 1].2 x y
      have hgp := fun w => spec_Gap L[k].1 L[k].2 L[k + 1].1 L[k + 1].2 x y w va.1 va.2 vb.1 vb.2 pb.1 pb.2
      have e0 : L.getD k (0, 0) = L[k] := getD_at' (show k < L.length by omega)
      generalize L[k] = pa at *
      generalize L[k + 1] = pb' at *
      obtain ⟨ax, ay⟩ := pa
      obtain ⟨bx, by_⟩ := pb'
      simp only at hst hgp c0 c1 c2 c3 hg0
      generalize gapM ax ay bx by_ x y = G at hst hgp hg0
      generalize ctM L x y k = m at *
      have HST := Lib.hid hst
      have hbw : b < wr.heap.size := by omega
      have hD1 := hd'.out.on hB1
      have hgl := hD1.1
      have d1 := hD1.2.2.1
      have d2 := hD1.2.2.2.1
      have hw : IntKind.i64.wrap ((k : Int) + 1 - 1) = (k : Int) := by rw [IntWalk.i64_in _ (by omega)]; omega
      have ht : ((k : Int) + 1).toNat = k + 1 := by omega
      have hk0 : (0 : Int) ≤ (k : Int) + 1 := by omega
      clear hst va vb e0
      go_wp2_with fail
      refine wp_region_grew (by kernel_rfl) (by kernel_rfl) ?_
      repeat (first | (go_big_quiet_step ((first | (go_at_call 150; exact grew_of (hgp _)) | (go_at_call 149; exact grew_same (lmin_any _ _ _))))) | (quiet_step ((first | (go_at_call 150; exact grew_of (hgp _)) | (go_at_call 149; exact grew_same (lmin_any _ _ _))))))
      refine wpQuiet_nil ?_
      rintro w9 ⟨⟨w8, hb9⟩, rfl⟩
      try dsimp only
      obtain ⟨hc9, hf9⟩ := bcell hb9
      clear hw ht
      go_wp2
      go_roundw
      case rel => exact ⟨k + 1, by go_num, by omega, by rw [HST.out], bnext hB1 hb9⟩
      case measure => simp [intOf]; omega
    · have hkl : k = L.length - 1 := by omega
      have hD1 := hd'.out.on hB1
      have hgl := hD1.1
      have d3 := hD1.2.2.2.2
      generalize hm : ctM L x y k = m at *
      have HM := Lib.hid hm
      clear hm
      go_wp2
      go_ret
      exact ⟨ret_int (by rw [← hkl, HM.out]), hB1⟩
theorem spec_Clear (L : List (Int × Int)) (A : Option Addr) (c B : Nat) (g : Nat) (s : ByteArray) (x y r : Int) (w : World) (hs : Sl w B A (pcells L)) (hB : B ≤ w.heap.size) (hv : vPoints L = true) (hl : 1 ≤ L.length) (hl2 : L.length ≤ 64) (hd : Dn w g 0 s x y r) (hp : vPoint x y = true) (hr : 0 ≤ r ∧ r ≤ 20000) :
    Calls Try.prog 103 #[.pointer (some ⟨g, 0, none⟩), .slice A L.length c] w fun e w' => e = .returned (.int .i64 (ctM L x y (L.length - 1) - r)) ∧ Below w.heap.size w w' := spec_ClearA L A c B g 0 s x y r w hs hB hv hl hl2 hd hp hr

set_option maxHeartbeats 1600000 in
theorem impl_Clear (L : List (Int × Int)) (A : Option Addr) (c B : Nat) (s : ByteArray) (x y r : Int) (w : World) (hs : Sl w B A (pcells L)) (hB : B ≤ w.heap.size) (hv : vPoints L = true) (hl : 1 ≤ L.length) (hl2 : L.length ≤ 64) (hp : vPoint x y = true) (hr : 0 ≤ r ∧ r ≤ 20000) :
    Calls Try.prog 105 #[.agg #[.string s, .int .i64 x, .int .i64 y, .int .i64 r], .slice A L.length c] w fun e w' => e = .returned (.int .i64 (ctM L x y (L.length - 1) - r)) ∧ Below w.heap.size w w' := by
  have hB0 : Below w.heap.size w (w.alloc (.cells #[.string s, .int .i64 x, .int .i64 y, .int .i64 r] 48)) := by go_grown
  have hd : Dn (w.alloc (.cells #[.string s, .int .i64 x, .int .i64 y, .int .i64 r] 48)) w.heap.size 0 s x y r := ⟨by simp, by simp [go_sem], by simp [go_sem], by simp [go_sem], by simp [go_sem]⟩
  have hs' := Lib.hid hs
  have hv' := Lib.hid hv
  have hct : Hid (∀ k, k < L.length → 0 ≤ ctM L x y k ∧ ctM L x y k ≤ 282842) := Lib.hid (fun k hk => ctM_bd hv hp k hk)
  have pb := vPoint_yes hp
  clear hs
  obtain ⟨b, o, rfl, hb, c0, c1⟩ := Sl.point hs'.out (show 0 < L.length by omega)
  have v0 := vPoint_yes (vPoints_at hv (show 0 < L.length by omega))
  have hap := fun w => impl_Distance x y L[0].1 L[0].2 w pb.1 pb.2 v0.1 v0.2
  have h0 : Hid (distM x y L[0].1 L[0].2 = ctM L x y 0) := Lib.hid (by rw [ctM, getD_at' (show 0 < L.length by omega)]; exact distM_sym _ _ _ _)
  rw [h0.out] at hap
  generalize L[0] = p0 at *
  obtain ⟨ax, ay⟩ := p0
  simp only [Nat.zero_mul, Nat.add_zero] at hap c0 c1
  have hbw : b < w.heap.size := by omega
  clear v0 h0 hv
  go_enter Try.func105, Try.ntmps105
  go_wp2_with fail
  refine wp_region_grew (by kernel_rfl) (by kernel_rfl) ?_
  repeat (first | (go_big_quiet_step ((first | (go_at_call 109; exact grew_of (hap _))))) | (quiet_step ((first | (go_at_call 109; exact grew_of (hap _))))))
  refine wpQuiet_nil ?_
  rintro w9 ⟨⟨w8, hb9⟩, rfl⟩
  try dsimp only
  obtain ⟨hc9, hf9⟩ := bcell hb9
  go_wp2_with fail
  have hB9 := bnext hB0 hb9
  have hd' := Lib.hid (hd.on' hb9)
  have hz9 := hd'.out.1
  have hs9 := Lib.hid (hs'.out.below (hB9.mono hB))
  clear c0 c1 hc9 hf9 hap hd hB0 hb9
  generalize hbase : w9 = wb at hd' hs9 hB9 ⊢
  go_loopw [5, 6] (fun m i wr => ∃ k : Nat, i = .int .i64 ((k : Int) + 1) ∧ k + 1 ≤ L.length ∧ m = .int .i64 (ctM L x y k) ∧ Below w.heap.size w wr ∧ Dn wr w.heap.size 0 s x y r) (fun _ i _ => L.length - (intOf i).toNat)
  case atStart => exact ⟨0, rfl, hl, rfl, hB9, hd'.out⟩
  case round =>
    clear hB9 hs9 hd' hz9
    obtain ⟨k, rfl, hk, rfl, hB1, hD1⟩ := hrel
    have hS1 := hB1.size
    have hcb := hct.out k (by omega)
    by_cases hlt : k + 1 < L.length
    · obtain ⟨b1', o1', e1', hb, c0, c1⟩ := Sl.point (hs'.out.below (hB1.mono hB)) (show k < L.length by omega)
      cases e1'
      obtain ⟨b', o', e', hb', c2, c3⟩ := Sl.point (hs'.out.below (hB1.mono hB)) hlt
      cases e'
      have va := vPoint_yes (vPoints_at hv'.out (show k < L.length by omega))
      have vb := vPoint_yes (vPoints_at hv'.out hlt)
      have hst : ctM L x y (k + 1) = min (ctM L x y k) (gapM L[k].1 L[k].2 L[k + 1].1 L[k + 1].2 x y) := by rw [ctM, getD_at' (show k < L.length by omega), getD_at' hlt]
      have hg0 := gap_nonneg L[k].1 L[k].2 L[k + 1].1 L[k + 1].2 x y
      have hgp := fun w => impl_DTS L[k].1 L[k].2 L[k + 1].1 L[k + 1].2 x y w va.1 va.2 vb.1 vb.2 pb.1 pb.2
      have hgl0 : k = 0 → gapM L[k].1 L[k].2 L[k + 1].1 L[k + 1].2 x y ≤ ctM L x y k := fun e => by
        subst e
        rw [ctM, getD_at' (show 0 < L.length by omega)]
        exact gap_le va.1 va.2 vb.1 vb.2
      have e0 : L.getD k (0, 0) = L[k] := getD_at' (show k < L.length by omega)
      generalize L[k] = pa at *
      generalize L[k + 1] = pb' at *
      obtain ⟨ax, ay⟩ := pa
      obtain ⟨bx, by_⟩ := pb'
      simp only at hst hgp c0 c1 c2 c3 hg0 hgl0
      generalize gapM ax ay bx by_ x y = G at hst hgp hg0 hgl0
      generalize ctM L x y k = m at *
      have HST := Lib.hid hst
      have hbw : b < wr.heap.size := by omega
      have hgl := hD1.1
      have d1 := hD1.2.2.1
      have d2 := hD1.2.2.2.1
      have hw : IntKind.i64.wrap ((k : Int) + 1 - 1) = (k : Int) := by rw [IntWalk.i64_in _ (by omega)]; omega
      have ht : ((k : Int) + 1).toNat = k + 1 := by omega
      have hk0 : (0 : Int) ≤ (k : Int) + 1 := by omega
      clear hst va vb e0
      have HD := Lib.hid hD1
      simp only [Nat.zero_add] at d1 d2
      clear hD1
      go_wp2_with fail
      refine wp_region_grew (by kernel_rfl) (by kernel_rfl) ?_
      repeat (first | (go_big_quiet_step ((first | (go_at_call 151; exact grew_of (hgp _))))) | (quiet_step ((first | (go_at_call 151; exact grew_of (hgp _))))))
      refine wpQuiet_nil ?_
      rintro w9 ⟨⟨w8, hb9⟩, rfl⟩
      try dsimp only
      obtain ⟨hc9, hf9⟩ := bcell hb9
      clear hw ht
      have hB2 := bnext hB1 hb9
      have hD2 := HD.out.on' hb9
      rcases (by omega : k = 0 ∨ (¬ k = 0 ∧ G < m) ∨ (¬ k = 0 ∧ ¬ G < m)) with h | ⟨h, h2⟩ | ⟨h, h2⟩
      · have e : min m G = G := by have := hgl0 h; omega
        have g1 : (((k : Int) + 1) == 1) = true := beq_iff_eq.2 (by omega)
        clear h hgl0
        go_wp2
        go_roundw
        case rel => exact ⟨k + 1, by go_num, by omega, by rw [HST.out, e], hB2, hD2⟩
        case measure => simp [intOf]; omega
      · have e : min m G = G := by omega
        have g1 : (((k : Int) + 1) == 1) = false := beq_eq_false_iff_ne.2 (by omega)
        have g2 : decide (G < m) = true := decide_eq_true h2
        clear h hgl0
        go_wp2
        go_roundw
        case rel => exact ⟨k + 1, by go_num, by omega, by rw [HST.out, e], hB2, hD2⟩
        case measure => simp [intOf]; omega
      · have e : min m G = m := by omega
        have g1 : (((k : Int) + 1) == 1) = false := beq_eq_false_iff_ne.2 (by omega)
        have g2 : decide (G < m) = false := decide_eq_false h2
        clear h hgl0
        go_wp2
        go_roundw
        case rel => exact ⟨k + 1, by go_num, by omega, by rw [HST.out, e], hB2, hD2⟩
        case measure => simp [intOf]; omega
    · have hkl : k = L.length - 1 := by omega
      have hgl := hD1.1
      have d3 := hD1.2.2.2.2
      simp only [Nat.zero_add] at d3
      generalize hm : ctM L x y k = m at *
      have HM := Lib.hid hm
      clear hm
      go_wp2
      go_ret
      exact ⟨ret_int (by rw [← hkl, HM.out]), hB1⟩

theorem path_yes {L : List (Int × Int)} (h : pathM L = true) : 1 ≤ L.length ∧ L.length ≤ 64 ∧ vPoints L = true := by
  unfold pathM at h
  simp only [Bool.and_eq_true, decide_eq_true_eq] at h
  exact ⟨h.1, h.2.1, h.2.2⟩
theorem dang_yes {s : ByteArray} {x y r : Int} (h : vDanger s x y r = true) : vPoint x y = true ∧ 0 ≤ r ∧ r ≤ 20000 := by
  unfold vDanger at h
  rw [Bool.and_eq_true, Bool.and_eq_true] at h
  have := inB_yes.1 h.2.2
  exact ⟨h.2.1, by omega, by omega⟩
def coOk (L : List (Int × Int)) (s : ByteArray) (x y r : Int) : Bool := vDanger s x y r && pathM L
def coC (L : List (Int × Int)) (s : ByteArray) (x y r : Int) : Int := if coOk L s x y r then 0 else 1
def coV (L : List (Int × Int)) (s : ByteArray) (x y r : Int) : Int := if coOk L s x y r then ctM L x y (L.length - 1) - r else 0
set_option maxHeartbeats 1600000 in
theorem spec_CO (L : List (Int × Int)) (A : Option Addr) (c B : Nat) (s : ByteArray) (hz : s.size ≤ maxLen) (x y r : Int) (w : World) (hs : Sl w B A (pcells L)) (hB : B ≤ w.heap.size) (hl : L.length ≤ 1048576) : Calls Try.prog 39 #[.agg #[.string s, .int .i64 x, .int .i64 y, .int .i64 r], .slice A L.length c] w fun e w' => e = .returned (.tuple #[.int .i64 (coV L s x y r), .int .i64 (coC L s x y r)]) ∧ Below w.heap.size w w' := by
  have hs' := Lib.hid hs
  clear hs
  cases hd : vDanger s x y r
  · have HC : Hid (coC L s x y r = 1 ∧ coV L s x y r = 0) := Lib.hid (by unfold coC coV coOk; rw [hd]; exact ⟨rfl, rfl⟩)
    go_enter Try.func39, Try.ntmps39
    go_wp2_with (go_at_call 85; refine (spec_l14One s hz x y r _ 0 _ ⟨by simp, by simp [go_sem], by simp [go_sem], by simp [go_sem], by simp [go_sem]⟩).mono ?_; rintro e w1 ⟨rfl, hb1⟩; have hB1 := bnext (w := w) (by go_grown) hb1; have hS1 := hB1.size; ((have hz1 : w.heap.size < w1.heap.size := by have := hb1.size; (try simp only [World.size_alloc, World.size_setCell, World.size_drew] at this); omega)); obtain ⟨hc1, hf1⟩ := bcell hb1; clear hb1)
    go_ret2
    exact ⟨by rw [HC.out.1, HC.out.2]; rfl, by go_grown⟩
  cases hp : pathM L
  · have HC : Hid (coC L s x y r = 1 ∧ coV L s x y r = 0) := Lib.hid (by unfold coC coV coOk; rw [hd, hp]; exact ⟨rfl, rfl⟩)
    go_enter Try.func39, Try.ntmps39
    go_wp2_with (first | (go_at_call 85; refine (spec_l14One s hz x y r _ 0 _ ⟨by simp, by simp [go_sem], by simp [go_sem], by simp [go_sem], by simp [go_sem]⟩).mono ?_; rintro e w1 ⟨rfl, hb1⟩; have hB1 := bnext (w := w) (by go_grown) hb1; have hS1 := hB1.size; ((have hz1 : w.heap.size < w1.heap.size := by have := hb1.size; (try simp only [World.size_alloc, World.size_setCell, World.size_drew] at this); omega)); obtain ⟨hc1, hf1⟩ := bcell hb1; clear hb1) | (go_at_call 102; refine (spec_Path L _ _ B _ (hs'.out.below ((show Below w.heap.size w _ by go_grown).mono hB)) (by have := hS1; omega) hl).mono ?_; rintro e w1 ⟨rfl, hb1⟩; have hB1 := bnext (w := w) (by go_grown) hb1; have hS1 := hB1.size; ((have hz1 : w.heap.size < w1.heap.size := by have := hb1.size; (try simp only [World.size_alloc, World.size_setCell, World.size_drew] at this); omega)); obtain ⟨hc1, hf1⟩ := bcell hb1; clear hb1))
    go_ret2
    exact ⟨by rw [HC.out.1, HC.out.2]; rfl, by go_grown⟩
  · have HC : Hid (coC L s x y r = 0 ∧ coV L s x y r = ctM L x y (L.length - 1) - r) := Lib.hid (by unfold coC coV coOk; rw [hd, hp]; exact ⟨rfl, rfl⟩)
    obtain ⟨p1, p2, p3⟩ := path_yes hp
    obtain ⟨q1, q2⟩ := dang_yes hd
    go_enter Try.func39, Try.ntmps39
    go_wp2_with (first | (go_at_call 85; refine (spec_l14One s hz x y r _ 0 _ ⟨by simp, by simp [go_sem], by simp [go_sem], by simp [go_sem], by simp [go_sem]⟩).mono ?_; rintro e w1 ⟨rfl, hb1⟩; have hB1 := bnext (w := w) (by go_grown) hb1; have hS1 := hB1.size; ((have hz1 : w.heap.size < w1.heap.size := by have := hb1.size; (try simp only [World.size_alloc, World.size_setCell, World.size_drew] at this); omega)); obtain ⟨hc1, hf1⟩ := bcell hb1; clear hb1) | (go_at_call 102; refine (spec_Path L _ _ B _ (hs'.out.below ((show Below w.heap.size w _ by go_grown).mono hB)) (by have := hS1; omega) hl).mono ?_; rintro e w1 ⟨rfl, hb1⟩; have hB1 := bnext (w := w) (by go_grown) hb1; have hS1 := hB1.size; ((have hz1 : w.heap.size < w1.heap.size := by have := hb1.size; (try simp only [World.size_alloc, World.size_setCell, World.size_drew] at this); omega)); obtain ⟨hc1, hf1⟩ := bcell hb1; clear hb1) | (go_at_call 103; refine (spec_Clear L _ _ B _ s x y r _ (hs'.out.below ((show Below w.heap.size w _ by go_grown).mono hB)) (by have := hS1; omega) p3 p1 p2 ⟨hz1, by simp [go_sem, *], by simp [go_sem, *], by simp [go_sem, *], by simp [go_sem, *]⟩ q1 q2).mono ?_; rintro e w1 ⟨rfl, hb1⟩; have hB1 := bnext (w := w) (by go_grown) hb1; have hS1 := hB1.size; (skip); obtain ⟨hc1, hf1⟩ := bcell hb1; clear hb1))
    go_ret2
    exact ⟨by rw [HC.out.1, HC.out.2]; rfl, by go_grown⟩

set_option maxHeartbeats 1600000 in
theorem impl_CO (L : List (Int × Int)) (A : Option Addr) (c B : Nat) (s : ByteArray) (hz : s.size ≤ maxLen) (x y r : Int) (w : World) (hs : Sl w B A (pcells L)) (hB : B ≤ w.heap.size) (hl : L.length ≤ 1048576) : Calls Try.prog 41 #[.agg #[.string s, .int .i64 x, .int .i64 y, .int .i64 r], .slice A L.length c] w fun e w' => e = .returned (.tuple #[.int .i64 (coV L s x y r), .int .i64 (coC L s x y r)]) ∧ Below w.heap.size w w' := by
  have hs' := Lib.hid hs
  clear hs
  cases hd : vDanger s x y r
  · have HC : Hid (coC L s x y r = 1 ∧ coV L s x y r = 0) := Lib.hid (by unfold coC coV coOk; rw [hd]; exact ⟨rfl, rfl⟩)
    go_enter Try.func41, Try.ntmps41
    go_wp2_with (go_at_call 87; refine (impl_ValidDanger _ hz _ _ _ _).mono ?_; rintro e w1 ⟨rfl, hb1⟩; have hB1 := bnext (w := w) (by go_grown) hb1; have hS1 := hB1.size; ((have hz1 : w.heap.size < w1.heap.size := by have := hb1.size; (try simp only [World.size_alloc, World.size_setCell, World.size_drew] at this); omega)); obtain ⟨hc1, hf1⟩ := bcell hb1; clear hb1)
    go_ret2
    exact ⟨by rw [HC.out.1, HC.out.2]; rfl, by go_grown⟩
  cases hp : pathM L
  · have HC : Hid (coC L s x y r = 1 ∧ coV L s x y r = 0) := Lib.hid (by unfold coC coV coOk; rw [hd, hp]; exact ⟨rfl, rfl⟩)
    go_enter Try.func41, Try.ntmps41
    go_wp2_with (first | (go_at_call 87; refine (impl_ValidDanger _ hz _ _ _ _).mono ?_; rintro e w1 ⟨rfl, hb1⟩; have hB1 := bnext (w := w) (by go_grown) hb1; have hS1 := hB1.size; ((have hz1 : w.heap.size < w1.heap.size := by have := hb1.size; (try simp only [World.size_alloc, World.size_setCell, World.size_drew] at this); omega)); obtain ⟨hc1, hf1⟩ := bcell hb1; clear hb1) | (go_at_call 104; refine (impl_Path L _ _ B _ (hs'.out.below ((show Below w.heap.size w _ by go_grown).mono hB)) (by have := hS1; omega) hl).mono ?_; rintro e w1 ⟨rfl, hb1⟩; have hB1 := bnext (w := w) (by go_grown) hb1; have hS1 := hB1.size; ((have hz1 : w.heap.size < w1.heap.size := by have := hb1.size; (try simp only [World.size_alloc, World.size_setCell, World.size_drew] at this); omega)); obtain ⟨hc1, hf1⟩ := bcell hb1; clear hb1))
    go_ret2
    exact ⟨by rw [HC.out.1, HC.out.2]; rfl, by go_grown⟩
  · have HC : Hid (coC L s x y r = 0 ∧ coV L s x y r = ctM L x y (L.length - 1) - r) := Lib.hid (by unfold coC coV coOk; rw [hd, hp]; exact ⟨rfl, rfl⟩)
    obtain ⟨p1, p2, p3⟩ := path_yes hp
    obtain ⟨q1, q2⟩ := dang_yes hd
    go_enter Try.func41, Try.ntmps41
    go_wp2_with (first | (go_at_call 87; refine (impl_ValidDanger _ hz _ _ _ _).mono ?_; rintro e w1 ⟨rfl, hb1⟩; have hB1 := bnext (w := w) (by go_grown) hb1; have hS1 := hB1.size; ((have hz1 : w.heap.size < w1.heap.size := by have := hb1.size; (try simp only [World.size_alloc, World.size_setCell, World.size_drew] at this); omega)); obtain ⟨hc1, hf1⟩ := bcell hb1; clear hb1) | (go_at_call 104; refine (impl_Path L _ _ B _ (hs'.out.below ((show Below w.heap.size w _ by go_grown).mono hB)) (by have := hS1; omega) hl).mono ?_; rintro e w1 ⟨rfl, hb1⟩; have hB1 := bnext (w := w) (by go_grown) hb1; have hS1 := hB1.size; ((have hz1 : w.heap.size < w1.heap.size := by have := hb1.size; (try simp only [World.size_alloc, World.size_setCell, World.size_drew] at this); omega)); obtain ⟨hc1, hf1⟩ := bcell hb1; clear hb1) | (go_at_call 105; refine (impl_Clear L _ _ B s x y r _ (hs'.out.below ((show Below w.heap.size w _ by go_grown).mono hB)) (by have := hS1; omega) p3 p1 p2 q1 q2).mono ?_; rintro e w1 ⟨rfl, hb1⟩; have hB1 := bnext (w := w) (by go_grown) hb1; have hS1 := hB1.size; (skip); obtain ⟨hc1, hf1⟩ := bcell hb1; clear hb1))
    go_ret2
    exact ⟨by rw [HC.out.1, HC.out.2]; rfl, by go_grown⟩

end Go.Proofs.Ytnikdafbnkedkaa
