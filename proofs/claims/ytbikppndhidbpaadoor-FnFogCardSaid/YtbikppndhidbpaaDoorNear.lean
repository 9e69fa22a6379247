/-
  Contracts of the side of a line and of the nearest piece of a channel's line: the program's and the reference's. Under the conditions that each states.
-/
import Derived.Test.YtbikppndhidbpaaDoorChan
import Derived.Test.YtbikppndhidbpaaDoorGap
set_option linter.unusedVariables false
set_option linter.unnecessarySimpa false
set_option maxRecDepth 100000
set_option linter.unusedSimpArgs false
namespace Go.Proofs.YtbikppndhidbpaaDoor
open Go.RowKit BigFrame

def sideM (c : Int) : Int := if 0 < c then 1 else if c < 0 then -1 else 0
theorem line_pt {P : List RPoint} (h : vLine P = true) {k : Nat} {a : RPoint} (hg : P.getD k default = a) (hk : k < P.length) : vPoint a.f0 a.f1 = true := by
  have h1 : okPt P k = true := by
    rw [← Bool.not_eq_false]
    intro hf
    have h' := allTo_hit hk hf
    unfold vLine at h
    rw [h'] at h
    cases h
  unfold okPt at h1
  rw [hg, Bool.and_eq_true] at h1
  exact h1.1
/-- The distance of piece k of a line from a place. -/
def segM (P : List RPoint) (x y : Int) (k : Nat) : Int := gapM (P.getD k default).f0 (P.getD k default).f1 (P.getD (k + 1) default).f0 (P.getD (k + 1) default).f1 x y
theorem segM_is {P : List RPoint} {x y : Int} {k : Nat} {p a : RPoint} (hp : P.getD k default = p) (ha : P.getD (k + 1) default = a) : segM P x y k = gapM p.f0 p.f1 a.f0 a.f1 x y := by unfold segM; rw [hp, ha]
/-- The nearest of the pieces 0 .. k, and its distance. -/
def nearTo (P : List RPoint) (x y : Int) : Nat → Nat × Int
  | 0 => (0, segM P x y 0)
  | k + 1 => if segM P x y (k + 1) < (nearTo P x y k).2 then (k + 1, segM P x y (k + 1)) else nearTo P x y k
theorem nearTo_zero (P : List RPoint) (x y : Int) : nearTo P x y 0 = (0, segM P x y 0) := rfl
theorem nearTo_yes {P : List RPoint} {x y d n : Int} {k m : Nat} (hd : segM P x y (k + 1) = d) (hn : nearTo P x y k = (m, n)) (h : d < n) : nearTo P x y (k + 1) = (k + 1, d) := by
  rw [nearTo, hd, hn, if_pos h]
theorem nearTo_no {P : List RPoint} {x y d n : Int} {k m : Nat} (hd : segM P x y (k + 1) = d) (hn : nearTo P x y k = (m, n)) (h : ¬ d < n) : nearTo P x y (k + 1) = (m, n) := by
  rw [nearTo, hd, hn, if_neg h]
theorem nearTo_yesQ {P : List RPoint} {x y d n : Int} {q m : Nat} (h1 : 1 ≤ q) (hd : segM P x y q = d) (hn : nearTo P x y (q - 1) = (m, n)) (h : d < n) : nearTo P x y q = (q, d) := by
  obtain ⟨k, rfl⟩ : ∃ k, q = k + 1 := ⟨q - 1, by omega⟩
  exact nearTo_yes hd hn h
theorem nearTo_noQ {P : List RPoint} {x y d n : Int} {q m : Nat} (h1 : 1 ≤ q) (hd : segM P x y q = d) (hn : nearTo P x y (q - 1) = (m, n)) (h : ¬ d < n) : nearTo P x y q = (m, n) := by
  obtain ⟨k, rfl⟩ : ∃ k, q = k + 1 := ⟨q - 1, by omega⟩
  exact nearTo_no hd hn h
theorem nearTo_le (P : List RPoint) (x y : Int) : ∀ k, (nearTo P x y k).1 ≤ k
  | 0 => Nat.le_refl _
  | k + 1 => by
    have ih := nearTo_le P x y k
    rw [nearTo]
    split
    · exact Nat.le_refl _
    · omega
theorem distM_nonneg (a b c d : Int) : 0 ≤ distM a b c d := rootM_nonneg _
theorem gapM_nonneg (a b c d x y : Int) : 0 ≤ gapM a b c d x y := by
  unfold gapM
  split
  · exact distM_nonneg _ _ _ _
  · split
    · exact distM_nonneg _ _ _ _
    · exact farM_nonneg _ _
theorem segM_nonneg (P : List RPoint) (x y : Int) (k : Nat) : 0 ≤ segM P x y k := gapM_nonneg _ _ _ _ _ _
theorem nearTo_nonneg (P : List RPoint) (x y : Int) : ∀ k, 0 ≤ (nearTo P x y k).2
  | 0 => segM_nonneg _ _ _ _
  | k + 1 => by
    have ih := nearTo_nonneg P x y k
    rw [nearTo]
    split
    · exact segM_nonneg _ _ _ _
    · exact ih
theorem impl_SideOf (ax ay bx by_ px py : Int) (w : World) (b1 : 0 ≤ ax ∧ ax ≤ 200000) (b2 : 0 ≤ ay ∧ ay ≤ 200000) (b3 : 0 ≤ bx ∧ bx ≤ 200000) (b4 : 0 ≤ by_ ∧ by_ ≤ 200000) (b5 : 0 ≤ px ∧ px ≤ 200000) (b6 : 0 ≤ py ∧ py ≤ 200000) :
    Calls Tryd.prog 23 #[.agg #[.int .i64 ax, .int .i64 ay], .agg #[.int .i64 bx, .int .i64 by_], .agg #[.int .i64 px, .int .i64 py]] w fun e w' => e = .returned (.int .i64 (sideM (crossM ax ay bx by_ px py))) ∧ Below w.heap.size w w' := by
  have v1 : vPoint ax ay = true := by unfold vPoint; rw [inB_mk b1.1 b1.2, inB_mk b2.1 b2.2]; rfl
  have v2 : vPoint bx by_ = true := by unfold vPoint; rw [inB_mk b3.1 b3.2, inB_mk b4.1 b4.2]; rfl
  have v3 : vPoint px py = true := by unfold vPoint; rw [inB_mk b5.1 b5.2, inB_mk b6.1 b6.2]; rfl
  have hcr := fun w => impl_cross ax ay bx by_ px py w b1 b2 b3 b4 b5 b6
  obtain ⟨cc, hce⟩ : ∃ q, crossM ax ay bx by_ px py = q := ⟨_, rfl⟩
  rw [hce] at hcr ⊢
  clear hce
  rcases (by omega : 0 < cc ∨ (¬ 0 < cc ∧ cc < 0) ∨ (¬ 0 < cc ∧ ¬ cc < 0)) with h | ⟨h, h2⟩ | ⟨h, h2⟩
  · have hs : Hid (sideM cc = 1) := Lib.hid (by unfold sideM; rw [if_pos h])
    go_enter Tryd.func23, Tryd.ntmps23
    go_wp2_with (first | (go_at_call 60; refine (arePoints_3 ax ay bx by_ px py _ _ (by simp) (by simp [go_sem]) (by simp [go_sem]) (by simp [go_sem]) (by simp [go_sem]) (by simp [go_sem]) (by simp [go_sem]) v1 v2 v3).mono ?_; rintro e w1 ⟨rfl, hb1⟩; have hB1 := bnext (w := w) (by go_grown) hb1; have hS1 := hB1.size; ((have hz1 : w.heap.size < w1.heap.size := by have := hb1.size; (try simp only [World.size_alloc, World.size_setCell, World.size_drew] at this); omega); (have hy1 : w.heap.size + 1 < w1.heap.size := by have := hb1.size; (try simp only [World.size_alloc, World.size_setCell, World.size_drew] at this); omega); (have hx1 : w.heap.size + 2 < w1.heap.size := by have := hb1.size; (try simp only [World.size_alloc, World.size_setCell, World.size_drew] at this); omega)); obtain ⟨hc1, hf1⟩ := bcell hb1; clear hb1) | (go_at_call 65; refine (hcr _).mono ?_; rintro e w1 ⟨rfl, hb1⟩; have hB1 := bnext (w := w) (by go_grown) hb1; have hS1 := hB1.size; (skip); obtain ⟨hc1, hf1⟩ := bcell hb1; clear hb1))
    go_ret
    exact ⟨ret_int hs.out.symm, hB1⟩
  · have hs : Hid (sideM cc = -1) := Lib.hid (by unfold sideM; rw [if_neg h, if_pos h2])
    go_enter Tryd.func23, Tryd.ntmps23
    go_wp2_with (first | (go_at_call 60; refine (arePoints_3 ax ay bx by_ px py _ _ (by simp) (by simp [go_sem]) (by simp [go_sem]) (by simp [go_sem]) (by simp [go_sem]) (by simp [go_sem]) (by simp [go_sem]) v1 v2 v3).mono ?_; rintro e w1 ⟨rfl, hb1⟩; have hB1 := bnext (w := w) (by go_grown) hb1; have hS1 := hB1.size; ((have hz1 : w.heap.size < w1.heap.size := by have := hb1.size; (try simp only [World.size_alloc, World.size_setCell, World.size_drew] at this); omega); (have hy1 : w.heap.size + 1 < w1.heap.size := by have := hb1.size; (try simp only [World.size_alloc, World.size_setCell, World.size_drew] at this); omega); (have hx1 : w.heap.size + 2 < w1.heap.size := by have := hb1.size; (try simp only [World.size_alloc, World.size_setCell, World.size_drew] at this); omega)); obtain ⟨hc1, hf1⟩ := bcell hb1; clear hb1) | (go_at_call 65; refine (hcr _).mono ?_; rintro e w1 ⟨rfl, hb1⟩; have hB1 := bnext (w := w) (by go_grown) hb1; have hS1 := hB1.size; (skip); obtain ⟨hc1, hf1⟩ := bcell hb1; clear hb1))
    go_ret
    exact ⟨ret_int hs.out.symm, hB1⟩
  · have hs : Hid (sideM cc = 0) := Lib.hid (by unfold sideM; rw [if_neg h, if_neg h2])
    go_enter Tryd.func23, Tryd.ntmps23
    go_wp2_with (first | (go_at_call 60; refine (arePoints_3 ax ay bx by_ px py _ _ (by simp) (by simp [go_sem]) (by simp [go_sem]) (by simp [go_sem]) (by simp [go_sem]) (by simp [go_sem]) (by simp [go_sem]) v1 v2 v3).mono ?_; rintro e w1 ⟨rfl, hb1⟩; have hB1 := bnext (w := w) (by go_grown) hb1; have hS1 := hB1.size; ((have hz1 : w.heap.size < w1.heap.size := by have := hb1.size; (try simp only [World.size_alloc, World.size_setCell, World.size_drew] at this); omega); (have hy1 : w.heap.size + 1 < w1.heap.size := by have := hb1.size; (try simp only [World.size_alloc, World.size_setCell, World.size_drew] at this); omega); (have hx1 : w.heap.size + 2 < w1.heap.size := by have := hb1.size; (try simp only [World.size_alloc, World.size_setCell, World.size_drew] at this); omega)); obtain ⟨hc1, hf1⟩ := bcell hb1; clear hb1) | (go_at_call 65; refine (hcr _).mono ?_; rintro e w1 ⟨rfl, hb1⟩; have hB1 := bnext (w := w) (by go_grown) hb1; have hS1 := hB1.size; (skip); obtain ⟨hc1, hf1⟩ := bcell hb1; clear hb1))
    go_ret
    exact ⟨ret_int hs.out.symm, hB1⟩
set_option maxHeartbeats 1600000 in
theorem impl_Near (s : ByteArray) (P : List RPoint) (A : Option Addr) (c B : Nat) (wd x y : Int) (w : World) (hP : Sl w B A (flat RPoint.cells P)) (hB : B ≤ w.heap.size) (hl : P.length ≤ 1048576) (h2 : 2 ≤ P.length) (hvl : vLine P = true) (hv : vPoint x y = true) :
    Calls Tryd.prog 97 #[.agg #[.string s, .slice A P.length c, .int .i64 wd], .agg #[.int .i64 x, .int .i64 y]] w fun e w' => e = .returned (.tuple #[.int .i64 (nearTo P x y (P.length - 2)).1, .int .i64 (nearTo P x y (P.length - 2)).2]) ∧ Below w.heap.size w w' := by
  obtain ⟨b, o, rfl, hbB, _⟩ := Sl.elem RPoint.len (by decide) hP (show 0 < P.length by omega)
  have hP' := Lib.hid hP
  have hvl' := Lib.hid hvl
  have hv' := vPoint_yes hv
  have hZ0 := Lib.hid (((Cz.new w s (some ⟨b, o, none⟩) P.length c wd 71).on (show Below (w.alloc (.cells #[.string s, .slice (some ⟨b, o, none⟩) P.length c, .int .i64 wd] 71)).heap.size _ ((w.alloc (.cells #[.string s, .slice (some ⟨b, o, none⟩) P.length c, .int .i64 wd] 71)).alloc (.cells #[.int .i64 x, .int .i64 y] 38)) by go_grown)))
  clear hP hvl hv
  go_enter Tryd.func97, Tryd.ntmps97
  go_wp2_with fail
  go_loopw [6, 7, 8] (fun bst l i wr => ∃ (q t : Nat) (n : Int), bst = .int .i64 t ∧ l = .int .i64 n ∧ i = .int .i64 ((q : Int) + 1) ∧ ((q = 0 ∧ t = 0 ∧ n = -1) ∨ (1 ≤ q ∧ nearTo P x y (q - 1) = (t, n))) ∧ t ≤ q ∧ q + 1 ≤ P.length ∧ Below w.heap.size w wr ∧ Cz wr w.heap.size s (some ⟨b, o, none⟩) P.length c wd ∧ w.heap.size + 1 < wr.heap.size ∧ wr.cell? ⟨w.heap.size + 1, 0, none⟩ = some (.int .i64 x) ∧ wr.cell? ⟨w.heap.size + 1, 1, none⟩ = some (.int .i64 y)) (fun _ _ i _ => P.length - (intOf i).toNat)
  case atStart => exact ⟨0, 0, _, rfl, rfl, by go_num, .inl ⟨rfl, rfl, rfl⟩, by omega, by omega, by go_grown, hZ0.out, by simp, by simp, by simp⟩
  case round =>
    clear hZ0
    obtain ⟨m, t, n, rfl, rfl, rfl, hn, htm, hml, hB1, hZ, zl, z0, z1⟩ := hrel
    have hS1 := hB1.size
    obtain ⟨hzl, hc0, hc1, hc2⟩ := id hZ
    by_cases hlt : m + 1 < P.length
    · obtain ⟨b1, o1, e1, hb, he⟩ := Sl.elem RPoint.len (by decide) (hP'.out.below (hB1.mono hB)) hlt
      cases e1
      have hg := Lib.hid (getD_at hlt)
      obtain ⟨a, ha⟩ : ∃ a, P[m + 1] = a := ⟨_, rfl⟩
      rw [ha] at hg he
      clear ha
      have d0 : wr.cell? ⟨b, o + (m + 1) * 2, none⟩ = some (.int .i64 a.f0) := by have := he 0 _ rfl; simpa [Nat.add_assoc] using this
      have d1 : wr.cell? ⟨b, o + (m + 1) * 2 + 1, none⟩ = some (.int .i64 a.f1) := by have := he 1 _ rfl; simpa [Nat.add_assoc] using this
      clear he
      obtain ⟨b2, o2, e2, hb2, he2⟩ := Sl.elem RPoint.len (by decide) (hP'.out.below (hB1.mono hB)) (show m < P.length by omega)
      cases e2
      have hp := Lib.hid (getD_at (show m < P.length by omega))
      obtain ⟨p, hp'⟩ : ∃ p, P[m] = p := ⟨_, rfl⟩
      rw [hp'] at hp he2
      clear hp'
      have n0 : wr.cell? ⟨b, o + m * 2, none⟩ = some (.int .i64 p.f0) := by have := he2 0 _ rfl; simpa [Nat.add_assoc] using this
      have n1 : wr.cell? ⟨b, o + m * 2 + 1, none⟩ = some (.int .i64 p.f1) := by have := he2 1 _ rfl; simpa [Nat.add_assoc] using this
      clear he2
      have hseg := Lib.hid (segM_is (x := x) (y := y) hp.out hg.out)
      have hva := vPoint_yes (line_pt hvl'.out hg.out hlt)
      have hvp := vPoint_yes (line_pt hvl'.out hp.out (by omega))
      have hbw : b < wr.heap.size := by omega
      have hq := fun w => impl_DTS p.f0 p.f1 a.f0 a.f1 x y w hvp.1 hvp.2 hva.1 hva.2 hv'.1 hv'.2
      have hge := gapM_nonneg p.f0 p.f1 a.f0 a.f1 x y
      obtain ⟨d, hd⟩ : ∃ d, gapM p.f0 p.f1 a.f0 a.f1 x y = d := ⟨_, rfl⟩
      rw [hd] at hq hseg hge
      clear hd
      rcases hn with ⟨rfl, rfl, rfl⟩ | ⟨hm1, hn⟩
      · have hnew : Hid (nearTo P x y 0 = (0, d)) := Lib.hid (by rw [nearTo_zero, hseg.out])
        simp only [Nat.zero_mul, Nat.add_zero, Nat.zero_add, Nat.one_mul] at n0 n1 d0 d1
        go_wp2_with fail
        refine wp_region_grew (by kernel_rfl) (by kernel_rfl) ?_
        repeat (first | (go_big_quiet_step ((go_at_call 20; exact grew_of (hq _)))) | (quiet_step ((go_at_call 20; exact grew_of (hq _)))))
        refine wpQuiet_nil ?_
        rintro w9 ⟨⟨w8, hb9⟩, rfl⟩
        try dsimp only
        obtain ⟨hc9, hf9⟩ := bcell hb9
        have hB9 := bnext hB1 hb9
        have hZ9 := hZ.on hb9
        have y0 := (hc9 _ 0 zl).trans z0
        have y1 := (hc9 _ 1 zl).trans z1
        have zl9 : w.heap.size + 1 < w9.heap.size := Nat.lt_of_lt_of_le zl hb9.size
        clear hc9 hf9 hb9 z0 z1 n0 n1 d0 d1 hc0 hc1 hc2 hZ
        obtain ⟨hzl, hc0, hc1, hc2⟩ := id hZ9
        go_wp2
        all_goals try (exfalso; omega)
        go_roundw
        case rel => exact ⟨0 + 1, 0, d, by go_num, rfl, by go_num, .inr ⟨by omega, hnew.out⟩, by omega, by omega, hB9, hZ9, zl9, y0, y1⟩
        case measure => simp [intOf]; omega
      have hn' := Lib.hid hn
      have hn0 : ¬ n < 0 := by
        have h := nearTo_nonneg P x y (m - 1)
        rw [hn] at h
        simp only at h
        omega
      clear hn
      by_cases hdn : d < n
      · have hnew := Lib.hid (nearTo_yesQ hm1 hseg.out hn'.out hdn)
        go_wp2_with fail
        refine wp_region_grew (by kernel_rfl) (by kernel_rfl) ?_
        repeat (first | (go_big_quiet_step ((go_at_call 20; exact grew_of (hq _)))) | (quiet_step ((go_at_call 20; exact grew_of (hq _)))))
        refine wpQuiet_nil ?_
        rintro w9 ⟨⟨w8, hb9⟩, rfl⟩
        try dsimp only
        obtain ⟨hc9, hf9⟩ := bcell hb9
        have hB9 := bnext hB1 hb9
        have hZ9 := hZ.on hb9
        have y0 := (hc9 _ 0 zl).trans z0
        have y1 := (hc9 _ 1 zl).trans z1
        have zl9 : w.heap.size + 1 < w9.heap.size := Nat.lt_of_lt_of_le zl hb9.size
        clear hc9 hf9 hb9 z0 z1 n0 n1 d0 d1 hc0 hc1 hc2 hZ
        obtain ⟨hzl, hc0, hc1, hc2⟩ := id hZ9
        go_wp2
        all_goals try (exfalso; omega)
        go_roundw
        case rel => exact ⟨m + 1, m, d, by go_num, rfl, by go_num, .inr ⟨by omega, hnew.out⟩, by omega, by omega, hB9, hZ9, zl9, y0, y1⟩
        case measure => simp [intOf]; omega
      · have hnew := Lib.hid (nearTo_noQ hm1 hseg.out hn'.out hdn)
        go_wp2_with fail
        refine wp_region_grew (by kernel_rfl) (by kernel_rfl) ?_
        repeat (first | (go_big_quiet_step ((go_at_call 20; exact grew_of (hq _)))) | (quiet_step ((go_at_call 20; exact grew_of (hq _)))))
        refine wpQuiet_nil ?_
        rintro w9 ⟨⟨w8, hb9⟩, rfl⟩
        try dsimp only
        obtain ⟨hc9, hf9⟩ := bcell hb9
        have hB9 := bnext hB1 hb9
        have hZ9 := hZ.on hb9
        have y0 := (hc9 _ 0 zl).trans z0
        have y1 := (hc9 _ 1 zl).trans z1
        have zl9 : w.heap.size + 1 < w9.heap.size := Nat.lt_of_lt_of_le zl hb9.size
        clear hc9 hf9 hb9 z0 z1 n0 n1 d0 d1 hc0 hc1 hc2 hZ
        obtain ⟨hzl, hc0, hc1, hc2⟩ := id hZ9
        go_wp2
        all_goals try (exfalso; omega)
        go_roundw
        case rel => exact ⟨m + 1, t, n, rfl, rfl, by go_num, .inr ⟨by omega, hnew.out⟩, by omega, by omega, hB9, hZ9, zl9, y0, y1⟩
        case measure => simp [intOf]; omega
    · rcases hn with ⟨rfl, _, _⟩ | ⟨hm1, hn⟩
      · omega
      have e : m - 1 = P.length - 2 := by omega
      have hmi : ¬ (m : Int) + 1 < (P.length : Int) := by omega
      rw [e] at hn
      have hn' := Lib.hid hn
      clear hn
      go_wp2
      go_ret2
      exact ⟨by rw [hn'.out] <;> rfl, hB1⟩
end Go.Proofs.YtbikppndhidbpaaDoor
