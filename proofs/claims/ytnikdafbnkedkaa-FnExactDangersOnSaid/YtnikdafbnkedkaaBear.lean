/-
  Contracts of sines and bearings: the program's and the reference's. Each under the conditions that it states.
-/
import Derived.Test.YtnikdafbnkedkaaLeading
import Derived.Test.YtnikdafbnkedkaaAngle
import Derived.Test.YtnikdafbnkedkaaSine
set_option linter.unusedVariables false
set_option maxRecDepth 100000
set_option linter.unusedSimpArgs false
namespace Go.Proofs.Ytnikdafbnkedkaa
open Go.RowKit BigFrame

def tabArr : Array Value := (tabM.map (Value.int .i64)).toArray
theorem tabArr_get {k : Nat} (hk : k < 91) : tabArr[k]? = some (.int .i64 (tq k)) := by
  have h : (tabM.map (Value.int .i64))[k]? = some (.int .i64 (tq k)) := by
    rw [List.getElem?_map, List.getElem?_eq_getElem (by rw [tabM_len]; exact hk)]
    simp [tq, List.getD, List.getElem?_eq_getElem (show k < tabM.length by rw [tabM_len]; exact hk)]
  simpa [tabArr] using h

theorem quarter_any (k : Nat) (hk : k < 91) (w : World) :
    Calls Try.prog 83 #[.int .i64 k] w fun e w' => e = .returned (.int .i64 (tq k)) ∧ w = w' := by
  have hix := fun w => run_index_arr (P := Try.prog) (w := w) (e := 2) Try.underlying168 Try.underlying2 (by kernel_rfl) k hk (tabArr_get hk)
  go_enter Try.func83, Try.ntmps83
  go_wp2_with (refine wpList_lit 168 rfl rfl (.agg tabArr) (by kernel_rfl) ?_)
  go_ret
  exact ⟨rfl, rfl⟩

theorem quarter_is (z : Int) (k : Nat) (h : z = k) (hk : k < 91) (w : World) : Calls Try.prog 83 #[.int .i64 z] w fun e w' => e = .returned (.int .i64 (tq k)) ∧ w = w' := by
  subst h; exact quarter_any k hk w

theorem sine_half (r : Nat) (h : r < 180) (a : Int) (ha : a % 360 = r) (w : World) :
    Calls Try.prog 20 #[.int .i64 a] w fun e w' => e = .returned (.int .i64 (sinM a)) ∧ w = w' := by
  by_cases h9 : 90 < r
  · have hr := Lib.hid (sinM_2 ha h9 h)
    have hA := Lib.hid ha
    clear ha
    go_enter Try.func20, Try.ntmps20
    go_wp2_with (first | (go_at_call 77; refine (turned_is a r hA.out _).mono ?_; rintro e w' ⟨rfl, rfl⟩) | (go_at_call 83; refine (quarter_is _ (180 - r) (by omega) (by omega) _).mono ?_; rintro e w' ⟨rfl, rfl⟩))
    go_ret
    exact ⟨ret_int hr.out.symm, rfl⟩
  · have hr := Lib.hid (sinM_1 ha (by omega))
    have hA := Lib.hid ha
    clear ha
    go_enter Try.func20, Try.ntmps20
    go_wp2_with (first | (go_at_call 77; refine (turned_is a r hA.out _).mono ?_; rintro e w' ⟨rfl, rfl⟩) | (go_at_call 83; refine (quarter_is _ r (by omega) (by omega) _).mono ?_; rintro e w' ⟨rfl, rfl⟩))
    go_ret
    exact ⟨ret_int hr.out.symm, rfl⟩

theorem impl_Sine (a : Int) (w : World) :
    Calls Try.prog 20 #[.int .i64 a] w fun e w' => e = .returned (.int .i64 (sinM a)) ∧ w = w' := by
  obtain ⟨r, hr⟩ := Int.eq_ofNat_of_zero_le (show 0 ≤ a % 360 by omega)
  by_cases h : r < 180
  · exact sine_half r h a hr w
  · have hb := sinM_bd (r - 180 : Int)
    have hR : r < 360 := by omega
    have hs := Lib.hid (sinM_turn hr (by omega))
    have hA := Lib.hid hr
    clear hr
    go_enter Try.func20, Try.ntmps20
    go_wp2_with (first | (go_at_call 77; refine (turned_is a r hA.out _).mono ?_; rintro e w' ⟨rfl, rfl⟩) | (go_at_call 20; refine (sine_half (r - 180) (by omega) _ (by omega) _).mono ?_; rintro e w' ⟨rfl, rfl⟩))
    go_ret
    exact ⟨ret_int hs.out.symm, rfl⟩

theorem impl_Cosine (a : Int) (w : World) :
    Calls Try.prog 21 #[.int .i64 a] w fun e w' => e = .returned (.int .i64 (cosM a)) ∧ w = w' := by
  go_enter Try.func21, Try.ntmps21
  go_wp2_with (first | (go_at_call 77; refine (turned_any _ _).mono ?_; rintro e w' ⟨rfl, rfl⟩) | (go_at_call 20; refine (impl_Sine _ _).mono ?_; rintro e w' ⟨rfl, rfl⟩))
  go_ret
  exact ⟨rfl, rfl⟩

def TabAt (w : World) (g : Nat) : Prop := g < w.heap.size ∧ ∀ k, k < 91 → w.cell? ⟨g, k, none⟩ = some (.int .i64 (tq k))
theorem TabAt.below {w w' : World} {g B : Nat} (h : TabAt w g) (hg : g < B) (hb : Below B w w') : TabAt w' g :=
  ⟨Nat.lt_of_lt_of_le h.1 hb.size, fun k hk => (hb.cell (p := ⟨g, k, none⟩) hg).trans (h.2 k hk)⟩
theorem TabAt.grew {w : World} {g : Nat} (h : TabAt w g) (p : Grew w) : TabAt p.world g := h.below h.1 p.below
def TabPost (w : World) (e : Ending) (w' : World) : Prop := e = .returned (.slice (some ⟨w.heap.size, 0, none⟩) 91 91) ∧ Below w.heap.size w w' ∧ TabAt w' w.heap.size
theorem table_any (w : World) : Calls Try.prog 176 #[] w (TabPost w) := by
  go_enter Try.func176, Try.ntmps176
  go_wp2_with (refine wpList_slit 79 rfl rfl (.slice (some ⟨w.heap.size, 0, none⟩) 91 91) (w.alloc (.cells tabArr 2)) (by kernel_rfl) ?_)
  go_ret
  refine ⟨rfl, by go_grown, by simp, fun k hk => ?_⟩
  rw [World.cell?_alloc_new]
  exact tabArr_get hk

theorem sineIn_any (a : Int) (g : Nat) (w : World) (ht : TabAt w g) :
    Calls Try.prog 175 #[.slice (some ⟨g, 0, none⟩) 91 91, .int .i64 a] w fun e w' => e = .returned (.int .i64 (sinM a)) ∧ w = w' := by
  obtain ⟨hg, hc⟩ := ht
  have hC := Lib.hid hc
  clear hc
  obtain ⟨r, hr⟩ := Int.eq_ofNat_of_zero_le (show 0 ≤ a % 360 by omega)
  have hR : r < 360 := by omega
  have hA := Lib.hid hr
  clear hr
  by_cases h1 : 180 ≤ r
  · by_cases h2 : 90 < r - 180
    · have hb := tq_bd (show 180 - (r - 180) < 91 by omega)
      have hs := Lib.hid (sinM_4 hA.out (by omega) hR)
      have hx := hC.out (180 - (r - 180)) (by omega)
      go_enter Try.func175, Try.ntmps175
      go_wp2_with (go_at_call 177; refine (angle_is a r hA.out _).mono ?_; rintro e w' ⟨rfl, rfl⟩)
      go_ret
      exact ⟨ret_int hs.out.symm, rfl⟩
    · have hb := tq_bd (show r - 180 < 91 by omega)
      have hs := Lib.hid (sinM_3 hA.out h1 (by omega))
      have hx := hC.out (r - 180) (by omega)
      go_enter Try.func175, Try.ntmps175
      go_wp2_with (go_at_call 177; refine (angle_is a r hA.out _).mono ?_; rintro e w' ⟨rfl, rfl⟩)
      go_ret
      exact ⟨ret_int hs.out.symm, rfl⟩
  · by_cases h2 : 90 < r
    · have hb := tq_bd (show 180 - r < 91 by omega)
      have hs := Lib.hid (sinM_2 hA.out h2 (by omega))
      have hx := hC.out (180 - r) (by omega)
      go_enter Try.func175, Try.ntmps175
      go_wp2_with (go_at_call 177; refine (angle_is a r hA.out _).mono ?_; rintro e w' ⟨rfl, rfl⟩)
      go_ret
      exact ⟨ret_int hs.out.symm, rfl⟩
    · have hb := tq_bd (show r < 91 by omega)
      have hs := Lib.hid (sinM_1 hA.out (by omega))
      have hx := hC.out (r) (by omega)
      go_enter Try.func175, Try.ntmps175
      go_wp2_with (go_at_call 177; refine (angle_is a r hA.out _).mono ?_; rintro e w' ⟨rfl, rfl⟩)
      go_ret
      exact ⟨ret_int hs.out.symm, rfl⟩

theorem spec_Sine (a : Int) (w : World) :
    Calls Try.prog 153 #[.int .i64 a] w fun e w' => e = .returned (.int .i64 (sinM a)) ∧ Below w.heap.size w w' := by
  go_enter Try.func153, Try.ntmps153
  go_wp2_with (first | (go_at_call 176; refine (table_any _).mono ?_; rintro e w1 ⟨rfl, hb1, ht1⟩) | (go_at_call 175; refine (sineIn_any _ _ _ ht1).mono ?_; rintro e w' ⟨rfl, rfl⟩))
  go_ret
  exact ⟨rfl, by go_grown⟩

theorem spec_Cosine (a : Int) (w : World) :
    Calls Try.prog 154 #[.int .i64 a] w fun e w' => e = .returned (.int .i64 (cosM a)) ∧ Below w.heap.size w w' := by
  go_enter Try.func154, Try.ntmps154
  go_wp2_with (first | (go_at_call 177; refine (angle_any _ _).mono ?_; rintro e w' ⟨rfl, rfl⟩) | (go_at_call 153; refine (spec_Sine _ _).mono ?_; rintro e w1 ⟨rfl, hb1⟩; have hB1 := bnext (w := w) (by go_grown) hb1; have hS1 := hB1.size; (skip); obtain ⟨hc1, hf1⟩ := bcell hb1; clear hb1))
  go_ret
  exact ⟨rfl, by go_grown⟩

/-- A point in a variable. -/
def Pt (w : World) (g : Nat) (x y : Int) : Prop := g < w.heap.size ∧ w.cell? ⟨g, 0, none⟩ = some (.int .i64 x) ∧ w.cell? ⟨g, 1, none⟩ = some (.int .i64 y)
theorem Pt.below {w w' : World} {g B : Nat} {x y : Int} (h : Pt w g x y) (hg : g < B) (hb : Below B w w') : Pt w' g x y :=
  ⟨Nat.lt_of_lt_of_le h.1 hb.size, (hb.cell (p := ⟨g, 0, none⟩) hg).trans h.2.1, (hb.cell (p := ⟨g, 1, none⟩) hg).trans h.2.2⟩
theorem Pt.on {w w' : World} {g : Nat} {x y : Int} (h : Pt w g x y) (hb : Below w.heap.size w w') : Pt w' g x y := h.below h.1 hb

theorem along_any (d x1 y1 x2 y2 : Int) (g1 g2 : Nat) (w : World) (h1 : 0 ≤ x1 ∧ x1 ≤ 200000) (h2 : 0 ≤ y1 ∧ y1 ≤ 200000) (h3 : 0 ≤ x2 ∧ x2 ≤ 200000) (h4 : 0 ≤ y2 ∧ y2 ≤ 200000) (p1 : Pt w g1 x1 y1) (p2 : Pt w g2 x2 y2) :
    Calls Try.prog 75 #[.int .i64 d, .pointer (some ⟨g2, 0, none⟩), .pointer (some ⟨g1, 0, none⟩)] w fun e w' => e = .returned (.int .i64 (alongM (x2 - x1) (y2 - y1) d)) ∧ Below w.heap.size w w' := by
  obtain ⟨q1, q2, q3⟩ := p1
  obtain ⟨q4, q5, q6⟩ := p2
  have s1 := sinM_bd d
  have s2 := cosM_bd d
  have k1 := mul_bd (x := x2 - x1) (y := sinM d) (B := 200000) (C := 1000000) (by omega) (by omega) (by omega) (by omega)
  have k2 := mul_bd (x := y2 - y1) (y := cosM d) (B := 200000) (C := 1000000) (by omega) (by omega) (by omega) (by omega)
  go_enter Try.func75, Try.ntmps75
  go_wp2_with fail
  refine wp_region_grew (by kernel_rfl) (by kernel_rfl) ?_
  repeat (first | (go_big_quiet_step ((first | (go_at_call 20; exact grew_same (impl_Sine _ _)) | (go_at_call 21; exact grew_same (impl_Cosine _ _))))) | (quiet_step ((first | (go_at_call 20; exact grew_same (impl_Sine _ _)) | (go_at_call 21; exact grew_same (impl_Cosine _ _))))))
  refine wpQuiet_nil ?_
  rintro _ ⟨⟨w9, hb9⟩, rfl⟩
  try dsimp only
  obtain ⟨hc9, hf9⟩ := bcell hb9
  go_wp2
  go_ret
  exact ⟨rfl, hb9⟩

set_option maxHeartbeats 1600000 in
theorem impl_Bearing (x1 y1 x2 y2 : Int) (w : World) (h1 : 0 ≤ x1 ∧ x1 ≤ 200000) (h2 : 0 ≤ y1 ∧ y1 ≤ 200000) (h3 : 0 ≤ x2 ∧ x2 ≤ 200000) (h4 : 0 ≤ y2 ∧ y2 ≤ 200000) :
    Calls Try.prog 14 #[.agg #[.int .i64 x1, .int .i64 y1], .agg #[.int .i64 x2, .int .i64 y2]] w fun e w' => e = .returned (.int .i64 (bearM (x2 - x1) (y2 - y1))) ∧ Below w.heap.size w w' := by
  have hv1 : vPoint2 x1 y1 x2 y2 = true := by simp [vPoint2, vPoint, inB, h1, h2, h3, h4]
  by_cases he : x1 = x2 ∧ y1 = y2
  · obtain ⟨rfl, rfl⟩ := he
    have hz : Hid (bearM (x1 - x1) (y1 - y1) = 0) := by apply Lib.hid; rw [Int.sub_self, Int.sub_self]; exact bearM_zero
    go_enter Try.func14, Try.ntmps14
    go_wp2_with (go_at_call 74; refine (arePoints_two x1 y1 x1 y1 _ _ (by simp) (by simp [go_sem]) (by simp [go_sem]) (by simp [go_sem]) (by simp [go_sem])).mono ?_; rintro e w1 ⟨rfl, hb1⟩; have hB1 := bnext (w := w) (by go_grown) hb1; have hS1 := hB1.size; ((have hz1 : w.heap.size < w1.heap.size := by have := hb1.size; (try simp only [World.size_alloc, World.size_setCell, World.size_drew] at this); omega); (have hy1 : w.heap.size + 1 < w1.heap.size := by have := hb1.size; (try simp only [World.size_alloc, World.size_setCell, World.size_drew] at this); omega)); obtain ⟨hc1, hf1⟩ := bcell hb1; clear hb1)
    go_ret
    exact ⟨ret_int hz.out.symm, by go_grown⟩
  · have hab := fun k => along_bd (dx := x2 - x1) (dy := y2 - y1) k (by omega) (by omega)
    have hne : ¬ x1 = x2 ∨ (x1 = x2 ∧ ¬ y1 = y2) := by omega
    clear he
    rcases hne with e | ⟨rfl, e⟩
    · have g1 : (x1 == x2) = false := beq_eq_false_iff_ne.2 e
      clear e
      go_enter Try.func14, Try.ntmps14
      go_wp2_with (go_at_call 74; refine (arePoints_two x1 y1 x2 y2 _ _ (by simp) (by simp [go_sem]) (by simp [go_sem]) (by simp [go_sem]) (by simp [go_sem])).mono ?_; rintro e w1 ⟨rfl, hb1⟩; have hB1 := bnext (w := w) (by go_grown) hb1; have hS1 := hB1.size; ((have hz1 : w.heap.size < w1.heap.size := by have := hb1.size; (try simp only [World.size_alloc, World.size_setCell, World.size_drew] at this); omega); (have hy1 : w.heap.size + 1 < w1.heap.size := by have := hb1.size; (try simp only [World.size_alloc, World.size_setCell, World.size_drew] at this); omega)); obtain ⟨hc1, hf1⟩ := bcell hb1; clear hb1)
      have p1 : Pt w1 w.heap.size x1 y1 := ⟨hz1, (hc1 w.heap.size 0 (by simp; omega)).trans (by simp [go_sem]), (hc1 w.heap.size 1 (by simp; omega)).trans (by simp [go_sem])⟩
      have p2 : Pt w1 (w.heap.size + 1) x2 y2 := ⟨hy1, (hc1 (w.heap.size + 1) 0 (by simp)).trans (by simp [go_sem]), (hc1 (w.heap.size + 1) 1 (by simp)).trans (by simp [go_sem])⟩
      go_wp2_with (go_at_call 75; refine (along_any 0 x1 y1 x2 y2 _ _ _ h1 h2 h3 h4 p1 p2).mono ?_; rintro e w2 ⟨rfl, hb2⟩)
      have q1 := p1.on hb2
      have q2 := p2.on hb2
      have hB2 := bnext hB1 hb2
      clear hb2 hB1 p1 p2 hz1 hy1 hS1 hc1 hf1
      go_loopw [6, 7, 23] (fun b m i wr => ∃ k : Nat, i = .int .i64 k ∧ k ≤ 360 ∧ b = .int .i64 (bestTo (x2 - x1) (y2 - y1) k).1 ∧ m = .int .i64 (bestTo (x2 - x1) (y2 - y1) k).2 ∧ Below w.heap.size w wr ∧ Pt wr w.heap.size x1 y1 ∧ Pt wr (w.heap.size + 1) x2 y2) (fun _ _ i _ => 360 - (intOf i).toNat)
      case atStart => exact ⟨0, rfl, by omega, rfl, rfl, hB2, q1, q2⟩
      case round =>
        clear hB2 q1 q2
        obtain ⟨k, rfl, hk, rfl, rfl, hB2, q1, q2⟩ := hrel
        by_cases hlt : k < 360
        · by_cases hgt : (bestTo (x2 - x1) (y2 - y1) k).2 < alongM (x2 - x1) (y2 - y1) k
          · have hT := bestTo_hit hgt
            go_wp2_with (go_at_call 75; refine (along_any k x1 y1 x2 y2 _ _ _ h1 h2 h3 h4 q1 q2).mono ?_; rintro e w2 ⟨rfl, hb2⟩)
            go_roundw
            case rel => exact ⟨k + 1, by go_num, by omega, by rw [hT], by rw [hT], bnext hB2 hb2, q1.on hb2, q2.on hb2⟩
            case measure => simp [intOf]; omega
          · have hT := bestTo_miss hgt
            go_wp2_with (go_at_call 75; refine (along_any k x1 y1 x2 y2 _ _ _ h1 h2 h3 h4 q1 q2).mono ?_; rintro e w2 ⟨rfl, hb2⟩)
            go_roundw
            case rel => exact ⟨k + 1, by go_num, by omega, by rw [hT], by rw [hT], bnext hB2 hb2, q1.on hb2, q2.on hb2⟩
            case measure => simp [intOf]; omega
        · obtain rfl : k = 360 := by omega
          go_wp2
          go_ret
          exact ⟨rfl, hB2⟩
    · have g1 : (y1 == y2) = false := beq_eq_false_iff_ne.2 e
      clear e
      rw [Int.sub_self x1]
      go_enter Try.func14, Try.ntmps14
      go_wp2_with (go_at_call 74; refine (arePoints_two x1 y1 x1 y2 _ _ (by simp) (by simp [go_sem]) (by simp [go_sem]) (by simp [go_sem]) (by simp [go_sem])).mono ?_; rintro e w1 ⟨rfl, hb1⟩; have hB1 := bnext (w := w) (by go_grown) hb1; have hS1 := hB1.size; ((have hz1 : w.heap.size < w1.heap.size := by have := hb1.size; (try simp only [World.size_alloc, World.size_setCell, World.size_drew] at this); omega); (have hy1 : w.heap.size + 1 < w1.heap.size := by have := hb1.size; (try simp only [World.size_alloc, World.size_setCell, World.size_drew] at this); omega)); obtain ⟨hc1, hf1⟩ := bcell hb1; clear hb1)
      have p1 : Pt w1 w.heap.size x1 y1 := ⟨hz1, (hc1 w.heap.size 0 (by simp; omega)).trans (by simp [go_sem]), (hc1 w.heap.size 1 (by simp; omega)).trans (by simp [go_sem])⟩
      have p2 : Pt w1 (w.heap.size + 1) x1 y2 := ⟨hy1, (hc1 (w.heap.size + 1) 0 (by simp)).trans (by simp [go_sem]), (hc1 (w.heap.size + 1) 1 (by simp)).trans (by simp [go_sem])⟩
      go_wp2_with (go_at_call 75; refine (along_any 0 x1 y1 x1 y2 _ _ _ h1 h2 h3 h4 p1 p2).mono ?_; rintro e w2 ⟨rfl, hb2⟩)
      have q1 := p1.on hb2
      have q2 := p2.on hb2
      have hB2 := bnext hB1 hb2
      clear hb2 hB1 p1 p2 hz1 hy1 hS1 hc1 hf1
      go_loopw [6, 7, 23] (fun b m i wr => ∃ k : Nat, i = .int .i64 k ∧ k ≤ 360 ∧ b = .int .i64 (bestTo (0) (y2 - y1) k).1 ∧ m = .int .i64 (bestTo (0) (y2 - y1) k).2 ∧ Below w.heap.size w wr ∧ Pt wr w.heap.size x1 y1 ∧ Pt wr (w.heap.size + 1) x1 y2) (fun _ _ i _ => 360 - (intOf i).toNat)
      case atStart => exact ⟨0, rfl, by omega, rfl, rfl, hB2, q1, q2⟩
      case round =>
        clear hB2 q1 q2
        obtain ⟨k, rfl, hk, rfl, rfl, hB2, q1, q2⟩ := hrel
        by_cases hlt : k < 360
        · by_cases hgt : (bestTo (0) (y2 - y1) k).2 < alongM (0) (y2 - y1) k
          · have hT := bestTo_hit hgt
            go_wp2_with (go_at_call 75; refine (along_any k x1 y1 x1 y2 _ _ _ h1 h2 h3 h4 q1 q2).mono ?_; rintro e w2 ⟨rfl, hb2⟩)
            go_roundw
            case rel => exact ⟨k + 1, by go_num, by omega, by rw [hT], by rw [hT], bnext hB2 hb2, q1.on hb2, q2.on hb2⟩
            case measure => simp [intOf]; omega
          · have hT := bestTo_miss hgt
            go_wp2_with (go_at_call 75; refine (along_any k x1 y1 x1 y2 _ _ _ h1 h2 h3 h4 q1 q2).mono ?_; rintro e w2 ⟨rfl, hb2⟩)
            go_roundw
            case rel => exact ⟨k + 1, by go_num, by omega, by rw [hT], by rw [hT], bnext hB2 hb2, q1.on hb2, q2.on hb2⟩
            case measure => simp [intOf]; omega
        · obtain rfl : k = 360 := by omega
          go_wp2
          go_ret
          exact ⟨rfl, hB2⟩

end Go.Proofs.Ytnikdafbnkedkaa
