/-
  Contracts of two drawn points. Each under the conditions that it states.
-/
import Derived.Test.YtnikdafbnkedkaaDraw2
import Derived.Test.YtnikdafbnkedkaaDraw3
set_option linter.unusedVariables false
set_option linter.unnecessarySimpa false
set_option maxRecDepth 100000
set_option linter.unusedSimpArgs false
namespace Go.Proofs.Ytnikdafbnkedkaa
open Go.RowKit BigFrame

theorem four_read {w : World} {r s : Nat} {u v p q : Value} (hne : s ≠ r) (a0 : w.cell? ⟨r, 0, none⟩ = some u) (a1 : w.cell? ⟨r, 1, none⟩ = some v) (b0 : w.cell? ⟨s, 0, none⟩ = some p) (b1 : w.cell? ⟨s, 1, none⟩ = some q) (x y x2 y2 : Int) :
    ((World.setCell (World.setCell (World.setCell (World.setCell w ⟨r, 0, none⟩ (.int .i64 x)) ⟨r, 1, none⟩ (.int .i64 y)) ⟨s, 0, none⟩ (.int .i64 x2)) ⟨s, 1, none⟩ (.int .i64 y2)).cell? ⟨r, 0, none⟩ = some (.int .i64 x) ∧ (World.setCell (World.setCell (World.setCell (World.setCell w ⟨r, 0, none⟩ (.int .i64 x)) ⟨r, 1, none⟩ (.int .i64 y)) ⟨s, 0, none⟩ (.int .i64 x2)) ⟨s, 1, none⟩ (.int .i64 y2)).cell? ⟨r, 1, none⟩ = some (.int .i64 y)) ∧ ((World.setCell (World.setCell (World.setCell (World.setCell w ⟨r, 0, none⟩ (.int .i64 x)) ⟨r, 1, none⟩ (.int .i64 y)) ⟨s, 0, none⟩ (.int .i64 x2)) ⟨s, 1, none⟩ (.int .i64 y2)).cell? ⟨s, 0, none⟩ = some (.int .i64 x2) ∧ (World.setCell (World.setCell (World.setCell (World.setCell w ⟨r, 0, none⟩ (.int .i64 x)) ⟨r, 1, none⟩ (.int .i64 y)) ⟨s, 0, none⟩ (.int .i64 x2)) ⟨s, 1, none⟩ (.int .i64 y2)).cell? ⟨s, 1, none⟩ = some (.int .i64 y2)) := by
  have hn : ∀ k o, (⟨s, k, none⟩ : Addr) ≠ ⟨r, o, none⟩ := fun k o e => hne (congrArg Addr.block e)
  have hm : ∀ k o, (⟨r, k, none⟩ : Addr) ≠ ⟨s, o, none⟩ := fun k o e => hne (congrArg Addr.block e).symm
  have t := two_read a0 a1 x y
  refine ⟨⟨?_, ?_⟩, ?_⟩
  · rw [World.cell?_setCell_other _ _ _ _ (hn _ _), World.cell?_setCell_other _ _ _ _ (hn _ _)]; exact t.1
  · rw [World.cell?_setCell_other _ _ _ _ (hn _ _), World.cell?_setCell_other _ _ _ _ (hn _ _)]; exact t.2
  · exact two_read (u := p) (v := q) (by rw [World.cell?_setCell_other _ _ _ _ (hm _ _), World.cell?_setCell_other _ _ _ _ (hm _ _)]; exact b0) (by rw [World.cell?_setCell_other _ _ _ _ (hm _ _), World.cell?_setCell_other _ _ _ _ (hm _ _)]; exact b1) x2 y2
theorem four_readd {w : World} {r s : Nat} {u v p q : Value} (hne : s ≠ r) (a0 : w.cell? ⟨r, 0, none⟩ = some u) (a1 : w.cell? ⟨r, 1, none⟩ = some v) (b0 : w.cell? ⟨s, 0, none⟩ = some p) (b1 : w.cell? ⟨s, 1, none⟩ = some q) (x y x2 y2 : Int) :
    (((World.setCell (World.setCell (World.setCell (World.setCell w ⟨r, 0, none⟩ (.int .i64 x)) ⟨r, 1, none⟩ (.int .i64 y)) ⟨s, 0, none⟩ (.int .i64 x2)) ⟨s, 1, none⟩ (.int .i64 y2)).drew.cell? ⟨r, 0, none⟩ = some (.int .i64 x) ∧ (World.setCell (World.setCell (World.setCell (World.setCell w ⟨r, 0, none⟩ (.int .i64 x)) ⟨r, 1, none⟩ (.int .i64 y)) ⟨s, 0, none⟩ (.int .i64 x2)) ⟨s, 1, none⟩ (.int .i64 y2)).drew.cell? ⟨r, 1, none⟩ = some (.int .i64 y)) ∧ ((World.setCell (World.setCell (World.setCell (World.setCell w ⟨r, 0, none⟩ (.int .i64 x)) ⟨r, 1, none⟩ (.int .i64 y)) ⟨s, 0, none⟩ (.int .i64 x2)) ⟨s, 1, none⟩ (.int .i64 y2)).drew.cell? ⟨s, 0, none⟩ = some (.int .i64 x2) ∧ (World.setCell (World.setCell (World.setCell (World.setCell w ⟨r, 0, none⟩ (.int .i64 x)) ⟨r, 1, none⟩ (.int .i64 y)) ⟨s, 0, none⟩ (.int .i64 x2)) ⟨s, 1, none⟩ (.int .i64 y2)).drew.cell? ⟨s, 1, none⟩ = some (.int .i64 y2))) := by
  have h := four_read hne a0 a1 b0 b1 x y x2 y2
  simp only [World.cell?_drew]
  exact h
theorem off1 {w : World} {r o s : Nat} {u : Value} (h : w.cell? ⟨r, o, none⟩ = some u) (hne : s ≠ r) (k : Nat) (v : Value) : (w.setCell ⟨s, k, none⟩ v).cell? ⟨r, o, none⟩ = some u := by
  rw [World.cell?_setCell_other _ _ _ _ (fun e => hne (congrArg Addr.block e))]; exact h
theorem one_below {w a : World} {r : Nat} (hr : w.heap.size ≤ r) (h : Below w.heap.size w a) (k : Nat) (v : Value) : Below w.heap.size w (a.setCell ⟨r, k, none⟩ v) := h.setCell hr _
set_option maxHeartbeats 1600000 in
theorem draw_bearing (L : List Int) (A : Option Addr) (c B : Nat) (w : World) (hs : Sl w B A (L.map (Value.int .u8))) (hB : B ≤ w.heap.size) (hu : ∀ z ∈ L, IntKind.u8.has z) (hl : L.length ≤ 1048576) :
    Calls Try.prog 13 #[.slice A L.length c] w fun e w' => ∃ x1 y1 x2 y2 : Int, ((-1 ≤ x1 ∧ x1 ≤ 200001) ∧ (-1 ≤ y1 ∧ y1 ≤ 200001) ∧ (-1 ≤ x2 ∧ x2 ≤ 200001) ∧ (-1 ≤ y2 ∧ y2 ≤ 200001)) ∧ e = .returned (.tuple #[.agg #[.int .i64 x1, .int .i64 y1], .agg #[.int .i64 x2, .int .i64 y2]]) ∧ Below w.heap.size w w' := by
  have hR : Below w.heap.size w ((w.alloc (.cells #[.int .i64 0, .int .i64 0] 25)).alloc (.cells #[.int .i64 0, .int .i64 0] 25)) := by go_grown
  have hE0 : Ex ((w.alloc (.cells #[.int .i64 0, .int .i64 0] 25)).alloc (.cells #[.int .i64 0, .int .i64 0] 25)) w.heap.size := ⟨by simp; omega, _, _, by simp [go_sem]; rfl, by simp [go_sem]; rfl, by simp [go_sem], by simp [go_sem]⟩
  have hE1 : Ex ((w.alloc (.cells #[.int .i64 0, .int .i64 0] 25)).alloc (.cells #[.int .i64 0, .int .i64 0] 25)) (w.heap.size + 1) := ⟨by simp, _, _, by simp [go_sem]; rfl, by simp [go_sem]; rfl, by simp [go_sem], by simp [go_sem]⟩
  go_enter Try.func13, Try.ntmps13
  go_wp2_with fail
  refine (src_from L _ _ B _ (hs.below (hR.mono hB)) (by simp; omega) hu hl).mono ?_
  rintro e w1 ⟨rfl, hb1, hs1⟩
  simp only [World.size_alloc] at hs1
  have hz1 := hb1.size
  have hB1 := bnext hR hb1
  have hgl := hs1.2.1
  simp only [World.size_alloc] at hz1
  have hE0 := hE0.on hb1
  have hE1 := hE1.on hb1
  clear hR hb1
  go_wp2_with fail
  refine (src_bent B _ 0 _ hs1 (by omega) (by omega)).mono ?_
  rintro e w2 ⟨x1, y1, hx1, hy1, rfl, hgn, hs2⟩
  have hz2 := hgn.size
  have hB2 := hB1.grown hgn (by omega) (fun k e => by cases e; omega)
  have hE0 := hE0.far hgn (by omega)
  have hE1 := hE1.far hgn (by omega)
  clear hgn
  go_wp2_with fail
  refine (src_bent B _ 18 _ (hs2.on (by go_grown)) (by simp; omega) (by omega)).mono ?_
  rintro e w3 ⟨x2, y2, hx2, hy2, rfl, hgn, hs3⟩
  have hz3 := hgn.size
  simp only [World.size_alloc] at hz3
  have hB3 := (show Below w.heap.size w (w2.alloc (.cells #[.int .i64 x1, .int .i64 y1] 25)) by go_grown).grown hgn (by simp; omega) (fun k e => by cases e; omega)
  have hE0 := (hE0.on (by go_grown)).far hgn (by omega)
  have hE1 := (hE1.on (by go_grown)).far hgn (by omega)
  have hP1 : Pt w3 w2.heap.size x1 y1 := Pt.far ⟨by simp, by simp [go_sem], by simp [go_sem]⟩ hgn (by omega)
  clear hgn
  go_wp2_with fail
  refine (src_pick B _ 36 5 _ (by omega) (by omega) (hs3.on (by go_grown)) (by omega)).mono ?_
  rintro e w4 ⟨n, hn, rfl, hgn, hs4⟩
  have hz4 := hgn.size
  simp only [World.size_alloc] at hz4
  have hB4 := (show Below w.heap.size w (w3.alloc (.cells #[.int .i64 x2, .int .i64 y2] 25)) by go_grown).grown hgn (by simp; omega) (fun k e => by cases e; omega)
  have hE0 := (hE0.on (by go_grown)).far hgn (by omega)
  have hE1 := (hE1.on (by go_grown)).far hgn (by omega)
  have hP1 := (hP1.on (by go_grown)).far hgn (by omega)
  have hP2 : Pt w4 w3.heap.size x2 y2 := Pt.far ⟨by simp, by simp [go_sem], by simp [go_sem]⟩ hgn (by omega)
  have hF2 : w4.frozen? ⟨w3.heap.size, 0, none⟩ = false ∧ w4.frozen? ⟨w3.heap.size, 1, none⟩ = false := by
    obtain ⟨_, _, _, _, _, f0, f1⟩ := Ex.far (w := w3.alloc (.cells #[.int .i64 x2, .int .i64 y2] 25)) (r := w3.heap.size) ⟨by simp, _, _, by simp [go_sem]; rfl, by simp [go_sem]; rfl, by simp [go_sem], by simp [go_sem]⟩ hgn (by omega)
    exact ⟨f0, f1⟩
  clear hgn hs1 hs2 hs3
  obtain ⟨_, u0, v0, a0, a1, a2, a3⟩ := id hE0
  obtain ⟨_, u1, v1, b0, b1, b2, b3⟩ := id hE1
  obtain ⟨_, c0, c1⟩ := id hP1
  obtain ⟨_, d0, d1⟩ := id hP2
  obtain ⟨_, d2, d3⟩ : True ∧ w4.frozen? ⟨w3.heap.size, 0, none⟩ = false ∧ w4.frozen? ⟨w3.heap.size, 1, none⟩ = false := ⟨trivial, hF2⟩
  rcases (by omega : n = 0 ∨ n = 1 ∨ n = 2 ∨ 3 ≤ n) with rfl | rfl | rfl | h3
  · have P0 := off1 a0 (s := w3.heap.size) (by omega) 0 (.int .i64 x1)
    have P1 := off1 a1 (s := w3.heap.size) (by omega) 0 (.int .i64 x1)
    have Q0 := off1 b0 (s := w3.heap.size) (by omega) 0 (.int .i64 x1)
    have Q1 := off1 b1 (s := w3.heap.size) (by omega) 0 (.int .i64 x1)
    have E : Below w.heap.size w (w4.setCell ⟨w3.heap.size, 0, none⟩ (.int .i64 x1)) := one_below (by omega) hB4 0 (.int .i64 x1)
    have T := four_readd (w := w4.setCell ⟨w3.heap.size, 0, none⟩ (.int .i64 x1)) (r := w.heap.size) (s := w.heap.size + 1) (u := u0) (v := v0) (p := u1) (q := v1) (by omega) P0 P1 Q0 Q1 (x1) (y1) (x1) (y2)
    have U := (two_below (g := w.heap.size + 1) (by omega) (two_below (g := w.heap.size) (by omega) E x1 y1) x1 y2).drew
    clear P0 P1 Q0 Q1 E
    go_wp2_with fail
    go_region
    go_wp2
    refine end_at ?_
    intro wf hwf
    have ht : (wf.cell? ⟨w.heap.size, 0, none⟩ = some (.int .i64 x1) ∧ wf.cell? ⟨w.heap.size, 1, none⟩ = some (.int .i64 y1)) ∧ (wf.cell? ⟨w.heap.size + 1, 0, none⟩ = some (.int .i64 x1) ∧ wf.cell? ⟨w.heap.size + 1, 1, none⟩ = some (.int .i64 y2)) := by rw [hwf]; exact T
    have hBf : Below w.heap.size w wf := by rw [hwf]; exact U
    clear hwf T U
    obtain ⟨⟨t0, t1⟩, t2, t3⟩ := ht
    refine bodyPost_ret (by simp [results, Try.results13, go_sem, t0, t1, t2, t3]; try rfl) rfl ?_
    exact ⟨x1, y1, x1, y2, ⟨by omega, by omega, by omega, by omega⟩, rfl, hBf⟩
  · have P0 := off1 a0 (s := w3.heap.size) (by omega) 1 (.int .i64 y1)
    have P1 := off1 a1 (s := w3.heap.size) (by omega) 1 (.int .i64 y1)
    have Q0 := off1 b0 (s := w3.heap.size) (by omega) 1 (.int .i64 y1)
    have Q1 := off1 b1 (s := w3.heap.size) (by omega) 1 (.int .i64 y1)
    have E : Below w.heap.size w (w4.setCell ⟨w3.heap.size, 1, none⟩ (.int .i64 y1)) := one_below (by omega) hB4 1 (.int .i64 y1)
    have T := four_readd (w := w4.setCell ⟨w3.heap.size, 1, none⟩ (.int .i64 y1)) (r := w.heap.size) (s := w.heap.size + 1) (u := u0) (v := v0) (p := u1) (q := v1) (by omega) P0 P1 Q0 Q1 (x1) (y1) (x2) (y1)
    have U := (two_below (g := w.heap.size + 1) (by omega) (two_below (g := w.heap.size) (by omega) E x1 y1) x2 y1).drew
    clear P0 P1 Q0 Q1 E
    go_wp2_with fail
    go_region
    go_wp2
    refine end_at ?_
    intro wf hwf
    have ht : (wf.cell? ⟨w.heap.size, 0, none⟩ = some (.int .i64 x1) ∧ wf.cell? ⟨w.heap.size, 1, none⟩ = some (.int .i64 y1)) ∧ (wf.cell? ⟨w.heap.size + 1, 0, none⟩ = some (.int .i64 x2) ∧ wf.cell? ⟨w.heap.size + 1, 1, none⟩ = some (.int .i64 y1)) := by rw [hwf]; exact T
    have hBf : Below w.heap.size w wf := by rw [hwf]; exact U
    clear hwf T U
    obtain ⟨⟨t0, t1⟩, t2, t3⟩ := ht
    refine bodyPost_ret (by simp [results, Try.results13, go_sem, t0, t1, t2, t3]; try rfl) rfl ?_
    exact ⟨x1, y1, x2, y1, ⟨by omega, by omega, by omega, by omega⟩, rfl, hBf⟩
  · have P0 := off1 (off1 a0 (s := w3.heap.size) (by omega) 0 (.int .i64 x1)) (s := w3.heap.size) (by omega) 1 (.int .i64 y1)
    have P1 := off1 (off1 a1 (s := w3.heap.size) (by omega) 0 (.int .i64 x1)) (s := w3.heap.size) (by omega) 1 (.int .i64 y1)
    have Q0 := off1 (off1 b0 (s := w3.heap.size) (by omega) 0 (.int .i64 x1)) (s := w3.heap.size) (by omega) 1 (.int .i64 y1)
    have Q1 := off1 (off1 b1 (s := w3.heap.size) (by omega) 0 (.int .i64 x1)) (s := w3.heap.size) (by omega) 1 (.int .i64 y1)
    have E : Below w.heap.size w ((w4.setCell ⟨w3.heap.size, 0, none⟩ (.int .i64 x1)).setCell ⟨w3.heap.size, 1, none⟩ (.int .i64 y1)) := one_below (by omega) (one_below (by omega) hB4 0 (.int .i64 x1)) 1 (.int .i64 y1)
    have T := four_readd (w := (w4.setCell ⟨w3.heap.size, 0, none⟩ (.int .i64 x1)).setCell ⟨w3.heap.size, 1, none⟩ (.int .i64 y1)) (r := w.heap.size) (s := w.heap.size + 1) (u := u0) (v := v0) (p := u1) (q := v1) (by omega) P0 P1 Q0 Q1 (x1) (y1) (x1) (y1)
    have U := (two_below (g := w.heap.size + 1) (by omega) (two_below (g := w.heap.size) (by omega) E x1 y1) x1 y1).drew
    clear P0 P1 Q0 Q1 E
    go_wp2_with fail
    go_region
    go_wp2
    refine end_at ?_
    intro wf hwf
    have ht : (wf.cell? ⟨w.heap.size, 0, none⟩ = some (.int .i64 x1) ∧ wf.cell? ⟨w.heap.size, 1, none⟩ = some (.int .i64 y1)) ∧ (wf.cell? ⟨w.heap.size + 1, 0, none⟩ = some (.int .i64 x1) ∧ wf.cell? ⟨w.heap.size + 1, 1, none⟩ = some (.int .i64 y1)) := by rw [hwf]; exact T
    have hBf : Below w.heap.size w wf := by rw [hwf]; exact U
    clear hwf T U
    obtain ⟨⟨t0, t1⟩, t2, t3⟩ := ht
    refine bodyPost_ret (by simp [results, Try.results13, go_sem, t0, t1, t2, t3]; try rfl) rfl ?_
    exact ⟨x1, y1, x1, y1, ⟨by omega, by omega, by omega, by omega⟩, rfl, hBf⟩
  · have t1 : (n == 0) = false := beq_eq_false_iff_ne.2 (by omega)
    have t2 : (n == 1) = false := beq_eq_false_iff_ne.2 (by omega)
    have t3 : (n == 2) = false := beq_eq_false_iff_ne.2 (by omega)
    have P0 := a0
    have P1 := a1
    have Q0 := b0
    have Q1 := b1
    have E : Below w.heap.size w (w4) := hB4
    have T := four_readd (w := w4) (r := w.heap.size) (s := w.heap.size + 1) (u := u0) (v := v0) (p := u1) (q := v1) (by omega) P0 P1 Q0 Q1 (x1) (y1) (x2) (y2)
    have U := (two_below (g := w.heap.size + 1) (by omega) (two_below (g := w.heap.size) (by omega) E x1 y1) x2 y2).drew
    clear P0 P1 Q0 Q1 E
    go_wp2_with fail
    go_region
    go_wp2
    refine end_at ?_
    intro wf hwf
    have ht : (wf.cell? ⟨w.heap.size, 0, none⟩ = some (.int .i64 x1) ∧ wf.cell? ⟨w.heap.size, 1, none⟩ = some (.int .i64 y1)) ∧ (wf.cell? ⟨w.heap.size + 1, 0, none⟩ = some (.int .i64 x2) ∧ wf.cell? ⟨w.heap.size + 1, 1, none⟩ = some (.int .i64 y2)) := by rw [hwf]; exact T
    have hBf : Below w.heap.size w wf := by rw [hwf]; exact U
    clear hwf T U
    obtain ⟨⟨t0, t1⟩, t2, t3⟩ := ht
    refine bodyPost_ret (by simp [results, Try.results13, go_sem, t0, t1, t2, t3]; try rfl) rfl ?_
    exact ⟨x1, y1, x2, y2, ⟨by omega, by omega, by omega, by omega⟩, rfl, hBf⟩
end Go.Proofs.Ytnikdafbnkedkaa
