/-
  Contract of the copy of a channel that the laws make. Under the conditions that it states.
-/
import Derived.Test.YtlflefnjoeappaaWrong
set_option linter.unusedVariables false
set_option linter.unnecessarySimpa false
set_option maxRecDepth 100000
set_option linter.unusedSimpArgs false
namespace Go.Proofs.Ytlflefnjoeappaa
open Go.RowKit BigFrame

theorem end_atN {P : Program} {f : Func} {post : Ending → World → Prop} {e : Exit} {a : Act} {W : World} (h : ∀ wf, wf = W → bodyPost P f post e a wf) : bodyPost P f post e a W := h W rfl
theorem tri_read {w : World} {g : Nat} {u0 u1 u2 : Value} (c0 : w.cell? ⟨g, 0, none⟩ = some u0) (c1 : w.cell? ⟨g, 1, none⟩ = some u1) (c2 : w.cell? ⟨g, 2, none⟩ = some u2) (a : ByteArray) (b : Value) (c : Int) :
    (World.setCell (World.setCell (World.setCell w ⟨g, 0, none⟩ (.string (a))) ⟨g, 1, none⟩ (b)) ⟨g, 2, none⟩ (.int .i64 (c))).cell? ⟨g, 0, none⟩ = some (.string a) ∧ (World.setCell (World.setCell (World.setCell w ⟨g, 0, none⟩ (.string (a))) ⟨g, 1, none⟩ (b)) ⟨g, 2, none⟩ (.int .i64 (c))).cell? ⟨g, 1, none⟩ = some b ∧ (World.setCell (World.setCell (World.setCell w ⟨g, 0, none⟩ (.string (a))) ⟨g, 1, none⟩ (b)) ⟨g, 2, none⟩ (.int .i64 (c))).cell? ⟨g, 2, none⟩ = some (.int .i64 c) := by
  refine ⟨?_, ?_, ?_⟩
  · rw [World.cell?_setCell_other _ _ _ _ (fun e => by simp at e), World.cell?_setCell_other _ _ _ _ (fun e => by simp at e), World.cell?_setCell_same _ _ _ c0]
  · rw [World.cell?_setCell_other _ _ _ _ (fun e => by simp at e), World.cell?_setCell_same _ _ _ (by rw [World.cell?_setCell_other _ _ _ _ (fun e => by simp at e)]; exact c1)]
  · rw [World.cell?_setCell_same _ _ _ (by rw [World.cell?_setCell_other _ _ _ _ (fun e => by simp at e), World.cell?_setCell_other _ _ _ _ (fun e => by simp at e)]; exact c2)]
theorem off_set {w : World} {g k i j : Nat} {v u : Value} (hne : k ≠ g) (h : w.cell? ⟨g, j, none⟩ = some u) : (w.setCell ⟨k, i, none⟩ v).cell? ⟨g, j, none⟩ = some u := by
  rw [World.cell?_setCell_other _ _ _ _ (fun e => by have := congrArg Addr.block e; simp at this; omega)]; exact h
theorem frozen_onN {w w' : World} {n k : Nat} (hb : Below w.heap.size w w') (h : w.frozen? ⟨n, k, none⟩ = false) (hn : n < w.heap.size) : w'.frozen? ⟨n, k, none⟩ = false := ((bcell hb).2 n k hn).trans h
set_option maxHeartbeats 1600000 in
theorem to_Chan (s : ByteArray) (L : List RPoint) (A : Option Addr) (c B : Nat) (wd : Int) (w : World) (h : Sl w B A (flat RPoint.cells L)) (hB : B ≤ w.heap.size) (hl : L.length ≤ 1048576) : Calls Try.prog 42 #[.agg #[.string s, .slice A L.length c, .int .i64 wd]] w fun e w' => ∃ v, e = .returned (.agg #[.string s, v, .int .i64 wd]) ∧ Below w.heap.size w w' ∧ Rs w' w.heap.size 52 2 v L.length (flat RPoint.cells L) := by
  have h' := Lib.hid h
  clear h
  go_enter Try.func42, Try.ntmps42
  go_wp2_with fail
  refine (toPointS_own L A c B _ (h'.out.below ((show Below w.heap.size w _ by go_grown).mono hB)) (by simp; omega) hl).mono ?_
  rintro e w1 ⟨rfl, hb1, hO⟩
  have b2 : w1.cell? ⟨w.heap.size, 2, none⟩ = some (.int .i64 wd) := cell_onN hb1 (by simp [go_sem]) (by simp; omega)
  have t0 : w1.cell? ⟨w.heap.size + 1 + 1, 0, none⟩ = some (.string s) := cell_onN hb1 (by simp [go_sem]) (by simp)
  have t1 : w1.cell? ⟨w.heap.size + 1 + 1, 1, none⟩ = some (.slice none 0 0) := cell_onN hb1 (by simp [go_sem]) (by simp)
  have t2 : w1.cell? ⟨w.heap.size + 1 + 1, 2, none⟩ = some (.int .i64 0) := cell_onN hb1 (by simp [go_sem]) (by simp)
  have f1 : w1.frozen? ⟨w.heap.size + 1 + 1, 1, none⟩ = false := frozen_onN hb1 (by simp [go_sem]) (by simp)
  have f2 : w1.frozen? ⟨w.heap.size + 1 + 1, 2, none⟩ = false := frozen_onN hb1 (by simp [go_sem]) (by simp)
  have r0 : w1.cell? ⟨w.heap.size + 1, 0, none⟩ = some (.string ⟨#[]⟩) := cell_onN hb1 (by simp [go_sem]) (by simp)
  have r1 : w1.cell? ⟨w.heap.size + 1, 1, none⟩ = some (.slice none 0 0) := cell_onN hb1 (by simp [go_sem]) (by simp)
  have r2 : w1.cell? ⟨w.heap.size + 1, 2, none⟩ = some (.int .i64 0) := cell_onN hb1 (by simp [go_sem]) (by simp)
  have y0 : w1.frozen? ⟨w.heap.size + 1, 0, none⟩ = false := frozen_onN hb1 (by simp [go_sem]) (by simp)
  have y1 : w1.frozen? ⟨w.heap.size + 1, 1, none⟩ = false := frozen_onN hb1 (by simp [go_sem]) (by simp)
  have y2 : w1.frozen? ⟨w.heap.size + 1, 2, none⟩ = false := frozen_onN hb1 (by simp [go_sem]) (by simp)
  have hB1 := bnext (show Below w.heap.size w _ by go_grown) hb1
  have hz := hb1.size
  simp only [World.size_alloc, World.size_setCell] at hO hz
  clear hb1
  go_wp2
  refine end_atN ?_
  intro wf hwf
  obtain ⟨v, hv⟩ : ∃ v, (Value.slice (some ⟨w.heap.size + 1 + 1 + 1, 0, none⟩) L.length L.length) = v := ⟨_, rfl⟩
  rw [hv] at hwf
  obtain ⟨w2, hw2⟩ : ∃ w2, (w1.setCell ⟨w.heap.size + 1 + 1, 1, none⟩ v).setCell ⟨w.heap.size + 1 + 1, 2, none⟩ (.int .i64 wd) = w2 := ⟨_, rfl⟩
  have ne : w.heap.size + 1 + 1 ≠ w.heap.size + 1 := by omega
  have R0 : w2.cell? ⟨w.heap.size + 1, 0, none⟩ = some (.string ⟨#[]⟩) := by rw [← hw2]; exact off_set ne (off_set ne r0)
  have R1 : w2.cell? ⟨w.heap.size + 1, 1, none⟩ = some (.slice none 0 0) := by rw [← hw2]; exact off_set ne (off_set ne r1)
  have R2 : w2.cell? ⟨w.heap.size + 1, 2, none⟩ = some (.int .i64 0) := by rw [← hw2]; exact off_set ne (off_set ne r2)
  have hg1 : w1.grownBy w2 (some (w.heap.size + 1 + 1)) := by rw [← hw2]; exact Go.Lib.grownBy_setB (Go.Lib.grownBy_setB (World.grownBy.refl w1 _) 1 _) 2 _
  have hB2 : Below w.heap.size w w2 := by rw [← hw2]; exact (hB1.setCell (by simp; omega) _).setCell (by simp; omega) _
  rw [hw2] at hwf
  have hg2 : w2.grownBy wf (some (w.heap.size + 1)) := by rw [hwf]; exact Go.Lib.grownBy_setB (Go.Lib.grownBy_setB (Go.Lib.grownBy_setB (World.grownBy.refl w2 _) 0 _) 1 _) 2 _
  have hBf : Below w.heap.size w wf := by rw [hwf]; exact ((hB2.setCell (by simp) _).setCell (by simp) _).setCell (by simp) _
  obtain ⟨k0, k1, k2⟩ : wf.cell? ⟨w.heap.size + 1, 0, none⟩ = some (.string s) ∧ wf.cell? ⟨w.heap.size + 1, 1, none⟩ = some v ∧ wf.cell? ⟨w.heap.size + 1, 2, none⟩ = some (.int .i64 wd) := by rw [hwf]; exact tri_read R0 R1 R2 _ _ _
  have hOf := (hO.far hg1 (by omega)).far hg2 (by omega)
  clear hwf hw2
  refine bodyPost_ret (by simp [results, Try.results42, go_sem, k0, k1, k2]; try rfl) rfl ?_
  exact ⟨v, rfl, hBf, ⟨by rw [flat_len RPoint.len], .inr ⟨_, _, _, hv.symm, by omega, hOf⟩⟩⟩
end Go.Proofs.Ytlflefnjoeappaa
