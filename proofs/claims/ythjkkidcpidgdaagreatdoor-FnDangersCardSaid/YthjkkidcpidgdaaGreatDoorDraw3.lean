/-
  Contracts of drawn points. Each under the conditions that it states.
-/
import Derived.Test.YthjkkidcpidgdaaGreatDoorDraw
import Derived.Test.YthjkkidcpidgdaaGreatDoorFix
import Derived.Maps.Range
set_option linter.unusedVariables false
set_option linter.unnecessarySimpa false
set_option maxRecDepth 100000
set_option linter.unusedSimpArgs false
namespace Go.Proofs.YthjkkidcpidgdaaGreatDoor
open Go.RowKit BigFrame

def Ex (w : World) (g : Nat) : Prop := g < w.heap.size ∧ ∃ u v, w.cell? ⟨g, 0, none⟩ = some u ∧ w.cell? ⟨g, 1, none⟩ = some v ∧ w.frozen? ⟨g, 0, none⟩ = false ∧ w.frozen? ⟨g, 1, none⟩ = false
theorem Ex.on {w w1 : World} {g : Nat} (h : Ex w g) (hb : Below w.heap.size w w1) : Ex w1 g := by
  obtain ⟨h1, u, v, h2, h3, h4, h5⟩ := h
  obtain ⟨hc, hf⟩ := bcell hb
  exact ⟨Nat.lt_of_lt_of_le h1 hb.size, u, v, (hc _ _ h1).trans h2, (hc _ _ h1).trans h3, (hf _ _ h1).trans h4, (hf _ _ h1).trans h5⟩
theorem Ex.new {w w1 : World} {a b : Value} {t : TypeId} (hb : Below (w.alloc (.cells #[a, b] t)).heap.size (w.alloc (.cells #[a, b] t)) w1) : Ex w1 w.heap.size :=
  Ex.on ⟨by simp, a, b, by simp [go_sem], by simp [go_sem], by simp [go_sem], by simp [go_sem]⟩ hb
theorem Ex.newd {w w1 : World} {a b : Value} {t : TypeId} (hb : Below ((w.alloc (.cells #[a, b] t)).drew).heap.size ((w.alloc (.cells #[a, b] t)).drew) w1) : Ex w1 w.heap.size :=
  Ex.on (w := (w.alloc (.cells #[a, b] t)).drew) ⟨by simp [go_sem], a, b, by simp [go_sem], by simp [go_sem], by simp [go_sem], by simp [go_sem]⟩ hb
theorem Pt.two {w : World} {g : Nat} (h : Ex w g) (a b : Int) : Pt (World.setCell (World.setCell w ⟨g, 0, none⟩ (.int .i64 (a))) ⟨g, 1, none⟩ (.int .i64 (b))) g a b := by
  obtain ⟨h1, u, v, hu, hv, _, _⟩ := h
  exact ⟨by simpa using h1, two_read hu hv a b⟩
theorem Ex.far {w w' : World} {r g : Nat} (h : Ex w r) (hg : w.grownBy w' (some g)) (hne : r ≠ g) : Ex w' r := by
  obtain ⟨h1, u, v, h2, h3, h4, h5⟩ := h
  have hn : ∀ o, some (⟨r, o, none⟩ : Addr).block ≠ some g := fun o => by simpa using hne
  exact ⟨Nat.lt_of_lt_of_le h1 hg.size, u, v, (hg.cell_far ⟨r, 0, none⟩ h1 (hn 0)).trans h2, (hg.cell_far ⟨r, 1, none⟩ h1 (hn 1)).trans h3, (hg.frozen_far ⟨r, 0, none⟩ h1 (hn 0)).trans h4, (hg.frozen_far ⟨r, 1, none⟩ h1 (hn 1)).trans h5⟩
theorem grown_set {a w : World} {g b k : Nat} {v : Value} (h : a.grownBy w (some g)) (hb : a.heap.size ≤ b) : a.grownBy (w.setCell ⟨b, k, none⟩ v) (some g) :=
  h.andThen (Go.Lib.grownBy_setCell w b k v) (fun j e => by cases e; exact Or.inl hb)
theorem SrcAt.setne {w : World} {B g K r k : Nat} {v : Value} (h : SrcAt w B g K) (hr : B ≤ r) (hne : r ≠ g) : SrcAt (w.setCell ⟨r, k, none⟩ v) B g K := by
  obtain ⟨hBg, hg, hK, A, c, L, q, s, c0, c1, c2, f1, f2, hL, hu⟩ := h
  have hn : ∀ b o, b ≠ r → (⟨r, k, none⟩ : Addr) ≠ ⟨b, o, none⟩ := fun b o hb e => hb (congrArg Addr.block e).symm
  exact ⟨hBg, by simpa using hg, hK, A, c, L, q, s, by rw [World.cell?_setCell_other _ _ _ _ (hn g 0 (by omega))]; exact c0, by rw [World.cell?_setCell_other _ _ _ _ (hn g 1 (by omega))]; exact c1, by rw [World.cell?_setCell_other _ _ _ _ (hn g 2 (by omega))]; exact c2, by simpa [go_sem] using f1, by simpa [go_sem] using f2, hL.keep (fun b o hb => World.cell?_setCell_other _ _ _ _ (hn b o (by omega))), hu⟩
set_option maxHeartbeats 1600000 in
theorem src_draw (B g K : Nat) (w : World) (hs : SrcAt w B g K) (hBw : B ≤ w.heap.size) (hK : K + 14 ≤ 1000000000) :
    Calls Tryz.prog 72 #[.pointer (some ⟨g, 0, none⟩)] w fun e w' => ∃ x y : Int, (0 ≤ x ∧ x ≤ 200000) ∧ (0 ≤ y ∧ y ≤ 200000) ∧ e = .returned (.agg #[.int .i64 x, .int .i64 y]) ∧ w.grownBy w' (some g) ∧ SrcAt w' B g (K + 14) := by
  have hgs := hs.2.1
  go_enter Tryz.func72, Tryz.ntmps72
  go_wp2_with fail
  refine (src_among B g K (w.heap.size + 1) 0 4 [20, 100, 100, 100] _ (by simp) (by simp) (hs.on (by go_grown)) (by omega) (by simp) (by omega) (fun j u hu => by rw [Nat.zero_add, show w.heap.size + 1 = (w.alloc (.cells #[.int .i64 0, .int .i64 0] 34)).heap.size by simp, World.cell?_alloc_new]; simpa using hu)).mono ?_
  rintro e w1 ⟨wide, hmem, rfl, hgn, hs1⟩
  have hwd : 20 ≤ wide ∧ wide ≤ 100 := by simp at hmem; omega
  have hE0 : Ex ((w.alloc (.cells #[.int .i64 0, .int .i64 0] 34)).alloc (.cells #[.int .i64 20, .int .i64 100, .int .i64 100, .int .i64 100] 2)) w.heap.size := ⟨by simp; omega, _, _, by simp [go_sem]; rfl, by simp [go_sem]; rfl, by simp [go_sem], by simp [go_sem]⟩
  have hE := hE0.far hgn (by omega)
  have hG := World.grownBy.trans (Go.Lib.grownBy_allocR (Go.Lib.grownBy_allocR (World.grownBy.refl w (some g)) _) _) hgn
  clear hgn hE0 hmem
  go_wp2_with fail
  refine (src_pick B g (K + 2) wide _ (by omega) (by omega) hs1 (by omega)).mono ?_
  rintro e w2 ⟨p1, hp1, rfl, hgn, hs2⟩
  have hE := hE.far hgn (by omega)
  have hG := World.grownBy.trans hG hgn
  clear hgn
  go_wp2_with fail
  refine (src_pick B g (K + 4) wide _ (by omega) (by omega) hs2 (by omega)).mono ?_
  rintro e w3 ⟨p2, hp2, rfl, hgn, hs3⟩
  have hE := hE.far hgn (by omega)
  have hG := World.grownBy.trans hG hgn
  clear hgn
  go_wp2_with fail
  refine (src_one B g (K + 6) 3 _ (by omega) (by omega) hs3 (by omega)).mono ?_
  rintro e w4 ⟨b1, rfl, hgn, hs4⟩
  have hE := hE.far hgn (by omega)
  have hG := World.grownBy.trans hG hgn
  clear hgn
  cases b1
  · go_wp2_with fail
    refine (src_one B g (K + 8) 3 _ (by omega) (by omega) hs4 (by omega)).mono ?_
    rintro e w5 ⟨b2, rfl, hgn, hs5⟩
    have hE := hE.far hgn (by omega)
    have hG := World.grownBy.trans hG hgn
    clear hgn
    cases b2
    · obtain ⟨hr0, u, v, y0, y1, y2, y3⟩ := id hE
      go_wp2
      refine end_at ?_
      intro wf hwf
      have ht : wf.cell? ⟨w.heap.size, 0, none⟩ = some (.int .i64 (10000 + p1 * 100)) ∧ wf.cell? ⟨w.heap.size, 1, none⟩ = some (.int .i64 (10000 + p2 * 100)) := by rw [hwf]; exact two_read y0 y1 _ _
      have hGf : w.grownBy wf (some g) := by rw [hwf]; exact grown_set (grown_set hG (Nat.le_refl _)) (Nat.le_refl _)
      have hSf : SrcAt wf B g (K + 14) := by rw [hwf]; exact SrcAt.setne (SrcAt.setne (SrcAt.le hs5 (by omega) (by omega)) (by omega) (by omega)) (by omega) (by omega)
      obtain ⟨t0, t1⟩ := ht
      clear hwf
      refine bodyPost_ret (by simp [results, Tryz.results72, go_sem, t0, t1]; try rfl) rfl ?_
      exact ⟨10000 + p1 * 100, 10000 + p2 * 100, by omega, by omega, rfl, hGf, hSf⟩
    · go_wp2_with fail
      refine (src_pick B g (K + 10) 200 _ (by omega) (by omega) hs5 (by omega)).mono ?_
      rintro e w6 ⟨p3, hp3, rfl, hgn, hs6⟩
      have hE := hE.far hgn (by omega)
      have hG := World.grownBy.trans hG hgn
      clear hgn
      obtain ⟨hr0, u, v, y0, y1, y2, y3⟩ := id hE
      go_wp2
      refine end_at ?_
      intro wf hwf
      have ht : wf.cell? ⟨w.heap.size, 0, none⟩ = some (.int .i64 (10000 + p1 * 100)) ∧ wf.cell? ⟨w.heap.size, 1, none⟩ = some (.int .i64 (10000 + p2 * 100 + p3)) := by rw [hwf]; exact two_read y0 y1 _ _
      have hGf : w.grownBy wf (some g) := by rw [hwf]; exact grown_set (grown_set hG (Nat.le_refl _)) (Nat.le_refl _)
      have hSf : SrcAt wf B g (K + 14) := by rw [hwf]; exact SrcAt.setne (SrcAt.setne (SrcAt.le hs6 (by omega) (by omega)) (by omega) (by omega)) (by omega) (by omega)
      obtain ⟨t0, t1⟩ := ht
      clear hwf
      refine bodyPost_ret (by simp [results, Tryz.results72, go_sem, t0, t1]; try rfl) rfl ?_
      exact ⟨10000 + p1 * 100, 10000 + p2 * 100 + p3, by omega, by omega, rfl, hGf, hSf⟩
  · go_wp2_with fail
    refine (src_pick B g (K + 8) 200 _ (by omega) (by omega) hs4 (by omega)).mono ?_
    rintro e w5 ⟨p3, hp3, rfl, hgn, hs5⟩
    have hE := hE.far hgn (by omega)
    have hG := World.grownBy.trans hG hgn
    clear hgn
    go_wp2_with fail
    refine (src_one B g (K + 10) 3 _ (by omega) (by omega) hs5 (by omega)).mono ?_
    rintro e w6 ⟨b2, rfl, hgn, hs6⟩
    have hE := hE.far hgn (by omega)
    have hG := World.grownBy.trans hG hgn
    clear hgn
    cases b2
    · obtain ⟨hr0, u, v, y0, y1, y2, y3⟩ := id hE
      go_wp2
      refine end_at ?_
      intro wf hwf
      have ht : wf.cell? ⟨w.heap.size, 0, none⟩ = some (.int .i64 (10000 + p1 * 100 + p3)) ∧ wf.cell? ⟨w.heap.size, 1, none⟩ = some (.int .i64 (10000 + p2 * 100)) := by rw [hwf]; exact two_read y0 y1 _ _
      have hGf : w.grownBy wf (some g) := by rw [hwf]; exact grown_set (grown_set hG (Nat.le_refl _)) (Nat.le_refl _)
      have hSf : SrcAt wf B g (K + 14) := by rw [hwf]; exact SrcAt.setne (SrcAt.setne (SrcAt.le hs6 (by omega) (by omega)) (by omega) (by omega)) (by omega) (by omega)
      obtain ⟨t0, t1⟩ := ht
      clear hwf
      refine bodyPost_ret (by simp [results, Tryz.results72, go_sem, t0, t1]; try rfl) rfl ?_
      exact ⟨10000 + p1 * 100 + p3, 10000 + p2 * 100, by omega, by omega, rfl, hGf, hSf⟩
    · go_wp2_with fail
      refine (src_pick B g (K + 12) 200 _ (by omega) (by omega) hs6 (by omega)).mono ?_
      rintro e w7 ⟨p4, hp4, rfl, hgn, hs7⟩
      have hE := hE.far hgn (by omega)
      have hG := World.grownBy.trans hG hgn
      clear hgn
      obtain ⟨hr0, u, v, y0, y1, y2, y3⟩ := id hE
      go_wp2
      refine end_at ?_
      intro wf hwf
      have ht : wf.cell? ⟨w.heap.size, 0, none⟩ = some (.int .i64 (10000 + p1 * 100 + p3)) ∧ wf.cell? ⟨w.heap.size, 1, none⟩ = some (.int .i64 (10000 + p2 * 100 + p4)) := by rw [hwf]; exact two_read y0 y1 _ _
      have hGf : w.grownBy wf (some g) := by rw [hwf]; exact grown_set (grown_set hG (Nat.le_refl _)) (Nat.le_refl _)
      have hSf : SrcAt wf B g (K + 14) := by rw [hwf]; exact SrcAt.setne (SrcAt.setne (SrcAt.le hs7 (by omega) (by omega)) (by omega) (by omega)) (by omega) (by omega)
      obtain ⟨t0, t1⟩ := ht
      clear hwf
      refine bodyPost_ret (by simp [results, Tryz.results72, go_sem, t0, t1]; try rfl) rfl ?_
      exact ⟨10000 + p1 * 100 + p3, 10000 + p2 * 100 + p4, by omega, by omega, rfl, hGf, hSf⟩
theorem Pt.far {w w' : World} {p g : Nat} {x y : Int} (h : Pt w p x y) (hg : w.grownBy w' (some g)) (hne : p ≠ g) : Pt w' p x y :=
  ⟨Nat.lt_of_lt_of_le h.1 hg.size, (hg.cell_far ⟨p, 0, none⟩ h.1 (by simpa using hne)).trans h.2.1, (hg.cell_far ⟨p, 1, none⟩ h.1 (by simpa using hne)).trans h.2.2⟩
set_option maxHeartbeats 1600000 in
theorem src_bent (B g K : Nat) (w : World) (hs : SrcAt w B g K) (hBw : B ≤ w.heap.size) (hK : K + 18 ≤ 1000000000) :
    Calls Tryz.prog 79 #[.pointer (some ⟨g, 0, none⟩)] w fun e w' => ∃ x y : Int, (-1 ≤ x ∧ x ≤ 200001) ∧ (-1 ≤ y ∧ y ≤ 200001) ∧ e = .returned (.agg #[.int .i64 x, .int .i64 y]) ∧ w.grownBy w' (some g) ∧ SrcAt w' B g (K + 18) := by
  have hgs := hs.2.1
  go_enter Tryz.func79, Tryz.ntmps79
  go_wp2_with fail
  refine (src_draw B g K _ (hs.on (by go_grown)) (by simp; omega) (by omega)).mono ?_
  rintro e w1 ⟨x, y, hx, hy, rfl, hgn, hs1⟩
  have hE0 : Ex (w.alloc (.cells #[.int .i64 0, .int .i64 0] 34)) w.heap.size := ⟨by simp, _, _, by simp [go_sem]; rfl, by simp [go_sem]; rfl, by simp [go_sem], by simp [go_sem]⟩
  have hE := hE0.far hgn (by omega)
  have hz1 := hgn.size
  simp only [World.size_alloc] at hz1
  have hG := World.grownBy.trans (Go.Lib.grownBy_allocR (World.grownBy.refl w (some g)) _) hgn
  clear hgn hE0
  go_wp2_with fail
  refine (src_pick B g (K + 14) 30 _ (by omega) (by omega) (hs1.on (by go_grown)) (by omega)).mono ?_
  rintro e w2 ⟨n, hn, rfl, hgn, hs2⟩
  have hE := (hE.on (by go_grown)).far hgn (by omega)
  have hX0 : Ex (w1.alloc (.cells #[.int .i64 x, .int .i64 y] 34)) w1.heap.size := ⟨by simp, _, _, by simp [go_sem]; rfl, by simp [go_sem]; rfl, by simp [go_sem], by simp [go_sem]⟩
  have hX := hX0.far hgn (by omega)
  have hP0 : Pt (w1.alloc (.cells #[.int .i64 x, .int .i64 y] 34)) w1.heap.size x y := ⟨by simp, by simp [go_sem], by simp [go_sem]⟩
  have hP := hP0.far hgn (by omega)
  have hG := World.grownBy.trans (Go.Lib.grownBy_allocR hG _) hgn
  clear hgn hX0 hP0
  obtain ⟨hr0, u, v, y0, y1, y2, y3⟩ := id hE
  obtain ⟨z2, z3⟩ : w2.frozen? ⟨w1.heap.size, 0, none⟩ = false ∧ w2.frozen? ⟨w1.heap.size, 1, none⟩ = false := by
    obtain ⟨_, _, _, _, _, a, b⟩ := hX
    exact ⟨a, b⟩
  obtain ⟨_, z0, z1⟩ := id hP
  rcases (by omega : n = 0 ∨ n = 1 ∨ 2 ≤ n) with rfl | rfl | h2
  · clear hr0 y0 y1 y2 y3 z0 z1 z2 z3
    go_wp2_with fail
    refine (src_among B g (K + 16) w2.heap.size 0 4 [0, -1, 200000, 200001] _ (by simp) (by simp) (hs2.on (by go_grown)) (by omega) (by simp) (by have := hs2.2.1; omega) (fun j u hu => by rw [Nat.zero_add, World.cell?_alloc_new]; simpa using hu)).mono ?_
    rintro e w3 ⟨z, hmem, rfl, hgn, hs3⟩
    have hz : -1 ≤ z ∧ z ≤ 200001 := by simp at hmem; omega
    have hp1 := hP.1
    have hE := (hE.on (by go_grown)).far hgn (by omega)
    have hX := (hX.on (by go_grown)).far hgn (by omega)
    have hP := (hP.on (by go_grown)).far hgn (by omega)
    have hG := World.grownBy.trans (Go.Lib.grownBy_allocR hG _) hgn
    clear hgn hmem
    obtain ⟨_, u, v, y0, y1, y2, y3⟩ := id hE
    obtain ⟨z2, z3⟩ : w3.frozen? ⟨w1.heap.size, 0, none⟩ = false ∧ w3.frozen? ⟨w1.heap.size, 1, none⟩ = false := by
      obtain ⟨_, _, _, _, _, a, b⟩ := hX
      exact ⟨a, b⟩
    obtain ⟨_, z0, z1⟩ := id hP
    have hne : ¬ w1.heap.size = w.heap.size := by omega
    have hne' : ¬ w.heap.size = w1.heap.size := by omega
    have x0 : (w3.setCell ⟨w1.heap.size, 0, none⟩ (.int .i64 z)).cell? ⟨w.heap.size, 0, none⟩ = some u := by rw [World.cell?_setCell_other _ _ _ _ (fun e => hne (congrArg Addr.block e))]; exact y0
    have x1 : (w3.setCell ⟨w1.heap.size, 0, none⟩ (.int .i64 z)).cell? ⟨w.heap.size, 1, none⟩ = some v := by rw [World.cell?_setCell_other _ _ _ _ (fun e => hne (congrArg Addr.block e))]; exact y1
    go_wp2
    refine end_at ?_
    intro wf hwf
    have ht : wf.cell? ⟨w.heap.size, 0, none⟩ = some (.int .i64 (z)) ∧ wf.cell? ⟨w.heap.size, 1, none⟩ = some (.int .i64 (y)) := by rw [hwf]; exact two_read (w := (w3.setCell ⟨w1.heap.size, 0, none⟩ (.int .i64 z))) (u := u) (v := v) x0 x1 _ _
    have hGf : w.grownBy wf (some g) := by rw [hwf]; exact grown_set (grown_set (grown_set hG (by omega)) (Nat.le_refl _)) (Nat.le_refl _)
    have hSf : SrcAt wf B g (K + 18) := by rw [hwf]; exact SrcAt.setne (SrcAt.setne (SrcAt.setne (SrcAt.le hs3 (by omega) (by omega)) (by omega) (by have := hs1.2.1; omega)) (by omega) (by omega)) (by omega) (by omega)
    obtain ⟨t0, t1⟩ := ht
    clear hwf
    refine bodyPost_ret (by simp [results, Tryz.results79, go_sem, t0, t1]; try rfl) rfl ?_
    exact ⟨z, y, by omega, by omega, rfl, hGf, hSf⟩
  · clear hr0 y0 y1 y2 y3 z0 z1 z2 z3
    go_wp2_with fail
    refine (src_among B g (K + 16) w2.heap.size 0 4 [0, -1, 200000, 200001] _ (by simp) (by simp) (hs2.on (by go_grown)) (by omega) (by simp) (by have := hs2.2.1; omega) (fun j u hu => by rw [Nat.zero_add, World.cell?_alloc_new]; simpa using hu)).mono ?_
    rintro e w3 ⟨z, hmem, rfl, hgn, hs3⟩
    have hz : -1 ≤ z ∧ z ≤ 200001 := by simp at hmem; omega
    have hp1 := hP.1
    have hE := (hE.on (by go_grown)).far hgn (by omega)
    have hX := (hX.on (by go_grown)).far hgn (by omega)
    have hP := (hP.on (by go_grown)).far hgn (by omega)
    have hG := World.grownBy.trans (Go.Lib.grownBy_allocR hG _) hgn
    clear hgn hmem
    obtain ⟨_, u, v, y0, y1, y2, y3⟩ := id hE
    obtain ⟨z2, z3⟩ : w3.frozen? ⟨w1.heap.size, 0, none⟩ = false ∧ w3.frozen? ⟨w1.heap.size, 1, none⟩ = false := by
      obtain ⟨_, _, _, _, _, a, b⟩ := hX
      exact ⟨a, b⟩
    obtain ⟨_, z0, z1⟩ := id hP
    have hne : ¬ w1.heap.size = w.heap.size := by omega
    have hne' : ¬ w.heap.size = w1.heap.size := by omega
    have x0 : (w3.setCell ⟨w1.heap.size, 1, none⟩ (.int .i64 z)).cell? ⟨w.heap.size, 0, none⟩ = some u := by rw [World.cell?_setCell_other _ _ _ _ (fun e => hne (congrArg Addr.block e))]; exact y0
    have x1 : (w3.setCell ⟨w1.heap.size, 1, none⟩ (.int .i64 z)).cell? ⟨w.heap.size, 1, none⟩ = some v := by rw [World.cell?_setCell_other _ _ _ _ (fun e => hne (congrArg Addr.block e))]; exact y1
    go_wp2
    refine end_at ?_
    intro wf hwf
    have ht : wf.cell? ⟨w.heap.size, 0, none⟩ = some (.int .i64 (x)) ∧ wf.cell? ⟨w.heap.size, 1, none⟩ = some (.int .i64 (z)) := by rw [hwf]; exact two_read (w := (w3.setCell ⟨w1.heap.size, 1, none⟩ (.int .i64 z))) (u := u) (v := v) x0 x1 _ _
    have hGf : w.grownBy wf (some g) := by rw [hwf]; exact grown_set (grown_set (grown_set hG (by omega)) (Nat.le_refl _)) (Nat.le_refl _)
    have hSf : SrcAt wf B g (K + 18) := by rw [hwf]; exact SrcAt.setne (SrcAt.setne (SrcAt.setne (SrcAt.le hs3 (by omega) (by omega)) (by omega) (by have := hs1.2.1; omega)) (by omega) (by omega)) (by omega) (by omega)
    obtain ⟨t0, t1⟩ := ht
    clear hwf
    refine bodyPost_ret (by simp [results, Tryz.results79, go_sem, t0, t1]; try rfl) rfl ?_
    exact ⟨x, z, by omega, by omega, rfl, hGf, hSf⟩
  · have t1 : (n == 0) = false := beq_eq_false_iff_ne.2 (by omega)
    have t2 : (n == 1) = false := beq_eq_false_iff_ne.2 (by omega)
    go_wp2
    refine end_at ?_
    intro wf hwf
    have ht : wf.cell? ⟨w.heap.size, 0, none⟩ = some (.int .i64 (x)) ∧ wf.cell? ⟨w.heap.size, 1, none⟩ = some (.int .i64 (y)) := by rw [hwf]; exact two_read (w := w2) (u := u) (v := v) y0 y1 _ _
    have hGf : w.grownBy wf (some g) := by rw [hwf]; exact grown_set (grown_set hG (Nat.le_refl _)) (Nat.le_refl _)
    have hSf : SrcAt wf B g (K + 18) := by rw [hwf]; exact SrcAt.setne (SrcAt.setne (SrcAt.le hs2 (by omega) (by omega)) (by omega) (by omega)) (by omega) (by omega)
    obtain ⟨t0, t1⟩ := ht
    clear hwf
    refine bodyPost_ret (by simp [results, Tryz.results79, go_sem, t0, t1]; try rfl) rfl ?_
    exact ⟨x, y, by omega, by omega, rfl, hGf, hSf⟩
end Go.Proofs.YthjkkidcpidgdaaGreatDoor
