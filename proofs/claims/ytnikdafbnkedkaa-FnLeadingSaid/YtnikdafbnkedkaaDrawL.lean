/-
  Contracts of drawn leading lines. Each under the conditions that it states.
-/
import Derived.Test.YtnikdafbnkedkaaDraw3
import Derived.Test.YtnikdafbnkedkaaMove
import Derived.Test.YtnikdafbnkedkaaLeadLaw
import Derived.Test.YtnikdafbnkedkaaDraw2
import Derived.Deep.RegionHeld3
set_option linter.unusedVariables false
set_option linter.unnecessarySimpa false
set_option maxRecDepth 100000
set_option linter.unusedSimpArgs false
namespace Go.Proofs.Ytnikdafbnkedkaa
open Go.RowKit BigFrame

/-- A variable of six numbers that may be written. -/
def Lz (w : World) (r : Nat) : Prop := r < w.heap.size ∧ (∀ j, j < 6 → (w.cell? ⟨r, j, none⟩).isSome = true) ∧ ∀ j, w.frozen? ⟨r, j, none⟩ = false
theorem Lz.on {w w' : World} {r : Nat} (h : Lz w r) (hb : Below w.heap.size w w') : Lz w' r := by
  obtain ⟨hc, hf⟩ := bcell hb
  exact ⟨Nat.lt_of_lt_of_le h.1 hb.size, fun j hj => by rw [hc _ _ h.1]; exact h.2.1 j hj, fun j => (hf _ _ h.1).trans (h.2.2 j)⟩
theorem Lz.far {w w' : World} {r g : Nat} (h : Lz w r) (hg : w.grownBy w' (some g)) (hne : r ≠ g) : Lz w' r :=
  ⟨Nat.lt_of_lt_of_le h.1 hg.size, fun j hj => by rw [hg.cell_far ⟨r, j, none⟩ h.1 (by simpa using hne)]; exact h.2.1 j hj, fun j => (hg.frozen_far ⟨r, j, none⟩ h.1 (by simpa using hne)).trans (h.2.2 j)⟩
theorem Lz.set {w : World} {r : Nat} (h : Lz w r) (b k : Nat) (v : Value) : Lz (w.setCell ⟨b, k, none⟩ v) r := by
  refine ⟨by simpa using h.1, fun j hj => ?_, fun j => by simpa [go_sem] using h.2.2 j⟩
  by_cases e : (⟨b, k, none⟩ : Addr) = ⟨r, j, none⟩
  · cases e
    obtain ⟨u, hu⟩ := Option.isSome_iff_exists.1 (h.2.1 k hj)
    rw [World.cell?_setCell_same _ _ _ hu]; rfl
  · rw [World.cell?_setCell_other _ _ _ _ e]; exact h.2.1 j hj
theorem Lz.at {w : World} {r : Nat} (h : Lz w r) {j : Nat} (hj : j < 6) : ∃ u, w.cell? ⟨r, j, none⟩ = some u := Option.isSome_iff_exists.1 (h.2.1 j hj)

theorem lz_new {a w' : World} {g : Nat} {t : TypeId} (h : ((a.alloc (.cells #[.int .i64 0, .int .i64 0, .int .i64 0, .int .i64 0, .int .i64 0, .int .i64 0] t)).drew).grownBy w' (some g)) (hne : a.heap.size ≠ g) : Lz w' a.heap.size :=
  Lz.far (w := (a.alloc (.cells #[.int .i64 0, .int .i64 0, .int .i64 0, .int .i64 0, .int .i64 0, .int .i64 0] t)).drew) (Lz.on ⟨by simp, fun j hj => by rw [World.cell?_alloc_new]; simp; omega, fun j => by simp [go_sem]⟩ ((Below.refl _ _).drew)) h hne
theorem six_keep {w : World} {p l : Nat} {x y : Int} {v0 v1 v2 v3 v4 v5 : Value} (hne : l ≠ p) (h : w.cell? ⟨p, 0, none⟩ = some (.int .i64 x) ∧ w.cell? ⟨p, 1, none⟩ = some (.int .i64 y)) : (World.setCell (World.setCell (World.setCell (World.setCell (World.setCell (World.setCell (w) ⟨l, 0, none⟩ v0) ⟨l, 1, none⟩ v1) ⟨l, 2, none⟩ v2) ⟨l, 3, none⟩ v3) ⟨l, 4, none⟩ v4) ⟨l, 5, none⟩ v5).cell? ⟨p, 0, none⟩ = some (.int .i64 x) ∧ (World.setCell (World.setCell (World.setCell (World.setCell (World.setCell (World.setCell (w) ⟨l, 0, none⟩ v0) ⟨l, 1, none⟩ v1) ⟨l, 2, none⟩ v2) ⟨l, 3, none⟩ v3) ⟨l, 4, none⟩ v4) ⟨l, 5, none⟩ v5).cell? ⟨p, 1, none⟩ = some (.int .i64 y) := by
  have hn : ∀ a b, (⟨l, a, none⟩ : Addr) ≠ ⟨p, b, none⟩ := fun a b e => hne (congrArg Addr.block e)
  constructor
  · repeat rw [World.cell?_setCell_other _ _ _ _ (hn _ _)]
    exact h.1
  · repeat rw [World.cell?_setCell_other _ _ _ _ (hn _ _)]
    exact h.2
theorem six_ld {w : World} {l : Nat} (h : Lz w l) (a b c d e f : Int) : Ld (World.setCell (World.setCell (World.setCell (World.setCell (World.setCell (World.setCell (w) ⟨l, 0, none⟩ (.int .i64 a)) ⟨l, 1, none⟩ (.int .i64 b)) ⟨l, 2, none⟩ (.int .i64 c)) ⟨l, 3, none⟩ (.int .i64 d)) ⟨l, 4, none⟩ (.int .i64 e)) ⟨l, 5, none⟩ (.int .i64 f)) l a b c d e f := by
  obtain ⟨u0, k0⟩ := h.at (j := 0) (by omega)
  obtain ⟨u1, k1⟩ := h.at (j := 1) (by omega)
  obtain ⟨u2, k2⟩ := h.at (j := 2) (by omega)
  obtain ⟨u3, k3⟩ := h.at (j := 3) (by omega)
  obtain ⟨u4, k4⟩ := h.at (j := 4) (by omega)
  obtain ⟨u5, k5⟩ := h.at (j := 5) (by omega)
  have hn : ∀ i j : Nat, i ≠ j → (⟨l, i, none⟩ : Addr) ≠ ⟨l, j, none⟩ := fun i j hij e => hij (congrArg Addr.off e)
  refine ⟨by simpa using h.1, ?_, ?_, ?_, ?_, ?_, ?_⟩
  all_goals
    repeat rw [World.cell?_setCell_other _ _ _ _ (hn _ _ (by omega))]
    rw [World.cell?_setCell_same (h := by (repeat rw [World.cell?_setCell_other _ _ _ _ (hn _ _ (by omega))]); assumption)]
theorem six_lz {w : World} {r l : Nat} (h : Lz w r) (v0 v1 v2 v3 v4 v5 : Value) : Lz (World.setCell (World.setCell (World.setCell (World.setCell (World.setCell (World.setCell (w) ⟨l, 0, none⟩ (v0)) ⟨l, 1, none⟩ (v1)) ⟨l, 2, none⟩ (v2)) ⟨l, 3, none⟩ (v3)) ⟨l, 4, none⟩ (v4)) ⟨l, 5, none⟩ (v5)) r := (((((h.set l 0 v0).set l 1 v1).set l 2 v2).set l 3 v3).set l 4 v4).set l 5 v5
theorem six_src {w : World} {B g K l : Nat} (h : SrcAt w B g K) (hr : B ≤ l) (hne : l ≠ g) (v0 v1 v2 v3 v4 v5 : Value) : SrcAt (World.setCell (World.setCell (World.setCell (World.setCell (World.setCell (World.setCell (w) ⟨l, 0, none⟩ (v0)) ⟨l, 1, none⟩ (v1)) ⟨l, 2, none⟩ (v2)) ⟨l, 3, none⟩ (v3)) ⟨l, 4, none⟩ (v4)) ⟨l, 5, none⟩ (v5)) B g K := (((((h.setne (k := 0) (v := v0) hr hne).setne (k := 1) (v := v1) hr hne).setne (k := 2) (v := v2) hr hne).setne (k := 3) (v := v3) hr hne).setne (k := 4) (v := v4) hr hne).setne (k := 5) (v := v5) hr hne
theorem six_grown {a w : World} {g l : Nat} (h : a.grownBy w (some g)) (hb : a.heap.size ≤ l) (v0 v1 v2 v3 v4 v5 : Value) : a.grownBy (World.setCell (World.setCell (World.setCell (World.setCell (World.setCell (World.setCell (w) ⟨l, 0, none⟩ (v0)) ⟨l, 1, none⟩ (v1)) ⟨l, 2, none⟩ (v2)) ⟨l, 3, none⟩ (v3)) ⟨l, 4, none⟩ (v4)) ⟨l, 5, none⟩ (v5)) (some g) := grown_set (grown_set (grown_set (grown_set (grown_set (grown_set h hb) hb) hb) hb) hb) hb
theorem six_pt {w : World} {p l : Nat} {x y : Int} (h : Pt w p x y) (hne : l ≠ p) (v0 v1 v2 v3 v4 v5 : Value) : Pt (World.setCell (World.setCell (World.setCell (World.setCell (World.setCell (World.setCell (w) ⟨l, 0, none⟩ (v0)) ⟨l, 1, none⟩ (v1)) ⟨l, 2, none⟩ (v2)) ⟨l, 3, none⟩ (v3)) ⟨l, 4, none⟩ (v4)) ⟨l, 5, none⟩ (v5)) p x y := ⟨by simpa using h.1, six_keep hne h.2⟩
theorem lz_alloc (a : World) (t : TypeId) (v0 v1 v2 v3 v4 v5 : Value) : Lz (a.alloc (.cells #[v0, v1, v2, v3, v4, v5] t)) a.heap.size :=
  ⟨by simp, fun j hj => by rw [World.cell?_alloc_new]; simp; omega, fun j => by simp [go_sem]⟩
theorem ld_alloc (a : World) (t : TypeId) (x y z u v t' : Int) : Ld (a.alloc (.cells #[.int .i64 x, .int .i64 y, .int .i64 z, .int .i64 u, .int .i64 v, .int .i64 t'] t)) a.heap.size x y z u v t' :=
  ⟨by simp, by simp [go_sem], by simp [go_sem], by simp [go_sem], by simp [go_sem], by simp [go_sem], by simp [go_sem]⟩
theorem two_keep {w : World} {p l i j : Nat} {x y : Int} {v0 v1 : Value} (hne : l ≠ p) (h : w.cell? ⟨p, 0, none⟩ = some (.int .i64 x) ∧ w.cell? ⟨p, 1, none⟩ = some (.int .i64 y)) : ((w.setCell ⟨l, i, none⟩ v0).setCell ⟨l, j, none⟩ v1).cell? ⟨p, 0, none⟩ = some (.int .i64 x) ∧ ((w.setCell ⟨l, i, none⟩ v0).setCell ⟨l, j, none⟩ v1).cell? ⟨p, 1, none⟩ = some (.int .i64 y) := by
  have hn : ∀ a b, (⟨l, a, none⟩ : Addr) ≠ ⟨p, b, none⟩ := fun a b e => hne (congrArg Addr.block e)
  constructor
  · repeat rw [World.cell?_setCell_other _ _ _ _ (hn _ _)]
    exact h.1
  · repeat rw [World.cell?_setCell_other _ _ _ _ (hn _ _)]
    exact h.2
theorem two_ld {w : World} {l : Nat} {x y z u v t : Int} (h : Ld w l x y z u v t) (X Y : Int) : Ld ((w.setCell ⟨l, 2, none⟩ (.int .i64 X)).setCell ⟨l, 3, none⟩ (.int .i64 Y)) l x y X Y v t := by
  obtain ⟨h0, k0, k1, k2, k3, k4, k5⟩ := h
  have hn : ∀ i j : Nat, i ≠ j → (⟨l, i, none⟩ : Addr) ≠ ⟨l, j, none⟩ := fun i j hij e => hij (congrArg Addr.off e)
  refine ⟨by simpa using h0, ?_, ?_, ?_, ?_, ?_, ?_⟩
  all_goals
    repeat rw [World.cell?_setCell_other _ _ _ _ (hn _ _ (by omega))]
    first
    | assumption
    | rw [World.cell?_setCell_same (h := by (repeat rw [World.cell?_setCell_other _ _ _ _ (hn _ _ (by omega))]); assumption)]
theorem Ld.far {w w' : World} {l g : Nat} {x y z u v t : Int} (h : Ld w l x y z u v t) (hg : w.grownBy w' (some g)) (hne : l ≠ g) : Ld w' l x y z u v t := by
  obtain ⟨h0, k0, k1, k2, k3, k4, k5⟩ := h
  exact ⟨Nat.lt_of_lt_of_le h0 hg.size, (hg.cell_far ⟨l, 0, none⟩ h0 (by simpa using hne)).trans k0, (hg.cell_far ⟨l, 1, none⟩ h0 (by simpa using hne)).trans k1, (hg.cell_far ⟨l, 2, none⟩ h0 (by simpa using hne)).trans k2, (hg.cell_far ⟨l, 3, none⟩ h0 (by simpa using hne)).trans k3, (hg.cell_far ⟨l, 4, none⟩ h0 (by simpa using hne)).trans k4, (hg.cell_far ⟨l, 5, none⟩ h0 (by simpa using hne)).trans k5⟩
/-- What a drawn line's making carries from world to world. -/
def Lm (w0 : World) (B g K R l p : Nat) (x y lo hi : Int) (w : World) : Prop := w0.grownBy w (some g) ∧ SrcAt w B g K ∧ Pt w p x y ∧ Lz w R ∧ Lz w l ∧ Ld w l x y 0 0 lo hi
theorem Lm.on {w0 w w' : World} {B g K R l p : Nat} {x y lo hi : Int} (h : Lm w0 B g K R l p x y lo hi w) (hb : Below w.heap.size w w') : Lm w0 B g K R l p x y lo hi w' :=
  ⟨Go.Lib.grownBy_below h.1 hb, h.2.1.on hb, h.2.2.1.on hb, h.2.2.2.1.on hb, h.2.2.2.2.1.on hb, h.2.2.2.2.2.on hb⟩
theorem Lm.far {w0 w w' : World} {B g K K2 R l p : Nat} {x y lo hi : Int} (h : Lm w0 B g K R l p x y lo hi w) (hg : w.grownBy w' (some g)) (hs : SrcAt w' B g K2) (h1 : p ≠ g) (h2 : R ≠ g) (h3 : l ≠ g) : Lm w0 B g K2 R l p x y lo hi w' :=
  ⟨World.grownBy.trans h.1 hg, hs, h.2.2.1.far hg h1, h.2.2.2.1.far hg h2, h.2.2.2.2.1.far hg h3, h.2.2.2.2.2.far hg h3⟩
theorem keepP {w w' : World} {p : Nat} {x y : Int} (h : Pt w p x y) (hb : Below w.heap.size w w') : w'.cell? ⟨p, 0, none⟩ = some (.int .i64 x) ∧ w'.cell? ⟨p, 1, none⟩ = some (.int .i64 y) := (h.on hb).2
theorem Lm.src {w0 w w' : World} {B g K R l p : Nat} {x y lo hi : Int} (h : Lm w0 B g K R l p x y lo hi w) (hb : Below w.heap.size w w') : SrcAt w' B g K := h.2.1.on hb
theorem keepM {w0 w w' : World} {B g K R l p : Nat} {x y lo hi : Int} (h : Lm w0 B g K R l p x y lo hi w) (hb : Below w.heap.size w w') : w'.cell? ⟨p, 0, none⟩ = some (.int .i64 x) ∧ w'.cell? ⟨p, 1, none⟩ = some (.int .i64 y) := (h.2.2.1.on hb).2

set_option maxHeartbeats 1600000 in
theorem src_lead (B g K : Nat) (w : World) (hs : SrcAt w B g K) (hBw : B ≤ w.heap.size) (hK : K + 14 ≤ 1000000000) :
    Calls Try.prog 124 #[.pointer (some ⟨g, 0, none⟩)] w fun e w' => ∃ x y b d lo hi : Int, (20000 ≤ x ∧ x < 23000) ∧ (20000 ≤ y ∧ y < 23000) ∧ (50 ≤ d ∧ d < 3050) ∧ (20 ≤ lo ∧ lo < 320) ∧ (lo < hi ∧ hi < 620) ∧ e = .returned (.agg #[.int .i64 x, .int .i64 y, .int .i64 (x + stepM d (sinM b)), .int .i64 (y + stepM d (cosM b)), .int .i64 lo, .int .i64 hi]) ∧ w.grownBy w' (some g) ∧ SrcAt w' B g (K + 14) := by
  have hgs := hs.2.1
  go_enter Try.func124, Try.ntmps124
  go_wp2_with fail
  refine (src_pick B g K 3000 _ (by omega) (by omega) (hs.on (by go_grown)) (by omega)).mono ?_
  rintro e w1 ⟨x0, hx, rfl, hgn, hs1⟩
  have hz1 := hgn.size
  simp only [World.size_alloc] at hz1
  have hR : Lz w1 w.heap.size := Lz.far (w := w.alloc (.cells #[.int .i64 0, .int .i64 0, .int .i64 0, .int .i64 0, .int .i64 0, .int .i64 0] 91)) ⟨by simp, fun j hj => by rw [World.cell?_alloc_new]; simp; omega, fun j => by simp [go_sem]⟩ hgn (by omega)
  have hG := World.grownBy.trans (Go.Lib.grownBy_allocR (World.grownBy.refl w (some g)) _) hgn
  clear hgn
  obtain ⟨x, hxe⟩ : ∃ x, 20000 + x0 = x := ⟨_, rfl⟩
  go_wp2_with fail

  refine (src_pick B g (K + 2) 3000 _ (by omega) (by omega) (hs1.on (by go_grown)) (by omega)).mono ?_
  rintro e w2 ⟨y0, hy, rfl, hgn, hs2⟩
  have hz2 := hgn.size
  simp only [World.size_alloc] at hz2
  have hgl := hs1.2.1
  replace hR := (hR.on (by go_grown)).far hgn (by omega)
  have hE : Ex w2 w1.heap.size := Ex.far (w := w1.alloc (.cells #[.int .i64 x, .int .i64 0] 25)) ⟨by simp, _, _, by simp [go_sem]; rfl, by simp [go_sem]; rfl, by simp [go_sem], by simp [go_sem]⟩ hgn (by omega)
  have hP : Pt w2 w1.heap.size x 0 := Pt.far (w := w1.alloc (.cells #[.int .i64 x, .int .i64 0] 25)) ⟨by simp, by simp [go_sem], by simp [go_sem]⟩ hgn (by omega)
  replace hG := World.grownBy.trans (Go.Lib.grownBy_allocR hG _) hgn
  clear hgn
  obtain ⟨_, u0, v0, e0, e1, e2, e3⟩ := hE
  obtain ⟨hp0, hp1, hp2⟩ := hP
  obtain ⟨y, hye⟩ : ∃ y, 20000 + y0 = y := ⟨_, rfl⟩
  have hP : Pt (w2.setCell ⟨w1.heap.size, 1, none⟩ (.int .i64 y)) w1.heap.size x y := ⟨by simpa using hp0, by rw [World.cell?_setCell_other _ _ _ _ (fun e => by simp at e)]; exact hp1, by rw [World.cell?_setCell_same _ _ _ e1]⟩
  go_wp2_with fail

  refine (src_pick B g (K + 4) 300 _ (by omega) (by omega) (SrcAt.setne hs2 (by omega) (by omega)) (by omega)).mono ?_
  rintro e w3 ⟨lo0, hlo, rfl, hgn, hs3⟩
  have hz3 := hgn.size
  simp only [World.size_setCell] at hz3
  replace hR := (hR.set w1.heap.size 1 (.int .i64 y)).far hgn (by omega)
  replace hP := hP.far hgn (by omega)
  replace hG := World.grownBy.trans (grown_set hG (by omega)) hgn
  clear hgn hs hs1 hs2 e0 e1 e2 e3 hp0 hp1 hp2
  obtain ⟨lo, hloe⟩ : ∃ y, 20 + lo0 = y := ⟨_, rfl⟩
  have hlw : IntKind.i64.wrap (lo + 1) = lo + 1 := IntWalk.i64_in _ (by omega)
  go_upto_region 4 with fail
  go_cut [5] (fun q wx => ∃ (l : Nat) (hi : Int), q = .pointer (some ⟨l, 0, none⟩) ∧ (lo < hi ∧ hi < 620) ∧ w3.heap.size ≤ l ∧ w.grownBy wx (some g) ∧ SrcAt wx B g (K + 8) ∧ Pt wx w1.heap.size x y ∧ Lz wx w.heap.size ∧ Lz wx l ∧ Ld wx l x y 0 0 lo hi)
  case first =>
    have hP0 := hP.2.1
    have hP1 := hP.2.2
    have h3g : g < w3.heap.size := by omega
    have h3p : w1.heap.size ≠ g := by omega
    have h3q : w3.heap.size ≠ g := by omega
    have h3l : w3.heap.size ≠ w1.heap.size := by omega
    have HR := Lib.hid hR
    have HG := Lib.hid hG
    have HB : Hid (B ≤ w3.heap.size ∧ w.heap.size ≤ w3.heap.size ∧ w.heap.size ≠ g ∧ (20 ≤ lo ∧ lo < 320) ∧ w3.heap.size ≠ g ∧ w3.heap.size ≠ w1.heap.size) := Lib.hid ⟨by omega, by omega, by omega, by omega, by omega, by omega⟩
    clear hR hG hgl hz1 hz2 hz3 hBw hx hy hlo
    go_region_held3 (fun w' => w'.cell? ⟨w1.heap.size, 0, none⟩ = some (.int .i64 x) ∧ w'.cell? ⟨w1.heap.size, 1, none⟩ = some (.int .i64 y)) (first | (with_reducible assumption) | (with_reducible refine six_keep h3l ?_; with_reducible assumption) | (with_reducible refine keepP hP4 ?_; go_grown; done) | (with_reducible refine keepP hP ?_; go_grown; done)) (first | (go_at_call 73; refine (src_pick B g (K + 6) 300 _ (by omega) (by omega) (hs3.on (by go_grown)) (by omega)).mono ?_; rintro e w4 ⟨h0, hh, rfl, hgn4, hs4⟩; have hP4 := Pt.far (Pt.on hP (by go_grown)) hgn4 h3p; have hS4 := hP4.2; (first | (have hL := lz_new hgn4 h3q; obtain ⟨b0, k0⟩ := hL.at (j := 0) (by omega); obtain ⟨b1, k1⟩ := hL.at (j := 1) (by omega); obtain ⟨b2, k2⟩ := hL.at (j := 2) (by omega); obtain ⟨b3, k3⟩ := hL.at (j := 3) (by omega); obtain ⟨b4, k4⟩ := hL.at (j := 4) (by omega); obtain ⟨b5, k5⟩ := hL.at (j := 5) (by omega); have f0 := hL.2.2 0; have f1 := hL.2.2 1; have f2 := hL.2.2 2; have f3 := hL.2.2 3; have f4 := hL.2.2 4; have f5 := hL.2.2 5; have HL := Lib.hid hL; clear hL) | skip)))
    · obtain ⟨q1, q2, q3, q4, q5, q6⟩ := HB.out
      have hw : IntKind.i64.wrap (lo + 1 + h0) = lo + 1 + h0 := IntWalk.i64_in _ (by omega)
      rw [hw]
      have hd : Below w3.heap.size w3 w3.drew := (Below.refl _ _).drew
      have hz4 := hgn4.size
      simp only [World.size_drew] at hz4
      go_wp2_with fail
      go_meet
      exact ⟨_, lo + 1 + h0, rfl, by omega, hz4, Go.Lib.grownBy_allocR (World.grownBy.trans (Go.Lib.grownBy_below HG.out hd) hgn4) _, (SrcAt.le hs4 (by omega) (by omega)).on (by go_grown), hP4.on (by go_grown), Lz.on ((HR.out.on hd).far hgn4 q3) (by go_grown), lz_alloc _ _ _ _ _ _ _ _, ld_alloc _ _ _ _ _ _ _ _⟩
    · obtain ⟨q1, q2, q3, q4, q5, q6⟩ := HB.out
      have hw : IntKind.i64.wrap (lo + 1 + h0) = lo + 1 + h0 := IntWalk.i64_in _ (by omega)
      rw [hw]
      have hz4 := hgn4.size
      simp only [World.size_drew, World.size_alloc] at hz4
      have hd : Below w3.heap.size w3 (w3.alloc (.cells #[.int .i64 0, .int .i64 0, .int .i64 0, .int .i64 0, .int .i64 0, .int .i64 0] 91)).drew := by go_grown
      go_wp2_with fail
      go_meet
      exact ⟨_, lo + 1 + h0, rfl, by omega, Nat.le_refl _, six_grown (World.grownBy.trans (Go.Lib.grownBy_below HG.out hd) hgn4) q2 _ _ _ _ _ _, six_src (SrcAt.le hs4 (by omega) (by omega)) q1 q5 _ _ _ _ _ _, six_pt hP4 q6 _ _ _ _ _ _, six_lz ((HR.out.on hd).far hgn4 q3) _ _ _ _ _ _, six_lz HL.out _ _ _ _ _ _, six_ld HL.out _ _ _ _ _ _⟩
  case rest =>
    obtain ⟨l, hi, rfl, hhi, hl3, hG, hs4, hP, hR, hL, hD⟩ := hcut
    have j1 : w1.heap.size ≠ g := by omega
    have j2 : w.heap.size ≠ g := by omega
    have j3 : l ≠ g := by omega
    have j4 : l ≠ w1.heap.size := by omega
    have j5 : w.heap.size ≠ l := by omega
    have j6 : w.heap.size ≤ l := by omega
    have j7 : B ≤ l := by omega
    have hM : Lm w B g (K + 8) w.heap.size l w1.heap.size x y lo hi wc := ⟨hG, hs4, hP, hR, hL, hD⟩
    have hS := hP.2
    have hxb : -1000000 ≤ x ∧ x ≤ 1000000 := by omega
    have hyb : -1000000 ≤ y ∧ y ≤ 1000000 := by omega
    have HX : Hid ((20000 ≤ x ∧ x < 23000) ∧ (20000 ≤ y ∧ y < 23000) ∧ (20 ≤ lo ∧ lo < 320) ∧ (lo < hi ∧ hi < 620)) := Lib.hid ⟨by omega, by omega, by omega, hhi⟩
    clear hG hs4 hP hR hL hD hgl hz1 hz2 hz3 hl3 hx hy hlo hxe hye hloe hlw hhi
    go_wp2_with fail
    go_region_held3 (fun w' => w'.cell? ⟨w1.heap.size, 0, none⟩ = some (.int .i64 x) ∧ w'.cell? ⟨w1.heap.size, 1, none⟩ = some (.int .i64 y)) (first | (with_reducible assumption) | (with_reducible refine two_keep j4 ?_; with_reducible assumption) | (with_reducible refine keepM hM7 ?_; go_grown; done) | (with_reducible refine keepM hM6 ?_; go_grown; done) | (with_reducible refine keepM hM5 ?_; go_grown; done) | (with_reducible refine keepM hM ?_; go_grown; done)) (first | (go_at_call 73; (with_reducible refine (src_pick B g (K + 8) 360 _ (by omega) (by omega) (Lm.src hM (by go_grown)) (by omega)).mono ?_); rintro e w5 ⟨b, hb, rfl, hgn5, hs5⟩; have hM5 := Lm.far (Lm.on hM (by go_grown)) hgn5 hs5 j1 j2 j3; have hS5 := hM5.2.2.1.2) | (go_at_call 73; (with_reducible refine (src_pick B g (K + 8 + 2) 3000 _ (by omega) (by omega) (Lm.src hM5 (by go_grown)) (by omega)).mono ?_); rintro e w6 ⟨d0, hd, rfl, hgn6, hs6⟩; have hM6 := Lm.far (Lm.on hM5 (by go_grown)) hgn6 hs6 j1 j2 j3; have hS6 := hM6.2.2.1.2; have hwd : IntKind.i64.wrap (50 + d0) = 50 + d0 := IntWalk.i64_in _ (by omega); have hdb : -1000000 ≤ 50 + d0 ∧ 50 + d0 ≤ 1000000 := by omega) | (go_at_call 163; obtain ⟨X2, hX2⟩ : ∃ X, x + stepM (50 + d0) (sinM b) = X := ⟨_, rfl⟩; obtain ⟨Y2, hY2⟩ : ∃ X, y + stepM (50 + d0) (cosM b) = X := ⟨_, rfl⟩; have hmv := fun w => spec_Move x y b _ w hxb hyb hdb; rw [hX2, hY2] at hmv; have HX2 := Lib.hid hX2; have HY2 := Lib.hid hY2; clear hX2 hY2; refine (hmv _).mono ?_; rintro e w7 ⟨rfl, hb7⟩; have hM7 := Lm.on (Lm.on hM6 (by go_grown)) hb7; have hS7 := hM7.2.2.1.2; obtain ⟨b2, k2⟩ := hM7.2.2.2.2.1.at (j := 2) (by omega); obtain ⟨b3, k3⟩ := hM7.2.2.2.2.1.at (j := 3) (by omega); have f2 := hM7.2.2.2.2.1.2.2 2; have f3 := hM7.2.2.2.2.1.2.2 3))
    refine then_at2 ?_
    intro w8 hw8
    have hD8 : Ld w8 l x y X2 Y2 lo hi := by rw [hw8]; exact two_ld hM7.2.2.2.2.2 X2 Y2
    have hR8 : Lz w8 w.heap.size := by rw [hw8]; exact (hM7.2.2.2.1.set _ _ _).set _ _ _
    have hG8 : w.grownBy w8 (some g) := by rw [hw8]; exact grown_set (grown_set hM7.1 j6) j6
    have hS8 : SrcAt w8 B g (K + 12) := by rw [hw8]; exact SrcAt.setne (SrcAt.setne (SrcAt.le hM7.2.1 (by omega) (by omega)) j7 j3) j7 j3
    clear hw8 hM hM5 hM6 hM7 hS hS5 hS6 hS7 k2 k3 f2 f3
    obtain ⟨hll, c0, c1, c2, c3, c4, c5⟩ := hD8
    obtain ⟨u0, k0⟩ := hR8.at (j := 0) (by omega)
    obtain ⟨u1, k1⟩ := hR8.at (j := 1) (by omega)
    obtain ⟨u2, k2⟩ := hR8.at (j := 2) (by omega)
    obtain ⟨u3, k3⟩ := hR8.at (j := 3) (by omega)
    obtain ⟨u4, k4⟩ := hR8.at (j := 4) (by omega)
    obtain ⟨u5, k5⟩ := hR8.at (j := 5) (by omega)
    have f0 := hR8.2.2 0
    have f1 := hR8.2.2 1
    have f2 := hR8.2.2 2
    have f3 := hR8.2.2 3
    have f4 := hR8.2.2 4
    have f5 := hR8.2.2 5
    have HR8 := Lib.hid hR8
    have HS8 := Lib.hid hS8
    have HG8 := Lib.hid hG8
    clear hR8 hS8 hG8
    go_wp2
    refine end_at ?_
    intro wf hwf
    have hT : Ld wf w.heap.size x y X2 Y2 lo hi := by rw [hwf]; exact six_ld HR8.out _ _ _ _ _ _
    have hGf : w.grownBy wf (some g) := by rw [hwf]; exact six_grown HG8.out (Nat.le_refl _) _ _ _ _ _ _
    have hSf : SrcAt wf B g (K + 14) := by rw [hwf]; exact six_src (SrcAt.le HS8.out (by omega) (by omega)) (by omega) j2 _ _ _ _ _ _
    clear hwf k0 k1 k2 k3 k4 k5 f0 f1 f2 f3 f4 f5 c0 c1 c2 c3 c4 c5
    obtain ⟨_, t0, t1, t2, t3, t4, t5⟩ := hT
    refine bodyPost_ret (by simp [results, Try.results124, go_sem, t0, t1, t2, t3, t4, t5]; try rfl) rfl ?_
    obtain ⟨p1, p2, p3, p4⟩ := HX.out
    exact ⟨x, y, b, 50 + d0, lo, hi, p1, p2, by omega, p3, p4, by rw [HX2.out, HY2.out], hGf, hSf⟩

set_option maxHeartbeats 1600000 in
theorem draw_lead (L : List Int) (A : Option Addr) (c B : Nat) (w : World) (hs : Sl w B A (L.map (Value.int .u8))) (hB : B ≤ w.heap.size) (hu : ∀ z ∈ L, IntKind.u8.has z) (hl : L.length ≤ 1048576) :
    Calls Try.prog 62 #[.slice A L.length c] w fun e w' => ∃ x y b d lo hi : Int, (20000 ≤ x ∧ x < 23000) ∧ (20000 ≤ y ∧ y < 23000) ∧ (50 ≤ d ∧ d < 3050) ∧ (20 ≤ lo ∧ lo < 320) ∧ (lo < hi ∧ hi < 620) ∧ e = .returned (.agg #[.int .i64 x, .int .i64 y, .int .i64 (x + stepM d (sinM b)), .int .i64 (y + stepM d (cosM b)), .int .i64 lo, .int .i64 hi]) ∧ Below w.heap.size w w' := by
  go_enter Try.func62, Try.ntmps62
  go_wp2_with fail
  refine (src_from L _ _ B _ (hs.below ((show Below w.heap.size w _ by go_grown).mono hB)) (by simp; omega) hu hl).mono ?_
  rintro e w1 ⟨rfl, hb1, hs1⟩
  simp only [World.size_alloc] at hs1
  have hB1 := bnext (show Below w.heap.size w _ by go_grown) hb1
  have hR := Lz.on (lz_alloc w 91 (.int .i64 0) (.int .i64 0) (.int .i64 0) (.int .i64 0) (.int .i64 0) (.int .i64 0)) hb1
  have hz1 := hB1.size
  go_wp2_with fail
  refine (src_lead B _ 0 _ hs1 (by omega) (by omega)).mono ?_
  rintro e w2 ⟨x, y, b, d, lo, hi, p1, p2, p3, p4, p5, rfl, hgn, hs2⟩
  have hB2 := hB1.grown hgn hB1.size (fun k e => by have e' : w.heap.size + 1 = k := Option.some.inj e; omega)
  replace hR := hR.far hgn (by omega)
  clear hgn hb1 hB1 hs hs1 hs2
  have HB2 := Lib.hid hB2
  clear hB2
  obtain ⟨X2, hX2⟩ : ∃ X, x + stepM d (sinM b) = X := ⟨_, rfl⟩
  obtain ⟨Y2, hY2⟩ : ∃ X, y + stepM d (cosM b) = X := ⟨_, rfl⟩
  rw [hX2, hY2]
  have HX2 := Lib.hid hX2
  have HY2 := Lib.hid hY2
  clear hX2 hY2
  obtain ⟨u0, k0⟩ := hR.at (j := 0) (by omega)
  obtain ⟨u1, k1⟩ := hR.at (j := 1) (by omega)
  obtain ⟨u2, k2⟩ := hR.at (j := 2) (by omega)
  obtain ⟨u3, k3⟩ := hR.at (j := 3) (by omega)
  obtain ⟨u4, k4⟩ := hR.at (j := 4) (by omega)
  obtain ⟨u5, k5⟩ := hR.at (j := 5) (by omega)
  have f0 := hR.2.2 0
  have f1 := hR.2.2 1
  have f2 := hR.2.2 2
  have f3 := hR.2.2 3
  have f4 := hR.2.2 4
  have f5 := hR.2.2 5
  have HR := Lib.hid hR
  clear hR
  go_wp2
  refine end_at ?_
  intro wf hwf
  have hT : Ld wf w.heap.size x y X2 Y2 lo hi := by rw [hwf]; exact six_ld HR.out _ _ _ _ _ _
  have hBf : Below w.heap.size w wf := by rw [hwf]; exact (((((HB2.out.setCell (Nat.le_refl _) _).setCell (Nat.le_refl _) _).setCell (Nat.le_refl _) _).setCell (Nat.le_refl _) _).setCell (Nat.le_refl _) _).setCell (Nat.le_refl _) _
  clear hwf k0 k1 k2 k3 k4 k5 f0 f1 f2 f3 f4 f5
  obtain ⟨_, t0, t1, t2, t3, t4, t5⟩ := hT
  refine bodyPost_ret (by simp [results, Try.results62, go_sem, t0, t1, t2, t3, t4, t5]; try rfl) rfl ?_
  exact ⟨x, y, b, d, lo, hi, p1, p2, p3, p4, p5, by rw [HX2.out, HY2.out], hBf⟩

theorem r8At_any (L : List Int) (A : Option Addr) (c B : Nat) (k n : Int) (w : World) (hs : Sl w B A (bytesL L)) (hu : ∀ z ∈ L, IntKind.u8.has z) (hl : L.length ≤ 1048576) (hk : 0 ≤ k ∧ k ≤ 10) (hn : 1 ≤ n ∧ n ≤ 100000) :
    Calls Try.prog 63 #[.slice A L.length c, .int .i64 k, .int .i64 n] w fun e w' => ∃ r : Int, (0 ≤ r ∧ r < n) ∧ e = .returned (.int .i64 r) ∧ w = w' := by
  by_cases h : n = 1 ∨ (L.length : Int) ≤ k
  · have hs' := Lib.hid hs
    clear hs
    rcases (by omega : n ≤ 1 ∨ (1 < n ∧ (L.length : Int) ≤ k)) with h1 | ⟨h1, h2⟩
    all_goals
      clear h
      go_enter Try.func63, Try.ntmps63
      go_wp2
      go_ret
      exact ⟨0, by omega, rfl, rfl⟩
  · obtain ⟨j, rfl⟩ := Int.eq_ofNat_of_zero_le hk.1
    have hj : j < L.length := by omega
    obtain ⟨b, o, rfl, hb, hc⟩ := hs (by intro e; unfold bytesL at e; rw [List.map_eq_nil_iff] at e; subst e; simp at hj)
    have hcj : w.cell? ⟨b, o + j, none⟩ = some (.int .u8 L[j]) := hc j _ (by unfold bytesL; rw [List.getElem?_map, List.getElem?_eq_getElem hj]; rfl)
    have hv := has_u8 (hu _ (List.getElem_mem hj))
    obtain ⟨v, hve⟩ : ∃ v, L[j] = v := ⟨_, rfl⟩
    rw [hve] at hcj hv
    have h1 : 1 < n := by omega
    have h2 : (j : Int) < L.length := by omega
    have ht := mod_in (x := v) (n := n) hv.1 (by omega)
    clear hc h hve hu
    go_enter Try.func63, Try.ntmps63
    go_wp2
    go_ret
    exact ⟨_, ht, rfl, rfl⟩

theorem r8Long_any (n m c c2 : Nat) (A A2 : Option Addr) (w : World) (hn : n ≤ maxLen) (hm : m ≤ maxLen) : Calls Try.prog 61 #[.slice A n c, .slice A2 m c2] w fun e w' => e = .returned (.bool (decide (1048576 < n) || decide (1048576 < m))) ∧ w = w' := by
  have hn2 : n ≤ 9223372036854775807 := by simpa [maxLen, IntKind.max, IntKind.bits, IntKind.signed] using hn
  have hm2 : m ≤ 9223372036854775807 := by simpa [maxLen, IntKind.max, IntKind.bits, IntKind.signed] using hm
  rcases (by omega : (1048576 : Int) < n ∨ ((n : Int) ≤ 1048576 ∧ (1048576 : Int) < m) ∨ ((n : Int) ≤ 1048576 ∧ (m : Int) ≤ 1048576)) with h | ⟨h, h2⟩ | ⟨h, h2⟩
  · have q : Hid ((decide (1048576 < n) || decide (1048576 < m)) = true) := Lib.hid (by rw [decide_eq_true (by omega : 1048576 < n)]; rfl)
    go_enter Try.func61, Try.ntmps61
    go_wp2
    go_ret
    exact ⟨ret_bool q.out.symm, rfl⟩
  · have q : Hid ((decide (1048576 < n) || decide (1048576 < m)) = true) := Lib.hid (by rw [decide_eq_true (by omega : 1048576 < m), Bool.or_true])
    go_enter Try.func61, Try.ntmps61
    go_wp2
    go_ret
    exact ⟨ret_bool q.out.symm, rfl⟩
  · have q : Hid ((decide (1048576 < n) || decide (1048576 < m)) = false) := Lib.hid (by rw [decide_eq_false (by omega : ¬ 1048576 < n), decide_eq_false (by omega : ¬ 1048576 < m)]; rfl)
    have d1 : decide ((1048576 : Int) < (n : Int)) = false := decide_eq_false (by omega)
    have d2 : decide ((1048576 : Int) < (m : Int)) = false := decide_eq_false (by omega)
    have d3 : ¬ (1048576 : Int) < (n : Int) := by omega
    have d4 : ¬ (1048576 : Int) < (m : Int) := by omega
    go_enter Try.func61, Try.ntmps61
    go_wp2
    go_ret
    exact ⟨ret_bool q.out.symm, rfl⟩
end Go.Proofs.Ytnikdafbnkedkaa
