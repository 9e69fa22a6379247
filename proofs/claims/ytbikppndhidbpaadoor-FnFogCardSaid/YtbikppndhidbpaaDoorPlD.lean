/-
  Contracts of points that are drawn, two or three together. Each under the conditions that it states.
-/
import Derived.Test.YtbikppndhidbpaaDoorDraw2
import Derived.Test.YtbikppndhidbpaaDoorDraw3
import Derived.Test.YtbikppndhidbpaaDoorR8D
import Derived.Test.YtbikppndhidbpaaDoorMark
import Derived.Test.YtbikppndhidbpaaDoorBtw
import Derived.Deep.RegionHeld3
set_option linter.unusedVariables false
set_option linter.unnecessarySimpa false
set_option maxRecDepth 100000
set_option linter.unusedSimpArgs false
namespace Go.Proofs.YtbikppndhidbpaaDoor
open Go.RowKit BigFrame

theorem grown_setP {a w : World} {g b k : Nat} {v : Value} (h : a.grownBy w (some g)) (hb : a.heap.size ≤ b) : a.grownBy (w.setCell ⟨b, k, none⟩ v) (some g) :=
  h.andThen (Go.Lib.grownBy_setCell w b k v) (fun j e => by cases e; exact Or.inl hb)
theorem grown_al {a w : World} {row : Option Nat} (h : a.grownBy w row) (o : Obj) : a.grownBy (w.alloc o) row := Go.Lib.grownBy_allocR h _
theorem grown_on {a w w' : World} {row : Option Nat} (h : a.grownBy w row) (hb : Below w.heap.size w w') : a.grownBy w' row := Go.Lib.grownBy_below h hb
theorem grown_go {a w w' : World} {row : Option Nat} (h : a.grownBy w row) (h2 : w.grownBy w' row) : a.grownBy w' row := World.grownBy.trans h h2
/-- A point in a variable that may be written. -/
def Bp (w : World) (b : Nat) (x y : Int) : Prop := PtB w b x y ∧ Ey w b
theorem Bp.on {w w1 : World} {b : Nat} {x y : Int} (h : Bp w b x y) (hb : Below w.heap.size w w1) : Bp w1 b x y := ⟨h.1.on hb, h.2.on hb⟩
theorem Bp.far {w w' : World} {row : Option Nat} {b : Nat} {x y : Int} (h : Bp w b x y) (hg : w.grownBy w' row) (hne : row ≠ some b) : Bp w' b x y := ⟨h.1.far hg hne, h.2.far hg hne⟩
theorem Bp.new (w : World) (x y : Int) (t : TypeId) : Bp (w.alloc (.cells #[.int .i64 x, .int .i64 y] t)) w.heap.size x y := ⟨⟨by simp, by simp, by simp⟩, Ey.new w x y t⟩
theorem Bp.two {w : World} {b c : Nat} {x y : Int} {u v : Value} (h : Bp w b x y) (hne : c ≠ b) : Bp ((w.setCell ⟨c, 0, none⟩ u).setCell ⟨c, 1, none⟩ v) b x y := ⟨(h.1.set hne).set hne, h.2.set.set⟩
theorem Ey.two {w : World} {b : Nat} (h : Ey w b) (x y : Int) : Bp ((w.setCell ⟨b, 0, none⟩ (.int .i64 x)).setCell ⟨b, 1, none⟩ (.int .i64 y)) b x y := ⟨⟨by simpa using h.1, h.read _ _⟩, h.set.set⟩
theorem src_two {w : World} {B g K c : Nat} {u v : Value} (h : SrcAt w B g K) (hB : B ≤ c) (hne : c ≠ g) : SrcAt ((w.setCell ⟨c, 0, none⟩ u).setCell ⟨c, 1, none⟩ v) B g K := (h.setne hB hne).setne hB hne
theorem six_out {w wf : World} {r0 r1 r2 : Nat} (e0 : Ey w r0) (e1 : Ey w r1) (e2 : Ey w r2) (h01 : r1 ≠ r0) (h02 : r2 ≠ r0) (h12 : r2 ≠ r1) {a b c d e f : Int} (hw : wf = (((((w.setCell ⟨r0, 0, none⟩ (.int .i64 a)).setCell ⟨r0, 1, none⟩ (.int .i64 b)).setCell ⟨r1, 0, none⟩ (.int .i64 c)).setCell ⟨r1, 1, none⟩ (.int .i64 d)).setCell ⟨r2, 0, none⟩ (.int .i64 e)).setCell ⟨r2, 1, none⟩ (.int .i64 f)) : PtB wf r0 a b ∧ PtB wf r1 c d ∧ PtB wf r2 e f := by
  subst hw
  exact ⟨(((e0.two a b).two h01).two h02).1, ((e1.set.set.two c d).two h12).1, ((e2.set.set).set.set.two e f).1⟩
theorem c4_two {w : World} {b1 b2 c : Nat} {p q r s u v : Value} (m1 : c ≠ b1) (m2 : c ≠ b2) (h1 : w.cell? ⟨b1, 0, none⟩ = some p) (h2 : w.cell? ⟨b1, 1, none⟩ = some q) (h3 : w.cell? ⟨b2, 0, none⟩ = some r) (h4 : w.cell? ⟨b2, 1, none⟩ = some s) : ((w.setCell ⟨c, 0, none⟩ u).setCell ⟨c, 1, none⟩ v).cell? ⟨b1, 0, none⟩ = some p ∧ ((w.setCell ⟨c, 0, none⟩ u).setCell ⟨c, 1, none⟩ v).cell? ⟨b1, 1, none⟩ = some q ∧ ((w.setCell ⟨c, 0, none⟩ u).setCell ⟨c, 1, none⟩ v).cell? ⟨b2, 0, none⟩ = some r ∧ ((w.setCell ⟨c, 0, none⟩ u).setCell ⟨c, 1, none⟩ v).cell? ⟨b2, 1, none⟩ = some s := by
  have n : ∀ (b k o : Nat), c ≠ b → (⟨c, k, none⟩ : Addr) ≠ ⟨b, o, none⟩ := fun b k o h e => h (congrArg Addr.block e)
  refine ⟨?_, ?_, ?_, ?_⟩
  · rw [World.cell?_setCell_other _ _ _ _ (n b1 1 0 m1), World.cell?_setCell_other _ _ _ _ (n b1 0 0 m1)]; exact h1
  · rw [World.cell?_setCell_other _ _ _ _ (n b1 1 1 m1), World.cell?_setCell_other _ _ _ _ (n b1 0 1 m1)]; exact h2
  · rw [World.cell?_setCell_other _ _ _ _ (n b2 1 0 m2), World.cell?_setCell_other _ _ _ _ (n b2 0 0 m2)]; exact h3
  · rw [World.cell?_setCell_other _ _ _ _ (n b2 1 1 m2), World.cell?_setCell_other _ _ _ _ (n b2 0 1 m2)]; exact h4
theorem PtB.drewB {w : World} {g : Nat} {x y : Int} (h : PtB w g x y) : PtB w.drew g x y := h.on ((Below.refl _ _).drew)
def c1B (x : Int) : Prop := -1 ≤ x ∧ x ≤ 200001
set_option maxHeartbeats 3200000 in
theorem src_three (B g K : Nat) (w : World) (hs : SrcAt w B g K) (hBw : B ≤ w.heap.size) (hK : K + 64 ≤ 1000000000) :
    Calls Tryd.prog 67 #[.pointer (some ⟨g, 0, none⟩)] w fun e w' => ∃ x1 y1 x2 y2 x3 y3 : Int, (c1B x1 ∧ c1B y1) ∧ (c1B x2 ∧ c1B y2) ∧ (c1B x3 ∧ c1B y3) ∧ e = .returned (.tuple #[.agg #[.int .i64 x1, .int .i64 y1], .agg #[.int .i64 x2, .int .i64 y2], .agg #[.int .i64 x3, .int .i64 y3]]) ∧ w.grownBy w' (some g) ∧ SrcAt w' B g (K + 64) := by
  have hgl := hs.2.1
  obtain ⟨wa, hwa⟩ : ∃ wa, wa = ((w.alloc (.cells #[.int .i64 0, .int .i64 0] 38)).alloc (.cells #[.int .i64 0, .int .i64 0] 38)).alloc (.cells #[.int .i64 0, .int .i64 0] 38) := ⟨_, rfl⟩
  have hba : Below w.heap.size w wa := by rw [hwa]; go_grown
  have hE0 : Ey wa w.heap.size := by rw [hwa]; exact (Ey.new w 0 0 _).on (by go_grown)
  have hE1 : Ey wa (w.heap.size + 1) := by rw [hwa]; have := (Ey.new (w.alloc (.cells #[.int .i64 0, .int .i64 0] 38)) 0 0 38).on ((Below.refl _ _).alloc (Nat.le_refl _) (.cells #[.int .i64 0, .int .i64 0] 38)); simpa using this
  have hE2 : Ey wa (w.heap.size + 2) := by rw [hwa]; have := Ey.new ((w.alloc (.cells #[.int .i64 0, .int .i64 0] 38)).alloc (.cells #[.int .i64 0, .int .i64 0] 38)) 0 0 38; simpa using this
  have hsa := hs.on hba
  have hza : w.heap.size + 3 = wa.heap.size := by rw [hwa]; simp
  have hGa : w.grownBy wa (some g) := grown_none' hba _
  go_enter Tryd.func67, Tryd.ntmps67
  go_wp2_with fail
  rw [← hwa]
  clear hwa hba hs
  refine (src_bent B g K _ hsa (by omega) (by omega)).mono ?_
  rintro e w1 ⟨x1, y1, hx1, hy1, rfl, hgn, hs1⟩
  have hG1 := grown_go hGa hgn
  have hz1 := hgn.size
  replace hE0 := hE0.far hgn (fun e => by have := Option.some.inj e; omega)
  replace hE1 := hE1.far hgn (fun e => by have := Option.some.inj e; omega)
  replace hE2 := hE2.far hgn (fun e => by have := Option.some.inj e; omega)
  have hP1 := Bp.new w1 x1 y1 38
  have hal : Below w1.heap.size w1 (w1.alloc (.cells #[.int .i64 x1, .int .i64 y1] 38)) := by go_grown
  obtain ⟨g1, hg1⟩ : ∃ g1, w1.heap.size = g1 := ⟨_, rfl⟩
  have hsz : g1 + 1 = (w1.alloc (.cells #[.int .i64 x1, .int .i64 y1] 38)).heap.size := by simp [hg1]
  clear hgn hGa hsa
  go_wp2_with fail
  rw [hg1] at hP1
  refine (src_bent B g (K + 18) _ (hs1.on hal) (by omega) (by omega)).mono ?_
  rintro e w2 ⟨x2, y2, hx2, hy2, rfl, hgn, hs2⟩
  have hG2 := grown_go (grown_on hG1 hal) hgn
  have hz2 := hgn.size
  replace hE0 := (hE0.on hal).far hgn (fun e => by have := Option.some.inj e; omega)
  replace hE1 := (hE1.on hal).far hgn (fun e => by have := Option.some.inj e; omega)
  replace hE2 := (hE2.on hal).far hgn (fun e => by have := Option.some.inj e; omega)
  replace hP1 := hP1.far hgn (fun e => by have := Option.some.inj e; omega)
  have hP2 := Bp.new w2 x2 y2 38
  have hal2 : Below w2.heap.size w2 (w2.alloc (.cells #[.int .i64 x2, .int .i64 y2] 38)) := by go_grown
  obtain ⟨g2, hg2⟩ : ∃ g2, w2.heap.size = g2 := ⟨_, rfl⟩
  have hsz2 : g2 + 1 = (w2.alloc (.cells #[.int .i64 x2, .int .i64 y2] 38)).heap.size := by simp [hg2]
  clear hgn hG1 hs1 hal
  go_wp2_with fail
  rw [hg2] at hP2
  refine (src_bent B g (K + 36) _ (hs2.on hal2) (by omega) (by omega)).mono ?_
  rintro e w3 ⟨x3, y3, hx3, hy3, rfl, hgn, hs3⟩
  have hG3 := grown_go (grown_on hG2 hal2) hgn
  have hz3 := hgn.size
  replace hE0 := (hE0.on hal2).far hgn (fun e => by have := Option.some.inj e; omega)
  replace hE1 := (hE1.on hal2).far hgn (fun e => by have := Option.some.inj e; omega)
  replace hE2 := (hE2.on hal2).far hgn (fun e => by have := Option.some.inj e; omega)
  replace hP1 := (hP1.on hal2).far hgn (fun e => by have := Option.some.inj e; omega)
  replace hP2 := hP2.far hgn (fun e => by have := Option.some.inj e; omega)
  have hP3 := Bp.new w3 x3 y3 38
  have hal3 : Below w3.heap.size w3 (w3.alloc (.cells #[.int .i64 x3, .int .i64 y3] 38)) := by go_grown
  obtain ⟨g3, hg3⟩ : ∃ g3, w3.heap.size = g3 := ⟨_, rfl⟩
  have hsz3 : g3 + 1 = (w3.alloc (.cells #[.int .i64 x3, .int .i64 y3] 38)).heap.size := by simp [hg3]
  clear hgn hG2 hs2 hal2
  go_wp2_with fail
  rw [hg3] at hP3
  refine (src_one B g (K + 54) 3 _ (by omega) (by omega) (hs3.on hal3) (by omega)).mono ?_
  rintro e w4 ⟨b, rfl, hgn, hs4⟩
  have hG4 := grown_go (grown_on hG3 hal3) hgn
  have hz4 := hgn.size
  replace hE0 := (hE0.on hal3).far hgn (fun e => by have := Option.some.inj e; omega)
  replace hE1 := (hE1.on hal3).far hgn (fun e => by have := Option.some.inj e; omega)
  replace hE2 := (hE2.on hal3).far hgn (fun e => by have := Option.some.inj e; omega)
  replace hP1 := (hP1.on hal3).far hgn (fun e => by have := Option.some.inj e; omega)
  replace hP2 := (hP2.on hal3).far hgn (fun e => by have := Option.some.inj e; omega)
  replace hP3 := hP3.far hgn (fun e => by have := Option.some.inj e; omega)
  have h1 := And.intro hx1 hy1
  have h2 := And.intro hx2 hy2
  clear hgn hG3 hs3 hal3
  go_upto_if 15 with fail
  go_cut [7] (fun s wx => ∃ x3 y3 wz, wz = wx ∧ s = .pointer (some ⟨g3, 0, none⟩) ∧ (c1B x3 ∧ c1B y3) ∧ w.grownBy wz (some g) ∧ SrcAt wz B g (K + 58) ∧ Ey wz w.heap.size ∧ Ey wz (w.heap.size + 1) ∧ Ey wz (w.heap.size + 2) ∧ Bp wz g1 x1 y1 ∧ Bp wz g2 x2 y2 ∧ Bp wz g3 x3 y3)
  case first =>
    cases b
    · go_wp2_with fail
      go_meet
      exact ⟨x3, y3, _, rfl, rfl, ⟨hx3, hy3⟩, hG4, hs4.le (by omega) (by omega), hE0, hE1, hE2, hP1, hP2, hP3⟩
    · have n1 : (some g : Option Nat) ≠ some g1 := fun e => by have := Option.some.inj e; omega
      have n2 : (some g : Option Nat) ≠ some g2 := fun e => by have := Option.some.inj e; omega
      have n3 : (some g : Option Nat) ≠ some g3 := fun e => by have := Option.some.inj e; omega
      have m1 : g3 ≠ g1 := by omega
      have m2 : g3 ≠ g2 := by omega
      have hK0 : K + 54 + 2 + 2 ≤ 1000000000 := by omega
      obtain ⟨l1, q0, q1⟩ := id hP1.1
      obtain ⟨l2, q2, q3⟩ := id hP2.1
      have k0 : w4.drew.cell? ⟨g1, 0, none⟩ = some (.int .i64 x1) := q0
      have k1 : w4.drew.cell? ⟨g1, 1, none⟩ = some (.int .i64 y1) := q1
      have k2 : w4.drew.cell? ⟨g2, 0, none⟩ = some (.int .i64 x2) := q2
      have k3 : w4.drew.cell? ⟨g2, 1, none⟩ = some (.int .i64 y2) := q3
      have HE := Lib.hid (And.intro hE0 (And.intro hE1 (And.intro hE2 hG4)))
      clear hE0 hE1 hE2 hG4
      go_wp2_with fail
      go_region_held3 (fun w' => w'.cell? ⟨g1, 0, none⟩ = some (.int .i64 x1) ∧ w'.cell? ⟨g1, 1, none⟩ = some (.int .i64 y1) ∧ w'.cell? ⟨g2, 0, none⟩ = some (.int .i64 x2) ∧ w'.cell? ⟨g2, 1, none⟩ = some (.int .i64 y2)) (first | (with_reducible exact ⟨k0, k1, k2, k3⟩) | (with_reducible exact ⟨q4, q5, q6, q7⟩) | (with_reducible exact ⟨v4, v5, v6, v7⟩) | (with_reducible exact c4_two m1 m2 v4 v5 v6 v7)) (first | (go_at_call 55; (with_reducible refine (src_pick B g (K + 54 + 2) 8 _ (by omega) (by omega) (hs4.on (by go_grown)) hK0).mono ?_); rintro e w9 ⟨r, hr, rfl, hg9, hs9⟩; have hq1 := (hP1.on (by go_grown)).far hg9 n1; have hq2 := (hP2.on (by go_grown)).far hg9 n2; have hq3 := (hP3.on (by go_grown)).far hg9 n3; obtain ⟨l3, q4, q5⟩ := id hq1.1; obtain ⟨l4, q6, q7⟩ := id hq2.1) | (go_at_call 113; (with_reducible refine (spec_btw x1 y1 x2 y2 r 7 _ h1.1 h1.2 h2.1 h2.2 (by omega) (by omega)).mono ?_); rintro e w10 ⟨rfl, hb10⟩; have hv1 := hq1.on hb10; have hv2 := hq2.on hb10; have hv3 := hq3.on hb10; obtain ⟨_, ⟨b0, b1⟩, f0, f1⟩ := id hv3.2; have b0 := heldB_is b0; have b1 := heldB_is b1; obtain ⟨l5, v4, v5⟩ := id hv1.1; obtain ⟨l6, v6, v7⟩ := id hv2.1))
      obtain ⟨hE0, hE1, hE2, hG4⟩ := HE.out
      have hbd := btw_in (lo := -1) (hi := 200001) (n := 7) (i := r) (by omega) (by omega) (by omega) h1.1 h1.2 h2.1 h2.2
      have hdw : Below w4.heap.size w4 w4.drew := (Below.refl _ _).drew
      have hg9' := grown_go (grown_none' hdw (some g)) hg9
      have hGx := grown_on (grown_go hG4 hg9') hb10
      have e0 := (hE0.far hg9' (fun e => by have := Option.some.inj e; omega)).on hb10
      have e1 := (hE1.far hg9' (fun e => by have := Option.some.inj e; omega)).on hb10
      have e2 := (hE2.far hg9' (fun e => by have := Option.some.inj e; omega)).on hb10
      have hsx := hs9.on hb10
      go_wp2_with fail
      go_meet
      exact ⟨_, _, _, rfl, rfl, hbd, grown_setP (grown_setP hGx (by omega)) (by omega), (src_two hsx (by omega) (by omega)).le (by omega) (by omega), e0.set.set, e1.set.set, e2.set.set, hv1.two m1, hv2.two m2, hv3.2.two _ _⟩
  case rest =>
    clear hx3 hy3 hG4 hs4 hE0 hE1 hE2 hP1 hP2 hP3
    obtain ⟨x3, y3, wc, rfl, rfl, h3, hG4, hs4, hE0, hE1, hE2, hP1, hP2, hP3⟩ := hcut
    have hz5 := hP3.1.1
    go_wp2_with fail
    refine (src_one B g (K + 58) 12 _ (by omega) (by omega) hs4 (by omega)).mono ?_
    rintro e w5 ⟨b, rfl, hgn, hs5⟩
    have hG5 := grown_go hG4 hgn
    have hz6 := hgn.size
    replace hE0 := hE0.far hgn (fun e => by have := Option.some.inj e; omega)
    replace hE1 := hE1.far hgn (fun e => by have := Option.some.inj e; omega)
    replace hE2 := hE2.far hgn (fun e => by have := Option.some.inj e; omega)
    replace hP1 := hP1.far hgn (fun e => by have := Option.some.inj e; omega)
    replace hP2 := hP2.far hgn (fun e => by have := Option.some.inj e; omega)
    replace hP3 := hP3.far hgn (fun e => by have := Option.some.inj e; omega)
    clear hgn hG4 hs4
    go_upto_if 22 with fail
    go_cut [5] (fun s wx => ∃ x1 y1 x2 y2 wz, wz = wx ∧ s = .pointer (some ⟨g1, 0, none⟩) ∧ (c1B x1 ∧ c1B y1) ∧ (c1B x2 ∧ c1B y2) ∧ w.grownBy wz (some g) ∧ SrcAt wz B g (K + 64) ∧ Ey wz w.heap.size ∧ Ey wz (w.heap.size + 1) ∧ Ey wz (w.heap.size + 2) ∧ Bp wz g1 x1 y1 ∧ Bp wz g2 x2 y2 ∧ Bp wz g3 x3 y3)
    case first =>
      cases b
      · go_wp2_with fail
        go_meet
        exact ⟨x1, y1, x2, y2, _, rfl, rfl, h1, h2, hG5, hs5.le (by omega) (by omega), hE0, hE1, hE2, hP1, hP2, hP3⟩
      · go_wp2_with fail
        refine (src_pick B g (K + 60) 9 _ (by omega) (by omega) hs5 (by omega)).mono ?_
        rintro e w6 ⟨r1, hr1, rfl, hgn, hs6⟩
        have hG6 := grown_go hG5 hgn
        have hz7 := hgn.size
        replace hE0 := hE0.far hgn (fun e => by have := Option.some.inj e; omega)
        replace hE1 := hE1.far hgn (fun e => by have := Option.some.inj e; omega)
        replace hE2 := hE2.far hgn (fun e => by have := Option.some.inj e; omega)
        replace hP1 := hP1.far hgn (fun e => by have := Option.some.inj e; omega)
        replace hP2 := hP2.far hgn (fun e => by have := Option.some.inj e; omega)
        replace hP3 := hP3.far hgn (fun e => by have := Option.some.inj e; omega)
        clear hgn hG5 hs5
        obtain ⟨_, ⟨b0, b1⟩, f0, f1⟩ := id hP1.2
        have b0' := heldB_is b0
        have b1' := heldB_is b1
        go_upto_region 8 with fail
        refine wp_atB ?_
        intro w7 hw7
        have hB7 : Below w.heap.size w w → True := fun _ => trivial
        have m1 : g1 ≠ g2 := by omega
        have m2 : g1 ≠ g3 := by omega
        have hG7 : w.grownBy w7 (some g) := by rw [hw7]; exact grown_setP (grown_setP hG6 (by omega)) (by omega)
        have hs7 : SrcAt w7 B g (K + 60 + 2) := by rw [hw7]; exact src_two hs6 (by omega) (by omega)
        have e0 : Ey w7 w.heap.size := by rw [hw7]; exact hE0.set.set
        have e1 : Ey w7 (w.heap.size + 1) := by rw [hw7]; exact hE1.set.set
        have e2 : Ey w7 (w.heap.size + 2) := by rw [hw7]; exact hE2.set.set
        have p1 : Bp w7 g1 r1 0 := by rw [hw7]; exact hP1.2.two _ _
        have p2 : Bp w7 g2 x2 y2 := by rw [hw7]; exact hP2.two m1
        have p3 : Bp w7 g3 x3 y3 := by rw [hw7]; exact hP3.two m2
        have hz8 : w6.heap.size = w7.heap.size := by rw [hw7]; simp
        clear hw7 b0 b1 b0' b1' f0 f1 hP1 hP2 hP3 hE0 hE1 hE2 hs6 hG6
        go_wp2_with fail
        refine (src_pick B g (K + 60 + 2) 9 _ (by omega) (by omega) hs7 (by omega)).mono ?_
        rintro e w8 ⟨r2, hr2, rfl, hgn, hs8⟩
        have hG8 := grown_go hG7 hgn
        replace e0 := e0.far hgn (fun e => by have := Option.some.inj e; omega)
        replace e1 := e1.far hgn (fun e => by have := Option.some.inj e; omega)
        replace e2 := e2.far hgn (fun e => by have := Option.some.inj e; omega)
        replace p1 := p1.far hgn (fun e => by have := Option.some.inj e; omega)
        replace p2 := p2.far hgn (fun e => by have := Option.some.inj e; omega)
        replace p3 := p3.far hgn (fun e => by have := Option.some.inj e; omega)
        clear hgn hG7 hs7
        obtain ⟨_, ⟨b0, b1⟩, f0, f1⟩ := id p2.2
        have b0' := heldB_is b0
        have b1' := heldB_is b1
        go_wp2_with fail
        go_meet
        exact ⟨r1, 0, 200000, 200000 - r2, _, rfl, rfl, ⟨⟨by omega, by omega⟩, ⟨by omega, by omega⟩⟩, ⟨⟨by omega, by omega⟩, ⟨by omega, by omega⟩⟩, grown_setP (grown_setP hG8 (by omega)) (by omega), (src_two hs8 (by omega) (by omega)).le (by omega) (by omega), e0.set.set, e1.set.set, e2.set.set, p1.two (by omega), p2.2.two _ _, p3.two (by omega)⟩
    case rest =>
      clear h1 h2 hG5 hs5 hE0 hE1 hE2 hP1 hP2 hP3
      obtain ⟨x1, y1, x2, y2, wd, rfl, rfl, h1, h2, hG5, hs5, hE0, hE1, hE2, hP1, hP2, hP3⟩ := hcut
      obtain ⟨_, a0, a1⟩ := id hP1.1
      obtain ⟨_, b0, b1⟩ := id hP2.1
      obtain ⟨_, c0, c1⟩ := id hP3.1
      obtain ⟨_, ⟨d0, d1⟩, d2, d3⟩ := id hE0
      obtain ⟨_, ⟨i0, i1⟩, i2, i3⟩ := id hE1
      obtain ⟨_, ⟨j0, j1⟩, j2, j3⟩ := id hE2
      have d0 := heldB_is d0
      have d1 := heldB_is d1
      have i0 := heldB_is i0
      have i1 := heldB_is i1
      have j0 := heldB_is j0
      have j1 := heldB_is j1
      go_wp2_with fail
      go_region
      refine then_at2 ?_
      intro wf hwf
      have hsix := six_out hE0 hE1 (show Ey wd (w.heap.size + 1 + 1) from hE2) (by omega) (by omega) (by omega) (a := x1) (b := y1) (c := x2) (d := y2) (e := x3) (f := y3) rfl
      have hq : PtB wf w.heap.size x1 y1 ∧ PtB wf (w.heap.size + 1) x2 y2 ∧ PtB wf (w.heap.size + 1 + 1) x3 y3 := by rw [hwf]; exact ⟨hsix.1.drewB, hsix.2.1.drewB, hsix.2.2.drewB⟩
      have hGf : w.grownBy wf (some g) := by rw [hwf]; exact grown_on (grown_setP (grown_setP (grown_setP (grown_setP (grown_setP (grown_setP hG5 (by omega)) (by omega)) (by omega)) (by omega)) (by omega)) (by omega)) ((Below.refl _ _).drew)
      have hSf : SrcAt wf B g (K + 64) := by rw [hwf]; exact (src_two (src_two (src_two hs5 (by omega) (by omega)) (by omega) (by omega)) (by omega) (by omega)).drewN 1
      clear hwf hsix a0 a1 b0 b1 c0 c1 d0 d1 d2 d3 i0 i1 i2 i3 j0 j1 j2 j3
      obtain ⟨⟨_, t0, t1⟩, ⟨_, t2, t3⟩, ⟨_, t4, t5⟩⟩ := hq
      go_wp2_with fail
      refine bodyPost_ret (by simp [results, Tryd.results67, go_sem, t0, t1, t2, t3, t4, t5]; try rfl) rfl ?_
      exact ⟨x1, y1, x2, y2, x3, y3, h1, h2, h3, rfl, hGf, hSf⟩
theorem draw_dts (L : List Int) (A : Option Addr) (c B : Nat) (w : World) (hs : Sl w B A (L.map (Value.int .u8))) (hB : B ≤ w.heap.size) (hu : ∀ z ∈ L, IntKind.u8.has z) (hl : L.length ≤ 1048576) :
    Calls Tryd.prog 21 #[.slice A L.length c] w fun e w' => ∃ x1 y1 x2 y2 x3 y3 : Int, (c1B x1 ∧ c1B y1) ∧ (c1B x2 ∧ c1B y2) ∧ (c1B x3 ∧ c1B y3) ∧ e = .returned (.tuple #[.agg #[.int .i64 x1, .int .i64 y1], .agg #[.int .i64 x2, .int .i64 y2], .agg #[.int .i64 x3, .int .i64 y3]]) ∧ Below w.heap.size w w' := by
  obtain ⟨wa, hwa⟩ : ∃ wa, wa = ((w.alloc (.cells #[.int .i64 0, .int .i64 0] 38)).alloc (.cells #[.int .i64 0, .int .i64 0] 38)).alloc (.cells #[.int .i64 0, .int .i64 0] 38) := ⟨_, rfl⟩
  have hba : Below w.heap.size w wa := by rw [hwa]; go_grown
  have hE0 : Ey wa w.heap.size := by rw [hwa]; exact (Ey.new w 0 0 _).on (by go_grown)
  have hE1 : Ey wa (w.heap.size + 1) := by rw [hwa]; have := (Ey.new (w.alloc (.cells #[.int .i64 0, .int .i64 0] 38)) 0 0 38).on ((Below.refl _ _).alloc (Nat.le_refl _) (.cells #[.int .i64 0, .int .i64 0] 38)); simpa using this
  have hE2 : Ey wa (w.heap.size + 2) := by rw [hwa]; have := Ey.new ((w.alloc (.cells #[.int .i64 0, .int .i64 0] 38)).alloc (.cells #[.int .i64 0, .int .i64 0] 38)) 0 0 38; simpa using this
  have hza : w.heap.size + 3 = wa.heap.size := by rw [hwa]; simp
  go_enter Tryd.func21, Tryd.ntmps21
  go_wp2_with fail
  rw [← hwa]
  clear hwa
  refine (src_from L _ _ B _ (hs.below (hba.mono hB)) (by omega) hu hl).mono ?_
  rintro e w1 ⟨rfl, hb1, hs1⟩
  have hz1 := hb1.size
  have hB1 := bnext hba hb1
  replace hE0 := hE0.on hb1
  replace hE1 := hE1.on hb1
  replace hE2 := hE2.on hb1
  have hgl := hs1.2.1
  clear hba hb1
  go_wp2_with fail
  refine (src_three B _ 0 _ hs1 (by omega) (by omega)).mono ?_
  rintro e w2 ⟨x1, y1, x2, y2, x3, y3, h1, h2, h3, rfl, hgn, hs2⟩
  have hB2 := hB1.grown hgn (by omega) (fun k e => by have := Option.some.inj e; omega)
  replace hE0 := hE0.far hgn (fun e => by have := Option.some.inj e; omega)
  replace hE1 := hE1.far hgn (fun e => by have := Option.some.inj e; omega)
  replace hE2 := hE2.far hgn (fun e => by have := Option.some.inj e; omega)
  clear hgn hs1 hB1 hs2
  obtain ⟨_, ⟨d0, d1⟩, d2, d3⟩ := id hE0
  obtain ⟨_, ⟨i0, i1⟩, i2, i3⟩ := id hE1
  obtain ⟨_, ⟨j0, j1⟩, j2, j3⟩ := id hE2
  have d0 := heldB_is d0
  have d1 := heldB_is d1
  have i0 := heldB_is i0
  have i1 := heldB_is i1
  have j0 := heldB_is j0
  have j1 := heldB_is j1
  go_wp2_with fail
  refine end_atA ?_
  intro wf hwf
  have hq := six_out hE0 hE1 (show Ey w2 (w.heap.size + 1 + 1) from hE2) (by omega) (by omega) (by omega) (a := x1) (b := y1) (c := x2) (d := y2) (e := x3) (f := y3) hwf
  have hBf : Below w.heap.size w wf := by rw [hwf]; exact (((((hB2.setCell (by simp) _).setCell (by simp) _).setCell (by simp) _).setCell (by simp) _).setCell (by simp; omega) _).setCell (by simp; omega) _
  clear hwf
  obtain ⟨⟨_, t0, t1⟩, ⟨_, t2, t3⟩, ⟨_, t4, t5⟩⟩ := hq
  refine bodyPost_ret (by simp [results, Tryd.results21, go_sem, t0, t1, t2, t3, t4, t5]; try rfl) rfl ?_
  exact ⟨x1, y1, x2, y2, x3, y3, h1, h2, h3, rfl, hBf⟩
theorem four_out {w wf : World} {r0 r1 : Nat} (e0 : Ey w r0) (e1 : Ey w r1) (h01 : r1 ≠ r0) {a b c d : Int} (hw : wf = (((w.setCell ⟨r0, 0, none⟩ (.int .i64 a)).setCell ⟨r0, 1, none⟩ (.int .i64 b)).setCell ⟨r1, 0, none⟩ (.int .i64 c)).setCell ⟨r1, 1, none⟩ (.int .i64 d)) : PtB wf r0 a b ∧ PtB wf r1 c d := by
  subst hw
  exact ⟨((e0.two a b).two h01).1, (e1.set.set.two c d).1⟩
set_option maxHeartbeats 1600000 in
theorem draw_btw (L : List Int) (A : Option Addr) (c B : Nat) (w : World) (hs : Sl w B A (L.map (Value.int .u8))) (hB : B ≤ w.heap.size) (hu : ∀ z ∈ L, IntKind.u8.has z) (hl : L.length ≤ 1048576) :
    Calls Tryd.prog 17 #[.slice A L.length c] w fun e w' => ∃ x1 y1 x2 y2 i n : Int, (c1B x1 ∧ c1B y1) ∧ (c1B x2 ∧ c1B y2) ∧ (-1 ≤ i ∧ i ≤ 13) ∧ (-1 ≤ n ∧ n ≤ 1000001) ∧ e = .returned (.tuple #[.agg #[.int .i64 x1, .int .i64 y1], .agg #[.int .i64 x2, .int .i64 y2], .int .i64 i, .int .i64 n]) ∧ Below w.heap.size w w' := by
  obtain ⟨wa, hwa⟩ : ∃ wa, wa = (w.alloc (.cells #[.int .i64 0, .int .i64 0] 38)).alloc (.cells #[.int .i64 0, .int .i64 0] 38) := ⟨_, rfl⟩
  have hba : Below w.heap.size w wa := by rw [hwa]; go_grown
  have hE0 : Ey wa w.heap.size := by rw [hwa]; exact (Ey.new w 0 0 _).on (by go_grown)
  have hE1 : Ey wa (w.heap.size + 1) := by rw [hwa]; have := (Ey.new (w.alloc (.cells #[.int .i64 0, .int .i64 0] 38)) 0 0 38); simpa using this
  have hza : w.heap.size + 2 = wa.heap.size := by rw [hwa]; simp
  go_enter Tryd.func17, Tryd.ntmps17
  go_wp2_with fail
  rw [← hwa]
  clear hwa
  refine (src_from L _ _ B _ (hs.below (hba.mono hB)) (by omega) hu hl).mono ?_
  rintro e w0 ⟨rfl, hb1, hs1⟩
  obtain ⟨g, hg⟩ : ∃ g, wa.heap.size = g := ⟨_, rfl⟩
  rw [hg] at hs1
  have hz1 := hb1.size
  have hG0 := bnext hba hb1
  replace hE0 := hE0.on hb1
  replace hE1 := hE1.on hb1
  have hgl := hs1.2.1
  clear hba hb1
  go_wp2_with fail
  refine (src_bent B g 0 _ hs1 (by omega) (by omega)).mono ?_
  rintro e w1 ⟨x1, y1, hx1, hy1, rfl, hgn, hs2⟩
  have hG1 := hG0.grown hgn (by omega) (fun k e => by have := Option.some.inj e; omega)
  have hz2 := hgn.size
  replace hE0 := hE0.far hgn (fun e => by have := Option.some.inj e; omega)
  replace hE1 := hE1.far hgn (fun e => by have := Option.some.inj e; omega)
  have hP1 := Bp.new w1 x1 y1 38
  have hal : Below w1.heap.size w1 (w1.alloc (.cells #[.int .i64 x1, .int .i64 y1] 38)) := by go_grown
  obtain ⟨g1, hg1⟩ : ∃ g1, w1.heap.size = g1 := ⟨_, rfl⟩
  have hsz : g1 + 1 = (w1.alloc (.cells #[.int .i64 x1, .int .i64 y1] 38)).heap.size := by simp [hg1]
  clear hgn hG0 hs1
  go_wp2_with fail
  rw [hg1] at hP1
  refine (src_bent B g 18 _ (hs2.on hal) (by omega) (by omega)).mono ?_
  rintro e w2 ⟨x2, y2, hx2, hy2, rfl, hgn, hs3⟩
  have hG2 := (bnext hG1 hal).grown hgn (by omega) (fun k e => by have := Option.some.inj e; omega)
  have hz3 := hgn.size
  replace hE0 := (hE0.on hal).far hgn (fun e => by have := Option.some.inj e; omega)
  replace hE1 := (hE1.on hal).far hgn (fun e => by have := Option.some.inj e; omega)
  replace hP1 := hP1.far hgn (fun e => by have := Option.some.inj e; omega)
  have hP2 := Bp.new w2 x2 y2 38
  have hal2 : Below w2.heap.size w2 (w2.alloc (.cells #[.int .i64 x2, .int .i64 y2] 38)) := by go_grown
  obtain ⟨g2, hg2⟩ : ∃ g2, w2.heap.size = g2 := ⟨_, rfl⟩
  have hsz2 : g2 + 1 = (w2.alloc (.cells #[.int .i64 x2, .int .i64 y2] 38)).heap.size := by simp [hg2]
  clear hgn hG1 hs2 hal
  go_wp2_with fail
  rw [hg2] at hP2
  refine (src_pick B g 36 12 _ (by omega) (by omega) (hs3.on hal2) (by omega)).mono ?_
  rintro e w3 ⟨n0, hn0, rfl, hgn, hs4⟩
  have hG3 := (bnext hG2 hal2).grown hgn (by omega) (fun k e => by have := Option.some.inj e; omega)
  have hz4 := hgn.size
  replace hE0 := (hE0.on hal2).far hgn (fun e => by have := Option.some.inj e; omega)
  replace hE1 := (hE1.on hal2).far hgn (fun e => by have := Option.some.inj e; omega)
  replace hP1 := (hP1.on hal2).far hgn (fun e => by have := Option.some.inj e; omega)
  replace hP2 := hP2.far hgn (fun e => by have := Option.some.inj e; omega)
  clear hgn hG2 hs3 hal2
  go_wp2_with fail
  refine (src_pick B g 38 (n0 + 1 + 1) _ (by omega) (by omega) hs4 (by omega)).mono ?_
  rintro e w4 ⟨i0, hi0, rfl, hgn, hs5⟩
  have hG4 := hG3.grown hgn (by omega) (fun k e => by have := Option.some.inj e; omega)
  have hz5 := hgn.size
  replace hE0 := hE0.far hgn (fun e => by have := Option.some.inj e; omega)
  replace hE1 := hE1.far hgn (fun e => by have := Option.some.inj e; omega)
  replace hP1 := hP1.far hgn (fun e => by have := Option.some.inj e; omega)
  replace hP2 := hP2.far hgn (fun e => by have := Option.some.inj e; omega)
  clear hgn hG3 hs4
  go_wp2_with fail
  refine (src_pick B g 40 14 _ (by omega) (by omega) hs5 (by omega)).mono ?_
  rintro e w5 ⟨k0, hk0, rfl, hgn, hs6⟩
  have hG5 := hG4.grown hgn (by omega) (fun k e => by have := Option.some.inj e; omega)
  have hz6 := hgn.size
  replace hE0 := hE0.far hgn (fun e => by have := Option.some.inj e; omega)
  replace hE1 := hE1.far hgn (fun e => by have := Option.some.inj e; omega)
  replace hP1 := hP1.far hgn (fun e => by have := Option.some.inj e; omega)
  replace hP2 := hP2.far hgn (fun e => by have := Option.some.inj e; omega)
  clear hgn hG4 hs5
  rcases (by omega : k0 = 0 ∨ k0 = 1 ∨ 2 ≤ k0) with rfl | rfl | h2
  · go_wp2_with fail
    refine (src_among B g 42 w5.heap.size 0 4 [0, -1, 1000000, 1000001] _ (by simp) (by simp) (hs6.on (by go_grown)) (by omega) (by simp) (by omega) (fun j u hu => by rw [Nat.zero_add, World.cell?_alloc_new]; simpa using hu)).mono ?_
    rintro e w6 ⟨z, hmem, rfl, hgn, hs7⟩
    have hz : -1 ≤ z ∧ z ≤ 1000001 := by simp at hmem; omega
    have hb6 : Below w.heap.size w (w5.alloc (.cells #[.int .i64 0, .int .i64 (-1), .int .i64 1000000, .int .i64 1000001] 2)) := by go_grown
    have hG6 := hb6.grown hgn (by simp; omega) (fun k e => by have := Option.some.inj e; omega)
    replace hE0 := (hE0.on (by go_grown)).far hgn (fun e => by have := Option.some.inj e; omega)
    replace hE1 := (hE1.on (by go_grown)).far hgn (fun e => by have := Option.some.inj e; omega)
    replace hP1 := (hP1.on (by go_grown)).far hgn (fun e => by have := Option.some.inj e; omega)
    replace hP2 := (hP2.on (by go_grown)).far hgn (fun e => by have := Option.some.inj e; omega)
    clear hgn hs7 hs6 hG5 hb6 hmem
    obtain ⟨_, a0, a1⟩ := id hP1.1
    obtain ⟨_, b0, b1⟩ := id hP2.1
    obtain ⟨_, ⟨d0, d1⟩, d2, d3⟩ := id hE0
    obtain ⟨_, ⟨i0, i1⟩, i2, i3⟩ := id hE1
    have d0 := heldB_is d0
    have d1 := heldB_is d1
    have i0 := heldB_is i0
    have i1 := heldB_is i1
    go_wp2_with fail
    go_region
    refine then_at2 ?_
    intro wf hwf
    have hsix := four_out hE0 hE1 (by omega) (a := x1) (b := y1) (c := x2) (d := y2) rfl
    have hq : PtB wf w.heap.size x1 y1 ∧ PtB wf (w.heap.size + 1) x2 y2 := by rw [hwf]; exact ⟨hsix.1.drewB, hsix.2.drewB⟩
    have hBf : Below w.heap.size w wf := by rw [hwf]; exact ((((hG6.setCell (by simp) _).setCell (by simp) _).setCell (by simp) _).setCell (by simp) _).drew
    clear hwf hsix a0 a1 b0 b1 d0 d1 d2 d3 i0 i1 i2 i3
    obtain ⟨⟨_, t0, t1⟩, ⟨_, t2, t3⟩⟩ := hq
    go_wp2_with fail
    refine bodyPost_ret (by simp [results, Tryd.results17, go_sem, t0, t1, t2, t3]; try rfl) rfl ?_
    exact ⟨x1, y1, x2, y2, _, _, ⟨hx1, hy1⟩, ⟨hx2, hy2⟩, by omega, by omega, rfl, hBf⟩
  · go_wp2_with fail
    refine (src_among B g 42 w5.heap.size 0 3 [-1, n0 + 1, n0 + 1 + 1] _ (by simp) (by simp) (hs6.on (by go_grown)) (by omega) (by simp) (by omega) (fun j u hu => by rw [Nat.zero_add, World.cell?_alloc_new]; simpa using hu)).mono ?_
    rintro e w6 ⟨z, hmem, rfl, hgn, hs7⟩
    have hz : -1 ≤ z ∧ z ≤ 13 := by simp at hmem; omega
    have hb6 : Below w.heap.size w (w5.alloc (.cells #[.int .i64 (-1), .int .i64 (n0 + 1), .int .i64 (n0 + 1 + 1)] 2)) := by go_grown
    have hG6 := hb6.grown hgn (by simp; omega) (fun k e => by have := Option.some.inj e; omega)
    replace hE0 := (hE0.on (by go_grown)).far hgn (fun e => by have := Option.some.inj e; omega)
    replace hE1 := (hE1.on (by go_grown)).far hgn (fun e => by have := Option.some.inj e; omega)
    replace hP1 := (hP1.on (by go_grown)).far hgn (fun e => by have := Option.some.inj e; omega)
    replace hP2 := (hP2.on (by go_grown)).far hgn (fun e => by have := Option.some.inj e; omega)
    clear hgn hs7 hs6 hG5 hb6 hmem
    obtain ⟨_, a0, a1⟩ := id hP1.1
    obtain ⟨_, b0, b1⟩ := id hP2.1
    obtain ⟨_, ⟨d0, d1⟩, d2, d3⟩ := id hE0
    obtain ⟨_, ⟨i0, i1⟩, i2, i3⟩ := id hE1
    have d0 := heldB_is d0
    have d1 := heldB_is d1
    have i0 := heldB_is i0
    have i1 := heldB_is i1
    go_wp2_with fail
    go_region
    refine then_at2 ?_
    intro wf hwf
    have hsix := four_out hE0 hE1 (by omega) (a := x1) (b := y1) (c := x2) (d := y2) rfl
    have hq : PtB wf w.heap.size x1 y1 ∧ PtB wf (w.heap.size + 1) x2 y2 := by rw [hwf]; exact ⟨hsix.1.drewB, hsix.2.drewB⟩
    have hBf : Below w.heap.size w wf := by rw [hwf]; exact ((((hG6.setCell (by simp) _).setCell (by simp) _).setCell (by simp) _).setCell (by simp) _).drew
    clear hwf hsix a0 a1 b0 b1 d0 d1 d2 d3 i0 i1 i2 i3
    obtain ⟨⟨_, t0, t1⟩, ⟨_, t2, t3⟩⟩ := hq
    go_wp2_with fail
    refine bodyPost_ret (by simp [results, Tryd.results17, go_sem, t0, t1, t2, t3]; try rfl) rfl ?_
    exact ⟨x1, y1, x2, y2, _, _, ⟨hx1, hy1⟩, ⟨hx2, hy2⟩, by omega, by omega, rfl, hBf⟩
  · have t1 : (k0 == 0) = false := beq_eq_false_iff_ne.2 (by omega)
    have t2 : (k0 == 1) = false := beq_eq_false_iff_ne.2 (by omega)
    obtain ⟨_, a0, a1⟩ := id hP1.1
    obtain ⟨_, b0, b1⟩ := id hP2.1
    obtain ⟨_, ⟨d0, d1⟩, d2, d3⟩ := id hE0
    obtain ⟨_, ⟨i0, i1⟩, i2, i3⟩ := id hE1
    have d0 := heldB_is d0
    have d1 := heldB_is d1
    have i0 := heldB_is i0
    have i1 := heldB_is i1
    go_wp2_with fail
    go_region
    refine then_at2 ?_
    intro wf hwf
    have hsix := four_out hE0 hE1 (by omega) (a := x1) (b := y1) (c := x2) (d := y2) rfl
    have hq : PtB wf w.heap.size x1 y1 ∧ PtB wf (w.heap.size + 1) x2 y2 := by rw [hwf]; exact ⟨hsix.1.drewB, hsix.2.drewB⟩
    have hBf : Below w.heap.size w wf := by rw [hwf]; exact ((((hG5.setCell (by simp) _).setCell (by simp) _).setCell (by simp) _).setCell (by simp) _).drew
    clear hwf hsix a0 a1 b0 b1 d0 d1 d2 d3 i0 i1 i2 i3
    obtain ⟨⟨_, t0, t1⟩, ⟨_, t2, t3⟩⟩ := hq
    go_wp2_with fail
    refine bodyPost_ret (by simp [results, Tryd.results17, go_sem, t0, t1, t2, t3]; try rfl) rfl ?_
    exact ⟨x1, y1, x2, y2, _, _, ⟨hx1, hy1⟩, ⟨hx2, hy2⟩, by omega, by omega, rfl, hBf⟩
theorem infoPtN : (Tryd.prog.info? 38).map (fun i => (i.zero, i.size, i.bytes)) = some (some (.agg #[.int .i64 0, .int .i64 0]), 2, 16) := by kernel_rfl
def z2 : Array Value := #[.int .i64 0, .int .i64 0]
theorem made_zero (n : Nat) : ∀ (j : Nat) (u : Value), (flat RPoint.cells (List.replicate n (⟨0, 0⟩ : RPoint)))[j]? = some u → (madeCells z2 (n * 2))[j]? = some u := by
  intro j u hu
  have hl : (flat RPoint.cells (List.replicate n (⟨0, 0⟩ : RPoint))).length = n * 2 := by rw [flat_len RPoint.len, List.length_replicate]
  have hj : j < n * 2 := by rw [← hl]; exact (List.getElem?_eq_some_iff.1 hu).1
  have hm := List.mem_of_getElem? hu
  obtain ⟨a, ha, hx⟩ := List.mem_flatMap.1 hm
  obtain ⟨_, rfl⟩ := List.mem_replicate.1 ha
  have hu0 : u = .int .i64 0 := by simp [RPoint.cells] at hx; exact hx
  subst hu0
  rw [Array.getElem?_eq_getElem (by rw [size_madeCells]; exact hj)]
  simp only [madeCells, Array.getElem_map, Array.getElem_range]
  have e : j % z2.size = 0 ∨ j % z2.size = 1 := by change j % 2 = 0 ∨ j % 2 = 1; omega
  rcases e with e | e <;> rw [e] <;> rfl
theorem rs_made (w : World) (n : Nat) (t : TypeId) : Rs (w.alloc (.cells (madeCells z2 (n * 2)) t)) w.heap.size t 2 (.slice (some ⟨w.heap.size, 0, none⟩) n n) n (flat RPoint.cells (List.replicate n (⟨0, 0⟩ : RPoint))) := by
  refine ⟨by rw [flat_len RPoint.len, List.length_replicate], .inr ⟨_, _, n * 2, rfl, Nat.le_refl _, madeCells z2 (n * 2), heap_alloc_new w _, size_madeCells _ _, by rw [flat_len RPoint.len, List.length_replicate]; exact Nat.le_refl _, made_zero n⟩⟩
def c1L (P : List RPoint) : Prop := ∀ p ∈ P, c1B p.f0 ∧ c1B p.f1
set_option maxHeartbeats 3200000 in
theorem draw_near (L : List Int) (A : Option Addr) (c B : Nat) (w : World) (hs : Sl w B A (L.map (Value.int .u8))) (hB : B ≤ w.heap.size) (hu : ∀ z ∈ L, IntKind.u8.has z) (hl : L.length ≤ 1048576) :
    Calls Tryd.prog 24 #[.slice A L.length c] w fun e w' => ∃ (P : List RPoint) (v : Value) (x y : Int), (c1B x ∧ c1B y) ∧ c1L P ∧ P.length ≤ 65 ∧ e = .returned (.tuple #[v, .agg #[.int .i64 x, .int .i64 y]]) ∧ Below w.heap.size w w' ∧ Rs w' w.heap.size 38 2 v P.length (flat RPoint.cells P) := by
  obtain ⟨j0, hj, je0, je1, je2⟩ := info_parts infoPtN
  have hmk : ∀ (n : Nat) (w : World), n ≤ 1000 → (Instr.makeSlice 48 (.int .i64 (n : Int)) (.int .i64 (n : Int))).run Tryd.prog w = .ok (.slice (some ⟨w.heap.size, 0, none⟩) n n) (w.alloc (.cells (madeCells z2 (n * 2)) 38)) := fun n w hn => by
    have := run_make w 48 38 j0 _ Tryd.underlying48 hj je0 .i64 .i64 n n (by omega) (by omega) (by rw [je2]; omega) (by omega)
    have ec : (Value.agg #[.int .i64 0, .int .i64 0]).cells = z2 := rfl
    rw [je1, ec] at this
    simpa using this
  have hE0 := Ey.new w 0 0 38
  have hba : Below w.heap.size w (w.alloc (.cells #[.int .i64 0, .int .i64 0] 38)) := by go_grown
  go_enter Tryd.func24, Tryd.ntmps24
  go_wp2_with fail
  refine (src_from L _ _ B _ (hs.below (hba.mono hB)) (by simp; omega) hu hl).mono ?_
  rintro e w1 ⟨rfl, hb1, hs1⟩
  have hz1 := hb1.size
  simp only [World.size_alloc] at hs1 hz1
  have hB1 := bnext hba hb1
  replace hE0 := hE0.on hb1
  have hgl := hs1.2.1
  clear hba hb1
  have hal : Below w1.heap.size w1 (w1.alloc (.cells #[] 38)) := by go_grown
  have hO := (show (w1.alloc (.cells #[] 38)).ownsRow w1.heap.size 38 2 (.slice (some ⟨w1.heap.size, 0, none⟩) 0 0) 0 [] from World.ownsRow_made w1 #[] 0 (Nat.le_refl _) (Nat.zero_le _) rfl)
  go_wp2_with fail
  refine (src_pick B (w.heap.size + 1) 0 8 _ (by omega) (by omega) (hs1.on hal) (by omega)).mono ?_
  rintro e w2 ⟨k0, hk0, rfl, hgn, hs2⟩
  have hB2 := (bnext hB1 hal).grown hgn (by simp; omega) (fun k e => by have := Option.some.inj e; omega)
  have hE2 := (hE0.on hal).far hgn (fun e => by have := Option.some.inj e; omega)
  have hO2 := owns_far hO hgn (fun k e => by have := Option.some.inj e; omega)
  obtain ⟨bq, hbq⟩ : ∃ bq, w1.heap.size = bq := ⟨_, rfl⟩
  have hbq2 : w.heap.size + 1 < bq := by omega
  rw [hbq] at hO2
  clear hgn hB1 hal hO hE0 hs1 hs
  go_wp2_with fail
  try rw [hbq]
  clear hbq hz1 hgl
  go_loopw [5, 6] (fun lv kv wr => ∃ (n : Nat) (m : Int) (P : List RPoint) (A : Option Addr) (c : Nat), lv = .slice A n c ∧ kv = .int .i64 m ∧ 0 ≤ m ∧ P.length = n ∧ (n : Int) + m ≤ 7 ∧ Hid (c1L P) ∧ Below w.heap.size w wr ∧ SrcAt wr B (w.heap.size + 1) (2 + 18 * n) ∧ Ey wr w.heap.size ∧ bq ≤ wr.heap.size ∧ wr.ownsRow bq 38 2 (.slice A n c) n (flat RPoint.cells P)) (fun _ kv _ => (intOf kv).toNat)
  case atStart => exact ⟨0, k0, [], _, 0, rfl, rfl, hk0.1, rfl, by simp; omega, Lib.hid (fun p hp => by cases hp), hB2, hs2, hE2, by have := (hO2.lt bq rfl).2; omega, hO2⟩
  case round =>
    clear hO2 hE2 hB2 hs2
    obtain ⟨n, m, P, A1, c1, rfl, rfl, hm, hPl, hnm, hP, hBr, hS, hE, hbw, hO⟩ := hrel
    have hSz := hBr.size
    by_cases hmp : 0 < m
    · go_wp2_with fail
      refine (src_bent B (w.heap.size + 1) (2 + 18 * n) _ hS (by omega) (by omega)).mono ?_
      rintro e w4 ⟨x, y, hx, hy, rfl, hgn, hs4⟩
      have hB4 := hBr.grown hgn (by omega) (fun k e => by have := Option.some.inj e; omega)
      have hE4 := hE.far hgn (fun e => by have := Option.some.inj e; omega)
      have hO4 := owns_far hO hgn (fun k e => by have := Option.some.inj e; omega)
      have hz4 := hgn.size
      clear hgn hBr hE hO hS
      have hlg : n + 1 ≤ 1000 := by omega
      go_wp2_with (at_builtin; refine wpList_append_own _ rfl _ _ 48 rfl (bq) 38 j0 (.agg #[.int .i64 0, .int .i64 0]) 2 16 Tryd.underlying48 hj je0 je1 je2 rfl (by decide) _ _ _ rfl (hO4.alloc _) ⟨w4.heap.size, 0, none⟩ 1 1 [.int .i64 (x), .int .i64 (y)] rfl rfl ?ac1 ?ac2 ?ac3 ?ac4 ?ac5 ?_)
      try (case ac1 =>
          intro j u hj
          match j, hj with
          | 0, hj => simp at hj; subst hj; simp [Addr.add, *]
          | 1, hj => simp at hj; subst hj; simp [Addr.add, *])
      try (case ac2 => first | (intro u hu; simp at hu; rcases hu with rfl | rfl <;> rfl) | rfl | simp)
      case ac3 => unfold maxLen; omega
      case ac4 => omega
      case ac5 => first | omega | (simp; omega)
      intro v' w5 hO5 hg5 _
      have hg5' : (w4.alloc (.cells #[.int .i64 x, .int .i64 y] 38)).grownBy w5 (Value.slice A1 n c1).ownBlock := hg5
      have ha4 : Below w4.heap.size w4 (w4.alloc (.cells #[.int .i64 x, .int .i64 y] 38)) := by go_grown
      obtain ⟨A2, c2, rfl, _⟩ := (Rs.of_owns hO5).sl
      have hAq : ∀ k, (Value.slice A1 n c1).ownBlock = some k → bq ≤ k := fun k e => (hO4.lt k e).1
      have hAne : ∀ k, k < bq → (Value.slice A1 n c1).ownBlock ≠ some k := fun k hk e => by have := hAq k e; omega
      have hB5 := (bnext hB4 ha4).grown hg5' (by simp; omega) (fun k e => by have := hAq k e; omega)
      have hE5 := (hE4.on ha4).far hg5' (hAne _ (by omega))
      have hS5 := (hs4.on ha4).far (by simp; omega) hg5' (fun k e => ⟨by have := hAq k e; omega, by have := hAq k e; omega⟩)
      have hz5 := hg5'.size
      simp only [World.size_alloc] at hz5
      clear hg5 hg5' hAq hAne hB4 hE4 hs4 hO4 ha4
      go_wp2_with fail
      go_roundw
      case rel => exact ⟨n + 1, m - 1, P ++ [⟨x, y⟩], A2, c2, by go_num, by go_num, by omega, by rw [List.length_append, hPl]; rfl, by omega, Lib.hid (fun p hp => by rcases List.mem_append.1 hp with h | h; exact hP.out p h; (have h := List.mem_singleton.1 h; subst h; exact ⟨hx, hy⟩)), hB5, hS5.le (by omega) (by omega), hE5, by omega, by rw [flat_snoc]; exact hO5⟩
      case measure => simp [intOf]; omega
    · go_wp2_with fail
      refine (src_one B (w.heap.size + 1) (2 + 18 * n) 20 _ (by omega) (by omega) hS (by omega)).mono ?_
      rintro e w4 ⟨b, rfl, hgn, hs4⟩
      have hB4 := hBr.grown hgn (by omega) (fun k e => by have := Option.some.inj e; omega)
      have hE4 := hE.far hgn (fun e => by have := Option.some.inj e; omega)
      have hO4 := owns_far hO hgn (fun k e => by have := Option.some.inj e; omega)
      have hz4 := hgn.size
      have hR4 := (Rs.of_owns hO4).more (show w.heap.size ≤ bq by omega)
      have hne4 : ∀ k, (Value.slice A1 n c1).ownBlock = some k → bq ≤ k := fun k e => (hO4.lt k e).1
      clear hgn hBr hE hO hS hO4
      go_upto_if 22 with fail
      go_cut [5] (fun v wx => ∃ (Q : List RPoint) (wz : World) (K : Nat), wz = wx ∧ c1L Q ∧ Q.length ≤ 65 ∧ K ≤ 1000 ∧ Below w.heap.size w wz ∧ SrcAt wz B (w.heap.size + 1) K ∧ Ey wz w.heap.size ∧ Rs wz w.heap.size 38 2 v Q.length (flat RPoint.cells Q) ∧ (∀ k, v.ownBlock = some k → w.heap.size + 2 ≤ k))
      case first =>
        cases b
        · go_wp2_with fail
          go_meet
          exact ⟨P, _, _, rfl, hP.out, by omega, by omega, hB4, hs4, hE4, by rw [hPl]; exact hR4, fun k e => by have := hne4 k e; omega⟩
        · go_wp2_with fail
          refine (src_among B (w.heap.size + 1) (2 + 18 * n + 2) w4.heap.size 0 2 [64, 65] _ (by simp) (by simp) (hs4.on (by go_grown)) (by omega) (by simp) (by omega) (fun j u hu => by rw [Nat.zero_add, World.cell?_alloc_new]; simpa using hu)).mono ?_
          rintro e w6 ⟨z, hmem, rfl, hgn, hs7⟩
          have hb6 : Below w.heap.size w (w4.alloc (.cells #[.int .i64 64, .int .i64 65] 2)) := by go_grown
          have hB6 := hb6.grown hgn (by simp; omega) (fun k e => by have := Option.some.inj e; omega)
          have hE6 := (hE4.on (by go_grown)).far hgn (fun e => by have := Option.some.inj e; omega)
          have hz6 := hB6.size
          have hgz := hgn.size
          simp only [World.size_alloc] at hgz
          clear hgn hb6 hs4 hE4 hB4 hR4
          obtain ⟨q, hq, hq2⟩ : ∃ q : Nat, z = (q : Int) ∧ q ≤ 65 := by simp at hmem; rcases hmem with rfl | rfl; exact ⟨64, rfl, by omega⟩; exact ⟨65, rfl, by omega⟩
          subst hq
          have hmq := fun w => hmk q w (by omega)
          have hRm := rs_made w6 q 38
          clear hmk
          go_wp2_with fail
          go_meet
          refine ⟨List.replicate q ⟨0, 0⟩, _, _, rfl, fun p hp => ?_, by rw [List.length_replicate]; omega, ?_, bnext hB6 (by go_grown), hs7.on (by go_grown), hE6.on (by go_grown), ?_, fun k e => ?_⟩
          · obtain ⟨_, rfl⟩ := List.mem_replicate.1 hp
            exact ⟨⟨by simp, by simp⟩, ⟨by simp, by simp⟩⟩
          · omega
          · rw [List.length_replicate]; exact hRm.more (by omega)
          · have e' : w6.heap.size = k := Option.some.inj e
            omega
      case rest =>
        clear hB4 hs4 hE4 hR4
        obtain ⟨Q, w7, K, rfl, hQ, hQl, hK, hB7, hs7, hE7, hR7, hv7⟩ := hcut
        obtain ⟨A7, c7, rfl, _⟩ := hR7.sl
        have hz7 := hB7.size
        have hgl7 := hs7.2.1
        go_wp2_with fail
        refine (src_bent B (w.heap.size + 1) K _ hs7 (by omega) (by omega)).mono ?_
        rintro e w8 ⟨x, y, hx, hy, rfl, hgn, hs8⟩
        have hB8 := hB7.grown hgn (by omega) (fun k e => by have := Option.some.inj e; omega)
        have hE8 := hE7.far hgn (fun e => by have := Option.some.inj e; omega)
        have hR8 := hR7.far hgn (fun k e h => by have := hv7 k h; have := Option.some.inj e; omega)
        clear hgn hB7 hE7 hR7 hs7 hs8
        obtain ⟨_, ⟨d0, d1⟩, d2, d3⟩ := id hE8
        have d0 := heldB_is d0
        have d1 := heldB_is d1
        go_wp2_with fail
        refine end_atA ?_
        intro wf hwf
        obtain ⟨t0, t1⟩ : wf.cell? ⟨w.heap.size, 0, none⟩ = some (.int .i64 x) ∧ wf.cell? ⟨w.heap.size, 1, none⟩ = some (.int .i64 y) := by rw [hwf]; exact hE8.read _ _
        have hgf : w8.grownBy wf (some w.heap.size) := by rw [hwf]; exact grown_two _ _ _ _
        have hBf := hB8.grown hgf hB8.size (fun k e => by have := Option.some.inj e; omega)
        have hRf := hR8.far hgf (fun k e h => by have := hv7 k h; have := Option.some.inj e; omega)
        clear hwf
        refine bodyPost_ret (by simp [results, Tryd.results24, go_sem, t0, t1]; try rfl) rfl ?_
        exact ⟨Q, _, x, y, ⟨hx, hy⟩, hQ, hQl, rfl, hBf, hRf⟩
end Go.Proofs.YtbikppndhidbpaaDoor
