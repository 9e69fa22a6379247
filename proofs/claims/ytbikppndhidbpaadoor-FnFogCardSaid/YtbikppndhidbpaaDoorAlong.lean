/-
  Contracts of places along a line and of gates: the program's and the reference's. Under the conditions that each states.
-/
import Derived.Test.YtbikppndhidbpaaDoorLine
import Derived.Test.YtbikppndhidbpaaDoorGateM
import Derived.Test.YtbikppndhidbpaaDoorQt
import Derived.Deep.RegionHeld3
set_option linter.unusedVariables false
set_option linter.unnecessarySimpa false
set_option maxRecDepth 100000
set_option linter.unusedSimpArgs false
namespace Go.Proofs.YtbikppndhidbpaaDoor
open Go.RowKit BigFrame

theorem end_atA {P : Program} {f : Func} {post : Ending → World → Prop} {e : Exit} {a : Act} {W : World} (h : ∀ wf, wf = W → bodyPost P f post e a wf) : bodyPost P f post e a W := h W rfl
/-- Two cells that may be written. -/
def Ey (w : World) (g : Nat) : Prop := g < w.heap.size ∧ ((w.cell? ⟨g, 0, none⟩).isSome = true ∧ (w.cell? ⟨g, 1, none⟩).isSome = true) ∧ w.frozen? ⟨g, 0, none⟩ = false ∧ w.frozen? ⟨g, 1, none⟩ = false
theorem Ey.on {w w1 : World} {g : Nat} (h : Ey w g) (hb : Below w.heap.size w w1) : Ey w1 g := by
  obtain ⟨h1, ⟨h2, h3⟩, h4, h5⟩ := h
  obtain ⟨hc, hf⟩ := bcell hb
  exact ⟨Nat.lt_of_lt_of_le h1 hb.size, ⟨by rw [hc _ _ h1]; exact h2, by rw [hc _ _ h1]; exact h3⟩, (hf _ _ h1).trans h4, (hf _ _ h1).trans h5⟩
theorem Ey.set {w : World} {g k o : Nat} {v : Value} (h : Ey w g) : Ey (w.setCell ⟨k, o, none⟩ v) g := by
  obtain ⟨h1, ⟨h2, h3⟩, h4, h5⟩ := h
  refine ⟨by simpa using h1, ⟨?_, ?_⟩, by simpa [go_sem] using h4, by simpa [go_sem] using h5⟩
  · by_cases hk : (⟨k, o, none⟩ : Addr) = ⟨g, 0, none⟩
    · obtain ⟨u, hu⟩ := Option.isSome_iff_exists.1 h2
      rw [hk, World.cell?_setCell_same _ _ _ hu]; rfl
    · rw [World.cell?_setCell_other _ _ _ _ hk]; exact h2
  · by_cases hk : (⟨k, o, none⟩ : Addr) = ⟨g, 1, none⟩
    · obtain ⟨u, hu⟩ := Option.isSome_iff_exists.1 h3
      rw [hk, World.cell?_setCell_same _ _ _ hu]; rfl
    · rw [World.cell?_setCell_other _ _ _ _ hk]; exact h3
theorem Ey.read {w : World} {g : Nat} (h : Ey w g) (u v : Value) : ((w.setCell ⟨g, 0, none⟩ u).setCell ⟨g, 1, none⟩ v).cell? ⟨g, 0, none⟩ = some u ∧ ((w.setCell ⟨g, 0, none⟩ u).setCell ⟨g, 1, none⟩ v).cell? ⟨g, 1, none⟩ = some v := by
  obtain ⟨a, ha⟩ := Option.isSome_iff_exists.1 h.2.1.1
  obtain ⟨b, hb⟩ := Option.isSome_iff_exists.1 (h.set (k := g) (o := 0) (v := u)).2.1.2
  constructor
  · rw [World.cell?_setCell_other _ _ _ _ (fun e => by simp at e), World.cell?_setCell_same _ _ _ ha]
  · rw [World.cell?_setCell_same _ _ _ hb]
theorem Ey.new (w : World) (a b : Int) (t : TypeId) : Ey (w.alloc (.cells #[.int .i64 a, .int .i64 b] t)) w.heap.size := ⟨by simp, ⟨by simp, by simp⟩, by simp, by simp⟩
theorem PtB.on {w w1 : World} {g : Nat} {x y : Int} (h : PtB w g x y) (hb : Below w.heap.size w w1) : PtB w1 g x y := by
  obtain ⟨h1, h2, h3⟩ := h
  obtain ⟨hc, _⟩ := bcell hb
  exact ⟨Nat.lt_of_lt_of_le h1 hb.size, (hc _ _ h1).trans h2, (hc _ _ h1).trans h3⟩
theorem PtB.set {w : World} {g k o : Nat} {x y : Int} {v : Value} (h : PtB w g x y) (hne : k ≠ g) : PtB (w.setCell ⟨k, o, none⟩ v) g x y := by
  obtain ⟨h1, h2, h3⟩ := h
  refine ⟨by simpa using h1, ?_, ?_⟩
  · rw [World.cell?_setCell_other _ _ _ _ (fun e => hne (congrArg Addr.block e))]; exact h2
  · rw [World.cell?_setCell_other _ _ _ _ (fun e => hne (congrArg Addr.block e))]; exact h3
/-- Two points of a row and the result's variable, in a world that has grown. -/
def Pl (w : World) (b o1 o2 : Nat) (p a : RPoint) (w' : World) : Prop := Below w.heap.size w w' ∧ b < w.heap.size ∧ (w'.cell? ⟨b, o1, none⟩ = some (.int .i64 p.f0) ∧ w'.cell? ⟨b, o1 + 1, none⟩ = some (.int .i64 p.f1) ∧ w'.cell? ⟨b, o2, none⟩ = some (.int .i64 a.f0) ∧ w'.cell? ⟨b, o2 + 1, none⟩ = some (.int .i64 a.f1)) ∧ Ey w' w.heap.size
theorem Pl.on {w w1 w2 : World} {b o1 o2 : Nat} {p a : RPoint} (h : Pl w b o1 o2 p a w1) (hb : Below w1.heap.size w1 w2) : Pl w b o1 o2 p a w2 := by
  obtain ⟨h1, h2, ⟨c0, c1, c2, c3⟩, h4⟩ := h
  have hl := Nat.lt_of_lt_of_le h2 h1.size
  obtain ⟨hc, _⟩ := bcell hb
  exact ⟨bnext h1 hb, h2, ⟨(hc _ _ hl).trans c0, (hc _ _ hl).trans c1, (hc _ _ hl).trans c2, (hc _ _ hl).trans c3⟩, h4.on hb⟩
theorem Pl.drew {w w1 : World} {b o1 o2 : Nat} {p a : RPoint} (h : Pl w b o1 o2 p a w1) : Pl w b o1 o2 p a w1.drew := h.on ((Below.refl _ _).drew)
theorem Pl.set {w w1 : World} {b o1 o2 k : Nat} {p a : RPoint} {v : Value} (h : Pl w b o1 o2 p a w1) : Pl w b o1 o2 p a (w1.setCell ⟨w.heap.size, k, none⟩ v) := by
  obtain ⟨h1, h2, ⟨c0, c1, c2, c3⟩, h4⟩ := h
  have hne : ∀ o, (⟨w.heap.size, k, none⟩ : Addr) ≠ ⟨b, o, none⟩ := fun o e => by have := congrArg Addr.block e; simp at this; omega
  refine ⟨h1.setCell (by simp) _, h2, ⟨?_, ?_, ?_, ?_⟩, h4.set⟩
  · rw [World.cell?_setCell_other _ _ _ _ (hne _)]; exact c0
  · rw [World.cell?_setCell_other _ _ _ _ (hne _)]; exact c1
  · rw [World.cell?_setCell_other _ _ _ _ (hne _)]; exact c2
  · rw [World.cell?_setCell_other _ _ _ _ (hne _)]; exact c3
/-- Two points in variables and three results to be written, in a world that has grown. -/
def Al (w : World) (g1 g2 : Nat) (p a : RPoint) (w' : World) : Prop := Below w.heap.size w w' ∧ (w.heap.size + 3 < g1 ∧ w.heap.size + 3 < g2) ∧ PtB w' g1 p.f0 p.f1 ∧ PtB w' g2 a.f0 a.f1 ∧ Ey w' (w.heap.size + 1) ∧ Ey w' (w.heap.size + 2) ∧ Ey w' (w.heap.size + 3)
theorem Al.on {w w1 w2 : World} {g1 g2 : Nat} {p a : RPoint} (h : Al w g1 g2 p a w1) (hb : Below w1.heap.size w1 w2) : Al w g1 g2 p a w2 := by
  obtain ⟨h1, h2, h3, h4, h5, h6, h7⟩ := h
  exact ⟨bnext h1 hb, h2, h3.on hb, h4.on hb, h5.on hb, h6.on hb, h7.on hb⟩
theorem Al.drew {w w1 : World} {g1 g2 : Nat} {p a : RPoint} (h : Al w g1 g2 p a w1) : Al w g1 g2 p a w1.drew := h.on ((Below.refl _ _).drew)
theorem Al.set {w w1 : World} {g1 g2 i o : Nat} {p a : RPoint} {v : Value} (h : Al w g1 g2 p a w1) (hi : i ≤ 3) : Al w g1 g2 p a (w1.setCell ⟨w.heap.size + i, o, none⟩ v) := by
  obtain ⟨h1, h2, h3, h4, h5, h6, h7⟩ := h
  exact ⟨h1.setCell (by simp) _, h2, h3.set (by omega), h4.set (by omega), h5.set, h6.set, h7.set⟩
theorem Al.sets {w w1 : World} {g1 g2 : Nat} {p a : RPoint} {u v : Value} (h : Al w g1 g2 p a w1) (i : Nat) (hi : i ≤ 3) : Al w g1 g2 p a ((w1.setCell ⟨w.heap.size + i, 0, none⟩ u).setCell ⟨w.heap.size + i, 1, none⟩ v) := (h.set hi).set hi
theorem Al.s {w w1 : World} {g1 g2 : Nat} {p a : RPoint} (h : Al w g1 g2 p a w1) : (Al w g1 g2 p a w1 ∧ (w1).cell? ⟨g1, 0, none⟩ = some (.int .i64 p.f0) ∧ (w1).cell? ⟨g1, 1, none⟩ = some (.int .i64 p.f1) ∧ (w1).cell? ⟨g2, 0, none⟩ = some (.int .i64 a.f0) ∧ (w1).cell? ⟨g2, 1, none⟩ = some (.int .i64 a.f1) ∧ (w1).cell? ⟨w.heap.size + 1, 0, none⟩ = some (heldB w1 (w.heap.size + 1) 0) ∧ (w1).cell? ⟨w.heap.size + 1, 1, none⟩ = some (heldB w1 (w.heap.size + 1) 1) ∧ (w1).frozen? ⟨w.heap.size + 1, 0, none⟩ = false ∧ (w1).frozen? ⟨w.heap.size + 1, 1, none⟩ = false ∧ (w1).cell? ⟨w.heap.size + 2, 0, none⟩ = some (heldB w1 (w.heap.size + 2) 0) ∧ (w1).cell? ⟨w.heap.size + 2, 1, none⟩ = some (heldB w1 (w.heap.size + 2) 1) ∧ (w1).frozen? ⟨w.heap.size + 2, 0, none⟩ = false ∧ (w1).frozen? ⟨w.heap.size + 2, 1, none⟩ = false ∧ (w1).cell? ⟨w.heap.size + 3, 0, none⟩ = some (heldB w1 (w.heap.size + 3) 0) ∧ (w1).cell? ⟨w.heap.size + 3, 1, none⟩ = some (heldB w1 (w.heap.size + 3) 1) ∧ (w1).frozen? ⟨w.heap.size + 3, 0, none⟩ = false ∧ (w1).frozen? ⟨w.heap.size + 3, 1, none⟩ = false) := by
  obtain ⟨h1, h2, h3, h4, h5, h6, h7⟩ := id h
  exact ⟨h, h3.2.1, h3.2.2, h4.2.1, h4.2.2, heldB_is h5.2.1.1, heldB_is h5.2.1.2, h5.2.2.1, h5.2.2.2, heldB_is h6.2.1.1, heldB_is h6.2.1.2, h6.2.2.1, h6.2.2.2, heldB_is h7.2.1.1, heldB_is h7.2.1.2, h7.2.2.1, h7.2.2.2⟩
theorem Al.read {w w1 : World} {g1 g2 : Nat} {p a : RPoint} (h : Al w g1 g2 p a w1) (u1 v1 u2 v2 u3 v3 : Value) {wf : World} (hwf : wf = (((((w1.setCell ⟨w.heap.size + 1, 0, none⟩ u1).setCell ⟨w.heap.size + 1, 1, none⟩ v1).setCell ⟨w.heap.size + 2, 0, none⟩ u2).setCell ⟨w.heap.size + 2, 1, none⟩ v2).setCell ⟨w.heap.size + 3, 0, none⟩ u3).setCell ⟨w.heap.size + 3, 1, none⟩ v3) :
    (wf.cell? ⟨w.heap.size + 1, 0, none⟩ = some u1 ∧ wf.cell? ⟨w.heap.size + 1, 1, none⟩ = some v1 ∧ wf.cell? ⟨w.heap.size + 2, 0, none⟩ = some u2 ∧ wf.cell? ⟨w.heap.size + 2, 1, none⟩ = some v2 ∧ wf.cell? ⟨w.heap.size + 3, 0, none⟩ = some u3 ∧ wf.cell? ⟨w.heap.size + 3, 1, none⟩ = some v3) ∧ Below w.heap.size w wf := by
  have k1 := h.2.2.2.2.1.read u1 v1
  have h' := h.sets (u := u1) (v := v1) 1 (by omega)
  have k2 := h'.2.2.2.2.2.1.read u2 v2
  have h'' := h'.sets (u := u2) (v := v2) 2 (by omega)
  have k3 := h''.2.2.2.2.2.2.read u3 v3
  have h3 := h''.sets (u := u3) (v := v3) 3 (by omega)
  subst hwf
  have hne : ∀ (i j o o' : Nat), i ≠ j → (⟨w.heap.size + i, o, none⟩ : Addr) ≠ ⟨w.heap.size + j, o', none⟩ := fun i j o o' hij e => by have := congrArg Addr.block e; simp at this; omega
  refine ⟨⟨?_, ?_, ?_, ?_, k3.1, k3.2⟩, h3.1⟩
  · rw [World.cell?_setCell_other _ _ _ _ (hne 3 1 _ _ (by omega)), World.cell?_setCell_other _ _ _ _ (hne 3 1 _ _ (by omega)), World.cell?_setCell_other _ _ _ _ (hne 2 1 _ _ (by omega)), World.cell?_setCell_other _ _ _ _ (hne 2 1 _ _ (by omega))]; exact k1.1
  · rw [World.cell?_setCell_other _ _ _ _ (hne 3 1 _ _ (by omega)), World.cell?_setCell_other _ _ _ _ (hne 3 1 _ _ (by omega)), World.cell?_setCell_other _ _ _ _ (hne 2 1 _ _ (by omega)), World.cell?_setCell_other _ _ _ _ (hne 2 1 _ _ (by omega))]; exact k1.2
  · rw [World.cell?_setCell_other _ _ _ _ (hne 3 2 _ _ (by omega)), World.cell?_setCell_other _ _ _ _ (hne 3 2 _ _ (by omega))]; exact k2.1
  · rw [World.cell?_setCell_other _ _ _ _ (hne 3 2 _ _ (by omega)), World.cell?_setCell_other _ _ _ _ (hne 3 2 _ _ (by omega))]; exact k2.2
theorem along_all {P : List RPoint} {d : Int} {k : Nat} {r : Int} (hkr : fndM P d = (k, r)) : placeM P d = partM P k r := by unfold placeM; rw [hkr]
set_option maxHeartbeats 3200000 in
theorem impl_along (s : ByteArray) (P : List RPoint) (A : Option Addr) (c B : Nat) (wd d : Int) (w : World) (hP : Sl w B A (flat RPoint.cells P)) (hB : B ≤ w.heap.size) (hl : P.length ≤ 1048576) (h2 : 2 ≤ P.length) (hvl : vLine P = true) (hd : 0 ≤ d ∧ d ≤ lenM P) :
    Calls Tryd.prog 96 #[.agg #[.string s, .slice A P.length c, .int .i64 wd], .int .i64 d] w fun e w' => e = .returned (.tuple #[.agg #[.int .i64 (placeM P d).1, .int .i64 (placeM P d).2], .agg #[.int .i64 (P.getD (fndM P d).1 default).f0, .int .i64 (P.getD (fndM P d).1 default).f1], .agg #[.int .i64 (P.getD ((fndM P d).1 + 1) default).f0, .int .i64 (P.getD ((fndM P d).1 + 1) default).f1]]) ∧ Below w.heap.size w w' := by
  obtain ⟨b, o, rfl, hbB, _⟩ := Sl.elem RPoint.len (by decide) hP (show 0 < P.length by omega)
  have hP' := Lib.hid hP
  have hvl' := Lib.hid hvl
  have hLb := (len_bd hvl (k := P.length - 1) (by omega)).2
  obtain ⟨k, r, hkr⟩ : ∃ k r, fndM P d = (k, r) := ⟨_, _, rfl⟩
  have hall := Lib.hid (along_all hkr)
  rw [hkr]
  have hS : Hid (fndN P (P.length - 2 - 0) 0 d = (k, r)) := Lib.hid hkr
  have hL : Hid (d ≤ lenTo P (P.length - 1) - lenTo P 0) := Lib.hid (by have := hd.2; unfold lenM at this; rw [lenTo]; omega)
  have hd0 := hd.1
  have hZ0 := Lib.hid (Cz.new w s (some ⟨b, o, none⟩) P.length c wd 71)
  generalize placeM P d = V at hall ⊢
  clear hP hvl hkr hd
  go_enter Tryd.func96, Tryd.ntmps96
  go_wp2
  have hal : ∀ wz, wz = (((w.alloc (.cells #[.string s, .slice (some ⟨b, o, none⟩) P.length c, .int .i64 wd] 71)).alloc (.cells #[.int .i64 0, .int .i64 0] 38)).alloc (.cells #[.int .i64 0, .int .i64 0] 38)).alloc (.cells #[.int .i64 0, .int .i64 0] 38) → Below w.heap.size w wz ∧ Cz wz w.heap.size s (some ⟨b, o, none⟩) P.length c wd ∧ Ey wz (w.heap.size + 1) ∧ Ey wz (w.heap.size + 2) ∧ Ey wz (w.heap.size + 3) := fun wz hz => by
    subst hz
    refine ⟨by go_grown, hZ0.out.on (by go_grown), ⟨by simp, ⟨by simp [go_sem], by simp [go_sem]⟩, by simp [go_sem], by simp [go_sem]⟩, ⟨by simp, ⟨by simp [go_sem], by simp [go_sem]⟩, by simp [go_sem], by simp [go_sem]⟩, ⟨by simp, ⟨by simp [go_sem], by simp [go_sem]⟩, by simp [go_sem], by simp [go_sem]⟩⟩
  obtain ⟨a1, a2, a3, a4, a5⟩ := hal _ rfl
  clear hal hZ0
  go_loopw [1, 7] (fun dv i wr => ∃ (q : Nat) (z : Int), dv = .int .i64 z ∧ i = .int .i64 ((q : Int) + 1) ∧ Hid (fndN P (P.length - 2 - q) q z = (k, r)) ∧ Hid (z ≤ lenTo P (P.length - 1) - lenTo P q) ∧ 0 ≤ z ∧ q + 1 < P.length ∧ Below w.heap.size w wr ∧ Cz wr w.heap.size s (some ⟨b, o, none⟩) P.length c wd ∧ Ey wr (w.heap.size + 1) ∧ Ey wr (w.heap.size + 2) ∧ Ey wr (w.heap.size + 3)) (fun _ i _ => P.length + 1 - (intOf i).toNat)
  case atStart => exact ⟨0, d, rfl, by go_num, hS, hL, hd0, by omega, a1, a2, a3, a4, a5⟩
  case round =>
    clear hS hL a1 a2 a3 a4 a5
    obtain ⟨m, z, rfl, rfl, hS, hL, hz0, hlt, hB1, hZ, y1, y2, y3⟩ := hrel
    have hS1 := hB1.size
    have hzb : z ≤ 300000000000 := by
      have h1 := hL.out
      have h3 := (len_bd hvl'.out (show P.length - 1 ≤ 1048576 by omega)).2
      have h4 := (len_bd hvl'.out (show m ≤ 1048576 by omega)).1
      omega
    obtain ⟨hzl, hc0, hc1, hc2⟩ := id hZ
    obtain ⟨b1, o1, e1, hb, he⟩ := Sl.elem RPoint.len (by decide) (hP'.out.below (hB1.mono hB)) hlt
    cases e1
    have hg := Lib.hid (getD_at hlt)
    obtain ⟨a, ha⟩ : ∃ a, P[m + 1] = a := ⟨_, rfl⟩
    rw [ha] at hg he
    clear ha
    have d0 : wr.cell? ⟨b, o + (m + 1) * 2, none⟩ = some (.int .i64 a.f0) := by have := he 0 _ rfl; simpa [Nat.add_assoc] using this
    have d1 : wr.cell? ⟨b, o + (m + 1) * 2 + 1, none⟩ = some (.int .i64 a.f1) := by have := he 1 _ rfl; simpa [Nat.add_assoc] using this
    clear he
    obtain ⟨b2, o2, e2, hb2, he2⟩ := Sl.elem RPoint.len (by decide) (hP'.out.below (hB1.mono hB)) (show m < P.length by omega)
    cases e2
    have hp := Lib.hid (getD_at (show m < P.length by omega))
    obtain ⟨p, hp'⟩ : ∃ p, P[m] = p := ⟨_, rfl⟩
    rw [hp'] at hp he2
    clear hp'
    have n0 : wr.cell? ⟨b, o + m * 2, none⟩ = some (.int .i64 p.f0) := by have := he2 0 _ rfl; simpa [Nat.add_assoc] using this
    have n1 : wr.cell? ⟨b, o + m * 2 + 1, none⟩ = some (.int .i64 p.f1) := by have := he2 1 _ rfl; simpa [Nat.add_assoc] using this
    clear he2
    have hseg := Lib.hid (seg_is hp.out hg.out)
    have hva := vPoint_yes (line_pt hvl'.out hg.out hlt)
    have hvp := vPoint_yes (line_pt hvl'.out hp.out (by omega))
    have hbw : b < wr.heap.size := by omega
    have hdb := dist_le hvp.1 hvp.2 hva.1 hva.2
    have hn0 := distM_nonneg p.f0 p.f1 a.f0 a.f1
    have hq := fun w => impl_Distance p.f0 p.f1 a.f0 a.f1 w hvp.1 hvp.2 hva.1 hva.2
    generalize distM p.f0 p.f1 a.f0 a.f1 = n at hseg hdb hn0 hq
    by_cases hzn : n < z
    · have hlt2 : m + 2 < P.length := by
        rcases (by omega : m + 2 < P.length ∨ m + 2 = P.length) with h | h
        · exact h
        · have h1 := hL.out
          rw [show P.length - 1 = m + 1 by omega, lenTo, hseg.out] at h1
          omega
      have hS2 : Hid (fndN P (P.length - 2 - (m + 1)) (m + 1) (z - n) = (k, r)) := Lib.hid (by
        have h1 := hS.out
        rw [show P.length - 2 - m = (P.length - 2 - (m + 1)) + 1 by omega, fnd_go hseg.out (by omega)] at h1
        exact h1)
      have hL2 : Hid (z - n ≤ lenTo P (P.length - 1) - lenTo P (m + 1)) := Lib.hid (by have h1 := hL.out; rw [show lenTo P (m + 1) = lenTo P m + segD P m from rfl, hseg.out]; omega)
      go_wp2_with fail
      refine wp_region_grew (by kernel_rfl) (by kernel_rfl) ?_
      repeat (first | (go_big_quiet_step ((go_at_call 19; exact grew_of (hq _)))) | (quiet_step ((go_at_call 19; exact grew_of (hq _)))))
      refine wpQuiet_nil ?_
      rintro w9 ⟨⟨w8, hb9⟩, rfl⟩
      try dsimp only
      obtain ⟨hc9, hf9⟩ := bcell hb9
      have hB9 := bnext hB1 hb9
      have hZ9 := hZ.on hb9
      have x1 := y1.on hb9
      have x2 := y2.on hb9
      have x3 := y3.on hb9
      obtain ⟨hzl9, z0, z1, z2⟩ := id hZ9
      have m0 := cell_onN hb9 n0 hbw
      have m1 := cell_onN hb9 n1 hbw
      have m2 := cell_onN hb9 d0 hbw
      have m3 := cell_onN hb9 d1 hbw
      have hbw9 : b < w9.heap.size := Nat.lt_of_lt_of_le hbw hb9.size
      clear hc9 hf9 hb9 n0 n1 d0 d1 hc0 hc1 hc2 hZ y1 y2 y3
      go_wp2_with fail
      refine wp_region_grew (by kernel_rfl) (by kernel_rfl) ?_
      repeat (first | (go_big_quiet_step ((go_at_call 19; exact grew_of (hq _)))) | (quiet_step ((go_at_call 19; exact grew_of (hq _)))))
      refine wpQuiet_nil ?_
      rintro w10 ⟨⟨w8, hb10⟩, rfl⟩
      try dsimp only
      obtain ⟨hc10, hf10⟩ := bcell hb10
      have hB10 := bnext hB9 hb10
      have hZ10 := hZ9.on hb10
      have v1 := x1.on hb10
      have v2 := x2.on hb10
      have v3 := x3.on hb10
      clear hc10 hf10 hb10 m0 m1 m2 m3 z0 z1 z2
      go_wp2
      go_roundw
      case rel => exact ⟨m + 1, _, rfl, by go_num, hS2, hL2, by omega, by omega, hB10, hZ10, v1, v2, v3⟩
      case measure => simp [intOf]; omega
    · have hfin := hS.out.symm.trans (fnd_stop hseg.out hzn)
      obtain ⟨rfl, rfl⟩ : k = m ∧ r = z := by injection hfin with e1 e2; exact ⟨e1, e2⟩
      clear hfin hS hL
      have hbt := fun w => impl_btw p.f0 p.f1 a.f0 a.f1 r n w (by omega) (by omega) (by omega) (by omega) ⟨hz0, by omega⟩ (by have := line_ne hvl'.out hlt; rw [hseg.out] at this; omega)
      have hV : Hid (V = btwM p.f0 p.f1 a.f0 a.f1 r n) := Lib.hid (by rw [hall.out]; unfold partM; rw [hp.out, hg.out, hseg.out])
      generalize btwM p.f0 p.f1 a.f0 a.f1 r n = X at hbt hV
      go_wp2_with fail
      refine wp_region_grew (by kernel_rfl) (by kernel_rfl) ?_
      repeat (first | (go_big_quiet_step ((go_at_call 19; exact grew_of (hq _)))) | (quiet_step ((go_at_call 19; exact grew_of (hq _)))))
      refine wpQuiet_nil ?_
      rintro w9 ⟨⟨w8, hb9⟩, rfl⟩
      try dsimp only
      obtain ⟨hc9, hf9⟩ := bcell hb9
      have hB9 := bnext hB1 hb9
      have hZ9 := hZ.on hb9
      have x1 := y1.on hb9
      have x2 := y2.on hb9
      have x3 := y3.on hb9
      obtain ⟨hzl9, z0, z1, z2⟩ := id hZ9
      have m0 := cell_onN hb9 n0 hbw
      have m1 := cell_onN hb9 n1 hbw
      have m2 := cell_onN hb9 d0 hbw
      have m3 := cell_onN hb9 d1 hbw
      have hbw9 : b < w9.heap.size := Nat.lt_of_lt_of_le hbw hb9.size
      clear hc9 hf9 hb9 n0 n1 d0 d1 hc0 hc1 hc2 hZ y1 y2 y3
      go_upto_region 5 with fail
      go_cut [8, 9] (fun u v wx => ∃ g1 g2 wz, wz = wx ∧ u = .pointer (some ⟨g1, 0, none⟩) ∧ v = .pointer (some ⟨g2, 0, none⟩) ∧ Below w9.heap.size w9 wz ∧ (w.heap.size + 3 < g1 ∧ w.heap.size + 3 < g2) ∧ PtB wz g1 p.f0 p.f1 ∧ PtB wz g2 a.f0 a.f1)
      case first =>
        go_region
        all_goals go_wp2_with fail
        all_goals go_meet
        all_goals exact ⟨_, _, _, rfl, rfl, rfl, by go_grown, ⟨by have := x3.1; omega, by have := x3.1; omega⟩, ⟨by simp only [World.size_alloc, World.size_drew]; omega, by simp [go_sem], by simp [go_sem]⟩, ⟨by simp only [World.size_alloc, World.size_drew]; omega, by simp [go_sem], by simp [go_sem]⟩⟩
      case rest =>
        obtain ⟨g1, g2, wx, rfl, rfl, rfl, hbx, hg12, hp1, hp2⟩ := hcut
        have hBx := bnext hB9 hbx
        replace x1 := x1.on hbx
        replace x2 := x2.on hbx
        replace x3 := x3.on hbx
        have hm : Al w g1 g2 p a wx := ⟨hBx, hg12, hp1, hp2, x1, x2, x3⟩
        clear hZ9 z0 z1 z2 m0 m1 m2 m3 hbx
        have hnn : n ≤ 1000000 := by omega
        go_wp2_with fail
        obtain ⟨_, i0, i1, j0, j1, e0, e1, f0, f1, e2, e3, f2, f3, e4, e5, f4, f5⟩ := Al.s hm
        go_region_held3 (fun w' => (Al w g1 g2 p a w' ∧ (w').cell? ⟨g1, 0, none⟩ = some (.int .i64 p.f0) ∧ (w').cell? ⟨g1, 1, none⟩ = some (.int .i64 p.f1) ∧ (w').cell? ⟨g2, 0, none⟩ = some (.int .i64 a.f0) ∧ (w').cell? ⟨g2, 1, none⟩ = some (.int .i64 a.f1) ∧ (w').cell? ⟨w.heap.size + 1, 0, none⟩ = some (heldB w' (w.heap.size + 1) 0) ∧ (w').cell? ⟨w.heap.size + 1, 1, none⟩ = some (heldB w' (w.heap.size + 1) 1) ∧ (w').frozen? ⟨w.heap.size + 1, 0, none⟩ = false ∧ (w').frozen? ⟨w.heap.size + 1, 1, none⟩ = false ∧ (w').cell? ⟨w.heap.size + 2, 0, none⟩ = some (heldB w' (w.heap.size + 2) 0) ∧ (w').cell? ⟨w.heap.size + 2, 1, none⟩ = some (heldB w' (w.heap.size + 2) 1) ∧ (w').frozen? ⟨w.heap.size + 2, 0, none⟩ = false ∧ (w').frozen? ⟨w.heap.size + 2, 1, none⟩ = false ∧ (w').cell? ⟨w.heap.size + 3, 0, none⟩ = some (heldB w' (w.heap.size + 3) 0) ∧ (w').cell? ⟨w.heap.size + 3, 1, none⟩ = some (heldB w' (w.heap.size + 3) 1) ∧ (w').frozen? ⟨w.heap.size + 3, 0, none⟩ = false ∧ (w').frozen? ⟨w.heap.size + 3, 1, none⟩ = false)) (first | (with_reducible assumption) | (with_reducible exact Al.s (Al.drew hm)) | (with_reducible exact Al.s hm3) | (with_reducible exact Al.s (Al.sets hm3 1 (by omega))) | (with_reducible exact Al.s (Al.sets (Al.sets hm3 1 (by omega)) 2 (by omega))) | (with_reducible exact Al.s (Al.sets (Al.sets (Al.sets hm3 1 (by omega)) 2 (by omega)) 3 (by omega)))) (first | (go_at_call 19; refine (hq _).mono ?_; rintro e w10 ⟨rfl, hb10⟩; (have hm2 := Al.on (Al.drew hm) hb10); (have hs2 := Al.s hm2)) | (go_at_call 62; refine (hbt _).mono ?_; rintro e w11 ⟨rfl, hb11⟩; (have hm3 := Al.on hm2 hb11); (have hs3 := Al.s hm3)))
        go_wp2
        refine end_atA ?_
        intro wf hwf
        obtain ⟨⟨t0, t1, t2, t3, t4, t5⟩, hBf⟩ := Al.read hm3 _ _ _ _ _ _ hwf
        have t2' : wf.cell? ⟨w.heap.size + 1 + 1, 0, none⟩ = some (.int .i64 p.f0) := t2
        have t3' : wf.cell? ⟨w.heap.size + 1 + 1, 1, none⟩ = some (.int .i64 p.f1) := t3
        have t4' : wf.cell? ⟨w.heap.size + 1 + 1 + 1, 0, none⟩ = some (.int .i64 a.f0) := t4
        have t5' : wf.cell? ⟨w.heap.size + 1 + 1 + 1, 1, none⟩ = some (.int .i64 a.f1) := t5
        clear hwf
        refine bodyPost_ret (by simp [results, Tryd.results96, go_sem, t0, t1, t2', t3', t4', t5']; try rfl) rfl ?_
        exact ⟨by simp only [hp.out, hg.out, hV.out], hBf⟩
end Go.Proofs.YtbikppndhidbpaaDoor
