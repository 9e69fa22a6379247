/-
  Contract of the channel that a law's bytes choose. Under the conditions that it states.
-/
import Derived.Test.YtbikppndhidbpaaDoorR8C
set_option linter.unusedVariables false
set_option linter.unnecessarySimpa false
set_option maxRecDepth 100000
set_option linter.unusedSimpArgs false
namespace Go.Proofs.YtbikppndhidbpaaDoor
open Go.RowKit BigFrame

def names3 : List ByteArray := [⟨#[109, 97, 105, 110]⟩, ⟨#[110, 111, 114, 116, 104]⟩, ⟨#[105, 110, 110, 101, 114]⟩]
theorem names3_ok : ∀ nm ∈ names3, nameM nm = true ∧ nm.size ≤ 10 := by decide
theorem infoPtR : (Tryd.prog.info? 38).map (fun i => (i.zero, i.size, i.bytes)) = some (some (.agg #[.int .i64 0, .int .i64 0]), 2, 16) := by kernel_rfl
theorem keep_c {a b : World} {p o : Nat} {u : Value} (h : a.cell? ⟨p, o, none⟩ = some u) (hp : p < a.heap.size) (hb : Below a.heap.size a b) : b.cell? ⟨p, o, none⟩ = some u := ((bcell hb).1 p o hp).trans h
theorem two_keepR {w : World} {g k o : Nat} {u v z : Value} (hne : k ≠ g) (h : w.cell? ⟨g, o, none⟩ = some z) : ((w.setCell ⟨k, 0, none⟩ u).setCell ⟨k, 1, none⟩ v).cell? ⟨g, o, none⟩ = some z := by
  rw [World.cell?_setCell_other _ _ _ _ (fun e => hne (congrArg Addr.block e)), World.cell?_setCell_other _ _ _ _ (fun e => hne (congrArg Addr.block e))]; exact h
theorem grown_two (w : World) (k : Nat) (u v : Value) : w.grownBy ((w.setCell ⟨k, 0, none⟩ u).setCell ⟨k, 1, none⟩ v) (some k) := Go.Lib.grownBy_setB (Go.Lib.grownBy_setB (World.grownBy.refl w (some k)) 0 u) 1 v
theorem grown_new {a w w' : World} {g k : Nat} (h : a.grownBy w (some g)) (hg : w.grownBy w' (some k)) (hk : a.heap.size ≤ k) : a.grownBy w' (some g) :=
  ⟨hg.os.trans h.os, hg.tape.trans h.tape, hg.output.trans h.output, Nat.le_trans h.size hg.size, fun j hj hne => (hg.block j (Nat.lt_of_lt_of_le hj h.size) (fun e => by have := Option.some.inj e; omega)).trans (h.block j hj hne)⟩
theorem keep_one {w : World} {g k i o : Nat} {u z : Value} (hne : k ≠ g) (h : w.cell? ⟨g, o, none⟩ = some z) : (w.setCell ⟨k, i, none⟩ u).cell? ⟨g, o, none⟩ = some z := by
  rw [World.cell?_setCell_other _ _ _ _ (fun e => hne (congrArg Addr.block e))]; exact h
theorem thenB {K : Act → World → Prop} {Q : Exit → Act → World → Prop} {a : Act} {W : World} (h : ∀ wf, wf = W → Exit.then K Q .normal a wf) : Exit.then K Q .normal a W := h W rfl
theorem owns_ne {w w' : World} {B : Nat} {e : TypeId} {sz : Nat} {v : Value} {n : Nat} {xs : List Value} {row : Option Nat} (h : w.ownsRow B e sz v n xs) (hg : w.grownBy w' row) (hne : ∀ k, v.ownBlock = some k → row ≠ some k) : w'.ownsRow B e sz v n xs := by
  refine World.ownsRow.kept h hg ?_
  cases hv : v.ownBlock with
  | none => exact .inl rfl
  | some k => exact .inr (fun e2 => hne k hv e2.symm)
theorem grown_row {a w w' : World} {g : Nat} {row : Option Nat} (h : a.grownBy w (some g)) (hg : w.grownBy w' row) (hk : ∀ k, row = some k → a.heap.size ≤ k) : a.grownBy w' (some g) :=
  ⟨hg.os.trans h.os, hg.tape.trans h.tape, hg.output.trans h.output, Nat.le_trans h.size hg.size, fun j hj hne => (hg.block j (Nat.lt_of_lt_of_le hj h.size) (fun e => by have := hk j e.symm; omega)).trans (h.block j hj hne)⟩
theorem ey_new {w w' : World} {g : Nat} {a b : Int} {t : TypeId} (hg : ((w.alloc (.cells #[.int .i64 a, .int .i64 b] t)).drew).grownBy w' (some g)) (hne : (some g : Option Nat) ≠ some w.heap.size) : Ey w' w.heap.size := ((Ey.new w a b t).on ((Below.refl _ _).drew)).far hg hne
theorem Ey.pt {w : World} {g : Nat} (h : Ey w g) (u v : Int) : PtB ((w.setCell ⟨g, 0, none⟩ (.int .i64 u)).setCell ⟨g, 1, none⟩ (.int .i64 v)) g u v := ⟨by simpa using h.1, h.read _ _⟩
theorem owns_nil' (w : World) (B : Nat) (e : TypeId) (sz : Nat) : w.ownsRow B e sz (.slice none 0 0) 0 [] := ⟨by simp, .inl ⟨rfl, rfl⟩⟩
set_option maxHeartbeats 6400000 in
theorem src_chan (B g : Nat) (w : World) (hs : SrcAt w B g 0) (hBw : B ≤ w.heap.size) :
    Calls Tryd.prog 91 #[.pointer (some ⟨g, 0, none⟩)] w fun e w' => ∃ nm v P wd, e = .returned (.agg #[.string nm, v, .int .i64 wd]) ∧ w.grownBy w' (some g) ∧ Rs w' w.heap.size 38 2 v P.length (flat RPoint.cells P) ∧ GoodC nm P wd := by
  obtain ⟨j0, hj, je0, je1, je2⟩ := info_parts infoPtR
  have hgl := hs.2.1
  have hBg := hs.1
  have hE0 := Lib.hid (En.new w #[.string ⟨#[]⟩, .slice none 0 0, .int .i64 0] 71)
  go_enter Tryd.func91, Tryd.ntmps91
  go_wp2_with fail
  refine (src_text B g 0 (w.heap.size + 1) 0 3 names3 _ (by decide) (by decide) (hs.on (by go_grown)) (by omega) (by simp) (by omega) (fun j u hu => by rw [Nat.zero_add, show w.heap.size + 1 = (w.alloc (.cells #[.string ⟨#[]⟩, .slice none 0 0, .int .i64 0] 71)).heap.size by simp, World.cell?_alloc_new]; simpa [names3] using hu)).mono ?_
  rintro e w1 ⟨nm, hmem, rfl, hg1, hs1⟩
  have hnm := names3_ok nm hmem
  have hG1 := World.grownBy.trans (Go.Lib.grownBy_allocR (Go.Lib.grownBy_allocR (World.grownBy.refl w (some g)) _) _) hg1
  have hE1 := (hE0.out.on (show Below _ _ ((w.alloc (.cells #[.string ⟨#[]⟩, .slice none 0 0, .int .i64 0] 71)).alloc (.cells #[.string ⟨#[109, 97, 105, 110]⟩, .string ⟨#[110, 111, 114, 116, 104]⟩, .string ⟨#[105, 110, 110, 101, 114]⟩] 9)) by go_grown)).far hg1 (fun e => by have := Option.some.inj e; omega)
  clear hg1 hmem hE0
  go_wp2_with fail
  refine (src_pick B g 2 200 _ (by omega) (by omega) (by simpa using hs1) (by omega)).mono ?_
  rintro e w2 ⟨r0, hr0, rfl, hg2, hs2⟩
  have hG2 := World.grownBy.trans hG1 hg2
  have hE2 := hE1.far hg2 (fun e => by have := Option.some.inj e; omega)
  clear hg2 hs1 hG1 hE1
  obtain ⟨wd, hwd⟩ : ∃ wd, 40 + 2 * r0 = wd := ⟨_, rfl⟩
  have hwb : 40 ≤ wd ∧ wd ≤ 438 := by omega
  have hq1 : w.heap.size < w2.heap.size := hE2.1
  have hK2 : Kq (w2.alloc (.cells #[.string nm, .slice none 0 0, .int .i64 wd] 71)) w2.heap.size nm (.slice none 0 0) wd := ⟨by simp, ⟨by simp, by simp, by simp⟩, by simp⟩
  have ha2 : Below w2.heap.size w2 (w2.alloc (.cells #[.string nm, .slice none 0 0, .int .i64 wd] 71)) := by go_grown
  go_wp2_with fail
  refine (src_pick B g (0 + 2 + 2) 400 _ (by omega) (by omega) (hs2.on ha2) (by omega)).mono ?_
  rintro e w3 ⟨r1, hr1, rfl, hg3, hs3⟩
  have hG3 := World.grownBy.trans (World.grownBy.trans hG2 (grown_none' ha2 _)) hg3
  have hE3 := (hE2.on ha2).far hg3 (fun e => by have := Option.some.inj e; omega)
  have hK3 := hK2.far hg3 (fun e => by have := Option.some.inj e; omega)
  have hp1 : w2.heap.size < w3.heap.size := hK3.1
  clear hg3 hs2 hG2 hE2 hK2 ha2
  obtain ⟨x, hx⟩ : ∃ x, 3000 + r1 = x := ⟨_, rfl⟩
  have ha3 : Below w3.heap.size w3 (w3.alloc (.cells #[.int .i64 x, .int .i64 0] 38)) := by go_grown
  have hy3 : Ey (w3.alloc (.cells #[.int .i64 x, .int .i64 0] 38)) w3.heap.size := Ey.new _ _ _ _
  have hx3 : (w3.alloc (.cells #[.int .i64 x, .int .i64 0] 38)).cell? ⟨w3.heap.size, 0, none⟩ = some (.int .i64 x) := by simp
  go_wp2_with fail
  refine (src_pick B g (0 + 2 + 2 + 2) 400 _ (by omega) (by omega) (hs3.on ha3) (by omega)).mono ?_
  rintro e w4 ⟨r2, hr2, rfl, hg4, hs4⟩
  have hne4 : ¬ w3.heap.size = g := by omega
  have hG4 := World.grownBy.trans (World.grownBy.trans hG3 (grown_none' ha3 _)) hg4
  have hE4 := (hE3.on ha3).far hg4 (fun e => by have := Option.some.inj e; omega)
  have hK4 := (hK3.far (grown_none' ha3 none) (by simp)).far hg4 (fun e => by have := Option.some.inj e; omega)
  have hy4 := hy3.far hg4 (fun e => by have := Option.some.inj e; omega)
  have hx4 := far_cell hx3 hg4 (fun e => by have := Option.some.inj e; omega)
  clear hg4 hs3 hG3 hE3 hK3 ha3 hy3 hx3
  obtain ⟨y, hy⟩ : ∃ y, 3000 + r2 = y := ⟨_, rfl⟩
  obtain ⟨hyl, ⟨u0, u1⟩, f0, f1⟩ := id hy4
  have u1' := heldB_is u1
  have hXY : 3000 ≤ x ∧ x ≤ 3399 ∧ 3000 ≤ y ∧ y ≤ 3399 := by omega
  go_upto_region 4 with fail
  refine wp_atB ?_
  intro w5 hw5
  have hg5 : w4.grownBy w5 (some w3.heap.size) := by rw [hw5]; exact grown_one _ _ _ _
  have hG5 : w.grownBy w5 (some g) := ⟨hg5.os.trans hG4.os, hg5.tape.trans hG4.tape, hg5.output.trans hG4.output, Nat.le_trans hG4.size hg5.size, fun k hk hne => (hg5.block k (Nat.lt_of_lt_of_le hk hG4.size) (fun e => by have := Option.some.inj e; omega)).trans (hG4.block k hk hne)⟩
  have hE5 := hE4.far hg5 (fun e => by have := Option.some.inj e; omega)
  have hK5 := hK4.far hg5 (fun e => by have := Option.some.inj e; omega)
  have hs5 := hs4.far (by have := hG4.size; omega) hg5 (fun k e => by have := Option.some.inj e; omega)
  have hy5 : Ey w5 w3.heap.size := by rw [hw5]; exact hy4.set
  have hp5 : PtB w5 w3.heap.size x y := by
    refine ⟨hy5.1, ?_, ?_⟩
    · rw [hw5, World.cell?_setCell_other _ _ _ _ (fun e => by simp at e)]; exact hx4
    · rw [hw5, World.cell?_setCell_same _ _ _ u1']
  clear hw5 hg5 hG4 hE4 hK4 hs4 hy4 hx4 u0 u1 u1' f0 f1 hyl
  obtain ⟨hpl, v0, v1⟩ := id hp5
  obtain ⟨hkl, ⟨k0, k1, k2⟩, kf⟩ := id hK5
  have hO5 := owns_nil' w5 (w3.heap.size + 1) 38 2
  go_wp2_with (at_builtin; refine wpList_append_own _ rfl _ _ 48 rfl (w3.heap.size + 1) 38 j0 (.agg #[.int .i64 0, .int .i64 0]) 2 16 Tryd.underlying48 hj je0 je1 je2 rfl (by decide) _ _ _ rfl (hO5.alloc _) ⟨w5.heap.size, 0, none⟩ 1 1 [.int .i64 (x), .int .i64 (y)] rfl rfl ?pc1 ?pc2 ?pc3 ?pc4 ?pc5 ?_)
  try (case pc1 =>
      intro j u hj
      match j, hj with
      | 0, hj => simp at hj; subst hj; simp [Addr.add, *]
      | 1, hj => simp at hj; subst hj; simp [Addr.add, *])
  try (case pc2 => first | (intro u hu; simp at hu; rcases hu with rfl | rfl <;> rfl) | rfl | simp)
  case pc3 => unfold maxLen; omega
  case pc4 => omega
  case pc5 => first | omega | (simp; omega)
  intro v' w6 hO6 hg6 _
  have hg6' : (w5.alloc (.cells #[.int .i64 x, .int .i64 y] 38)).grownBy w6 none := hg6
  have ha5 : Below w5.heap.size w5 (w5.alloc (.cells #[.int .i64 x, .int .i64 y] 38)) := by go_grown
  obtain ⟨A1, c1, rfl, _⟩ := (Rs.of_owns hO6).sl
  have hgn : w5.grownBy w6 none := World.grownBy.trans (grown_none' ha5 _) hg6'
  have hE6 := hE5.far hgn (by simp)
  have hK6 := hK5.far hgn (by simp)
  have hs6 := hs5.far (by have := hG5.size; omega) hgn (fun k e => by cases e)
  have hp6 := hp5.far hgn (by simp)
  have hy6 := hy5.far hgn (by simp)
  have hG6 : w.grownBy w6 (some g) := World.grownBy.trans hG5 (⟨hgn.os, hgn.tape, hgn.output, hgn.size, fun k hk _ => hgn.block k hk (by simp)⟩)
  have hO6' : w6.ownsRow (w3.heap.size + 1) 38 2 (.slice A1 1 c1) 1 (flat RPoint.cells [⟨x, y⟩]) := hO6
  clear hg6 hg6' ha5 hgn hO6 hO5 hE5 hK5 hs5 hp5 hy5 hG5 hpl v0 v1 hkl k0 k1 k2 kf
  obtain ⟨hkl, ⟨k0, k1, k2⟩, kf⟩ := id hK6
  go_upto_region 5 with fail
  refine wp_atB ?_
  intro w7 hw7
  have hg7 : w6.grownBy w7 (some w2.heap.size) := by rw [hw7]; exact grown_one _ _ _ _
  have hG7 : w.grownBy w7 (some g) := ⟨hg7.os.trans hG6.os, hg7.tape.trans hG6.tape, hg7.output.trans hG6.output, Nat.le_trans hG6.size hg7.size, fun k hk hne => (hg7.block k (Nat.lt_of_lt_of_le hk hG6.size) (fun e => by have := Option.some.inj e; omega)).trans (hG6.block k hk hne)⟩
  have hE7 := hE6.far hg7 (fun e => by have := Option.some.inj e; omega)
  have hK7 : Kq w7 w2.heap.size nm (.slice A1 1 c1) wd := by rw [hw7]; exact hK6.set _
  have hs7 := hs6.far (by have := hG6.size; omega) hg7 (fun k e => by have := Option.some.inj e; omega)
  have hp7 := hp6.far hg7 (fun e => by have := Option.some.inj e; omega)
  have hy7 := hy6.far hg7 (fun e => by have := Option.some.inj e; omega)
  have hO7 := owns_far hO6' hg7 (fun k e => by have := Option.some.inj e; omega)
  clear hw7 hg7 hG6 hE6 hK6 hs6 hp6 hy6 hO6' hkl k0 k1 k2 kf
  go_wp2_with fail
  refine (src_pick B g (0 + 2 + 2 + 2 + 2) 3 _ (by omega) (by omega) hs7 (by omega)).mono ?_
  rintro e w8 ⟨r3, hr3, rfl, hg8, hs8⟩
  have hG8 := World.grownBy.trans hG7 hg8
  have hE8 := hE7.far hg8 (fun e => by have := Option.some.inj e; omega)
  have hK8 := hK7.far hg8 (fun e => by have := Option.some.inj e; omega)
  have hp8 := hp7.far hg8 (fun e => by have := Option.some.inj e; omega)
  have hy8 := hy7.far hg8 (fun e => by have := Option.some.inj e; omega)
  have hO8 := owns_far hO7 hg8 (fun k e => by have := Option.some.inj e; omega)
  have hs8' := hs8.le (K2 := 10) (by omega) (by omega)
  clear hg8 hG7 hE7 hK7 hs7 hp7 hy7 hO7 hs8
  have hH : Heads [⟨x, y⟩] := ⟨⟨hXY.1, hXY.2.1⟩, hXY.2.2⟩
  have hSt : Steps [⟨x, y⟩] := fun k hk => by simp at hk
  obtain ⟨m0, hm0⟩ : ∃ m, 1 + r3 = m := ⟨_, rfl⟩
  have hmb : 1 ≤ m0 ∧ m0 ≤ 3 := by omega
  obtain ⟨q, hq⟩ : ∃ q, w2.heap.size = q := ⟨_, rfl⟩
  obtain ⟨p, hp⟩ : ∃ p, w3.heap.size = p := ⟨_, rfl⟩
  rw [hq] at hK8 hq1 hp1
  rw [hp] at hp8 hy8 hO8 hp1
  clear hne4
  go_wp2_with fail
  clear hq hp
  go_loopw [5, 6] (fun cv sv wr => ∃ (n : Nat) (m x y : Int) (P : List RPoint) (A : Option Addr) (c : Nat), cv = .int .i64 m ∧ 0 ≤ m ∧ P.length = n + 1 ∧ (n : Int) + m ≤ 3 ∧ 1 ≤ (n : Int) + m ∧ Hid (P.getD n default = ⟨x, y⟩) ∧ Hid (Heads P) ∧ Hid (Steps P) ∧ (3000 ≤ x ∧ x ≤ 3399 + 999 * (n : Int)) ∧ (3000 - 450 * (n : Int) ≤ y ∧ y ≤ 3399 + 449 * (n : Int)) ∧ w.grownBy wr (some g) ∧ SrcAt wr B g (10 + 10 * n) ∧ En wr w.heap.size 3 ∧ Kq wr q nm (.slice A (n + 1) c) wd ∧ PtB wr p x y ∧ Ey wr p ∧ wr.ownsRow (p + 1) 38 2 (.slice A (n + 1) c) (n + 1) (flat RPoint.cells P)) (fun cv _ _ => (intOf cv).toNat)
  case atStart => exact ⟨0, m0, x, y, [⟨x, y⟩], A1, c1, rfl, by omega, rfl, by simp; omega, by simp; omega, Lib.hid rfl, Lib.hid hH, Lib.hid hSt, by simp; omega, by simp; omega, hG8, hs8', hE8, hK8, hp8, hy8, hO8⟩
  case round =>
    clear hG8 hs8' hE8 hK8 hp8 hy8 hO8 hH hSt hm0 hmb hXY hx hy hwd
    obtain ⟨n, m, x, y, P, A, c, rfl, hm, hPl, hn3, hn1, hlast, hH, hSt, hxb, hyb, hG, hS, hE, hK, hpt, hpy, hO⟩ := hrel
    have hSz := hG.size
    obtain ⟨hptl, t0, t1⟩ := id hpt
    have HA := Lib.hid hO.lt
    have hpB : B ≤ p := by have := hG.size; omega
    have hpg : (some g : Option Nat) ≠ some p := fun e => by have := Option.some.inj e; omega
    have hqg : (some g : Option Nat) ≠ some q := fun e => by have := Option.some.inj e; omega
    have hgr : g < wr.heap.size := hS.2.1
    have hrg : (some g : Option Nat) ≠ some wr.heap.size := fun e => by have := Option.some.inj e; omega
    by_cases hmp : 0 < m
    · have hxc : 0 ≤ x ∧ x ≤ 10000 := by omega
      have hyc : -10000 ≤ y ∧ y ≤ 10000 := by omega
      go_upto_region 8 with fail
      go_cut [6] (fun s wx => ∃ (gx : Nat) (x2 : Int) (wz : World), wz = wx ∧ s = .pointer (some ⟨gx, 0, none⟩) ∧ (100 ≤ x2 - x ∧ x2 - x ≤ 999) ∧ wr.grownBy wz (some g) ∧ SrcAt wz B g (10 + 10 * n + 2) ∧ wr.heap.size ≤ gx ∧ PtB wz gx x2 0 ∧ Ey wz gx)
      case first =>
        have hK0 : 10 + 10 * n + 2 ≤ 1000000000 := by omega
        have hBr : B ≤ wr.heap.size := by omega
        have hpr : wr.heap.size ≠ p := by omega
        have HR := Lib.hid (World.grownBy.refl wr (some g))
        clear hO hK hE hpy hH hSt hlast hPl hG hn1 hm hxb hyb
        go_region_held3 (fun w' => w'.cell? ⟨p, 0, none⟩ = some (.int .i64 x)) (first | (with_reducible assumption) | (with_reducible refine two_keepR hpr ?_; with_reducible assumption) | (with_reducible refine keep_c t0 hptl ?_; go_grown; done) | (with_reducible refine keep_c hc9 hpl9 ?_; go_grown; done)) (first | (go_at_call 55; (with_reducible refine (src_pick B g (10 + 10 * n) 900 _ (by omega) (by omega) (hS.on (by go_grown)) hK0).mono ?_); rintro e w9 ⟨r5, hr5, rfl, hg9, hs9⟩; have hp9 := (hpt.on (by go_grown)).far hg9 hpg; obtain ⟨hpl9, hc9, _⟩ := hp9; (first | (have hL := ey_new hg9 hrg; obtain ⟨_, ⟨b0, b1⟩, f0, f1⟩ := id hL; have b0 := heldB_is b0; have b1 := heldB_is b1; have HL := Lib.hid hL; clear hL) | skip)))
        · have hw1 : IntKind.i64.wrap (x + 100) = x + 100 := IntWalk.i64_in _ (by omega)
          have hw2 : IntKind.i64.wrap (x + 100 + r5) = x + 100 + r5 := IntWalk.i64_in _ (by omega)
          have hz9 := hg9.size
          simp only [World.size_drew] at hz9
          simp only [hw1, hw2]
          clear hw1 hw2
          go_wp2_with fail
          go_meet
          exact ⟨_, x + 100 + r5, _, rfl, rfl, by omega, Go.Lib.grownBy_allocR (World.grownBy.trans (Go.Lib.grownBy_below HR.out ((Below.refl _ _).drew)) hg9) _, hs9.on (by go_grown), hz9, ⟨by simp, by simp, by simp⟩, Ey.new _ _ _ _⟩
        · have hw1 : IntKind.i64.wrap (x + 100) = x + 100 := IntWalk.i64_in _ (by omega)
          have hw2 : IntKind.i64.wrap (x + 100 + r5) = x + 100 + r5 := IntWalk.i64_in _ (by omega)
          have hd : Below wr.heap.size wr (wr.alloc (.cells #[.int .i64 0, .int .i64 0] 38)).drew := by go_grown
          have hz9 := hg9.size
          simp only [World.size_drew, World.size_alloc] at hz9
          simp only [hw1, hw2]
          clear hw1 hw2
          go_wp2_with fail
          go_meet
          exact ⟨_, x + 100 + r5, _, rfl, rfl, by omega, grown_new (World.grownBy.trans (Go.Lib.grownBy_below HR.out hd) hg9) (grown_two _ _ _ _) (Nat.le_refl _), SrcAt.far hs9 (by omega) (grown_two _ _ _ _) (fun k e => by have := Option.some.inj e; omega), Nat.le_refl _, Ey.pt HL.out _ _, HL.out.set.set⟩
      case rest =>
        obtain ⟨gx, x2, wx, rfl, rfl, hx2, hgx, hSx, hzx, hpx, heyx⟩ := hcut
        have hGx := World.grownBy.trans hG hgx
        have hEx := hE.far hgx (fun e => by have := Option.some.inj e; omega)
        have hKx := hK.far hgx hqg
        have hptx := hpt.far hgx hpg
        have hpyx := hpy.far hgx hpg
        have hOx := owns_far hO hgx (fun k e => by have := Option.some.inj e; omega)
        have hgxg : (some g : Option Nat) ≠ some gx := fun e => by have := Option.some.inj e; omega
        have hgxp : gx ≠ p := by omega
        have hgB : B ≤ gx := by omega
        have hgq : gx ≠ q := by omega
        clear hgx hG hE hK hpt hpy hO hS t0 t1
        obtain ⟨hptl2, s0, s1⟩ := id hptx
        obtain ⟨_, ⟨b0, b1⟩, f0, f1⟩ := id heyx
        go_upto_region 9 with fail
        have HH := Lib.hid (And.intro hGx (And.intro hEx (And.intro hKx (And.intro hpyx hOx))))
        have HP := Lib.hid (And.intro hH (And.intro hSt (And.intro hlast.out hPl)))
        clear hGx hEx hKx hpyx hOx hH hSt hlast hPl b0 b1 f0 f1
        go_region_held3 (fun w' => w'.cell? ⟨p, 1, none⟩ = some (.int .i64 y)) (first | (with_reducible assumption) | (with_reducible refine keep_c s1 hptl2 ?_; go_grown; done) | (with_reducible refine keep_one hgxp ?_; with_reducible assumption)) ((go_at_call 55; (with_reducible refine (src_pick B g (10 + 10 * n + 2) 900 _ (by omega) (by omega) (hSx.on (by go_grown)) (by omega)).mono ?_); rintro e w10 ⟨r6, hr6, rfl, hg10, hs10⟩; have hp10 := (hptx.on (by go_grown)).far hg10 hpg; obtain ⟨hpl10, hx10, hc10⟩ := id hp10; have hL := (heyx.on (by go_grown)).far hg10 hgxg; have hX := (hpx.on (by go_grown)).far hg10 hgxg; obtain ⟨_, ⟨b0, b1⟩, f0, f1⟩ := id hL; have b1 := heldB_is b1; have HL := Lib.hid hL; clear hL))
        rename_i hHeld
        clear hHeld
        obtain ⟨hGx, hEx, hKx, hpyx, hOx⟩ := HH.out
        obtain ⟨hH, hSt, hlast, hPl⟩ := HP.out
        have hw1 : IntKind.i64.wrap (y + r6) = y + r6 := IntWalk.i64_in _ (by omega)
        have hw2 : IntKind.i64.wrap (y + r6 - 450) = y + r6 - 450 := IntWalk.i64_in _ (by omega)
        simp only [hw1, hw2]
        clear hw1 hw2
        obtain ⟨y2, hy2⟩ : ∃ y2, y + r6 - 450 = y2 := ⟨_, rfl⟩
        simp only [hy2]
        have hg10' := World.grownBy.trans (Go.Lib.grownBy_below (World.grownBy.refl wx (some g)) ((Below.refl _ _).drew)) hg10
        have hzx10 := hg10'.size
        refine thenB ?_
        intro w11 hw11
        have hg11 : w10.grownBy w11 (some gx) := by rw [hw11]; exact grown_one _ _ _ _
        have hp11 : PtB w11 gx x2 y2 := by
          refine ⟨Nat.lt_of_lt_of_le hX.1 hg11.size, ?_, ?_⟩
          · rw [hw11, World.cell?_setCell_other _ _ _ _ (fun e => by simp at e)]; exact hX.2.1
          · rw [hw11]; exact World.cell?_setCell_same _ _ _ b1
        have hG11 : w.grownBy w11 (some g) := grown_new (World.grownBy.trans hGx hg10') hg11 (by omega)
        have hEn11 := (hEx.far hg10' (fun e => by have := Option.some.inj e; omega)).far hg11 (fun e => by have := Option.some.inj e; omega)
        have hK11 := (hKx.far hg10' hqg).far hg11 (fun e => hgq (Option.some.inj e))
        have hpt11 := hp10.far hg11 (fun e => hgxp (Option.some.inj e))
        have hpy11 := (hpyx.far hg10' hpg).far hg11 (fun e => hgxp (Option.some.inj e))
        have hS11 := hs10.far (by omega) hg11 (fun k e => by have := Option.some.inj e; subst this; exact ⟨hgB, fun e => hgxg (by rw [e])⟩)
        have hO11 := owns_ne (owns_far hOx hg10' (fun k e => by have := Option.some.inj e; omega)) hg11 (fun k hk e => by have := Option.some.inj e; have := (HA.out k hk).2; omega)
        have hz11 := hg11.size
        clear hw11 hg11 hg10' hg10 hEx hKx hpyx hOx hGx hp10 hX HL hs10 b0 b1 f0 f1 hx10 hc10 hpl10 HH HP heyx hpx hptx hSx s0 s1
        obtain ⟨hpl11, v0, v1⟩ := id hp11
        obtain ⟨hkl, ⟨k0, k1, k2⟩, kf⟩ := id hK11
        have HN := Lib.hid hn1
        clear hn1
        have hlg : n + 2 ≤ 1000 := by omega
        go_wp2_with (at_builtin; refine wpList_append_own _ rfl _ _ 48 rfl (p + 1) 38 j0 (.agg #[.int .i64 0, .int .i64 0]) 2 16 Tryd.underlying48 hj je0 je1 je2 rfl (by decide) _ _ _ rfl (hO11.alloc _) ⟨w11.heap.size, 0, none⟩ 1 1 [.int .i64 (x2), .int .i64 (y2)] rfl rfl ?ac1 ?ac2 ?ac3 ?ac4 ?ac5 ?_)
        try (case ac1 =>
            intro j u hj
            match j, hj with
            | 0, hj => simp at hj; subst hj; simp [Addr.add, *]
            | 1, hj => simp at hj; subst hj; simp [Addr.add, *])
        try (case ac2 => first | (intro u hu; simp at hu; rcases hu with rfl | rfl <;> rfl) | rfl | simp)
        case ac3 => unfold maxLen; omega
        case ac4 => omega
        case ac5 => first | omega | (simp; omega)
        intro v' w12 hO12 hg12 _
        have hg12' : (w11.alloc (.cells #[.int .i64 x2, .int .i64 y2] 38)).grownBy w12 (Value.slice A (n + 1) c).ownBlock := hg12
        have ha11 : Below w11.heap.size w11 (w11.alloc (.cells #[.int .i64 x2, .int .i64 y2] 38)) := by go_grown
        obtain ⟨A2, c2, rfl, _⟩ := (Rs.of_owns hO12).sl
        have hgn : w11.grownBy w12 (Value.slice A (n + 1) c).ownBlock := World.grownBy.trans (grown_none' ha11 _) hg12'
        have hAne : ∀ k, k ≤ p ∨ wr.heap.size ≤ k → (Value.slice A (n + 1) c).ownBlock ≠ some k := fun k hk e => by have := HA.out k e; omega
        have hG12 := grown_row hG11 hgn (fun k e => by have := (HA.out k e).1; omega)
        have hE12 := hEn11.far hgn (hAne _ (by omega))
        have hK12 := hK11.far hgn (hAne _ (by omega))
        have hS12 := hS11.far (by omega) hgn (fun k e => ⟨by have := (HA.out k e).1; omega, fun e2 => hAne g (by omega) (by rw [e, e2])⟩)
        have hp12 := hp11.far hgn (hAne _ (by omega))
        have hpt12 := hpt11.far hgn (hAne _ (by omega))
        have hpy12 := hpy11.far hgn (hAne _ (by omega))
        have hO12' : w12.ownsRow (p + 1) 38 2 (.slice A2 (n + 1 + 1) c2) (n + 1 + 1) (flat RPoint.cells (P ++ [⟨x2, y2⟩])) := by rw [flat_snoc]; exact hO12
        have hz12 := hgn.size
        clear hgn hAne hg12' hg12 ha11 hO12 hG11 hEn11 hK11 hpt11 hpy11 hS11 hO11 hp11 v0 v1 hkl k0 k1 k2 kf hpl11
        obtain ⟨hkl, ⟨k0, k1, k2⟩, kf⟩ := id hK12
        go_upto_region 11 with fail
        refine wp_atB ?_
        intro w13 hw13
        have hg13 : w12.grownBy w13 (some q) := by rw [hw13]; exact grown_one _ _ _ _
        have hG13 := grown_row hG12 hg13 (fun k e => by have := Option.some.inj e; omega)
        have hE13 := hE12.far hg13 (fun e => by have := Option.some.inj e; omega)
        have hK13 : Kq w13 q nm (.slice A2 (n + 1 + 1) c2) wd := by rw [hw13]; exact hK12.set _
        have hS13 := hS12.far (by omega) hg13 (fun k e => by have := Option.some.inj e; omega)
        have hp13 := hp12.far hg13 (fun e => hgq (Option.some.inj e).symm)
        have hpt13 := hpt12.far hg13 (fun e => by have := Option.some.inj e; omega)
        have hpy13 := hpy12.far hg13 (fun e => by have := Option.some.inj e; omega)
        have hO13 := owns_far hO12' hg13 (fun k e => by have := Option.some.inj e; omega)
        have hz13 := hg13.size
        clear hw13 hg13 hG12 hE12 hK12 hS12 hp12 hpt12 hpy12 hO12' hkl k0 k1 k2 kf
        obtain ⟨hpl13, v0, v1⟩ := id hp13
        obtain ⟨_, _, f0, f1⟩ := id hpy13
        obtain ⟨_, d0, d1⟩ := id hpt13
        go_upto_region 7 with fail
        refine wp_atB ?_
        intro w14 hw14
        have hg14 : w13.grownBy w14 (some p) := by rw [hw14]; exact grown_two _ _ _ _
        have hG14 := grown_row hG13 hg14 (fun k e => by have := Option.some.inj e; omega)
        have hE14 := hE13.far hg14 (fun e => by have := Option.some.inj e; omega)
        have hK14 := hK13.far hg14 (fun e => by have := Option.some.inj e; omega)
        have hS14 := hS13.far (by omega) hg14 (fun k e => by have := Option.some.inj e; omega)
        have hpt14 : PtB w14 p x2 y2 := by rw [hw14]; exact Ey.pt hpy13 _ _
        have hpy14 : Ey w14 p := by rw [hw14]; exact hpy13.set.set
        have hO14 := owns_far hO13 hg14 (fun k e => by have := Option.some.inj e; omega)
        clear hw14 hg14 hG13 hE13 hK13 hS13 hp13 hpt13 hpy13 hO13 v0 v1 f0 f1 d0 d1
        have hn1 := HN.out
        go_wp2_with fail
        go_roundw
        case rel => exact ⟨n + 1, m - 1, x2, y2, P ++ [⟨x2, y2⟩], A2, c2, by go_num, by omega, by rw [List.length_append]; simp; omega, by omega, by omega, Lib.hid (by rw [← hPl]; exact getD_snoc_new _ _), Lib.hid (hH.out.snoc (by omega)), Lib.hid (hSt.out.snoc hPl hlast (by simpa using hx2) (by simp; omega)), by omega, by omega, hG14, hS14.le (by omega) (by omega), hE14, hK14, hpt14, hpy14, hO14⟩
        case measure => simp [intOf]; omega
    · obtain rfl : m = 0 := by omega
      obtain ⟨hkl, ⟨k0, k1, k2⟩, kf⟩ := id hK
      obtain ⟨hel, hec⟩ := id hE
      have e0 := hE.at (k := 0) (by omega)
      have e1 := hE.at (k := 1) (by omega)
      have e2 := hE.at (k := 2) (by omega)
      obtain ⟨⟨u0, e0⟩, f0⟩ := e0
      obtain ⟨⟨u1, e1⟩, f1⟩ := e1
      obtain ⟨⟨u2, e2⟩, f2⟩ := e2
      go_wp2
      refine end_atA ?_
      intro wf hwf
      have ht := hE.read (vs := [.string nm, .slice A (n + 1) c, .int .i64 wd]) (wf := wf) hwf
      have t0 : wf.cell? ⟨w.heap.size, 0, none⟩ = some (.string nm) := ht 0 _ rfl
      have t1 : wf.cell? ⟨w.heap.size, 1, none⟩ = some (.slice A (n + 1) c) := ht 1 _ rfl
      have t2 : wf.cell? ⟨w.heap.size, 2, none⟩ = some (.int .i64 wd) := ht 2 _ rfl
      have hgf : wr.grownBy wf (some w.heap.size) := by rw [hwf]; exact Go.Lib.grownBy_setB (Go.Lib.grownBy_setB (Go.Lib.grownBy_setB (World.grownBy.refl wr (some w.heap.size)) 0 _) 1 _) 2 _
      have hGf := grown_row hG hgf (fun k e => by have := Option.some.inj e; omega)
      have hOf := owns_far hO hgf (fun k e => by have := Option.some.inj e; omega)
      clear hwf ht
      refine bodyPost_ret (by simp [results, Tryd.results91, go_sem, t0, t1, t2]; try rfl) rfl ?_
      refine ⟨nm, .slice A (n + 1) c, P, wd, rfl, hGf, ?_, hnm, hwb, by omega, hH.out, hSt.out⟩
      rw [hPl]
      exact (Rs.of_owns hOf).more (by omega)
end Go.Proofs.YtbikppndhidbpaaDoor
