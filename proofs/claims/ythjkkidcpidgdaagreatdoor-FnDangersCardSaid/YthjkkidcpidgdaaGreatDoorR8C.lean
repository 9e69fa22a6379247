/-
  Contracts of the channel that a law's bytes choose: the reference's draw. Under the conditions that each states.
-/
import Derived.Test.YthjkkidcpidgdaaGreatDoorDraw2
import Derived.Test.YthjkkidcpidgdaaGreatDoorAlong
import Derived.Test.YthjkkidcpidgdaaGreatDoorText1
import Derived.Test.YthjkkidcpidgdaaGreatDoorSetN
import Derived.Test.YthjkkidcpidgdaaGreatDoorMark
import Derived.Deep.RegionHeld3
import Derived.Lib.BufferOwn
set_option linter.unusedVariables false
set_option linter.unnecessarySimpa false
set_option maxRecDepth 100000
set_option linter.unusedSimpArgs false
namespace Go.Proofs.YthjkkidcpidgdaaGreatDoor
open Go.RowKit BigFrame

/-! ### What lies in a block, behind what turns another block -/
theorem far_cell {w w' : World} {row : Option Nat} {b o : Nat} {u : Value} (h : w.cell? ⟨b, o, none⟩ = some u) (hg : w.grownBy w' row) (hne : row ≠ some b) : w'.cell? ⟨b, o, none⟩ = some u := hg.cell h (fun e => hne e.symm)
theorem far_frozen {w w' : World} {row : Option Nat} {n k : Nat} (hg : w.grownBy w' row) (hl : n < w.heap.size) (hne : row ≠ some n) : w'.frozen? ⟨n, k, none⟩ = w.frozen? ⟨n, k, none⟩ := by
  have hb : w'.heap[n]? = w.heap[n]? := hg.block n hl (fun e => hne e.symm)
  simp only [World.frozen?, hb]
theorem far_some {w w' : World} {row : Option Nat} {b o : Nat} (h : (w.cell? ⟨b, o, none⟩).isSome = true) (hg : w.grownBy w' row) (hne : row ≠ some b) : (w'.cell? ⟨b, o, none⟩).isSome = true := by
  obtain ⟨u, hu⟩ := Option.isSome_iff_exists.1 h
  rw [far_cell hu hg hne]; rfl
theorem PtB.far {w w' : World} {row : Option Nat} {g : Nat} {x y : Int} (h : PtB w g x y) (hg : w.grownBy w' row) (hne : row ≠ some g) : PtB w' g x y := ⟨Nat.lt_of_lt_of_le h.1 hg.size, far_cell h.2.1 hg hne, far_cell h.2.2 hg hne⟩
theorem Ey.far {w w' : World} {row : Option Nat} {g : Nat} (h : Ey w g) (hg : w.grownBy w' row) (hne : row ≠ some g) : Ey w' g := ⟨Nat.lt_of_lt_of_le h.1 hg.size, ⟨far_some h.2.1.1 hg hne, far_some h.2.1.2 hg hne⟩, (far_frozen hg h.1 hne).trans h.2.2.1, (far_frozen hg h.1 hne).trans h.2.2.2⟩
theorem En.far {w w' : World} {row : Option Nat} {g n : Nat} (h : En w g n) (hg : w.grownBy w' row) (hne : row ≠ some g) : En w' g n := ⟨Nat.lt_of_lt_of_le h.1 hg.size, fun k hk => ⟨far_some (h.2 k hk).1 hg hne, (far_frozen hg h.1 hne).trans (h.2 k hk).2⟩⟩
/-- A channel that is built in memory. -/
def Kq (w : World) (n : Nat) (s : ByteArray) (v : Value) (wd : Int) : Prop := n < w.heap.size ∧ (w.cell? ⟨n, 0, none⟩ = some (.string s) ∧ w.cell? ⟨n, 1, none⟩ = some v ∧ w.cell? ⟨n, 2, none⟩ = some (.int .i64 wd)) ∧ w.frozen? ⟨n, 1, none⟩ = false
theorem Kq.far {w w' : World} {row : Option Nat} {n : Nat} {s : ByteArray} {v : Value} {wd : Int} (h : Kq w n s v wd) (hg : w.grownBy w' row) (hne : row ≠ some n) : Kq w' n s v wd := by
  obtain ⟨h1, ⟨c0, c1, c2⟩, f⟩ := h
  exact ⟨Nat.lt_of_lt_of_le h1 hg.size, ⟨far_cell c0 hg hne, far_cell c1 hg hne, far_cell c2 hg hne⟩, (far_frozen hg h1 hne).trans f⟩
theorem Kq.set {w : World} {n : Nat} {s : ByteArray} {v : Value} {wd : Int} (h : Kq w n s v wd) (v' : Value) : Kq (w.setCell ⟨n, 1, none⟩ v') n s v' wd := by
  obtain ⟨h1, ⟨c0, c1, c2⟩, f⟩ := h
  refine ⟨by simpa using h1, ⟨?_, World.cell?_setCell_same _ _ _ c1, ?_⟩, by simpa using f⟩
  · rw [World.cell?_setCell_other _ _ _ _ (fun e => by simp at e)]; exact c0
  · rw [World.cell?_setCell_other _ _ _ _ (fun e => by simp at e)]; exact c2
theorem SrcAt.far {w w' : World} {B g K : Nat} {row : Option Nat} (h : SrcAt w B g K) (hBw : B ≤ w.heap.size) (hg : w.grownBy w' row) (hr : ∀ k, row = some k → B ≤ k ∧ k ≠ g) : SrcAt w' B g K := by
  obtain ⟨hBg, hgl, hK, A, c, L, q, s, c0, c1, c2, f1, f2, hL, hu⟩ := h
  have hne : row ≠ some g := fun e => (hr g e).2 rfl
  exact ⟨hBg, Nat.lt_of_lt_of_le hgl hg.size, hK, A, c, L, q, s, far_cell c0 hg hne, far_cell c1 hg hne, far_cell c2 hg hne, (far_frozen hg hgl hne).trans f1, (far_frozen hg hgl hne).trans f2, fun hn => by
    obtain ⟨b, o, e, hb, hc⟩ := hL hn
    exact ⟨b, o, e, hb, fun j u hu => far_cell (hc j u hu) hg (fun e2 => by have := (hr b e2).1; omega)⟩, hu⟩
theorem owns_far {w w' : World} {B : Nat} {e : TypeId} {sz : Nat} {v : Value} {n : Nat} {xs : List Value} {row : Option Nat} (h : w.ownsRow B e sz v n xs) (hg : w.grownBy w' row) (hne : ∀ k, row = some k → k < B ∨ w.heap.size ≤ k) : w'.ownsRow B e sz v n xs := by
  refine World.ownsRow.kept h hg ?_
  cases hv : v.ownBlock with
  | none => exact .inl rfl
  | some k =>
    refine .inr (fun e2 => ?_)
    have h1 := h.lt k hv
    have := hne k e2.symm
    omega
theorem grown_none' {w w' : World} (hb : Below w.heap.size w w') (row : Option Nat) : w.grownBy w' row := ⟨hb.os, hb.tape, hb.output, hb.size, fun k hk _ => hb.block k hk⟩
theorem grown_one (w : World) (p k : Nat) (v : Value) : w.grownBy (w.setCell ⟨p, k, none⟩ v) (some p) := Go.Lib.grownBy_setB (World.grownBy.refl w (some p)) k v
/-! ### The line that is drawn -/
/-- Each point lies to the right of the one ahead. -/
def Steps (P : List RPoint) : Prop := ∀ k, k + 1 < P.length → (100 ≤ (P.getD (k + 1) default).f0 - (P.getD k default).f0 ∧ (P.getD (k + 1) default).f0 - (P.getD k default).f0 ≤ 999) ∧ -450 ≤ (P.getD (k + 1) default).f1 - (P.getD k default).f1 ∧ (P.getD (k + 1) default).f1 - (P.getD k default).f1 ≤ 449
def Heads (P : List RPoint) : Prop := (3000 ≤ (P.getD 0 default).f0 ∧ (P.getD 0 default).f0 ≤ 3399) ∧ 3000 ≤ (P.getD 0 default).f1 ∧ (P.getD 0 default).f1 ≤ 3399
theorem getD_snoc_old {P : List RPoint} {a : RPoint} {k : Nat} (h : k < P.length) : (P ++ [a]).getD k default = P.getD k default := by
  rw [List.getD_eq_getElem?_getD, List.getD_eq_getElem?_getD, List.getElem?_append_left h]
theorem getD_snoc_new (P : List RPoint) (a : RPoint) : (P ++ [a]).getD P.length default = a := by
  rw [List.getD_eq_getElem?_getD, List.getElem?_append_right (Nat.le_refl _), Nat.sub_self]; rfl
theorem Steps.snoc {P : List RPoint} {p a : RPoint} {n : Nat} (h : Steps P) (hn : P.length = n + 1) (hp : P.getD n default = p) (hx : 100 ≤ a.f0 - p.f0 ∧ a.f0 - p.f0 ≤ 999) (hy : -450 ≤ a.f1 - p.f1 ∧ a.f1 - p.f1 ≤ 449) : Steps (P ++ [a]) := by
  intro k hk
  rw [List.length_append] at hk
  simp only [List.length_singleton] at hk
  rcases (by omega : k + 1 < P.length ∨ k = n) with h1 | rfl
  · rw [getD_snoc_old h1, getD_snoc_old (by omega)]
    exact h k h1
  · rw [← hn, getD_snoc_new, getD_snoc_old (by omega), hp]
    exact ⟨hx, hy⟩
theorem Heads.snoc {P : List RPoint} {a : RPoint} (h : Heads P) (hn : 0 < P.length) : Heads (P ++ [a]) := by
  unfold Heads
  rw [getD_snoc_old hn]
  exact h
theorem steps_bd {P : List RPoint} (hS : Steps P) (hH : Heads P) : ∀ k : Nat, k < P.length → ((3000 : Int) ≤ (P.getD k default).f0 ∧ (P.getD k default).f0 ≤ 3399 + 999 * k) ∧ 3000 - 450 * (k : Int) ≤ (P.getD k default).f1 ∧ (P.getD k default).f1 ≤ 3399 + 449 * k
  | 0, _ => by
    have h := hH
    unfold Heads at h
    have e : ((0 : Nat) : Int) = 0 := rfl
    rw [e]
    omega
  | k + 1, hk => by
    have ih := steps_bd hS hH k (by omega)
    have h := hS k hk
    rw [Int.natCast_add]
    simp only [Int.natCast_one]
    omega
/-- A channel that is drawn. -/
def GoodC (nm : ByteArray) (P : List RPoint) (wd : Int) : Prop := (nameM nm = true ∧ nm.size ≤ 10) ∧ (40 ≤ wd ∧ wd ≤ 438) ∧ (2 ≤ P.length ∧ P.length ≤ 4) ∧ Heads P ∧ Steps P
theorem good_line {P : List RPoint} (hl : P.length ≤ 4) (hH : Heads P) (hS : Steps P) : vLine P = true := by
  unfold vLine
  suffices h : ∀ n, n ≤ P.length → allTo (okPt P) n = true from h _ (Nat.le_refl _)
  intro n
  induction n with
  | zero => exact fun _ => rfl
  | succ n ih =>
    intro hn
    refine allTo_step (ih (by omega)) ?_
    have hb := steps_bd hS hH n (by omega)
    have hv : vPoint (P.getD n default).f0 (P.getD n default).f1 = true := by
      unfold vPoint
      rw [inB_mk (by omega) (by omega), inB_mk (by omega) (by omega)]
      rfl
    cases n with
    | zero => exact okPt_zero rfl hv
    | succ m =>
      have h := hS m (by omega)
      rw [okPt_step rfl rfl hv]
      have hne : ((P.getD m default).f0 == (P.getD (m + 1) default).f0) = false := beq_eq_false_iff_ne.2 (by omega)
      rw [hne]
      rfl
theorem good_chan {nm : ByteArray} {P : List RPoint} {wd : Int} (h : GoodC nm P wd) : vChan nm P wd = true := by
  obtain ⟨⟨h1, _⟩, h2, h3, h4, h5⟩ := h
  unfold vChan
  rw [good_line h3.2 h4 h5, h1, inB_mk (by omega) (by omega), inB_mk (by omega) (by omega)]
  rfl
theorem src_text (B g K b o c : Nat) (L : List ByteArray) (w : World) (hl : 1 ≤ L.length) (hl2 : L.length ≤ 1000) (hs : SrcAt w B g K) (hK : K + 2 ≤ 1000000000) (hb : b < w.heap.size) (hne : b ≠ g) (hc : ∀ j u, (L.map Value.string)[j]? = some u → w.cell? ⟨b, o + j, none⟩ = some u) :
    Calls Tryz.prog 78 #[.pointer (some ⟨g, 0, none⟩), .slice (some ⟨b, o, none⟩) L.length c] w fun e w' => ∃ r : ByteArray, r ∈ L ∧ e = .returned (.string r) ∧ w.grownBy w' (some g) ∧ SrcAt w' B g (K + 2) := by
  have hC := Lib.hid hc
  clear hc
  go_enter Tryz.func78, Tryz.ntmps78
  go_wp2_with fail
  refine (src_pick B g K _ _ (by omega) (by omega) hs hK).mono ?_
  rintro e w1 ⟨r, ⟨hr, hr2⟩, rfl, hg1, hs1⟩
  obtain ⟨k, rfl⟩ := Int.eq_ofNat_of_zero_le hr
  have hk : k < L.length := by omega
  obtain ⟨z, hz⟩ : ∃ z, L[k] = z := ⟨_, rfl⟩
  have hmem : z ∈ L := hz ▸ List.getElem_mem hk
  have hcell : w1.cell? ⟨b, o + k, none⟩ = some (.string z) := by
    rw [hg1.cell_far ⟨b, o + k, none⟩ hb (by simp; exact hne)]
    exact hC.out k _ (by rw [List.getElem?_map, List.getElem?_eq_getElem hk, hz]; rfl)
  go_wp2
  go_ret
  exact ⟨z, hmem, rfl, hg1, hs1⟩
end Go.Proofs.YthjkkidcpidgdaaGreatDoor
