/-
  Contracts of rotated rows of colors: the program's. Each under the conditions that it states.
-/
import Derived.Test.YtpnffdkkmibchaaGreatDoorRhyC
import Derived.Lib.SliceRun
import Derived.Lib.AppendZerosOnto
set_option linter.unusedVariables false
set_option linter.unnecessarySimpa false
set_option maxRecDepth 100000
set_option linter.unusedSimpArgs false
namespace Go.Proofs.YtpnffdkkmibchaaGreatDoor
open Go.RowKit BigFrame Go.Deep

def rotL (W : List Nat) (i : Nat) : List Nat := (List.range W.length).map (rt (cyc W) i)
theorem rotL_len (W : List Nat) (i : Nat) : (rotL W i).length = W.length := by simp [rotL]
theorem rotL_cyc {W : List Nat} {i k : Nat} (hk : k < W.length) : cyc (rotL W i) k = cyc W (i + k) := by
  rw [cyc_at (by rw [rotL_len]; exact hk)]
  simp [rotL, rt]
theorem rotL_codes {W : List Nat} (h : codes W) (i : Nat) : codes (rotL W i) := fun c hc => by
  obtain ⟨k, _, rfl⟩ := List.mem_map.1 hc
  exact codes_cyc h _
theorem rotL_eq {W : List Nat} {i : Nat} (hi : i ≤ W.length) : W.drop i ++ W.take i = rotL W i := by
  apply List.ext_getElem
  · rw [rotL_len]; simp; omega
  · intro k h1 h2
    rw [rotL_len] at h2
    have e : (rotL W i)[k]'(by rw [rotL_len]; exact h2) = cyc W (i + k) := by rw [← cyc_at (by rw [rotL_len]; exact h2), rotL_cyc h2]
    rw [e]
    by_cases hk : k < W.length - i
    · rw [List.getElem_append_left (by simp; omega), List.getElem_drop, cyc_at (by omega)]
    · rw [List.getElem_append_right (by simp; omega), List.getElem_take]
      unfold cyc
      have hm : (i + k) % W.length = k - (W.length - i) := by
        rw [show i + k = k - (W.length - i) + W.length by omega, Nat.add_mod_right, Nat.mod_eq_of_lt (by omega)]
      rw [hm, List.getD_eq_getElem?_getD, List.getElem?_eq_getElem (by omega)]
      simp
theorem ltF_rot {W : List Nat} {i b : Nat} : ltF W.length (cyc (rotL W i)) (cyc (rotL W b)) ↔ ltF W.length (rt (cyc W) i) (rt (cyc W) b) := by
  constructor
  · rintro ⟨k, h1, h2, h3⟩
    exact ⟨k, h1, fun j hj => by have := h2 j hj; rwa [rotL_cyc (by omega), rotL_cyc (by omega)] at this, by rwa [rotL_cyc h1, rotL_cyc h1] at h3⟩
  · rintro ⟨k, h1, h2, h3⟩
    exact ⟨k, h1, fun j hj => by rw [rotL_cyc (by omega), rotL_cyc (by omega)]; exact h2 j hj, by rw [rotL_cyc h1, rotL_cyc h1]; exact h3⟩
theorem rotL_zero (W : List Nat) : rotL W 0 = W := by
  have := rotL_eq (W := W) (i := 0) (Nat.zero_le _)
  simpa using this.symm
/-- What a rotation gives. -/
def RotPost (W : List Nat) (i : Nat) (w : World) (e : Ending) (w' : World) : Prop := ∃ A c, e = .returned (.slice A W.length c) ∧ Below w.heap.size w w' ∧ Sl w' w'.heap.size A (cls (rotL W i))
set_option maxHeartbeats 1600000 in
theorem lib_GrowS (n : Nat) (h0 : 0 < n) (hn : n ≤ 2000) (w : World) : Calls Tryz.prog 57 #[.slice none 0 0, .int .i64 n] w fun e w' => ∃ v, e = .returned v ∧ Below w.heap.size w w' ∧ w'.ownsRow w.heap.size 9 1 v 0 [] := by
  obtain ⟨i0, hi, ie0, ie1, ie2⟩ := info_parts infoTx
  have hG0 := grownCap_ge w (0 + n) 0 9
  have hG1 := grownCap_le_maxLen w (0 + n) 0 9 (by unfold maxLen; omega)
  have hrz : ∀ ty, (Builtin.append_ #[44, 3] ty #[.slice none 0 0, .int .i64 n]).run Tryz.prog w = .ok (.slice (some ⟨w.heap.size, 0, none⟩) (0 + n) (grownCap w (0 + n) 0 9)) (w.drew.alloc (.cells ((([] : List Value).toArray) ++ Builtin.zeroCells (Value.cells (.string ⟨#[]⟩)) n ++ Builtin.zeroCells (Value.cells (.string ⟨#[]⟩)) (grownCap w (0 + n) 0 9 - (0 + n))) 9)) := fun ty =>
    Lib.run_append_grow_zeros w 44 3 ty 9 i0 (.string ⟨#[]⟩) .i64 .i64 Tryz.underlying44 Tryz.underlying3 hi ie0 none 0 0 [] (by rw [ie1]; exact run_firstCells_none w.drew 1 0 0 0) n h0 (by rw [ie1]; decide) (by omega) (by omega) (by rw [ie2]; omega) (growslice_fits (by omega) (by rw [ie2]; omega))
  obtain ⟨G, hG⟩ : ∃ G, G = grownCap w (0 + n) 0 9 := ⟨_, rfl⟩
  rw [← hG] at hrz hG0 hG1
  obtain ⟨cur, hcur⟩ : ∃ cur, ((([] : List Value).toArray) ++ Builtin.zeroCells (Value.cells (.string ⟨#[]⟩)) n ++ Builtin.zeroCells (Value.cells (.string ⟨#[]⟩)) (G - (0 + n))) = cur := ⟨_, rfl⟩
  have hsz : cur.size = G * 1 := by rw [← hcur]; simp [size_zeroCells, Value.cells]; omega
  rw [hcur] at hrz
  have hG63 : G ≤ 9223372036854775807 := by unfold maxLen at hG1; omega
  have hnI : 0 < (n : Int) := by omega
  clear hi ie0 ie1 ie2 hG hcur
  have hsz' := Lib.hid hsz
  have hG1' := Lib.hid hG1
  clear hsz hG1
  go_enter Tryz.func57, Tryz.ntmps57
  go_wp2_with (at_builtin; refine Lib.wpList_append_run _ rfl _ _ _ _ rfl _ _ rfl rfl _ _ (hrz _) ?_)
  all_goals (go_ret; exact ⟨_, rfl, by go_grown, World.ownsRow_made w.drew cur G (Nat.le_refl _) hG1'.out hsz'.out⟩)
theorem sl_news {w : World} {B : Nat} {a : Addr} {xs : List Value} (h : Sl w B (some a) xs) : ∀ (j : Nat) (u : Value), xs[j]? = some u → w.cell? (a.add j) = some u := fun j u hu => by
  obtain ⟨b, o, e, hb, hc⟩ := h (by intro e; rw [e] at hu; simp at hu)
  cases e
  rw [Go.WideShapes.add_plain]
  exact hc j u hu
theorem cls_app (U V : List Nat) : cls (U ++ V) = cls U ++ cls V := by unfold cls; rw [List.map_append]
theorem cls_cell (W : List Nat) : ∀ u ∈ cls W, u.oneCell' = true := fun u hu => by
  obtain ⟨c, _, rfl⟩ := List.mem_map.1 hu; rfl
def sz3 (U V : List Nat) (k z : Nat) : Prop := (k = 0 ∧ z = 0) ∨ (k = 1 ∧ z = U.length) ∨ (k = 2 ∧ z = U.length + V.length)
def row3 (U V X : List Nat) (k : Nat) : Prop := (k = 0 ∧ X = []) ∨ (k = 1 ∧ X = U) ∨ (k = 2 ∧ X = U ++ V)
set_option maxHeartbeats 1600000 in
theorem lib_ConcatS (U V : List Nat) (a1 a2 : Addr) (c1 c2 g : Nat) (w : World) (hg : g < w.heap.size) (d0 : w.cell? ⟨g, 0, none⟩ = some (.slice (some a1) U.length c1)) (d1 : w.cell? ⟨g, 1, none⟩ = some (.slice (some a2) V.length c2)) (hU : Sl w w.heap.size (some a1) (cls U)) (hV : Sl w w.heap.size (some a2) (cls V)) (h0 : 0 < U.length + V.length) (hn : U.length + V.length ≤ 2000) :
    Calls Tryz.prog 39 #[.slice (some ⟨g, 0, none⟩) 2 2] w fun e w' => ∃ v, e = .returned v ∧ Below w.heap.size w w' ∧ w'.ownsRow w.heap.size 9 1 v (U ++ V).length (cls (U ++ V)) := by
  have hU' := Lib.hid hU
  have hV' := Lib.hid hV
  obtain ⟨i0, hi, ie0, ie1, ie2⟩ := info_parts infoTx
  clear hU hV
  go_enter Tryz.func39, Tryz.ntmps39
  go_wp2
  go_loopw [3, 11] (fun s i wr => ∃ k z : Nat, s = .int .i64 z ∧ i = .int .i64 k ∧ (k ≤ 2 ∧ z ≤ 2000) ∧ Hid (sz3 U V k z) ∧ w = wr) (fun _ i _ => 2 - (intOf i).toNat)
  case atStart => exact ⟨0, 0, rfl, rfl, ⟨by omega, by omega⟩, Lib.hid (Or.inl ⟨rfl, rfl⟩), rfl⟩
  case round =>
    obtain ⟨k, z, rfl, rfl, ⟨hk, hz⟩, h3, rfl⟩ := hrel
    rcases h3.out with ⟨hk0, hz0⟩ | ⟨hk1, hz1⟩ | ⟨hk2, hz2⟩
    · subst hk0 hz0
      clear h3
      go_wp2
      go_roundw
      case rel => exact ⟨1, U.length, by simp, rfl, ⟨by omega, by omega⟩, Lib.hid (Or.inr (Or.inl ⟨rfl, rfl⟩)), by first | rfl | trivial⟩
      case measure => simp [intOf]
    · have hzz := Lib.hid hz1
      subst hk1
      clear h3 hz1
      go_wp2
      go_roundw
      case rel => exact ⟨2, z + V.length, by first | rfl | simp, rfl, ⟨by omega, by have := hzz.out; omega⟩, Lib.hid (Or.inr (Or.inr ⟨rfl, by rw [hzz.out]⟩)), by first | rfl | trivial⟩
      case measure => simp [intOf]
    · have hzz := Lib.hid hz2
      have hzp : 0 < z := by omega
      subst hk2
      clear h3 hz2
      go_wp2_with fail
      refine (lib_GrowS z hzp hz _).mono ?_
      rintro e w1 ⟨v0, rfl, hb1, hown0⟩
      go_wp2_with fail
      go_loopw [6, 27] (fun v i wr => ∃ (k : Nat) (X : List Nat), i = .int .i64 k ∧ k ≤ 2 ∧ Hid (row3 U V X k) ∧ Below w.heap.size w wr ∧ wr.ownsRow w.heap.size 9 1 v X.length (cls X)) (fun _ i _ => 2 - (intOf i).toNat)
      case atStart => exact ⟨0, [], rfl, by omega, Lib.hid (Or.inl ⟨rfl, rfl⟩), hb1, hown0⟩
      case round =>
        clear hb1 hown0 hzz hzp
        obtain ⟨k, X, rfl, hk, h3, hB1, hown⟩ := hrel
        have hS1 := hB1.size
        obtain ⟨hc1, _⟩ := bcell hB1
        have e0 := (hc1 g 0 hg).trans d0
        have e1 := (hc1 g 1 hg).trans d1
        have hgw : g < wr.heap.size := by omega
        clear hc1
        rcases h3.out with ⟨hk0, hX⟩ | ⟨hk1, hX⟩ | ⟨hk2, hX⟩
        · have hXh := Lib.hid hX
          have hXl : X.length ≤ 0 := by rw [hX]; exact Nat.le_refl _
          subst hk0
          clear h3 hX
          go_wp2_with (at_builtin; refine wpList_append_own _ rfl _ _ 44 rfl (w.heap.size) 9 i0 (.string ⟨#[]⟩) 1 16 Tryz.underlying44 hi ie0 ie1 ie2 rfl (by decide) _ _ _ rfl (hown) (a1) (U.length) (c1) (cls U) rfl (by rw [cls_len]; omega) (sl_news (hU'.out.below hB1)) (cls_cell _) (by unfold maxLen; omega) (by omega) (by omega) ?_)
          intro v' wn hown' hgrow _
          have hBn := hB1.grown hgrow (by omega) (fun q e => by have := (hown.lt q e).1; omega)
          clear hown hgrow e0 e1
          go_wp2
          go_roundw
          case rel => exact ⟨1, U, rfl, by omega, Lib.hid (Or.inr (Or.inl ⟨rfl, rfl⟩)), hBn, by rw [hXh.out] at hown'; simpa [cls] using hown'⟩
          case measure => simp [intOf]
        · have hXh := Lib.hid hX
          have hXl : X.length ≤ U.length := by rw [hX]; exact Nat.le_refl _
          subst hk1
          clear h3 hX
          go_wp2_with (at_builtin; refine wpList_append_own _ rfl _ _ 44 rfl (w.heap.size) 9 i0 (.string ⟨#[]⟩) 1 16 Tryz.underlying44 hi ie0 ie1 ie2 rfl (by decide) _ _ _ rfl (hown) (a2) (V.length) (c2) (cls V) rfl (by rw [cls_len]; omega) (sl_news (hV'.out.below hB1)) (cls_cell _) (by unfold maxLen; omega) (by omega) (by omega) ?_)
          intro v' wn hown' hgrow _
          have hBn := hB1.grown hgrow (by omega) (fun q e => by have := (hown.lt q e).1; omega)
          clear hown hgrow e0 e1
          go_wp2
          go_roundw
          case rel => exact ⟨2, X ++ V, rfl, by omega, Lib.hid (Or.inr (Or.inr ⟨rfl, by rw [hXh.out]⟩)), hBn, by rw [List.length_append, cls_app]; exact hown'⟩
          case measure => simp [intOf]
        · subst hk2 hX
          clear h3 e0 e1
          go_wp2
          go_ret
          exact ⟨_, rfl, hB1, hown⟩
end Go.Proofs.YtpnffdkkmibchaaGreatDoor
