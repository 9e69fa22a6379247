/-
  Contracts of the library's Grow and Concat at rows of phases. Each under the conditions that it states.
-/
import Derived.Test.YtpnffdkkmibchaaRhyI
import Derived.Lib.SliceRun
import Derived.Lib.AppendZerosOnto
set_option linter.unusedVariables false
set_option linter.unnecessarySimpa false
set_option maxRecDepth 100000
set_option linter.unusedSimpArgs false
namespace Go.Proofs.Ytpnffdkkmibchaa
open Go.RowKit BigFrame Go.Deep

set_option maxHeartbeats 1600000 in
theorem lib_GrowP (n : Nat) (h0 : 0 < n) (hn : n ≤ 2000) (w : World) : Calls Try.prog 36 #[.slice none 0 0, .int .i64 n] w fun e w' => ∃ v, e = .returned v ∧ Below w.heap.size w w' ∧ w'.ownsRow w.heap.size 34 2 v 0 [] := by
  obtain ⟨i0, hi, ie0, ie1, ie2⟩ := info_parts infoPh
  have hG0 := grownCap_ge w (0 + n) 0 34
  have hG1 := grownCap_le_maxLen w (0 + n) 0 34 (by unfold maxLen; omega)
  have hrz : ∀ ty, (Builtin.append_ #[25, 3] ty #[.slice none 0 0, .int .i64 n]).run Try.prog w = .ok (.slice (some ⟨w.heap.size, 0, none⟩) (0 + n) (grownCap w (0 + n) 0 34)) (w.drew.alloc (.cells ((([] : List Value).toArray) ++ Builtin.zeroCells (Value.cells (.agg #[.string ⟨#[]⟩, .int .i64 0])) n ++ Builtin.zeroCells (Value.cells (.agg #[.string ⟨#[]⟩, .int .i64 0])) (grownCap w (0 + n) 0 34 - (0 + n))) 34)) := fun ty =>
    Lib.run_append_grow_zeros w 25 3 ty 34 i0 (.agg #[.string ⟨#[]⟩, .int .i64 0]) .i64 .i64 Try.underlying25 Try.underlying3 hi ie0 none 0 0 [] (by rw [ie1]; exact run_firstCells_none w.drew 2 0 0 0) n h0 (by rw [ie1]; decide) (by omega) (by omega) (by rw [ie2]; omega) (growslice_fits (by omega) (by rw [ie2]; omega))
  obtain ⟨G, hG⟩ : ∃ G, G = grownCap w (0 + n) 0 34 := ⟨_, rfl⟩
  rw [← hG] at hrz hG0 hG1
  obtain ⟨cur, hcur⟩ : ∃ cur, ((([] : List Value).toArray) ++ Builtin.zeroCells (Value.cells (.agg #[.string ⟨#[]⟩, .int .i64 0])) n ++ Builtin.zeroCells (Value.cells (.agg #[.string ⟨#[]⟩, .int .i64 0])) (G - (0 + n))) = cur := ⟨_, rfl⟩
  have hsz : cur.size = G * 2 := by rw [← hcur]; simp [size_zeroCells, Value.cells]; omega
  rw [hcur] at hrz
  have hG63 : G ≤ 9223372036854775807 := by unfold maxLen at hG1; omega
  have hnI : 0 < (n : Int) := by omega
  clear hi ie0 ie1 ie2 hG hcur
  have hsz' := Lib.hid hsz
  have hG1' := Lib.hid hG1
  clear hsz hG1
  go_enter Try.func36, Try.ntmps36
  go_wp2_with (at_builtin; refine Lib.wpList_append_run _ rfl _ _ _ _ rfl _ _ rfl rfl _ _ (hrz _) ?_)
  all_goals (go_ret; exact ⟨_, rfl, by go_grown, World.ownsRow_made w.drew cur G (Nat.le_refl _) hG1'.out hsz'.out⟩)
theorem jc_app (U V : List (Nat × Nat)) : jc (U ++ V) = jc U ++ jc V := by unfold jc; rw [List.flatMap_append]
theorem jc_cell (W : List (Nat × Nat)) : ∀ u ∈ jc W, u.oneCell' = true := fun u hu => by
  obtain ⟨p, _, hp⟩ := List.mem_flatMap.1 hu
  simp at hp
  rcases hp with rfl | rfl <;> rfl
def szp3 (U V : List (Nat × Nat)) (k z : Nat) : Prop := (k = 0 ∧ z = 0) ∨ (k = 1 ∧ z = U.length) ∨ (k = 2 ∧ z = U.length + V.length)
def rowp3 (U V X : List (Nat × Nat)) (k : Nat) : Prop := (k = 0 ∧ X = []) ∨ (k = 1 ∧ X = U) ∨ (k = 2 ∧ X = U ++ V)
set_option maxHeartbeats 1600000 in
theorem lib_ConcatP (U V : List (Nat × Nat)) (a1 a2 : Addr) (c1 c2 g : Nat) (w : World) (hg : g < w.heap.size) (d0 : w.cell? ⟨g, 0, none⟩ = some (.slice (some a1) U.length c1)) (d1 : w.cell? ⟨g, 1, none⟩ = some (.slice (some a2) V.length c2)) (hU : Sl w w.heap.size (some a1) (jc U)) (hV : Sl w w.heap.size (some a2) (jc V)) (h0 : 0 < U.length + V.length) (hn : U.length + V.length ≤ 2000) :
    Calls Try.prog 25 #[.slice (some ⟨g, 0, none⟩) 2 2] w fun e w' => ∃ v, e = .returned v ∧ Below w.heap.size w w' ∧ w'.ownsRow w.heap.size 34 2 v (U ++ V).length (jc (U ++ V)) := by
  have hU' := Lib.hid hU
  have hV' := Lib.hid hV
  obtain ⟨i0, hi, ie0, ie1, ie2⟩ := info_parts infoPh
  clear hU hV
  go_enter Try.func25, Try.ntmps25
  go_wp2
  go_loopw [3, 11] (fun s i wr => ∃ k z : Nat, s = .int .i64 z ∧ i = .int .i64 k ∧ (k ≤ 2 ∧ z ≤ 2000) ∧ Hid (szp3 U V k z) ∧ w = wr) (fun _ i _ => 2 - (intOf i).toNat)
  case atStart => exact ⟨0, 0, rfl, rfl, ⟨by omega, by omega⟩, Lib.hid (Or.inl ⟨rfl, rfl⟩), rfl⟩
  case round =>
    obtain ⟨k, z, rfl, rfl, ⟨hk, hz⟩, h3, rfl⟩ := hrel
    rcases h3.out with ⟨hk0, hz0⟩ | ⟨hk1, hz1⟩ | ⟨hk2, hz2⟩
    · subst hk0 hz0
      clear h3
      go_wp2
      go_roundw
      case rel => exact ⟨1, U.length, by simp, rfl, ⟨by omega, by omega⟩, Lib.hid (Or.inr (Or.inl ⟨rfl, rfl⟩)), by first | rfl | trivial⟩
      case measure => simp [intOf]
    · have hzz := Lib.hid hz1
      subst hk1
      clear h3 hz1
      go_wp2
      go_roundw
      case rel => exact ⟨2, z + V.length, by first | rfl | simp, rfl, ⟨by omega, by have := hzz.out; omega⟩, Lib.hid (Or.inr (Or.inr ⟨rfl, by rw [hzz.out]⟩)), by first | rfl | trivial⟩
      case measure => simp [intOf]
    · have hzz := Lib.hid hz2
      have hzp : 0 < z := by omega
      subst hk2
      clear h3 hz2
      go_wp2_with fail
      refine (lib_GrowP z hzp hz _).mono ?_
      rintro e w1 ⟨v0, rfl, hb1, hown0⟩
      go_wp2_with fail
      go_loopw [6, 27] (fun v i wr => ∃ (k : Nat) (X : List (Nat × Nat)), i = .int .i64 k ∧ k ≤ 2 ∧ Hid (rowp3 U V X k) ∧ Below w.heap.size w wr ∧ wr.ownsRow w.heap.size 34 2 v X.length (jc X)) (fun _ i _ => 2 - (intOf i).toNat)
      case atStart => exact ⟨0, [], rfl, by omega, Lib.hid (Or.inl ⟨rfl, rfl⟩), hb1, hown0⟩
      case round =>
        clear hb1 hown0 hzz hzp
        obtain ⟨k, X, rfl, hk, h3, hB1, hown⟩ := hrel
        have hS1 := hB1.size
        obtain ⟨hc1, _⟩ := bcell hB1
        have e0 := (hc1 g 0 hg).trans d0
        have e1 := (hc1 g 1 hg).trans d1
        have hgw : g < wr.heap.size := by omega
        clear hc1
        rcases h3.out with ⟨hk0, hX⟩ | ⟨hk1, hX⟩ | ⟨hk2, hX⟩
        · have hXh := Lib.hid hX
          have hXl : X.length ≤ 0 := by rw [hX]; exact Nat.le_refl _
          subst hk0
          clear h3 hX
          go_wp2_with (at_builtin; refine wpList_append_own _ rfl _ _ 25 rfl (w.heap.size) 34 i0 (.agg #[.string ⟨#[]⟩, .int .i64 0]) 2 24 Try.underlying25 hi ie0 ie1 ie2 rfl (by decide) _ _ _ rfl (hown) (a1) (U.length) (c1) (jc U) rfl (jc_len _) (sl_news (hU'.out.below hB1)) (jc_cell _) (by unfold maxLen; omega) (by omega) (by omega) ?_)
          intro v' wn hown' hgrow _
          have hBn := hB1.grown hgrow (by omega) (fun q e => by have := (hown.lt q e).1; omega)
          clear hown hgrow e0 e1
          go_wp2
          go_roundw
          case rel => exact ⟨1, U, rfl, by omega, Lib.hid (Or.inr (Or.inl ⟨rfl, rfl⟩)), hBn, by rw [hXh.out] at hown'; simpa [jc] using hown'⟩
          case measure => simp [intOf]
        · have hXh := Lib.hid hX
          have hXl : X.length ≤ U.length := by rw [hX]; exact Nat.le_refl _
          subst hk1
          clear h3 hX
          go_wp2_with (at_builtin; refine wpList_append_own _ rfl _ _ 25 rfl (w.heap.size) 34 i0 (.agg #[.string ⟨#[]⟩, .int .i64 0]) 2 24 Try.underlying25 hi ie0 ie1 ie2 rfl (by decide) _ _ _ rfl (hown) (a2) (V.length) (c2) (jc V) rfl (jc_len _) (sl_news (hV'.out.below hB1)) (jc_cell _) (by unfold maxLen; omega) (by omega) (by omega) ?_)
          intro v' wn hown' hgrow _
          have hBn := hB1.grown hgrow (by omega) (fun q e => by have := (hown.lt q e).1; omega)
          clear hown hgrow e0 e1
          go_wp2
          go_roundw
          case rel => exact ⟨2, X ++ V, rfl, by omega, Lib.hid (Or.inr (Or.inr ⟨rfl, by rw [hXh.out]⟩)), hBn, by rw [List.length_append, jc_app]; exact hown'⟩
          case measure => simp [intOf]
        · subst hk2 hX
          clear h3 e0 e1
          go_wp2
          go_ret
          exact ⟨_, rfl, hB1, hown⟩
end Go.Proofs.Ytpnffdkkmibchaa
