/-
  Contracts of the times of a character of light and of its least period: the reference's. Each under the conditions that it states.
-/
import Derived.Test.YtpnffdkkmibchaaGreatDoorPhD
set_option linter.unusedVariables false
set_option linter.unnecessarySimpa false
set_option maxRecDepth 100000
set_option linter.unusedSimpArgs false
namespace Go.Proofs.YtpnffdkkmibchaaGreatDoor
open Go.RowKit BigFrame Go.Deep

theorem infoIntP : (Tryz.prog.info? 2).map (fun i => (i.zero, i.size, i.bytes)) = some (some (.int .i64 0), 1, 8) := by kernel_rfl
def goodI (n : Nat) (T : List Int) : Prop := T.length ≤ n ∧ ∀ t ∈ T, 1 ≤ t ∧ t ≤ 100
theorem goodI.snoc {n m : Nat} {T : List Int} {t : Int} (h : goodI n T) (ht : 1 ≤ t ∧ t ≤ 100) (hm : n + 1 ≤ m) : goodI m (T ++ [t]) := by
  refine ⟨by have := h.1; simp; omega, fun x hx => ?_⟩
  rcases List.mem_append.1 hx with hx | hx
  · exact h.2 x hx
  · rw [List.mem_singleton] at hx; rw [hx]; exact ht
theorem goodI.le {n m : Nat} {T : List Int} (h : goodI n T) (hm : n ≤ m) : goodI m T := ⟨Nat.le_trans h.1 hm, h.2⟩
theorem ints_one (T : List Int) (t : Int) : ints (T ++ [t]) = ints T ++ [.int .i64 t] := by unfold ints; rw [List.map_append]; rfl
theorem owns_onP {w w' : World} {B : Nat} {e : TypeId} {sz : Nat} {v : Value} {n : Nat} {xs : List Value} (h : w.ownsRow B e sz v n xs) (hb : Below w.heap.size w w') : w'.ownsRow B e sz v n xs := owns_onR h hb
def mcodes : List ByteArray := [⟨#[46, 45]⟩, ⟨#[45, 46, 46, 46]⟩, ⟨#[45, 46, 45, 46]⟩, ⟨#[45, 46, 46]⟩, ⟨#[46]⟩, ⟨#[46, 46, 45, 46]⟩, ⟨#[45, 45, 46]⟩, ⟨#[46, 46, 46, 46]⟩, ⟨#[46, 46]⟩, ⟨#[46, 45, 45, 45]⟩, ⟨#[45, 46, 45]⟩, ⟨#[46, 45, 46, 46]⟩, ⟨#[45, 45]⟩, ⟨#[45, 46]⟩, ⟨#[45, 45, 45]⟩, ⟨#[46, 45, 45, 46]⟩, ⟨#[45, 45, 46, 45]⟩, ⟨#[46, 45, 46]⟩, ⟨#[46, 46, 46]⟩, ⟨#[45]⟩, ⟨#[46, 46, 45]⟩, ⟨#[46, 46, 46, 45]⟩, ⟨#[46, 45, 45]⟩, ⟨#[45, 46, 46, 45]⟩, ⟨#[45, 46, 45, 45]⟩, ⟨#[45, 45, 46, 46]⟩]
theorem mcodes_size : ∀ r ∈ mcodes, 1 ≤ r.size ∧ r.size ≤ 4 := by decide
set_option maxHeartbeats 1600000 in
theorem spec_MorseK (x : Nat) (y : Int) (hx : x < 26) (hy : y = 65 + (x : Int)) (w : World) : Calls Tryz.prog 103 #[.int .u8 y] w fun e w' => ∃ T, (goodI 4 T ∧ 1 ≤ T.length) ∧ ∃ v, e = .returned v ∧ Below w.heap.size w w' ∧ w'.ownsRow w.heap.size 2 1 v T.length (ints T) := by
  obtain ⟨i0, hi, ie0, ie1, ie2⟩ := info_parts infoIntP
  have hmx : x < mcodes.length := hx
  have hcs := mcodes_size mcodes[x] (List.getElem_mem hmx)
  have hm1 : y - 65 = (x : Int) := by omega
  have hy2 : 65 ≤ y ∧ y ≤ 90 := by omega
  clear hy
  go_enter Tryz.func103, Tryz.ntmps103
  go_upto_region 2 with fail
  refine wp_at ?_
  intro w1 hw1
  have hc1 : w1.cell? ⟨w.heap.size, x, none⟩ = some (.string mcodes[x]) := by
    have hw2 : w1 = w.alloc (.cells (mcodes.map Value.string).toArray 9) := hw1
    rw [hw2, World.cell?_alloc_new]
    simp [hmx]
  have hB1 : Below w.heap.size w w1 := by rw [hw1]; go_grown
  have hz1 : w.heap.size < w1.heap.size := by rw [hw1]; simp
  clear hw1
  obtain ⟨s, hs⟩ : ∃ s, mcodes[x] = s := ⟨_, rfl⟩
  rw [hs] at hcs hc1
  clear hs hmx
  have hxI : (x : Int) < 26 := by omega
  go_wp2_with fail
  have hO0 : (w1.alloc (.cells #[] 2)).ownsRow w.heap.size 2 1 (.slice (some ⟨w1.heap.size, 0, none⟩) 0 0) ([] : List Int).length (ints []) := World.ownsRow_made w1 #[] 0 hB1.size (Nat.zero_le _) rfl
  have hBa : Below w.heap.size w (w1.alloc (.cells #[] 2)) := by go_grown
  go_loopw [5, 6] (fun v i wr => ∃ (k : Nat) (T : List Int), i = .int .i64 k ∧ k ≤ s.size ∧ Hid (goodI k T) ∧ T.length = k ∧ Below w.heap.size w wr ∧ wr.ownsRow w.heap.size 2 1 v T.length (ints T)) (fun _ i _ => s.size - (intOf i).toNat)
  case atStart => exact ⟨0, [], rfl, Nat.zero_le _, Lib.hid ⟨Nat.le_refl _, (fun t ht => by cases ht)⟩, rfl, hBa, hO0⟩
  case round =>
    clear hBa hO0 hB1
    obtain ⟨k, T, rfl, hk, hT, hTl, hB2, hown⟩ := hrel
    have hTlh := Lib.hid hTl
    have hT4 : T.length ≤ k := by omega
    clear hTl
    have hS2 := hB2.size
    by_cases hlt : k < s.size
    · obtain ⟨z, hy⟩ : ∃ z, (s[k]'hlt).toNat = z := ⟨_, rfl⟩
      by_cases h46 : z = 46
      · rw [h46] at hy
        go_wp2_with (at_builtin; refine wpList_append_own _ rfl _ _ 65 rfl (w.heap.size) 2 i0 (.int .i64 0) 1 8 Tryz.underlying65 hi ie0 ie1 ie2 rfl (by decide) _ _ _ rfl (hown.alloc _) ⟨wr.heap.size, 0, none⟩ 1 1 [.int .i64 ((5 : Int))] rfl rfl ?pc1 ?pc2 ?pc3 ?pc4 ?pc5 ?_)
        try (case pc1 =>
            intro j u hj
            match j, hj with
            | 0, hj => simp at hj; subst hj; simp [Addr.add])
        try (case pc2 => first | (intro u hu; simp at hu; subst hu; rfl) | rfl)
        case pc3 => unfold maxLen; omega
        case pc4 => omega
        case pc5 => first | omega | (simp; omega)
        intro v' wn hown' hgrow _
        have hBn := (show Below w.heap.size w (wr.alloc (.cells #[.int .i64 (5 : Int)] 2)) by go_grown).grown hgrow (by simp; omega) (fun q e => (hown.lt q e).1)
        have hOn : wn.ownsRow w.heap.size 2 1 v' (T ++ [(5 : Int)]).length (ints (T ++ [(5 : Int)])) := by rw [ints_one, List.length_append]; exact hown'
        have hgn := Lib.hid (hT.out.snoc (t := (5 : Int)) (m := k + 1) (by omega) (Nat.le_refl _))
        clear hown' hgrow hown
        go_wp2
        go_roundw
        case rel => exact ⟨k + 1, T ++ [(5 : Int)], by go_num, by omega, hgn, by rw [List.length_append, hTlh.out]; rfl, hBn, hOn⟩
        case measure => simp [intOf]; omega
      · have h46' : ((z : Int) == 46) = false := beq_eq_false_iff_ne.2 (by omega)
        go_wp2_with (at_builtin; refine wpList_append_own _ rfl _ _ 65 rfl (w.heap.size) 2 i0 (.int .i64 0) 1 8 Tryz.underlying65 hi ie0 ie1 ie2 rfl (by decide) _ _ _ rfl (hown.alloc _) ⟨wr.heap.size, 0, none⟩ 1 1 [.int .i64 ((15 : Int))] rfl rfl ?pc1 ?pc2 ?pc3 ?pc4 ?pc5 ?_)
        try (case pc1 =>
            intro j u hj
            match j, hj with
            | 0, hj => simp at hj; subst hj; simp [Addr.add])
        try (case pc2 => first | (intro u hu; simp at hu; subst hu; rfl) | rfl)
        case pc3 => unfold maxLen; omega
        case pc4 => omega
        case pc5 => first | omega | (simp; omega)
        intro v' wn hown' hgrow _
        have hBn := (show Below w.heap.size w (wr.alloc (.cells #[.int .i64 (15 : Int)] 2)) by go_grown).grown hgrow (by simp; omega) (fun q e => (hown.lt q e).1)
        have hOn : wn.ownsRow w.heap.size 2 1 v' (T ++ [(15 : Int)]).length (ints (T ++ [(15 : Int)])) := by rw [ints_one, List.length_append]; exact hown'
        have hgn := Lib.hid (hT.out.snoc (t := (15 : Int)) (m := k + 1) (by omega) (Nat.le_refl _))
        clear hown' hgrow hown
        go_wp2
        go_roundw
        case rel => exact ⟨k + 1, T ++ [(15 : Int)], by go_num, by omega, hgn, by rw [List.length_append, hTlh.out]; rfl, hBn, hOn⟩
        case measure => simp [intOf]; omega
    · obtain rfl : k = s.size := by omega
      have hTe := Lib.hid (show 1 ≤ T.length by rw [hTlh.out]; exact hcs.1)
      go_wp2
      go_ret
      exact ⟨T, ⟨hT.out.le hcs.2, hTe.out⟩, _, rfl, hB2, hown⟩
/-- What the times of a character ask of its letter. -/
def letOk (k : Int) (L : ByteArray) : Prop := k = 8 → ∃ x : Nat, x < 26 ∧ L = ⟨#[(65 + x).toUInt8]⟩
theorem let_byte {x : Nat} (h : x < 26) : ((65 + x).toUInt8).toNat = 65 + x := by
  have key : ∀ y : Fin 26, ((65 + y.1).toUInt8).toNat = 65 + y.1 := by decide
  exact key ⟨x, h⟩
theorem kept_blk {w wn : World} {v : Value} {g : Nat} {X : Obj} (hl : g < w.heap.size) (hg : (w.alloc X).grownBy wn v.ownBlock) (hne : v.ownBlock ≠ some g) : wn.heap[g]? = w.heap[g]? := by
  rw [hg.block g (by simp; omega) (fun e => hne e.symm), Below.heap_alloc w X g hl]
theorem blk_on {w w' : World} {g : Nat} (hl : g < w.heap.size) (hb : Below w.heap.size w w') : w'.heap[g]? = w.heap[g]? := hb.block g hl
set_option maxHeartbeats 3200000 in
theorem spec_TimesM (b : Nat) (A : Option Addr) (n c : Nat) (x : Nat) (hx : x < 26) (w : World) (h : ChA w b 8 A n c ⟨#[(65 + x).toUInt8]⟩) : Calls Tryz.prog 79 #[.pointer (some ⟨b, 0, none⟩)] w fun e w' => ∃ T, (goodI 38 T ∧ 1 ≤ T.length) ∧ ∃ v, e = .returned v ∧ Below w.heap.size w w' ∧ w'.ownsRow w.heap.size 2 1 v T.length (ints T) := by
  obtain ⟨i0, hi, ie0, ie1, ie2⟩ := info_parts infoIntP
  obtain ⟨hb, d0, d1, d2⟩ := h
  have hx2 := let_byte hx
  have hM := Lib.hid (fun w y hy => spec_MorseK x y hx hy w)
  obtain ⟨cc, hcc⟩ : ∃ cc, (65 + x).toUInt8 = cc := ⟨_, rfl⟩
  rw [hcc] at d2 hx2
  have hx3 : (cc.toNat : Int) = 65 + (x : Int) := by omega
  clear hcc
  have hO0 : (w.alloc (.cells #[] 2)).ownsRow w.heap.size 2 1 (.slice (some ⟨w.heap.size, 0, none⟩) 0 0) ([] : List Int).length (ints []) := World.ownsRow_made w #[] 0 (Nat.le_refl _) (Nat.zero_le _) rfl
  have hB0 : Below w.heap.size w (w.alloc (.cells #[] 2)) := by go_grown
  clear hx2
  go_enter Tryz.func79, Tryz.ntmps79
  go_wp2_with fail
  change Calls _ _ #[.int .u8 ((cc.toNat : Nat) : Int)] _ _
  refine (hM.out _ _ hx3).mono ?_
  rintro e w1 ⟨S, ⟨hS, hS1⟩, v1, rfl, hb1, hownS⟩
  have hB1 := bnext hB0 hb1
  have hO1 := owns_onP hO0 hb1
  have hz1 : w.heap.size < w1.heap.size := by have := hb1.size; rw [World.size_alloc] at this; omega
  obtain ⟨A2, c2, rfl, -, hsl⟩ := owns_slc2 hownS
  obtain ⟨bg, og, rfl, hbg1, hc⟩ := hsl (by intro e; unfold ints at e; rw [List.map_eq_nil_iff] at e; subst e; simp at hS1)
  have hbglo : w.heap.size < bg := by have := (hownS.lt bg rfl).1; rw [World.size_alloc] at this; omega
  have hcell : Hid (∀ wx : World, wx.heap[bg]? = w1.heap[bg]? → ∀ k (h : k < S.length), wx.cell? ⟨bg, og + k, none⟩ = some (.int .i64 S[k])) := Lib.hid (fun wx hx k h => (World.cell?_of_block (w := w1) (a := ⟨bg, og + k, none⟩) hx).trans (hc k _ (ints_at h)))
  obtain ⟨hS4, hSb⟩ := hS
  have hSb' := Lib.hid hSb
  have hne0 : (Value.slice (some ⟨w.heap.size, 0, none⟩) 0 0).ownBlock ≠ some bg := by simp [Value.ownBlock]; omega
  clear hownS hsl hSb hO0 hB0 hb1 hM hx3 hc
  go_wp2_with fail
  go_loopw [3, 5] (fun v i wr => ∃ (k : Nat) (T : List Int), i = .int .i64 k ∧ k ≤ S.length ∧ Hid (goodI (2 * k) T ∧ (0 < k → 1 ≤ T.length)) ∧ (wr.heap[bg]? = w1.heap[bg]? ∧ bg < wr.heap.size ∧ v.ownBlock ≠ some bg) ∧ Below w.heap.size w wr ∧ wr.ownsRow w.heap.size 2 1 v T.length (ints T)) (fun _ i _ => S.length - (intOf i).toNat)
  case atStart => exact ⟨0, [], rfl, Nat.zero_le _, Lib.hid ⟨⟨Nat.le_refl _, (fun t ht => by cases ht)⟩, fun h => by omega⟩, ⟨rfl, hbg1, hne0⟩, hB1, hO1⟩
  case round =>
    clear hB1 hO1 hne0 hbg1
    obtain ⟨k, T, rfl, hk, hT, ⟨hblk, hbg, hne⟩, hB2, hown⟩ := hrel
    have hTl := hT.out.1.1
    have hS2 := hB2.size
    by_cases hlt : k < S.length
    · have e0 := hcell.out wr hblk k hlt
      have hz := hSb'.out _ (List.getElem_mem hlt)
      have hcn := Lib.hid (fun (wx : World) (h : wx.heap[bg]? = w1.heap[bg]?) => hcell.out wx h k hlt)
      obtain ⟨z, hz2⟩ : ∃ z, S[k] = z := ⟨_, rfl⟩
      rw [hz2] at e0 hz hcn
      clear hz2
      by_cases hk0 : 0 < k
      · have hk0I : 0 < (k : Int) := by omega
        go_wp2_with (at_builtin; refine wpList_append_own_at _ rfl _ _ 65 rfl (w.heap.size) 2 i0 (.int .i64 0) 1 8 Tryz.underlying65 hi ie0 ie1 ie2 rfl (by decide) _ _ _ rfl (hown.alloc _) ⟨wr.heap.size, 0, none⟩ 1 1 [.int .i64 (5)] rfl rfl ?pc1 ?pc2 ?pc3 ?pc4 ?pc5 ?_)
        try (case pc1 =>
            intro j u hj
            match j, hj with
            | 0, hj => simp at hj; subst hj; simp [Addr.add])
        try (case pc2 => first | (intro u hu; simp at hu; subst hu; rfl) | rfl)
        case pc3 => unfold maxLen; omega
        case pc4 => omega
        case pc5 => first | omega | (simp; omega)
        intro v1 wn hown' hgrow _ hob'
        have hB3 := (show Below w.heap.size w (wr.alloc (.cells #[.int .i64 (5 : Int)] 2)) by go_grown).grown hgrow (by simp; omega) (fun q e => (hown.lt q e).1)
        have hO3 : wn.ownsRow w.heap.size 2 1 v1 (T ++ [(5 : Int)]).length (ints (T ++ [(5 : Int)])) := by rw [ints_one, List.length_append]; exact hown'
        have hS3 : wr.heap.size ≤ wn.heap.size := by have := hgrow.size; simp at this; omega
        have hN3 : v1.ownBlock ≠ some bg := by
          rcases hob' with h | h
          · rw [h]; exact hne
          · rw [h]; simp; omega
        have hK3 := kept_blk hbg hgrow hne
        clear hown' hgrow hob'
        have e1 := hcn.out wn (hK3.trans hblk)
        have hblk3 := hK3.trans hblk
        have hbg3 : bg < wn.heap.size := by omega
        have hT3 := hT.out.1.snoc (t := 5) (m := 2 * k + 1) (by omega) (Nat.le_refl _)
        have hTl3 : (T ++ [(5 : Int)]).length = T.length + 1 := by simp
        obtain ⟨U, hU⟩ : ∃ U, T ++ [(5 : Int)] = U := ⟨_, rfl⟩
        rw [hU] at hO3 hT3 hTl3
        have hTl4 : U.length ≤ 2 * k + 1 := by omega
        have hS3' := hB3.size
        clear hU hTl3 hown hne hbg hK3 hblk hB2 e0
        have hne := hN3
        have hbg := hbg3
        go_wp2_with (at_builtin; refine wpList_append_own_at _ rfl _ _ 65 rfl (w.heap.size) 2 i0 (.int .i64 0) 1 8 Tryz.underlying65 hi ie0 ie1 ie2 rfl (by decide) _ _ _ rfl (hO3.alloc _) ⟨wn.heap.size, 0, none⟩ 1 1 [.int .i64 (z)] rfl rfl ?qc1 ?qc2 ?qc3 ?qc4 ?qc5 ?_)
        try (case qc1 =>
            intro j u hj
            match j, hj with
            | 0, hj => simp at hj; subst hj; simp [Addr.add])
        try (case qc2 => first | (intro u hu; simp at hu; subst hu; rfl) | rfl)
        case qc3 => unfold maxLen; omega
        case qc4 => omega
        case qc5 => first | omega | (simp; omega)
        intro v2 wm hown' hgrow _ hob'
        have hB4 := (show Below w.heap.size w (wn.alloc (.cells #[.int .i64 z] 2)) by go_grown).grown hgrow (by simp; omega) (fun q e => (hO3.lt q e).1)
        have hO4 : wm.ownsRow w.heap.size 2 1 v2 (U ++ [z]).length (ints (U ++ [z])) := by rw [ints_one, List.length_append]; exact hown'
        have hS4 : wn.heap.size ≤ wm.heap.size := by have := hgrow.size; simp at this; omega
        have hN4 : v2.ownBlock ≠ some bg := by
          rcases hob' with h | h
          · rw [h]; exact hne
          · rw [h]; simp; omega
        have hK4 := kept_blk hbg hgrow hne
        clear hown' hgrow hob'
        have hgn := Lib.hid (And.intro (hT3.snoc (t := z) (m := 2 * (k + 1)) hz (by omega)) (show 0 < k + 1 → 1 ≤ (U ++ [z]).length from fun _ => by simp))
        have hrel3 : wm.heap[bg]? = w1.heap[bg]? ∧ bg < wm.heap.size ∧ v2.ownBlock ≠ some bg := ⟨hK4.trans hblk3, by omega, hN4⟩
        clear e1
        go_wp2
        go_roundw
        case rel => exact ⟨k + 1, U ++ [z], by go_num, by omega, hgn, hrel3, hB4, hO4⟩
        case measure => simp [intOf]; omega
      · have hk0I : ¬ 0 < (k : Int) := by omega
        go_wp2_with (at_builtin; refine wpList_append_own_at _ rfl _ _ 65 rfl (w.heap.size) 2 i0 (.int .i64 0) 1 8 Tryz.underlying65 hi ie0 ie1 ie2 rfl (by decide) _ _ _ rfl (hown.alloc _) ⟨wr.heap.size, 0, none⟩ 1 1 [.int .i64 (z)] rfl rfl ?qc1 ?qc2 ?qc3 ?qc4 ?qc5 ?_)
        try (case qc1 =>
            intro j u hj
            match j, hj with
            | 0, hj => simp at hj; subst hj; simp [Addr.add])
        try (case qc2 => first | (intro u hu; simp at hu; subst hu; rfl) | rfl)
        case qc3 => unfold maxLen; omega
        case qc4 => omega
        case qc5 => first | omega | (simp; omega)
        intro v2 wm hown' hgrow _ hob'
        have hB4 := (show Below w.heap.size w (wr.alloc (.cells #[.int .i64 z] 2)) by go_grown).grown hgrow (by simp; omega) (fun q e => (hown.lt q e).1)
        have hO4 : wm.ownsRow w.heap.size 2 1 v2 (T ++ [z]).length (ints (T ++ [z])) := by rw [ints_one, List.length_append]; exact hown'
        have hS4 : wr.heap.size ≤ wm.heap.size := by have := hgrow.size; simp at this; omega
        have hN4 : v2.ownBlock ≠ some bg := by
          rcases hob' with h | h
          · rw [h]; exact hne
          · rw [h]; simp; omega
        have hK4 := kept_blk hbg hgrow hne
        clear hown' hgrow hob'
        have hgn := Lib.hid (And.intro (hT.out.1.snoc (t := z) (m := 2 * (k + 1)) hz (by omega)) (show 0 < k + 1 → 1 ≤ (T ++ [z]).length from fun _ => by simp))
        have hrel3 : wm.heap[bg]? = w1.heap[bg]? ∧ bg < wm.heap.size ∧ v2.ownBlock ≠ some bg := ⟨hK4.trans hblk, by omega, hN4⟩
        clear e0
        go_wp2
        go_roundw
        case rel => exact ⟨k + 1, T ++ [z], by go_num, by omega, hgn, hrel3, hB4, hO4⟩
        case measure => simp [intOf]; omega
    · obtain rfl : k = S.length := by omega
      have hTf := Lib.hid (And.intro (hT.out.1.le (m := 38) (by omega)) (hT.out.2 (by omega)))
      go_wp2
      go_ret
      exact ⟨T, hTf.out, _, rfl, hB2, hown⟩
set_option maxHeartbeats 6400000 in
theorem spec_TimesK (b : Nat) (k : Int) (H : List Int) (A : Option Addr) (c B : Nat) (L : ByteArray) (w : World) (hk : 1 ≤ k ∧ k ≤ 7) (h : ChA w b k A H.length c L) (hs : Sl w B A (ints H)) (hB : B ≤ w.heap.size) (hG : ∀ g ∈ H, 1 ≤ g ∧ g ≤ 9) (hGl : H.length ≤ 2) : Calls Tryz.prog 79 #[.pointer (some ⟨b, 0, none⟩)] w fun e w' => ∃ T, (goodI 38 T ∧ 1 ≤ T.length) ∧ ∃ v, e = .returned v ∧ Below w.heap.size w w' ∧ w'.ownsRow w.heap.size 2 1 v T.length (ints T) := by
  obtain ⟨i0, hi, ie0, ie1, ie2⟩ := info_parts infoIntP
  have hch := Lib.hid (fun (wx : World) (hx : Below w.heap.size w wx) => h.on hx)
  obtain ⟨hb, d0, d1, d2⟩ := h
  have hk8 : (k == 8) = false := beq_eq_false_iff_ne.2 (by omega)
  have hO0 : (w.alloc (.cells #[] 2)).ownsRow w.heap.size 2 1 (.slice (some ⟨w.heap.size, 0, none⟩) 0 0) ([] : List Int).length (ints []) := World.ownsRow_made w #[] 0 (Nat.le_refl _) (Nat.zero_le _) rfl
  have hB0 : Below w.heap.size w (w.alloc (.cells #[] 2)) := by go_grown
  by_cases h0 : 0 < H.length
  · obtain ⟨bg, og, rfl, hbg0, hc⟩ := hs (by intro e; unfold ints at e; rw [List.map_eq_nil_iff] at e; subst e; simp at h0)
    have hn0 : ((H.length : Int) == 0) = false := beq_eq_false_iff_ne.2 (by omega)
    have hH := Lib.hid hG
    obtain ⟨w1, hw1⟩ : ∃ w1, w1 = w.alloc (.cells #[] 2) := ⟨_, rfl⟩
    have hblk0 : w1.heap[bg]? = w.heap[bg]? := by rw [hw1]; exact Below.heap_alloc w _ bg (by omega)
    have hcell : Hid (∀ wx : World, wx.heap[bg]? = w1.heap[bg]? → ∀ k (h : k < H.length), wx.cell? ⟨bg, og + k, none⟩ = some (.int .i64 H[k])) := Lib.hid (fun wx hx k h => (World.cell?_of_block (w := w) (a := ⟨bg, og + k, none⟩) (hx.trans hblk0)).trans (hc k _ (ints_at h)))
    have hB1 := hB0
    have hO1 := hO0
    rw [← hw1] at hB1 hO1
    have hbg1 : bg < w1.heap.size := by have := hB1.size; omega
    have hne0 : (Value.slice (some ⟨w.heap.size, 0, none⟩) 0 0).ownBlock ≠ some bg := by simp [Value.ownBlock]; omega
    clear hs hc hG hblk0 hO0 hB0
    go_enter Tryz.func79, Tryz.ntmps79
    go_upto_region 14 with fail
    refine wp_at ?_
    intro w2 hw2
    obtain rfl : w1 = w2 := hw1.trans hw2.symm
    clear hw1 hw2 d0 d1 d2 hb
    go_wp2_with fail
    go_loopw [3, 7] (fun v i wr => ∃ (j : Nat) (T : List Int), i = .int .i64 j ∧ j ≤ H.length ∧ Hid (goodI (18 * j) T ∧ (0 < j → 1 ≤ T.length)) ∧ (wr.heap[bg]? = w1.heap[bg]? ∧ bg < wr.heap.size ∧ v.ownBlock ≠ some bg) ∧ Below w.heap.size w wr ∧ wr.ownsRow w.heap.size 2 1 v T.length (ints T)) (fun _ i _ => H.length - (intOf i).toNat)
    case atStart => exact ⟨0, [], rfl, Nat.zero_le _, Lib.hid ⟨⟨Nat.le_refl _, (fun t ht => by cases ht)⟩, fun h => by omega⟩, ⟨rfl, hbg1, hne0⟩, hB1, hO1⟩
    case round =>
      clear hB1 hO1 hne0 hbg1
      obtain ⟨i, T, rfl, hi7, hT, ⟨hblk, hbg, hne⟩, hB2, hown⟩ := hrel
      by_cases hlt : i < H.length
      · have hz := hH.out _ (List.getElem_mem hlt)
        have hcn := Lib.hid (fun (wx : World) (h : wx.heap[bg]? = w1.heap[bg]?) => hcell.out wx h i hlt)
        obtain ⟨z, hz2⟩ : ∃ z, H[i] = z := ⟨_, rfl⟩
        rw [hz2] at hz hcn
        obtain ⟨m, rfl⟩ : ∃ m : Nat, z = m := ⟨z.toNat, by omega⟩
        have hm9 : m ≤ 9 := by omega
        have hm1 : 1 ≤ m := by omega
        clear hz2 hz
        go_wp2_with fail
        go_loopw [3, 8] (fun v j wr => ∃ (q : Nat) (T : List Int), j = .int .i64 q ∧ q ≤ m ∧ Hid (goodI (18 * i + 2 * q) T ∧ (0 < i ∨ 0 < q → 1 ≤ T.length)) ∧ (wr.heap[bg]? = w1.heap[bg]? ∧ bg < wr.heap.size ∧ v.ownBlock ≠ some bg) ∧ Below w.heap.size w wr ∧ wr.ownsRow w.heap.size 2 1 v T.length (ints T)) (fun _ j _ => m - (intOf j).toNat)
        case atStart => exact ⟨0, T, rfl, Nat.zero_le _, Lib.hid ⟨hT.out.1.le (by omega), fun h => hT.out.2 (by omega)⟩, ⟨hblk, hbg, hne⟩, hB2, hown⟩
        case round =>
          clear hT hblk hbg hne hB2 hown
          obtain ⟨q, T, rfl, hq, hT, ⟨hblk, hbg, hne⟩, hB5, hown⟩ := hrel
          have hTl := hT.out.1.1
          have hS5 := hB5.size
          have e0 := hcn.out wr hblk
          try rw [Nat.zero_add] at e0
          obtain ⟨hb, d0, d1, d2⟩ := hch.out wr hB5
          have hiI : (i : Int) < (H.length : Int) := by omega
          by_cases hqm : q < m
          · by_cases hq0 : 0 < q
            · have hq0I : 0 < (q : Int) := by omega
              go_wp2_with fail
              refine (spec_GapK k _ (by omega)).mono ?_
              rintro e w9 ⟨gp, hgp, rfl, rfl⟩
              go_wp2_with (at_builtin; refine wpList_append_own_at _ rfl _ _ 65 rfl (w.heap.size) 2 i0 (.int .i64 0) 1 8 Tryz.underlying65 hi ie0 ie1 ie2 rfl (by decide) _ _ _ rfl (hown.alloc _) ⟨wr.heap.size, 0, none⟩ 1 1 [.int .i64 (gp)] rfl rfl ?pc1 ?pc2 ?pc3 ?pc4 ?pc5 ?_)
              try (case pc1 =>
                  intro j u hj
                  match j, hj with
                  | 0, hj => simp at hj; subst hj; simp [Addr.add])
              try (case pc2 => first | (intro u hu; simp at hu; subst hu; rfl) | rfl)
              case pc3 => unfold maxLen; omega
              case pc4 => omega
              case pc5 => first | omega | (simp; omega)
              intro v7 w7 hown' hgrow _ hob'
              have hB7 := (show Below w.heap.size w (wr.alloc (.cells #[.int .i64 gp] 2)) by go_grown).grown hgrow (by simp; omega) (fun q e => (hown.lt q e).1)
              have hO7 : w7.ownsRow w.heap.size 2 1 v7 (T ++ [gp]).length (ints (T ++ [gp])) := by rw [ints_one, List.length_append]; exact hown'
              have hS7 : wr.heap.size ≤ w7.heap.size := by have := hgrow.size; simp at this; omega
              have hN7 : v7.ownBlock ≠ some bg := by
                rcases hob' with h | h
                · rw [h]; exact hne
                · rw [h]; simp; omega
              have hK7 := kept_blk hbg hgrow hne
              clear hown' hgrow hob'
              have hblk7 := hK7.trans hblk
              have hbg7 : bg < w7.heap.size := by omega
              have hT7 := hT.out.1.snoc (t := gp) (m := 18 * i + 2 * q + 1) (by omega) (Nat.le_refl _)
              have hTl7 : (T ++ [gp]).length = T.length + 1 := by simp
              obtain ⟨U, hU⟩ : ∃ U, T ++ [gp] = U := ⟨_, rfl⟩
              rw [hU] at hO7 hT7 hTl7
              have hTl8 : U.length ≤ 18 * i + 2 * q + 1 := by omega
              have hS7' := hB7.size
              obtain ⟨hb, d0, d1, d2⟩ := hch.out w7 hB7
              clear hU hTl7 hown hne hbg hK7 hblk hB5
              have hne := hN7
              have hbg := hbg7
              go_wp2_with fail
              refine (spec_FlashK k _ (by omega)).mono ?_
              rintro e w9 ⟨f, hf, rfl, rfl⟩
              go_wp2_with (at_builtin; refine wpList_append_own_at _ rfl _ _ 65 rfl (w.heap.size) 2 i0 (.int .i64 0) 1 8 Tryz.underlying65 hi ie0 ie1 ie2 rfl (by decide) _ _ _ rfl (hO7.alloc _) ⟨w7.heap.size, 0, none⟩ 1 1 [.int .i64 (f)] rfl rfl ?qc1 ?qc2 ?qc3 ?qc4 ?qc5 ?_)
              try (case qc1 =>
                  intro j u hj
                  match j, hj with
                  | 0, hj => simp at hj; subst hj; simp [Addr.add])
              try (case qc2 => first | (intro u hu; simp at hu; subst hu; rfl) | rfl)
              case qc3 => unfold maxLen; omega
              case qc4 => omega
              case qc5 => first | omega | (simp; omega)
              intro v8 w8 hown' hgrow _ hob'
              have hB8 := (show Below w.heap.size w (w7.alloc (.cells #[.int .i64 f] 2)) by go_grown).grown hgrow (by simp; omega) (fun q e => (hO7.lt q e).1)
              have hO8 : w8.ownsRow w.heap.size 2 1 v8 (U ++ [f]).length (ints (U ++ [f])) := by rw [ints_one, List.length_append]; exact hown'
              have hS8 : w7.heap.size ≤ w8.heap.size := by have := hgrow.size; simp at this; omega
              have hN8 : v8.ownBlock ≠ some bg := by
                rcases hob' with h | h
                · rw [h]; exact hne
                · rw [h]; simp; omega
              have hK8 := kept_blk hbg hgrow hne
              clear hown' hgrow hob'
              have hgn := Lib.hid (And.intro (hT7.snoc (t := f) (m := 18 * i + 2 * (q + 1)) (by omega) (by omega)) (show 0 < i ∨ 0 < q + 1 → 1 ≤ (U ++ [f]).length from fun _ => by simp))
              have hrel3 : w8.heap[bg]? = w1.heap[bg]? ∧ bg < w8.heap.size ∧ v8.ownBlock ≠ some bg := ⟨hK8.trans hblk7, by omega, hN8⟩
              clear d0 d1 d2 hb
              go_wp2
              go_roundw
              case rel => exact ⟨q + 1, U ++ [f], by go_num, by omega, hgn, hrel3, hB8, hO8⟩
              case measure => simp [intOf]; omega
            · have hq0I : ¬ 0 < (q : Int) := by omega
              by_cases hi0 : 0 < i
              · have hi0I : 0 < (i : Int) := by omega
                go_wp2_with fail
                refine (spec_GapK k _ (by omega)).mono ?_
                rintro e w9 ⟨gp, hgp, rfl, rfl⟩
                obtain ⟨g2, hg2⟩ : ∃ g2 : Int, gp + 20 = g2 := ⟨_, rfl⟩
                go_wp2_with (at_builtin; refine wpList_append_own_at _ rfl _ _ 65 rfl (w.heap.size) 2 i0 (.int .i64 0) 1 8 Tryz.underlying65 hi ie0 ie1 ie2 rfl (by decide) _ _ _ rfl (hown.alloc _) ⟨wr.heap.size, 0, none⟩ 1 1 [.int .i64 (g2)] rfl rfl ?pc1 ?pc2 ?pc3 ?pc4 ?pc5 ?_)
                try (case pc1 =>
                    intro j u hj
                    match j, hj with
                    | 0, hj => simp at hj; subst hj; simp [Addr.add])
                try (case pc2 => first | (intro u hu; simp at hu; subst hu; rfl) | rfl)
                case pc3 => unfold maxLen; omega
                case pc4 => omega
                case pc5 => first | omega | (simp; omega)
                intro v7 w7 hown' hgrow _ hob'
                have hB7 := (show Below w.heap.size w (wr.alloc (.cells #[.int .i64 g2] 2)) by go_grown).grown hgrow (by simp; omega) (fun q e => (hown.lt q e).1)
                have hO7 : w7.ownsRow w.heap.size 2 1 v7 (T ++ [g2]).length (ints (T ++ [g2])) := by rw [ints_one, List.length_append]; exact hown'
                have hS7 : wr.heap.size ≤ w7.heap.size := by have := hgrow.size; simp at this; omega
                have hN7 : v7.ownBlock ≠ some bg := by
                  rcases hob' with h | h
                  · rw [h]; exact hne
                  · rw [h]; simp; omega
                have hK7 := kept_blk hbg hgrow hne
                clear hown' hgrow hob'
                have hblk7 := hK7.trans hblk
                have hbg7 : bg < w7.heap.size := by omega
                have hT7 := hT.out.1.snoc (t := g2) (m := 18 * i + 2 * q + 1) (by omega) (Nat.le_refl _)
                have hTl7 : (T ++ [g2]).length = T.length + 1 := by simp
                obtain ⟨U, hU⟩ : ∃ U, T ++ [g2] = U := ⟨_, rfl⟩
                rw [hU] at hO7 hT7 hTl7
                have hTl8 : U.length ≤ 18 * i + 2 * q + 1 := by omega
                have hS7' := hB7.size
                obtain ⟨hb, d0, d1, d2⟩ := hch.out w7 hB7
                clear hU hTl7 hown hne hbg hK7 hblk hB5
                have hne := hN7
                have hbg := hbg7
                go_wp2_with fail
                refine (spec_FlashK k _ (by omega)).mono ?_
                rintro e w9 ⟨f, hf, rfl, rfl⟩
                go_wp2_with (at_builtin; refine wpList_append_own_at _ rfl _ _ 65 rfl (w.heap.size) 2 i0 (.int .i64 0) 1 8 Tryz.underlying65 hi ie0 ie1 ie2 rfl (by decide) _ _ _ rfl (hO7.alloc _) ⟨w7.heap.size, 0, none⟩ 1 1 [.int .i64 (f)] rfl rfl ?qc1 ?qc2 ?qc3 ?qc4 ?qc5 ?_)
                try (case qc1 =>
                    intro j u hj
                    match j, hj with
                    | 0, hj => simp at hj; subst hj; simp [Addr.add])
                try (case qc2 => first | (intro u hu; simp at hu; subst hu; rfl) | rfl)
                case qc3 => unfold maxLen; omega
                case qc4 => omega
                case qc5 => first | omega | (simp; omega)
                intro v8 w8 hown' hgrow _ hob'
                have hB8 := (show Below w.heap.size w (w7.alloc (.cells #[.int .i64 f] 2)) by go_grown).grown hgrow (by simp; omega) (fun q e => (hO7.lt q e).1)
                have hO8 : w8.ownsRow w.heap.size 2 1 v8 (U ++ [f]).length (ints (U ++ [f])) := by rw [ints_one, List.length_append]; exact hown'
                have hS8 : w7.heap.size ≤ w8.heap.size := by have := hgrow.size; simp at this; omega
                have hN8 : v8.ownBlock ≠ some bg := by
                  rcases hob' with h | h
                  · rw [h]; exact hne
                  · rw [h]; simp; omega
                have hK8 := kept_blk hbg hgrow hne
                clear hown' hgrow hob'
                have hgn := Lib.hid (And.intro (hT7.snoc (t := f) (m := 18 * i + 2 * (q + 1)) (by omega) (by omega)) (show 0 < i ∨ 0 < q + 1 → 1 ≤ (U ++ [f]).length from fun _ => by simp))
                have hrel3 : w8.heap[bg]? = w1.heap[bg]? ∧ bg < w8.heap.size ∧ v8.ownBlock ≠ some bg := ⟨hK8.trans hblk7, by omega, hN8⟩
                clear d0 d1 d2 hb
                go_wp2
                go_roundw
                case rel => exact ⟨q + 1, U ++ [f], by go_num, by omega, hgn, hrel3, hB8, hO8⟩
                case measure => simp [intOf]; omega
              · have hi0I : ¬ 0 < (i : Int) := by omega
                have hTw := hT.out.1
                have hS5' := hS5
                go_wp2_with fail
                refine (spec_FlashK k _ (by omega)).mono ?_
                rintro e w9 ⟨f, hf, rfl, rfl⟩
                go_wp2_with (at_builtin; refine wpList_append_own_at _ rfl _ _ 65 rfl (w.heap.size) 2 i0 (.int .i64 0) 1 8 Tryz.underlying65 hi ie0 ie1 ie2 rfl (by decide) _ _ _ rfl (hown.alloc _) ⟨wr.heap.size, 0, none⟩ 1 1 [.int .i64 (f)] rfl rfl ?qc1 ?qc2 ?qc3 ?qc4 ?qc5 ?_)
                try (case qc1 =>
                    intro j u hj
                    match j, hj with
                    | 0, hj => simp at hj; subst hj; simp [Addr.add])
                try (case qc2 => first | (intro u hu; simp at hu; subst hu; rfl) | rfl)
                case qc3 => unfold maxLen; omega
                case qc4 => omega
                case qc5 => first | omega | (simp; omega)
                intro v8 w8 hown' hgrow _ hob'
                have hB8 := (show Below w.heap.size w (wr.alloc (.cells #[.int .i64 f] 2)) by go_grown).grown hgrow (by simp; omega) (fun q e => (hown.lt q e).1)
                have hO8 : w8.ownsRow w.heap.size 2 1 v8 (T ++ [f]).length (ints (T ++ [f])) := by rw [ints_one, List.length_append]; exact hown'
                have hS8 : wr.heap.size ≤ w8.heap.size := by have := hgrow.size; simp at this; omega
                have hN8 : v8.ownBlock ≠ some bg := by
                  rcases hob' with h | h
                  · rw [h]; exact hne
                  · rw [h]; simp; omega
                have hK8 := kept_blk hbg hgrow hne
                clear hown' hgrow hob'
                have hgn := Lib.hid (And.intro (hTw.snoc (t := f) (m := 18 * i + 2 * (q + 1)) (by omega) (by omega)) (show 0 < i ∨ 0 < q + 1 → 1 ≤ (T ++ [f]).length from fun _ => by simp))
                have hrel3 : w8.heap[bg]? = w1.heap[bg]? ∧ bg < w8.heap.size ∧ v8.ownBlock ≠ some bg := ⟨hK8.trans hblk, by omega, hN8⟩
                clear d0 d1 d2 hb
                go_wp2
                go_roundw
                case rel => exact ⟨q + 1, T ++ [f], by go_num, by omega, hgn, hrel3, hB8, hO8⟩
                case measure => simp [intOf]; omega
          · obtain rfl : q = m := by omega
            have hgn := Lib.hid (And.intro (hT.out.1.le (m := 18 * (i + 1)) (by omega)) (show 0 < i + 1 → 1 ≤ T.length from fun _ => hT.out.2 (by omega)))
            clear d0 d1 d2 hb
            go_wp2_with fail
            go_roundw
            case rel => exact ⟨i + 1, T, by go_num, by omega, hgn, ⟨hblk, hbg, hne⟩, hB5, hown⟩
            case measure => simp [intOf]; omega
      · obtain rfl : i = H.length := by omega
        have hT1 := hT.out.2 (by omega)
        have hTf := Lib.hid (hT.out.1)
        have hTl := hTf.out.1
        have hS2 := hB2.size
        obtain ⟨hb, d0, d1, d2⟩ := hch.out wr hB2
        cases hL : (L.toList == [76])
        · go_wp2_with fail
          go_ret
          exact ⟨T, ⟨hTf.out.le (by omega), hT1⟩, _, rfl, hB2, hown⟩
        · go_wp2_with fail
          refine (spec_GapK k _ (by omega)).mono ?_
          rintro e w9 ⟨gp, hgp, rfl, rfl⟩
          go_wp2_with (at_builtin; refine wpList_append_own _ rfl _ _ 65 rfl (w.heap.size) 2 i0 (.int .i64 0) 1 8 Tryz.underlying65 hi ie0 ie1 ie2 rfl (by decide) _ _ _ rfl (hown.alloc _) ⟨wr.heap.size, 0, none⟩ 2 2 [.int .i64 gp, .int .i64 20] rfl rfl ?r1 ?r2 ?r3 ?r4 ?r5 ?_)
          try (case r1 =>
            intro j u hj
            match j, hj with
            | 0, hj => simp at hj; subst hj; simp [Addr.add]
            | 1, hj => simp at hj; subst hj; simp [Addr.add])
          try (case r2 => first | exact ⟨rfl, rfl⟩ | (intro u hu; simp at hu; rcases hu with rfl | rfl <;> rfl))
          case r3 => unfold maxLen; omega
          case r4 => omega
          case r5 => first | omega | (simp; omega)
          intro v7 w7 hown' hgrow _
          have hB7 := (show Below w.heap.size w (wr.alloc (.cells #[.int .i64 gp, .int .i64 20] 2)) by go_grown).grown hgrow (by simp; omega) (fun q e => (hown.lt q e).1)
          have hO7 : w7.ownsRow w.heap.size 2 1 v7 (T ++ [gp, 20]).length (ints (T ++ [gp, 20])) := by
            have e : ints (T ++ [gp, 20]) = ints T ++ [.int .i64 gp, .int .i64 20] := by unfold ints; rw [List.map_append]; rfl
            rw [e, List.length_append]; exact hown'
          have hgf := Lib.hid (show goodI 38 (T ++ [gp, 20]) ∧ 1 ≤ (T ++ [gp, 20]).length from ⟨⟨by simp; omega, fun x hx => by
            rcases List.mem_append.1 hx with hx | hx
            · exact hTf.out.2 x hx
            · simp at hx; omega⟩, by simp⟩)
          go_wp2
          go_ret
          exact ⟨T ++ [gp, 20], hgf.out, _, rfl, hB7, hO7⟩
  · have hn0 : ((H.length : Int) == 0) = true := beq_iff_eq.2 (by omega)
    obtain ⟨H, hHe⟩ : ∃ H : List Int, H = [1] := ⟨_, rfl⟩
    have hH : Hid (∀ g ∈ H, 1 ≤ g ∧ g ≤ 9) := Lib.hid (fun g hg => by rw [hHe, List.mem_singleton] at hg; omega)
    have hHl : H.length = 1 := by rw [hHe]; rfl
    obtain ⟨bg, hbge⟩ : ∃ bg, bg = w.heap.size + 1 := ⟨_, rfl⟩
    obtain ⟨w1, hw1⟩ : ∃ w1, w1 = (w.alloc (.cells #[] 2)).alloc (.cells #[.int .i64 1] 2) := ⟨_, rfl⟩
    have hcell : Hid (∀ wx : World, wx.heap[bg]? = w1.heap[bg]? → ∀ k (h : k < H.length), wx.cell? ⟨bg, 0 + k, none⟩ = some (.int .i64 H[k])) := Lib.hid (fun wx hx k h => by
      obtain rfl : k = 0 := by omega
      have e : w1.cell? ⟨bg, 0, none⟩ = some (.int .i64 1) := by
        rw [hw1, hbge, show w.heap.size + 1 = (w.alloc (.cells #[] 2)).heap.size by simp, World.cell?_alloc_new]; rfl
      have e2 : H[0] = 1 := by simp [hHe]
      rw [e2]
      exact (World.cell?_of_block (w := w1) (a := ⟨bg, 0, none⟩) hx).trans e)
    have hB1 : Below w.heap.size w w1 := by rw [hw1]; go_grown
    have hO1 : w1.ownsRow w.heap.size 2 1 (.slice (some ⟨w.heap.size, 0, none⟩) 0 0) ([] : List Int).length (ints []) := by rw [hw1]; exact hO0.alloc _
    have hbg1 : bg < w1.heap.size := by rw [hw1, hbge]; simp
    have hne0 : (Value.slice (some ⟨w.heap.size, 0, none⟩) 0 0).ownBlock ≠ some bg := by simp [Value.ownBlock]; omega
    clear hs hG hO0 hB0 hHe
    go_enter Tryz.func79, Tryz.ntmps79
    go_upto_region 14 with fail
    refine wp_at ?_
    intro w2 hw2
    obtain rfl : w1 = w2 := hw1.trans hw2.symm
    clear hw1 hw2 d0 d1 d2 hb
    rw [← hbge]
    generalize hsv : Value.slice (some ⟨bg, 0, none⟩) 1 1 = sv
    obtain rfl : sv = .slice (some ⟨bg, 0, none⟩) H.length 1 := by rw [← hsv, hHl]
    have hGl : H.length ≤ 2 := by omega
    have h0 : 0 < H.length := by omega
    clear hn0 hHl hbge hsv
    go_wp2_with fail
    go_loopw [3, 7] (fun v i wr => ∃ (j : Nat) (T : List Int), i = .int .i64 j ∧ j ≤ H.length ∧ Hid (goodI (18 * j) T ∧ (0 < j → 1 ≤ T.length)) ∧ (wr.heap[bg]? = w1.heap[bg]? ∧ bg < wr.heap.size ∧ v.ownBlock ≠ some bg) ∧ Below w.heap.size w wr ∧ wr.ownsRow w.heap.size 2 1 v T.length (ints T)) (fun _ i _ => H.length - (intOf i).toNat)
    case atStart => exact ⟨0, [], rfl, Nat.zero_le _, Lib.hid ⟨⟨Nat.le_refl _, (fun t ht => by cases ht)⟩, fun h => by omega⟩, ⟨rfl, hbg1, hne0⟩, hB1, hO1⟩
    case round =>
      clear hB1 hO1 hne0 hbg1
      obtain ⟨i, T, rfl, hi7, hT, ⟨hblk, hbg, hne⟩, hB2, hown⟩ := hrel
      by_cases hlt : i < H.length
      · have hz := hH.out _ (List.getElem_mem hlt)
        have hcn := Lib.hid (fun (wx : World) (h : wx.heap[bg]? = w1.heap[bg]?) => hcell.out wx h i hlt)
        obtain ⟨z, hz2⟩ : ∃ z, H[i] = z := ⟨_, rfl⟩
        rw [hz2] at hz hcn
        obtain ⟨m, rfl⟩ : ∃ m : Nat, z = m := ⟨z.toNat, by omega⟩
        have hm9 : m ≤ 9 := by omega
        have hm1 : 1 ≤ m := by omega
        clear hz2 hz
        go_wp2_with fail
        go_loopw [3, 8] (fun v j wr => ∃ (q : Nat) (T : List Int), j = .int .i64 q ∧ q ≤ m ∧ Hid (goodI (18 * i + 2 * q) T ∧ (0 < i ∨ 0 < q → 1 ≤ T.length)) ∧ (wr.heap[bg]? = w1.heap[bg]? ∧ bg < wr.heap.size ∧ v.ownBlock ≠ some bg) ∧ Below w.heap.size w wr ∧ wr.ownsRow w.heap.size 2 1 v T.length (ints T)) (fun _ j _ => m - (intOf j).toNat)
        case atStart => exact ⟨0, T, rfl, Nat.zero_le _, Lib.hid ⟨hT.out.1.le (by omega), fun h => hT.out.2 (by omega)⟩, ⟨hblk, hbg, hne⟩, hB2, hown⟩
        case round =>
          clear hT hblk hbg hne hB2 hown
          obtain ⟨q, T, rfl, hq, hT, ⟨hblk, hbg, hne⟩, hB5, hown⟩ := hrel
          have hTl := hT.out.1.1
          have hS5 := hB5.size
          have e0 := hcn.out wr hblk
          try rw [Nat.zero_add] at e0
          obtain ⟨hb, d0, d1, d2⟩ := hch.out wr hB5
          have hiI : (i : Int) < (H.length : Int) := by omega
          by_cases hqm : q < m
          · by_cases hq0 : 0 < q
            · have hq0I : 0 < (q : Int) := by omega
              go_wp2_with fail
              refine (spec_GapK k _ (by omega)).mono ?_
              rintro e w9 ⟨gp, hgp, rfl, rfl⟩
              go_wp2_with (at_builtin; refine wpList_append_own_at _ rfl _ _ 65 rfl (w.heap.size) 2 i0 (.int .i64 0) 1 8 Tryz.underlying65 hi ie0 ie1 ie2 rfl (by decide) _ _ _ rfl (hown.alloc _) ⟨wr.heap.size, 0, none⟩ 1 1 [.int .i64 (gp)] rfl rfl ?pc1 ?pc2 ?pc3 ?pc4 ?pc5 ?_)
              try (case pc1 =>
                  intro j u hj
                  match j, hj with
                  | 0, hj => simp at hj; subst hj; simp [Addr.add])
              try (case pc2 => first | (intro u hu; simp at hu; subst hu; rfl) | rfl)
              case pc3 => unfold maxLen; omega
              case pc4 => omega
              case pc5 => first | omega | (simp; omega)
              intro v7 w7 hown' hgrow _ hob'
              have hB7 := (show Below w.heap.size w (wr.alloc (.cells #[.int .i64 gp] 2)) by go_grown).grown hgrow (by simp; omega) (fun q e => (hown.lt q e).1)
              have hO7 : w7.ownsRow w.heap.size 2 1 v7 (T ++ [gp]).length (ints (T ++ [gp])) := by rw [ints_one, List.length_append]; exact hown'
              have hS7 : wr.heap.size ≤ w7.heap.size := by have := hgrow.size; simp at this; omega
              have hN7 : v7.ownBlock ≠ some bg := by
                rcases hob' with h | h
                · rw [h]; exact hne
                · rw [h]; simp; omega
              have hK7 := kept_blk hbg hgrow hne
              clear hown' hgrow hob'
              have hblk7 := hK7.trans hblk
              have hbg7 : bg < w7.heap.size := by omega
              have hT7 := hT.out.1.snoc (t := gp) (m := 18 * i + 2 * q + 1) (by omega) (Nat.le_refl _)
              have hTl7 : (T ++ [gp]).length = T.length + 1 := by simp
              obtain ⟨U, hU⟩ : ∃ U, T ++ [gp] = U := ⟨_, rfl⟩
              rw [hU] at hO7 hT7 hTl7
              have hTl8 : U.length ≤ 18 * i + 2 * q + 1 := by omega
              have hS7' := hB7.size
              obtain ⟨hb, d0, d1, d2⟩ := hch.out w7 hB7
              clear hU hTl7 hown hne hbg hK7 hblk hB5
              have hne := hN7
              have hbg := hbg7
              go_wp2_with fail
              refine (spec_FlashK k _ (by omega)).mono ?_
              rintro e w9 ⟨f, hf, rfl, rfl⟩
              go_wp2_with (at_builtin; refine wpList_append_own_at _ rfl _ _ 65 rfl (w.heap.size) 2 i0 (.int .i64 0) 1 8 Tryz.underlying65 hi ie0 ie1 ie2 rfl (by decide) _ _ _ rfl (hO7.alloc _) ⟨w7.heap.size, 0, none⟩ 1 1 [.int .i64 (f)] rfl rfl ?qc1 ?qc2 ?qc3 ?qc4 ?qc5 ?_)
              try (case qc1 =>
                  intro j u hj
                  match j, hj with
                  | 0, hj => simp at hj; subst hj; simp [Addr.add])
              try (case qc2 => first | (intro u hu; simp at hu; subst hu; rfl) | rfl)
              case qc3 => unfold maxLen; omega
              case qc4 => omega
              case qc5 => first | omega | (simp; omega)
              intro v8 w8 hown' hgrow _ hob'
              have hB8 := (show Below w.heap.size w (w7.alloc (.cells #[.int .i64 f] 2)) by go_grown).grown hgrow (by simp; omega) (fun q e => (hO7.lt q e).1)
              have hO8 : w8.ownsRow w.heap.size 2 1 v8 (U ++ [f]).length (ints (U ++ [f])) := by rw [ints_one, List.length_append]; exact hown'
              have hS8 : w7.heap.size ≤ w8.heap.size := by have := hgrow.size; simp at this; omega
              have hN8 : v8.ownBlock ≠ some bg := by
                rcases hob' with h | h
                · rw [h]; exact hne
                · rw [h]; simp; omega
              have hK8 := kept_blk hbg hgrow hne
              clear hown' hgrow hob'
              have hgn := Lib.hid (And.intro (hT7.snoc (t := f) (m := 18 * i + 2 * (q + 1)) (by omega) (by omega)) (show 0 < i ∨ 0 < q + 1 → 1 ≤ (U ++ [f]).length from fun _ => by simp))
              have hrel3 : w8.heap[bg]? = w1.heap[bg]? ∧ bg < w8.heap.size ∧ v8.ownBlock ≠ some bg := ⟨hK8.trans hblk7, by omega, hN8⟩
              clear d0 d1 d2 hb
              go_wp2
              go_roundw
              case rel => exact ⟨q + 1, U ++ [f], by go_num, by omega, hgn, hrel3, hB8, hO8⟩
              case measure => simp [intOf]; omega
            · have hq0I : ¬ 0 < (q : Int) := by omega
              by_cases hi0 : 0 < i
              · have hi0I : 0 < (i : Int) := by omega
                go_wp2_with fail
                refine (spec_GapK k _ (by omega)).mono ?_
                rintro e w9 ⟨gp, hgp, rfl, rfl⟩
                obtain ⟨g2, hg2⟩ : ∃ g2 : Int, gp + 20 = g2 := ⟨_, rfl⟩
                go_wp2_with (at_builtin; refine wpList_append_own_at _ rfl _ _ 65 rfl (w.heap.size) 2 i0 (.int .i64 0) 1 8 Tryz.underlying65 hi ie0 ie1 ie2 rfl (by decide) _ _ _ rfl (hown.alloc _) ⟨wr.heap.size, 0, none⟩ 1 1 [.int .i64 (g2)] rfl rfl ?pc1 ?pc2 ?pc3 ?pc4 ?pc5 ?_)
                try (case pc1 =>
                    intro j u hj
                    match j, hj with
                    | 0, hj => simp at hj; subst hj; simp [Addr.add])
                try (case pc2 => first | (intro u hu; simp at hu; subst hu; rfl) | rfl)
                case pc3 => unfold maxLen; omega
                case pc4 => omega
                case pc5 => first | omega | (simp; omega)
                intro v7 w7 hown' hgrow _ hob'
                have hB7 := (show Below w.heap.size w (wr.alloc (.cells #[.int .i64 g2] 2)) by go_grown).grown hgrow (by simp; omega) (fun q e => (hown.lt q e).1)
                have hO7 : w7.ownsRow w.heap.size 2 1 v7 (T ++ [g2]).length (ints (T ++ [g2])) := by rw [ints_one, List.length_append]; exact hown'
                have hS7 : wr.heap.size ≤ w7.heap.size := by have := hgrow.size; simp at this; omega
                have hN7 : v7.ownBlock ≠ some bg := by
                  rcases hob' with h | h
                  · rw [h]; exact hne
                  · rw [h]; simp; omega
                have hK7 := kept_blk hbg hgrow hne
                clear hown' hgrow hob'
                have hblk7 := hK7.trans hblk
                have hbg7 : bg < w7.heap.size := by omega
                have hT7 := hT.out.1.snoc (t := g2) (m := 18 * i + 2 * q + 1) (by omega) (Nat.le_refl _)
                have hTl7 : (T ++ [g2]).length = T.length + 1 := by simp
                obtain ⟨U, hU⟩ : ∃ U, T ++ [g2] = U := ⟨_, rfl⟩
                rw [hU] at hO7 hT7 hTl7
                have hTl8 : U.length ≤ 18 * i + 2 * q + 1 := by omega
                have hS7' := hB7.size
                obtain ⟨hb, d0, d1, d2⟩ := hch.out w7 hB7
                clear hU hTl7 hown hne hbg hK7 hblk hB5
                have hne := hN7
                have hbg := hbg7
                go_wp2_with fail
                refine (spec_FlashK k _ (by omega)).mono ?_
                rintro e w9 ⟨f, hf, rfl, rfl⟩
                go_wp2_with (at_builtin; refine wpList_append_own_at _ rfl _ _ 65 rfl (w.heap.size) 2 i0 (.int .i64 0) 1 8 Tryz.underlying65 hi ie0 ie1 ie2 rfl (by decide) _ _ _ rfl (hO7.alloc _) ⟨w7.heap.size, 0, none⟩ 1 1 [.int .i64 (f)] rfl rfl ?qc1 ?qc2 ?qc3 ?qc4 ?qc5 ?_)
                try (case qc1 =>
                    intro j u hj
                    match j, hj with
                    | 0, hj => simp at hj; subst hj; simp [Addr.add])
                try (case qc2 => first | (intro u hu; simp at hu; subst hu; rfl) | rfl)
                case qc3 => unfold maxLen; omega
                case qc4 => omega
                case qc5 => first | omega | (simp; omega)
                intro v8 w8 hown' hgrow _ hob'
                have hB8 := (show Below w.heap.size w (w7.alloc (.cells #[.int .i64 f] 2)) by go_grown).grown hgrow (by simp; omega) (fun q e => (hO7.lt q e).1)
                have hO8 : w8.ownsRow w.heap.size 2 1 v8 (U ++ [f]).length (ints (U ++ [f])) := by rw [ints_one, List.length_append]; exact hown'
                have hS8 : w7.heap.size ≤ w8.heap.size := by have := hgrow.size; simp at this; omega
                have hN8 : v8.ownBlock ≠ some bg := by
                  rcases hob' with h | h
                  · rw [h]; exact hne
                  · rw [h]; simp; omega
                have hK8 := kept_blk hbg hgrow hne
                clear hown' hgrow hob'
                have hgn := Lib.hid (And.intro (hT7.snoc (t := f) (m := 18 * i + 2 * (q + 1)) (by omega) (by omega)) (show 0 < i ∨ 0 < q + 1 → 1 ≤ (U ++ [f]).length from fun _ => by simp))
                have hrel3 : w8.heap[bg]? = w1.heap[bg]? ∧ bg < w8.heap.size ∧ v8.ownBlock ≠ some bg := ⟨hK8.trans hblk7, by omega, hN8⟩
                clear d0 d1 d2 hb
                go_wp2
                go_roundw
                case rel => exact ⟨q + 1, U ++ [f], by go_num, by omega, hgn, hrel3, hB8, hO8⟩
                case measure => simp [intOf]; omega
              · have hi0I : ¬ 0 < (i : Int) := by omega
                have hTw := hT.out.1
                have hS5' := hS5
                go_wp2_with fail
                refine (spec_FlashK k _ (by omega)).mono ?_
                rintro e w9 ⟨f, hf, rfl, rfl⟩
                go_wp2_with (at_builtin; refine wpList_append_own_at _ rfl _ _ 65 rfl (w.heap.size) 2 i0 (.int .i64 0) 1 8 Tryz.underlying65 hi ie0 ie1 ie2 rfl (by decide) _ _ _ rfl (hown.alloc _) ⟨wr.heap.size, 0, none⟩ 1 1 [.int .i64 (f)] rfl rfl ?qc1 ?qc2 ?qc3 ?qc4 ?qc5 ?_)
                try (case qc1 =>
                    intro j u hj
                    match j, hj with
                    | 0, hj => simp at hj; subst hj; simp [Addr.add])
                try (case qc2 => first | (intro u hu; simp at hu; subst hu; rfl) | rfl)
                case qc3 => unfold maxLen; omega
                case qc4 => omega
                case qc5 => first | omega | (simp; omega)
                intro v8 w8 hown' hgrow _ hob'
                have hB8 := (show Below w.heap.size w (wr.alloc (.cells #[.int .i64 f] 2)) by go_grown).grown hgrow (by simp; omega) (fun q e => (hown.lt q e).1)
                have hO8 : w8.ownsRow w.heap.size 2 1 v8 (T ++ [f]).length (ints (T ++ [f])) := by rw [ints_one, List.length_append]; exact hown'
                have hS8 : wr.heap.size ≤ w8.heap.size := by have := hgrow.size; simp at this; omega
                have hN8 : v8.ownBlock ≠ some bg := by
                  rcases hob' with h | h
                  · rw [h]; exact hne
                  · rw [h]; simp; omega
                have hK8 := kept_blk hbg hgrow hne
                clear hown' hgrow hob'
                have hgn := Lib.hid (And.intro (hTw.snoc (t := f) (m := 18 * i + 2 * (q + 1)) (by omega) (by omega)) (show 0 < i ∨ 0 < q + 1 → 1 ≤ (T ++ [f]).length from fun _ => by simp))
                have hrel3 : w8.heap[bg]? = w1.heap[bg]? ∧ bg < w8.heap.size ∧ v8.ownBlock ≠ some bg := ⟨hK8.trans hblk, by omega, hN8⟩
                clear d0 d1 d2 hb
                go_wp2
                go_roundw
                case rel => exact ⟨q + 1, T ++ [f], by go_num, by omega, hgn, hrel3, hB8, hO8⟩
                case measure => simp [intOf]; omega
          · obtain rfl : q = m := by omega
            have hgn := Lib.hid (And.intro (hT.out.1.le (m := 18 * (i + 1)) (by omega)) (show 0 < i + 1 → 1 ≤ T.length from fun _ => hT.out.2 (by omega)))
            clear d0 d1 d2 hb
            go_wp2_with fail
            go_roundw
            case rel => exact ⟨i + 1, T, by go_num, by omega, hgn, ⟨hblk, hbg, hne⟩, hB5, hown⟩
            case measure => simp [intOf]; omega
      · obtain rfl : i = H.length := by omega
        have hT1 := hT.out.2 (by omega)
        have hTf := Lib.hid (hT.out.1)
        have hTl := hTf.out.1
        have hS2 := hB2.size
        obtain ⟨hb, d0, d1, d2⟩ := hch.out wr hB2
        cases hL : (L.toList == [76])
        · go_wp2_with fail
          go_ret
          exact ⟨T, ⟨hTf.out.le (by omega), hT1⟩, _, rfl, hB2, hown⟩
        · go_wp2_with fail
          refine (spec_GapK k _ (by omega)).mono ?_
          rintro e w9 ⟨gp, hgp, rfl, rfl⟩
          go_wp2_with (at_builtin; refine wpList_append_own _ rfl _ _ 65 rfl (w.heap.size) 2 i0 (.int .i64 0) 1 8 Tryz.underlying65 hi ie0 ie1 ie2 rfl (by decide) _ _ _ rfl (hown.alloc _) ⟨wr.heap.size, 0, none⟩ 2 2 [.int .i64 gp, .int .i64 20] rfl rfl ?r1 ?r2 ?r3 ?r4 ?r5 ?_)
          try (case r1 =>
            intro j u hj
            match j, hj with
            | 0, hj => simp at hj; subst hj; simp [Addr.add]
            | 1, hj => simp at hj; subst hj; simp [Addr.add])
          try (case r2 => first | exact ⟨rfl, rfl⟩ | (intro u hu; simp at hu; rcases hu with rfl | rfl <;> rfl))
          case r3 => unfold maxLen; omega
          case r4 => omega
          case r5 => first | omega | (simp; omega)
          intro v7 w7 hown' hgrow _
          have hB7 := (show Below w.heap.size w (wr.alloc (.cells #[.int .i64 gp, .int .i64 20] 2)) by go_grown).grown hgrow (by simp; omega) (fun q e => (hown.lt q e).1)
          have hO7 : w7.ownsRow w.heap.size 2 1 v7 (T ++ [gp, 20]).length (ints (T ++ [gp, 20])) := by
            have e : ints (T ++ [gp, 20]) = ints T ++ [.int .i64 gp, .int .i64 20] := by unfold ints; rw [List.map_append]; rfl
            rw [e, List.length_append]; exact hown'
          have hgf := Lib.hid (show goodI 38 (T ++ [gp, 20]) ∧ 1 ≤ (T ++ [gp, 20]).length from ⟨⟨by simp; omega, fun x hx => by
            rcases List.mem_append.1 hx with hx | hx
            · exact hTf.out.2 x hx
            · simp at hx; omega⟩, by simp⟩)
          go_wp2
          go_ret
          exact ⟨T ++ [gp, 20], hgf.out, _, rfl, hB7, hO7⟩
end Go.Proofs.YtpnffdkkmibchaaGreatDoor
