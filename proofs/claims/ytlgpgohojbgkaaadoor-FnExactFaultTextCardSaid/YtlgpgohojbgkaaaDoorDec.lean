/-
  Contracts of the decimal form of a number: the program's and the reference's. Under no condition but those that each states (the library's table of powers of ten).
-/
import Derived.Test.YtlgpgohojbgkaaaDoorRows
import Derived.Test.YtlgpgohojbgkaaaDoorKit
import Derived.Test.YtlgpgohojbgkaaaDoorDecP
import Derived.Test.YtlgpgohojbgkaaaDoorShelf
import Derived.Laws.BytesString
import Derived.Laws.Cells
import Derived.Lib.BufferOwn
set_option linter.unusedVariables false
set_option linter.unnecessarySimpa false
set_option maxRecDepth 100000
set_option linter.unusedSimpArgs false
namespace Go.Proofs.YtlgpgohojbgkaaaDoor
open Go.RowKit BigFrame

theorem owns_on {w w' : World} {B : Nat} {e : TypeId} {sz : Nat} {v : Value} {n : Nat} {xs : List Value} (h : w.ownsRow B e sz v n xs) (hb : Below w.heap.size w w') : w'.ownsRow B e sz v n xs := by
  refine World.ownsRow.kept (row := none) h ⟨hb.os, hb.tape, hb.output, hb.size, fun k hk _ => hb.block k hk⟩ ?_
  cases v.ownBlock
  · exact .inl rfl
  · exact .inr (by simp)
/-- The library's table of powers of ten. -/
def Tab (w : World) : Prop := Lib.TabIs Tryd.prog w "internal/strconv.uint64pow10" .u64 Lib.pow10Tab
theorem tabVar : Tryd.prog.globalNamed "internal/strconv.uint64pow10" = some 1 := by kernel_rfl
theorem Tab.on {w w' : World} (h : Tab w) (hb : Below w.heap.size w w') : Tab w' := by
  unfold Tab Lib.TabIs at *
  unfold World.var? at h ⊢
  simp only [tabVar, Option.bind_some] at h ⊢
  by_cases hl : 1 < w.heap.size
  · rw [hb.block _ hl]
    exact h
  · rw [Array.getElem?_eq_none (by omega)] at h
    cases h

/-- The bytes of a row as numbers. -/
def bytesV (l : List Int) : List Value := l.map (Value.int .u8)
theorem row_string (w : World) {B n : Nat} {v : Value} {l : List Int} {src dst e : TypeId} (hs : Tryd.prog.underlying src = some (.slice e)) (he : Tryd.prog.underlying e = some (.int .u8)) (hd : Tryd.prog.underlying dst = some .string) (h : w.ownsRow B e 1 v n (bytesV l)) (hn : 0 < n) :
    (convert src dst v).run Tryd.prog w = .ok (.string (l.foldl (fun r n => r.push (UInt8.ofNat n.toNat)) ByteArray.empty)) w := by
  obtain ⟨hl, h0 | ⟨g, cap, cur, rfl, hb, hh, hcn, hm, hsz, ht⟩⟩ := h
  · omega
  · rw [run_convert_bytes_string _ _ _ e _ _ _ hs he hd]
    refine run_bytesToString _ _ _ _ l ?_
    have e1 : n = l.length := by simpa [bytesV] using hl.symm
    subst e1
    have hx := run_loadCells_list (P := Tryd.prog) w ⟨g, 0, none⟩ (bytesV l) (fun j u hu => by
      rw [← ht, List.getElem?_take] at hu
      split at hu
      · have e0 : (⟨g, 0, none⟩ : Addr).add j = ⟨g, j, none⟩ := by unfold Addr.add; split <;> simp_all
        rw [e0]
        simp only [World.cell?, hh]
        simpa using hu
      · cases hu)
    simpa [bytesV] using hx

theorem owns_sl {w : World} {B n : Nat} {e : TypeId} {v : Value} {xs : List Value} (h : w.ownsRow B e 1 v n xs) (hn : 0 < n) : ∃ g c, v = .slice (some ⟨g, 0, none⟩) n c ∧ B ≤ g ∧ Sl w w.heap.size (some ⟨g, 0, none⟩) xs := by
  obtain ⟨hl, h0 | ⟨g, cap, cur, rfl, hb, hh, hcn, hm, hsz, ht⟩⟩ := h
  · omega
  · refine ⟨g, cap, rfl, hb, fun _ => ⟨g, 0, rfl, (Array.getElem?_eq_some_iff.1 hh).1, fun j u hu => ?_⟩⟩
    rw [← ht, List.getElem?_take] at hu
    split at hu
    · rw [Nat.zero_add]
      simp only [World.cell?, hh]
      simpa using hu
    · cases hu

theorem infoByte : (Tryd.prog.info? 5).map (fun i => (i.zero, i.size, i.bytes)) = some (some (.int .u8 0), 1, 1) := by kernel_rfl
theorem len_rev {l : List Int} {n : Nat} (h : l.length = n) : l.reverse.length = n := by simpa using h
set_option maxHeartbeats 3200000 in
theorem spec_Dec (n : Int) (h0 : -9223372036854775808 ≤ n) (h1 : n ≤ 9223372036854775807) (w : World) : Calls Tryd.prog 98 #[.int .i64 n] w fun e w' => e = .returned (.string (decT n)) ∧ Below w.heap.size w w' := by
  obtain ⟨i0, hi, ie0, ie1, ie2⟩ := info_parts infoByte
  by_cases hz : n = 0
  · subst hz
    have hT := Lib.hid decT_zero
    go_enter Tryd.func98, Tryd.ntmps98
    go_wp2
    go_ret
    exact ⟨ret_str hT.out.symm, Below.refl _ _⟩
  have hz' : (n == 0) = false := beq_eq_false_iff_ne.2 hz
  have hR := Lib.hid (decR_text n hz)
  have hRl := decR_len n h0 h1
  have hRp : 0 < (decR n).length := by
    unfold decR
    rw [revD_pos (by omega)]
    simp
  have hR0 : Hid (decR n = (revD n.natAbs).map (fun d : Nat => 48 + (d : Int)) ++ if n < 0 then [45] else []) := Lib.hid rfl
  have hlen0 : (revD n.natAbs).length ≤ 20 := revD_len 20 n.natAbs (by omega)
  go_enter Tryd.func98, Tryd.ntmps98
  go_wp2_with fail
  have hO0 : (w.alloc (.cells #[] 5)).ownsRow w.heap.size 5 1 (.slice (some ⟨w.heap.size, 0, none⟩) 0 0) 0 (bytesV []) := World.ownsRow_made w #[] 0 (by omega) (Nat.zero_le _) rfl
  have hB0 : Below w.heap.size w (w.alloc (.cells #[] 5)) := by go_grown
  go_loopw [3, 4, 5] (fun v m _ wr => ∃ (L : List Int) (z : Int), m = .int .i64 z ∧ -9223372036854775808 ≤ z ∧ z ≤ 9223372036854775807 ∧ (0 ≤ z ∨ n < 0) ∧ Hid ((revD n.natAbs).map (fun d : Nat => 48 + (d : Int)) = L ++ (revD z.natAbs).map (fun d : Nat => 48 + (d : Int))) ∧ L.length ≤ 20 ∧ Below w.heap.size w wr ∧ wr.ownsRow w.heap.size 5 1 v L.length (bytesV L)) (fun _ m _ _ => (intOf m).natAbs)
  case atStart => exact ⟨[], n, rfl, h0, h1, by omega, Lib.hid rfl, by simp, hB0, hO0⟩
  case round =>
    clear hB0 hO0
    obtain ⟨L, z, rfl, hz0, hz1, hzn, hL, hLl, hB1, hown⟩ := hrel
    have hS1 := hB1.size
    by_cases hzz : z = 0
    · subst hzz
      have hLD : Hid (decR n = L ++ if n < 0 then [45] else []) := by apply Lib.hid; rw [hR0.out, hL.out]; simp [revD_zero]
      clear hL hR0
      by_cases hn : n < 0
      · have hX : Hid (L ++ [45] = decR n) := by apply Lib.hid; rw [hLD.out, if_pos hn]
        go_wp2_with (at_builtin; refine wpList_append_own _ rfl _ _ 52 rfl w.heap.size 5 i0 (.int .u8 0) 1 1 Tryd.underlying52 hi ie0 ie1 ie2 rfl (by decide) _ _ _ rfl (hown.alloc _) ⟨wr.heap.size, 0, none⟩ 1 1 (bytesV [45]) rfl rfl ?c1 ?c2 ?c3 ?c4 ?c5 ?_)
        case c1 =>
          intro j u hj
          match j, hj with
          | 0, hj => simp [bytesV] at hj; subst hj; simp [Addr.add]
        case c2 => intro u hu; simp [bytesV] at hu; subst hu; rfl
        case c3 => unfold maxLen; omega
        case c4 => omega
        case c5 => simp; omega
        intro v' wn hown' hgrow _
        have hBn := (show Below w.heap.size w (wr.alloc (.cells #[.int .u8 45] 5)) by go_grown).grown hgrow (by simp; omega) (fun q e => (hown.lt q e).1)
        have hOn : wn.ownsRow w.heap.size 5 1 v' (decR n).length (bytesV (decR n)) := by rw [← hX.out]; simpa [bytesV] using hown'
        clear hown' hgrow hown hLD hX
        generalize decR n = M at *
        obtain ⟨g, cD, rfl, hbg, hSl⟩ := owns_sl hOn hRp
        obtain ⟨S, hS⟩ : ∃ S, wn.heap.size = S := ⟨_, rfl⟩
        rw [hS] at hSl
        have hszn := hBn.size
        have hS1' : S ≤ wn.heap.size := by omega
        have hS' := Lib.hid hS
        clear hS
        go_wp2_with fail
        have hO0 : (wn.alloc (.cells #[] 5)).ownsRow wn.heap.size 5 1 (.slice (some ⟨wn.heap.size, 0, none⟩) 0 0) 0 (bytesV []) := World.ownsRow_made wn #[] 0 (by omega) (Nat.zero_le _) rfl
        have hB0 : Below w.heap.size w (wn.alloc (.cells #[] 5)) := by go_grown
        have hS0 : S ≤ (wn.alloc (.cells #[] 5)).heap.size := by simp; omega
        have hSl0 := hSl.below ((Below.refl S wn).alloc hS1' (.cells #[] 5))
        rw [show World.ownsRow _ wn.heap.size = World.ownsRow _ S by rw [hS'.out]] at hO0
        go_loopw [6, 7] (fun o i w5 => ∃ j : Nat, (i = .int .i64 (-1) ∧ j = 0 ∨ ∃ k : Nat, i = .int .i64 k ∧ j = k + 1) ∧ j ≤ M.length ∧ Below w.heap.size w w5 ∧ S ≤ w5.heap.size ∧ Sl w5 S (some ⟨g, 0, none⟩) (bytesV M) ∧ w5.ownsRow S 5 1 o (M.length - j) (bytesV (M.drop j).reverse)) (fun _ i _ => (intOf i + 1).toNat)
        case atStart => exact ⟨M.length, Or.inr ⟨M.length - 1, by congr 1; omega, by omega⟩, Nat.le_refl _, hB0, hS0, hSl0, by simpa [bytesV] using hO0⟩
        case round =>
          clear hB0 hO0 hS0 hSl0 hSl hOn hBn hszn hS1' hS'
          obtain ⟨j, hij, hj, hB2, hS2, hSl, hown⟩ := hrel
          rcases hij with ⟨rfl, rfl⟩ | ⟨k, rfl, rfl⟩
          · have hcv := row_string wr (src := 52) (dst := 9) Tryd.underlying52 Tryd.underlying5 Tryd.underlying9 hown (by simpa using hRp)
            have hcv2 : Hid (((M.drop 0).reverse).foldl (fun r n => r.push (UInt8.ofNat n.toNat)) ByteArray.empty = decT n) := by apply Lib.hid; rw [List.drop_zero]; exact hR.out
            rw [hcv2.out] at hcv
            go_wp2
            go_ret
            exact ⟨rfl, hB2⟩
          · have hk : k < M.length := by omega
            obtain ⟨b, o, e0, hb, hc⟩ := hSl (by intro e; unfold bytesV at e; rw [List.map_eq_nil_iff] at e; subst e; simp at hk)
            cases e0
            have d0 : wr.cell? ⟨g, k, none⟩ = some (.int .u8 M[k]) := by have := hc k _ (by unfold bytesV; rw [List.getElem?_map, List.getElem?_eq_getElem hk]; rfl); simpa using this
            obtain ⟨y, hy⟩ : ∃ y, M[k] = y := ⟨_, rfl⟩
            have hdr : Hid ((M.drop k).reverse = (M.drop (k + 1)).reverse ++ [y]) := by apply Lib.hid; rw [List.drop_eq_getElem_cons hk, hy]; simp
            rw [hy] at d0
            clear hc hy
            have hgw : g < wr.heap.size := by omega
            go_wp2_with (at_builtin; refine wpList_append_own _ rfl _ _ 52 rfl S 5 i0 (.int .u8 0) 1 1 Tryd.underlying52 hi ie0 ie1 ie2 rfl (by decide) _ _ _ rfl (hown.alloc _) ⟨wr.heap.size, 0, none⟩ 1 1 (bytesV [y]) rfl rfl ?c1 ?c2 ?c3 ?c4 ?c5 ?_)
            case c1 =>
              intro j u hj
              match j, hj with
              | 0, hj => simp [bytesV] at hj; subst hj; simp [Addr.add]
            case c2 => intro u hu; simp [bytesV] at hu; subst hu; rfl
            case c3 => unfold maxLen; omega
            case c4 => omega
            case c5 => simp; omega
            intro v' wn hown' hgrow _
            have hal : Below S wr (wr.alloc (.cells #[.int .u8 y] 5)) := (Below.refl _ _).alloc hS2 _
            have hBn := (show Below w.heap.size w (wr.alloc (.cells #[.int .u8 y] 5)) by go_grown).grown hgrow (by simp; omega) (fun q e => by have := (hown.lt q e).1; omega)
            have hSn := (hal.grown hgrow (by simp; omega) (fun q e => (hown.lt q e).1))
            have hSl2 := hSl.below hSn
            have hz2 : S ≤ wn.heap.size := by have := hgrow.size; simp at this; omega
            have hOn : wn.ownsRow S 5 1 v' (M.length - k) (bytesV (M.drop k).reverse) := by
              rw [hdr.out, show M.length - k = M.length - (k + 1) + 1 by omega]
              simpa [bytesV] using hown'
            clear hown' hgrow hown hal hSn hB2 hSl
            go_wp2
            go_roundw
            case rel => exact ⟨k, (by cases k with | zero => exact Or.inl ⟨by simp, rfl⟩ | succ k => exact Or.inr ⟨k, by congr 1; omega, rfl⟩), by omega, hBn, hz2, hSl2, hOn⟩
            case measure => (simp [intOf]) <;> omega
      · have hX : Hid (L = decR n) := by apply Lib.hid; rw [hLD.out, if_neg hn]; simp
        have hOn := hown
        rw [hX.out] at hOn
        have hBn := hB1
        clear hown hLD hX hB1
        generalize decR n = M at *
        obtain ⟨g, cD, rfl, hbg, hSl⟩ := owns_sl hOn hRp
        obtain ⟨S, hS⟩ : ∃ S, wr.heap.size = S := ⟨_, rfl⟩
        rw [hS] at hSl
        have hszn := hBn.size
        have hS1' : S ≤ wr.heap.size := by omega
        have hS' := Lib.hid hS
        clear hS
        go_wp2_with fail
        have hO0 : (wr.alloc (.cells #[] 5)).ownsRow wr.heap.size 5 1 (.slice (some ⟨wr.heap.size, 0, none⟩) 0 0) 0 (bytesV []) := World.ownsRow_made wr #[] 0 (by omega) (Nat.zero_le _) rfl
        have hB0 : Below w.heap.size w (wr.alloc (.cells #[] 5)) := by go_grown
        have hS0 : S ≤ (wr.alloc (.cells #[] 5)).heap.size := by simp; omega
        have hSl0 := hSl.below ((Below.refl S wr).alloc hS1' (.cells #[] 5))
        rw [show World.ownsRow _ wr.heap.size = World.ownsRow _ S by rw [hS'.out]] at hO0
        go_loopw [6, 7] (fun o i w5 => ∃ j : Nat, (i = .int .i64 (-1) ∧ j = 0 ∨ ∃ k : Nat, i = .int .i64 k ∧ j = k + 1) ∧ j ≤ M.length ∧ Below w.heap.size w w5 ∧ S ≤ w5.heap.size ∧ Sl w5 S (some ⟨g, 0, none⟩) (bytesV M) ∧ w5.ownsRow S 5 1 o (M.length - j) (bytesV (M.drop j).reverse)) (fun _ i _ => (intOf i + 1).toNat)
        case atStart => exact ⟨M.length, Or.inr ⟨M.length - 1, by congr 1; omega, by omega⟩, Nat.le_refl _, hB0, hS0, hSl0, by simpa [bytesV] using hO0⟩
        case round =>
          clear hB0 hO0 hS0 hSl0 hSl hOn hBn hszn hS1' hS'
          obtain ⟨j, hij, hj, hB2, hS2, hSl, hown⟩ := hrel
          rcases hij with ⟨rfl, rfl⟩ | ⟨k, rfl, rfl⟩
          · have hcv := row_string wr (src := 52) (dst := 9) Tryd.underlying52 Tryd.underlying5 Tryd.underlying9 hown (by simpa using hRp)
            have hcv2 : Hid (((M.drop 0).reverse).foldl (fun r n => r.push (UInt8.ofNat n.toNat)) ByteArray.empty = decT n) := by apply Lib.hid; rw [List.drop_zero]; exact hR.out
            rw [hcv2.out] at hcv
            go_wp2
            go_ret
            exact ⟨rfl, hB2⟩
          · have hk : k < M.length := by omega
            obtain ⟨b, o, e0, hb, hc⟩ := hSl (by intro e; unfold bytesV at e; rw [List.map_eq_nil_iff] at e; subst e; simp at hk)
            cases e0
            have d0 : wr.cell? ⟨g, k, none⟩ = some (.int .u8 M[k]) := by have := hc k _ (by unfold bytesV; rw [List.getElem?_map, List.getElem?_eq_getElem hk]; rfl); simpa using this
            obtain ⟨y, hy⟩ : ∃ y, M[k] = y := ⟨_, rfl⟩
            have hdr : Hid ((M.drop k).reverse = (M.drop (k + 1)).reverse ++ [y]) := by apply Lib.hid; rw [List.drop_eq_getElem_cons hk, hy]; simp
            rw [hy] at d0
            clear hc hy
            have hgw : g < wr.heap.size := by omega
            go_wp2_with (at_builtin; refine wpList_append_own _ rfl _ _ 52 rfl S 5 i0 (.int .u8 0) 1 1 Tryd.underlying52 hi ie0 ie1 ie2 rfl (by decide) _ _ _ rfl (hown.alloc _) ⟨wr.heap.size, 0, none⟩ 1 1 (bytesV [y]) rfl rfl ?c1 ?c2 ?c3 ?c4 ?c5 ?_)
            case c1 =>
              intro j u hj
              match j, hj with
              | 0, hj => simp [bytesV] at hj; subst hj; simp [Addr.add]
            case c2 => intro u hu; simp [bytesV] at hu; subst hu; rfl
            case c3 => unfold maxLen; omega
            case c4 => omega
            case c5 => simp; omega
            intro v' wn hown' hgrow _
            have hal : Below S wr (wr.alloc (.cells #[.int .u8 y] 5)) := (Below.refl _ _).alloc hS2 _
            have hBn := (show Below w.heap.size w (wr.alloc (.cells #[.int .u8 y] 5)) by go_grown).grown hgrow (by simp; omega) (fun q e => by have := (hown.lt q e).1; omega)
            have hSn := (hal.grown hgrow (by simp; omega) (fun q e => (hown.lt q e).1))
            have hSl2 := hSl.below hSn
            have hz2 : S ≤ wn.heap.size := by have := hgrow.size; simp at this; omega
            have hOn : wn.ownsRow S 5 1 v' (M.length - k) (bytesV (M.drop k).reverse) := by
              rw [hdr.out, show M.length - k = M.length - (k + 1) + 1 by omega]
              simpa [bytesV] using hown'
            clear hown' hgrow hown hal hSn hB2 hSl
            go_wp2
            go_roundw
            case rel => exact ⟨k, (by cases k with | zero => exact Or.inl ⟨by simp, rfl⟩ | succ k => exact Or.inr ⟨k, by congr 1; omega, rfl⟩), by omega, hBn, hz2, hSl2, hOn⟩
            case measure => (simp [intOf]) <;> omega
    · obtain ⟨d, q, hd, hq⟩ : ∃ d q : Nat, z.natAbs % 10 = d ∧ z.natAbs / 10 = q := ⟨_, _, rfl, rfl⟩
      have hd9 : d ≤ 9 := by omega
      have hL2 : Hid ((revD n.natAbs).map (fun d : Nat => 48 + (d : Int)) = (L ++ [48 + (d : Int)]) ++ (revD q).map (fun d : Nat => 48 + (d : Int))) := by
        apply Lib.hid; rw [hL.out, rev_step hzz, hd, hq]; simp
      have hLl2 : L.length + 1 ≤ 20 := by
        have := congrArg List.length hL2.out
        simp at this
        omega
      rcases (by omega : 0 < z ∨ z < 0) with hp | hp
      · have e1 : z % 10 = d := by omega
        have e2 : z / 10 = q := by omega
        clear hd hq hL
        go_wp2_with (at_builtin; refine wpList_append_own _ rfl _ _ 52 rfl w.heap.size 5 i0 (.int .u8 0) 1 1 Tryd.underlying52 hi ie0 ie1 ie2 rfl (by decide) _ _ _ rfl (hown.alloc _) ⟨wr.heap.size, 0, none⟩ 1 1 (bytesV [48 + (d : Int)]) rfl rfl ?c1 ?c2 ?c3 ?c4 ?c5 ?_)
        case c1 =>
          intro j u hj
          match j, hj with
          | 0, hj => simp [bytesV] at hj; subst hj; simp [Addr.add]
        case c2 => intro u hu; simp [bytesV] at hu; subst hu; rfl
        case c3 => unfold maxLen; omega
        case c4 => omega
        case c5 => simp; omega
        intro v' wn hown' hgrow _
        have hBn := (show Below w.heap.size w (wr.alloc (.cells #[.int .u8 (48 + (d : Int))] 5)) by go_grown).grown hgrow (by simp; omega) (fun q e => (hown.lt q e).1)
        have hOn : wn.ownsRow w.heap.size 5 1 v' (L ++ [48 + (d : Int)]).length (bytesV (L ++ [48 + (d : Int)])) := by simpa [bytesV] using hown'
        clear hown' hgrow hown
        go_wp2
        go_roundw
        case rel => exact ⟨L ++ [48 + (d : Int)], q, by first | rfl | rw [e2] | simp [e2], by omega, by omega, by omega, by simpa using hL2, by simp; omega, hBn, hOn⟩
        case measure => simp [intOf]; omega
      · obtain ⟨e1, e2⟩ := neg_parts hp
        rw [hd] at e1
        rw [hq] at e2
        have hnn : n < 0 := by omega
        have hqb : (q : Int) ≤ 922337203685477580 := by omega
        have hqz : q < z.natAbs := by omega
        clear hd hq hL
        rcases Nat.eq_zero_or_pos d with h0d | h0d
        · subst h0d
          have e1 : z.tmod 10 = 0 := e1
          go_wp2_with (at_builtin; refine wpList_append_own _ rfl _ _ 52 rfl w.heap.size 5 i0 (.int .u8 0) 1 1 Tryd.underlying52 hi ie0 ie1 ie2 rfl (by decide) _ _ _ rfl (hown.alloc _) ⟨wr.heap.size, 0, none⟩ 1 1 (bytesV [48]) rfl rfl ?c1 ?c2 ?c3 ?c4 ?c5 ?_)
          case c1 =>
            intro j u hj
            match j, hj with
            | 0, hj => simp [bytesV] at hj; subst hj; simp [Addr.add]
          case c2 => intro u hu; simp [bytesV] at hu; subst hu; rfl
          case c3 => unfold maxLen; omega
          case c4 => omega
          case c5 => simp; omega
          intro v' wn hown' hgrow _
          have hBn := (show Below w.heap.size w (wr.alloc (.cells #[.int .u8 (48)] 5)) by go_grown).grown hgrow (by simp; omega) (fun q e => (hown.lt q e).1)
          have hOn : wn.ownsRow w.heap.size 5 1 v' (L ++ [48]).length (bytesV (L ++ [48])) := by simpa [bytesV] using hown'
          clear hown' hgrow hown
          go_wp2
          go_roundw
          case rel => exact ⟨L ++ [48], (-(q : Int)), by first | rfl | rw [e2] | simp [e2], by omega, by omega, by omega, by simpa using hL2, by simp; omega, hBn, hOn⟩
          case measure => simp [intOf]; omega
        · have e3 : decide (-(d : Int) < 0) = true := decide_eq_true (by omega)
          go_wp2_with (at_builtin; refine wpList_append_own _ rfl _ _ 52 rfl w.heap.size 5 i0 (.int .u8 0) 1 1 Tryd.underlying52 hi ie0 ie1 ie2 rfl (by decide) _ _ _ rfl (hown.alloc _) ⟨wr.heap.size, 0, none⟩ 1 1 (bytesV [48 + (d : Int)]) rfl rfl ?c1 ?c2 ?c3 ?c4 ?c5 ?_)
          case c1 =>
            intro j u hj
            match j, hj with
            | 0, hj => simp [bytesV] at hj; subst hj; simp [Addr.add]
          case c2 => intro u hu; simp [bytesV] at hu; subst hu; rfl
          case c3 => unfold maxLen; omega
          case c4 => omega
          case c5 => simp; omega
          intro v' wn hown' hgrow _
          have hBn := (show Below w.heap.size w (wr.alloc (.cells #[.int .u8 (48 + (d : Int))] 5)) by go_grown).grown hgrow (by simp; omega) (fun q e => (hown.lt q e).1)
          have hOn : wn.ownsRow w.heap.size 5 1 v' (L ++ [48 + (d : Int)]).length (bytesV (L ++ [48 + (d : Int)])) := by simpa [bytesV] using hown'
          clear hown' hgrow hown
          go_wp2
          go_roundw
          case rel => exact ⟨L ++ [48 + (d : Int)], (-(q : Int)), by first | rfl | rw [e2] | simp [e2], by omega, by omega, by omega, by simpa using hL2, by simp; omega, hBn, hOn⟩
          case measure => simp [intOf]; omega

theorem below_sgrow (w : World) (k : Nat) (os : Array Obj) : Below w.heap.size w (Sort.grow (w.drewN k) os) := by
  refine (below_drewN (Below.refl _ w) k).trans ⟨rfl, rfl, rfl, by simp [Sort.grow], fun j hj => ?_⟩
  have : j < w.heap.size := hj
  simp [Sort.grow, Array.getElem?_append, this]
theorem impl_Dec (n : Int) (h0 : -9223372036854775808 ≤ n) (h1 : n ≤ 9223372036854775807) (w : World) (ht : Tab w) : Calls Tryd.prog 47 #[.int .i64 n] w fun e w' => e = .returned (.string (decT n)) ∧ Below w.heap.size w w' := by
  go_enter Tryd.func47, Tryd.ntmps47
  go_wp2_with (go_at_call 103; refine (sh_strconv_FormatInt_10 n h0 h1 _ ht).mono ?_; rintro e w1 ⟨rfl, k, os, rfl⟩)
  go_ret
  exact ⟨rfl, below_sgrow _ _ _⟩
end Go.Proofs.YtlgpgohojbgkaaaDoor
