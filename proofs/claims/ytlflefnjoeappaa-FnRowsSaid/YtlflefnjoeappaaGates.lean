/-
  Contracts of the gates of a channel: the program's and the reference's. Under the conditions that each states.
-/
import Derived.Test.YtlflefnjoeappaaGate
import Derived.Test.YtlflefnjoeappaaWrong
import Derived.Test.YtlflefnjoeappaaInts
import Derived.Test.YtlflefnjoeappaaWrS
import Derived.Lib.BufferOwn
set_option linter.unusedVariables false
set_option linter.unnecessarySimpa false
set_option maxRecDepth 100000
set_option linter.unusedSimpArgs false
namespace Go.Proofs.Ytlflefnjoeappaa
open Go.RowKit BigFrame

def GtPost (C : Int) (G : List RGate) (w : World) (e : Ending) (w' : World) : Prop := ∃ v, e = .returned (.tuple #[v, .int .i64 C]) ∧ Below w.heap.size w w' ∧ Rs w' w.heap.size 60 5 v G.length (flat RGate.cells G)
theorem infoGt : (Try.prog.info? 60).map (fun i => (i.zero, i.size, i.bytes)) = some (some (.agg #[.int .i64 0, .int .i64 0, .int .i64 0, .int .i64 0, .int .i64 0]), 5, 40) := by kernel_rfl
theorem chan_facts {s : ByteArray} {P : List RPoint} {wd : Int} (h : vChan s P wd = true) : vLine P = true ∧ (2 ≤ P.length ∧ P.length ≤ 12) ∧ 10 ≤ wd ∧ wd ≤ 5000 := by
  unfold vChan at h
  simp only [Bool.and_eq_true] at h
  have h1 := inB_yes.1 h.2.2.1
  have h2 := inB_yes.1 h.2.2.2
  exact ⟨h.1, by omega, h2⟩
theorem len_lim {P : List RPoint} (hvl : vLine P = true) (h : P.length ≤ 12) : 0 ≤ lenM P ∧ lenM P ≤ 3111273 := by
  have h1 := lenTo_le P (seg_le hvl) (P.length - 1)
  have h0 := lenTo_mono P (Nat.zero_le (P.length - 1))
  unfold lenM
  rw [lenTo] at h0
  have : ((P.length - 1 : Nat) : Int) * 282843 ≤ 11 * 282843 := Int.mul_le_mul_of_nonneg_right (by omega) (by omega)
  omega
theorem cnt_lim {L s : Int} (hs : 50 ≤ s) (h0 : 0 ≤ L) (h : L ≤ 3111273) : cntM L s ≤ 62226 := by
  have := cnt_le (L := L) (s := s) (B := 62226) (by omega) (by have := Int.mul_le_mul_of_nonneg_left hs (show (0 : Int) ≤ 62226 by omega); omega) (by omega)
  omega
/-- The gates of the first k distances. -/
def gatesTo (P : List RPoint) (wd s : Int) (k : Nat) : List RGate := ((plcs (lenM P) s).take k).map (gateM P wd)
theorem gatesTo_len {P : List RPoint} {wd s : Int} {k : Nat} (h : k ≤ (plcs (lenM P) s).length) : (gatesTo P wd s k).length = k := by unfold gatesTo; rw [List.length_map, List.length_take, Nat.min_eq_left h]
theorem gatesTo_step {P : List RPoint} {wd s : Int} {k : Nat} {d : Int} (h : k < (plcs (lenM P) s).length) (hd : (plcs (lenM P) s)[k] = d) : gatesTo P wd s (k + 1) = gatesTo P wd s k ++ [gateM P wd d] := by
  unfold gatesTo
  rw [List.take_succ_eq_append_getElem h, List.map_append, hd]
  rfl
theorem gatesTo_all (P : List RPoint) (wd s : Int) : gatesTo P wd s (plcs (lenM P) s).length = gates P wd s := by unfold gatesTo gates; rw [List.take_length]
theorem plcs_at {L s : Int} {k : Nat} (h : k < cntM L s) : (plcs L s)[k]'(by rw [plcs_len]; omega) = (k : Int) * s := by
  unfold plcs
  rw [List.getElem_append_left (by rw [plcN_len]; exact h)]
  simp [plcN]
theorem plcs_last (L s : Int) : (plcs L s)[cntM L s]'(by rw [plcs_len]; omega) = L := by
  unfold plcs
  rw [List.getElem_append_right (by rw [plcN_len]; omega)]
  simp [plcN_len]
theorem gates_bad {P : List RPoint} {wd s : Int} {k : Nat} {d : Int} (h : k < (plcs (lenM P) s).length) (hd : (plcs (lenM P) s)[k] = d) (hb : okGate (gateM P wd d) = false) : (gates P wd s).all okGate = false := by
  rw [List.all_eq_false]
  refine ⟨gateM P wd d, ?_, by rw [hb]; simp⟩
  unfold gates
  rw [List.mem_map]
  exact ⟨d, hd ▸ List.getElem_mem h, rfl⟩
theorem gates_good {P : List RPoint} {wd s : Int} (h : (gatesTo P wd s (plcs (lenM P) s).length).all okGate = true) : (gates P wd s).all okGate = true := by rw [← gatesTo_all]; exact h
set_option maxHeartbeats 3200000 in
theorem spec_Gates_yes (nm : ByteArray) (hnm : nm.size ≤ maxLen) (P : List RPoint) (A : Option Addr) (c B g : Nat) (wd s : Int) (w : World) (hZ0 : Cz w g nm A P.length c wd) (hP : Sl w B A (flat RPoint.cells P)) (hB : B ≤ w.heap.size) (hv : vChan nm P wd = true) (hs : inB s 50 200000 = true) :
    Calls Try.prog 185 #[.pointer (some ⟨g, 0, none⟩), .int .i64 s] w (GtPost (gtC nm P wd s) (gtL nm P wd s) w) := by
  obtain ⟨hvl, ⟨h2, h12⟩, hwd⟩ := chan_facts hv
  have hl : P.length ≤ 1048576 := by omega
  have hsb := inB_yes.1 hs
  obtain ⟨hL0, hL1⟩ := len_lim hvl h12
  have hcn := cnt_lim hsb.1 hL0 hL1
  have hlen := fun w (h : Sl w B A (flat RPoint.cells P)) (hB : B ≤ w.heap.size) => spec_Len P A c B w h hB hl (by omega) hvl
  have hga := fun w d (hz : Cz w g nm A P.length c wd) (h : Sl w B A (flat RPoint.cells P)) (hB : B ≤ w.heap.size) (hd : 0 ≤ d ∧ d ≤ lenM P) => spec_Gate nm P A c B g wd d w hz h hB hl h2 hvl hwd hd
  have hCe : Hid (gtC nm P wd s = if 32 < cntM (lenM P) s + 1 then 5 else if (gates P wd s).all okGate = true then 0 else 6) := Lib.hid (by unfold gtC; rw [hv, hs, gates_len]; rfl)
  have hLe : Hid (gtL nm P wd s = if gtC nm P wd s = 0 then gates P wd s else []) := Lib.hid rfl
  have hiff := fun k => cnt_iff (L := lenM P) (s := s) (by omega) k
  have hstp := fun k d h hd => gatesTo_step (P := P) (wd := wd) (s := s) (k := k) (d := d) h hd
  have hP' := Lib.hid hP
  have hlen' := Lib.hid hlen
  have hga' := Lib.hid hga
  have hiff' := Lib.hid hiff
  obtain ⟨i0, hi, ie0, ie1, ie2⟩ := info_parts infoI64
  obtain ⟨j0, hj, je0, je1, je2⟩ := info_parts infoGt
  clear hP hlen hga hiff hstp
  obtain ⟨L, hLL⟩ : ∃ L, lenM P = L := ⟨_, rfl⟩
  have hLL' := Lib.hid hLL
  rw [hLL] at hL0 hL1 hcn hlen' hga' hiff' hCe
  obtain ⟨n, hn⟩ : ∃ n, cntM L s = n := ⟨_, rfl⟩
  have hn' := Lib.hid hn
  rw [hn] at hcn hiff' hCe
  clear hLL hn
  go_enter Try.func185, Try.ntmps185
  go_wp2_with fail
  refine (spec_l13Ok nm hnm P A c B g wd _ hZ0 (hP'.out.below ((show Below w.heap.size w _ by go_grown).mono hB)) hB hl).mono ?_
  rintro e w1 ⟨rfl, hb1⟩
  rw [hv]
  have hB1 := bnext (Below.refl w.heap.size w) hb1
  have hZ1 := hZ0.on hB1
  clear hb1 hv
  obtain ⟨hzl, z0, z1, z2⟩ := id hZ1
  go_wp2_with (go_at_call 119; refine (in_any _ _ _ _).mono ?_; rintro e w' ⟨rfl, rfl⟩)
  refine (hlen'.out _ (hP'.out.below (hB1.mono hB)) (Nat.le_trans hB hB1.size)).mono ?_
  rintro e w2 ⟨rfl, hb2⟩
  have hB2 := bnext hB1 hb2
  have hS2 := hB2.size
  clear hb2 hB1 hZ1 hzl z0 z1 z2 hs
  go_wp2_with fail
  have hO0 : (w2.alloc (.cells #[] 2)).ownsRow w.heap.size 2 1 (.slice (some ⟨w2.heap.size, 0, none⟩) 0 0) 0 (ints (plcN s 0)) := World.ownsRow_made w2 #[] 0 (by omega) (Nat.zero_le _) rfl
  have hBa : Below w.heap.size w (w2.alloc (.cells #[] 2)) := by go_grown
  go_loopw [7, 8] (fun v d wr => ∃ (k : Nat) (z : Int), d = .int .i64 z ∧ Hid (z = (k : Int) * s) ∧ 0 ≤ z ∧ k ≤ n ∧ z ≤ 3311273 ∧ Below w.heap.size w wr ∧ wr.ownsRow w.heap.size 2 1 v k (ints (plcN s k))) (fun _ d _ => (3311274 - intOf d).toNat)
  case atStart => exact ⟨0, 0, rfl, Lib.hid (by simp), by omega, by omega, by omega, hBa, hO0⟩
  case round =>
    clear hBa hO0 hB2 hS2
    obtain ⟨k, z, rfl, hzk, hz0, hkn, hzl, hB1, hown⟩ := hrel
    have hS1 := hB1.size
    by_cases hlt : z < L
    · have hk1 : k < n := (hiff'.out k).1 (by rw [← hzk.out]; exact hlt)
      have hz2 : Hid (z + s = ((k + 1 : Nat) : Int) * s) := Lib.hid (by rw [hzk.out, Int.natCast_add, Int.add_mul]; simp)
      have hst : Hid (ints (plcN s (k + 1)) = ints (plcN s k) ++ [.int .i64 z]) := Lib.hid (by rw [plcN_succ, hzk.out]; simp [ints])
      go_wp2_with (at_builtin; refine wpList_append_own _ rfl _ _ 62 rfl (w.heap.size) 2 i0 (.int .i64 0) 1 8 Try.underlying62 hi ie0 ie1 ie2 rfl (by decide) _ _ _ rfl (hown.alloc _) ⟨wr.heap.size, 0, none⟩ 1 1 [.int .i64 (z)] rfl rfl ?pc1 ?pc2 ?pc3 ?pc4 ?pc5 ?_)
      try (case pc1 =>
          intro j u hj
          match j, hj with
          | 0, hj => simp at hj; subst hj; simp [Addr.add])
      try (case pc2 => first | (intro u hu; simp at hu; subst hu; rfl) | rfl)
      case pc3 => unfold maxLen; omega
      case pc4 => omega
      case pc5 => first | omega | (simp; omega)
      intro v' wn hown' hgrow _
      have hBn := (show Below w.heap.size w (wr.alloc (.cells #[.int .i64 z] 2)) by go_grown).grown hgrow (by simp; omega) (fun q e => by have := (hown.lt q e).1; omega)
      rw [← hst.out] at hown'
      clear hown hgrow hst
      go_wp2
      go_roundw
      case rel => exact ⟨k + 1, _, rfl, hz2, by omega, by omega, by omega, hBn, hown'⟩
      case measure => simp [intOf]; omega
    · obtain rfl : k = n := by
        have h1 := hiff'.out k
        rw [← hzk.out] at h1
        omega
      have hst : Hid (ints (plcs L s) = ints (plcN s k) ++ [.int .i64 L]) := Lib.hid (by unfold plcs; rw [hn'.out]; simp [ints])
      clear hzk hiff'
      go_wp2_with (at_builtin; refine wpList_append_own _ rfl _ _ 62 rfl (w.heap.size) 2 i0 (.int .i64 0) 1 8 Try.underlying62 hi ie0 ie1 ie2 rfl (by decide) _ _ _ rfl (hown.alloc _) ⟨wr.heap.size, 0, none⟩ 1 1 [.int .i64 (L)] rfl rfl ?qc1 ?qc2 ?qc3 ?qc4 ?qc5 ?_)
      try (case qc1 =>
          intro j u hj
          match j, hj with
          | 0, hj => simp at hj; subst hj; simp [Addr.add])
      try (case qc2 => first | (intro u hu; simp at hu; subst hu; rfl) | rfl)
      case qc3 => unfold maxLen; omega
      case qc4 => omega
      case qc5 => first | omega | (simp; omega)
      intro v' wn hown' hgrow _
      have hBn := (show Below w.heap.size w (wr.alloc (.cells #[.int .i64 L] 2)) by go_grown).grown hgrow (by simp; omega) (fun q e => by have := (hown.lt q e).1; omega)
      rw [← hst.out] at hown'
      obtain ⟨A7, c7, e7, hrow⟩ := (Rs.of_owns hown').sl
      have hR7 := Rs.of_owns hown'
      subst e7
      clear hown hgrow hst hB1 hS1 hown'
      by_cases hful : 32 < k + 1
      · have hC : Hid (gtC nm P wd s = 5) := Lib.hid (by rw [hCe.out, if_pos hful])
        have hk32 : (32 : Int) < (k : Int) + 1 := by omega
        go_wp2
        go_ret2
        exact ⟨_, by rw [hC.out] <;> rfl, hBn, by rw [hLe.out, if_neg (by rw [hC.out]; decide)]; exact Rs.nil _ _ _ _⟩
      · have hk32 : ¬ (32 : Int) < (k : Int) + 1 := by omega
        have hwn := hBn.size
        have hA7 := Lib.hid hR7.block
        obtain ⟨b7, o7, rfl, hb7, _⟩ := hrow (by simp [ints, plcs])
        have hM : Hid (∀ d ∈ plcs L s, 0 ≤ d ∧ d ≤ L) := Lib.hid (plcs_mem (by omega) hL0)
        have hpl : (plcs L s).length = k + 1 := by rw [plcs_len, hn'.out]
        have hpl' := Lib.hid hpl
        have hLL2 := hLL'
        clear hpl hb7 hn'
        go_wp2_with fail
        have hO0 : (wn.alloc (.cells #[] 60)).ownsRow wn.heap.size 60 5 (.slice (some ⟨wn.heap.size, 0, none⟩) 0 0) 0 (flat RGate.cells (gatesTo P wd s 0)) := World.ownsRow_made wn #[] 0 (Nat.le_refl _) (Nat.zero_le _) rfl
        have hBa : Below wn.heap.size wn (wn.alloc (.cells #[] 60)) := by go_grown
        go_loopw [9, 10] (fun v i wr => ∃ q : Nat, i = .int .i64 q ∧ q ≤ k + 1 ∧ Hid ((gatesTo P wd s q).all okGate = true) ∧ Below wn.heap.size wn wr ∧ wr.ownsRow wn.heap.size 60 5 v q (flat RGate.cells (gatesTo P wd s q))) (fun _ i _ => k + 1 - (intOf i).toNat)
        case atStart => exact ⟨0, rfl, by omega, Lib.hid rfl, hBa, hO0⟩
        case round =>
          clear hBa hO0
          obtain ⟨q, rfl, hqk, hok, hBr, hown⟩ := hrel
          have hSr := hBr.size
          by_cases hlt : q < k + 1
          · have hq2 : q < (plcs L s).length := by rw [hpl'.out]; exact hlt
            obtain ⟨d, hd⟩ : ∃ d, (plcs L s)[q] = d := ⟨_, rfl⟩
            have hdb := hM.out d (hd ▸ List.getElem_mem hq2)
            have hst : Hid (gatesTo P wd s (q + 1) = gatesTo P wd s q ++ [gateM P wd d]) := Lib.hid (by
              have h := gatesTo_step (P := P) (wd := wd) (s := s) (k := q) (d := d)
              rw [hLL2.out] at h
              exact h hq2 hd)
            have hbadq : Hid (okGate (gateM P wd d) = false → (gates P wd s).all okGate = false) := Lib.hid (by
              have h := gates_bad (P := P) (wd := wd) (s := s) (k := q) (d := d)
              rw [hLL2.out] at h
              exact h hq2 hd)
            have hcd : wr.cell? ⟨b7, o7 + q, none⟩ = some (.int .i64 d) := by
              obtain ⟨b8, o8, e8, hb8, hc8⟩ := rs_row (hR7.on hBr) (by simp [ints, plcs])
              cases e8
              exact hc8 q _ (by simp [ints, hq2, hd])
            have hqk' : (q : Int) < (k : Int) + 1 := by omega
            have hBw := hBn.trans (hBr.mono hwn)
            clear hd hq2
            go_wp2_with fail
            refine (hga'.out _ _ (hZ0.on hBw) (hP'.out.below (hBw.mono hB)) (Nat.le_trans hB hBw.size) hdb).mono ?_
            rintro e w3 ⟨rfl, hb3⟩
            have hB3 := bnext hBr hb3
            have hO3 := owns_onW hown hb3
            have hS3 := hB3.size
            clear hcd hb3 hown hBr
            generalize gateM P wd d = G at *
            go_wp2_with fail
            refine (spec_l02Ok _ _ _).mono ?_
            rintro e w4 ⟨rfl, hb4⟩
            have hal : Below w3.heap.size w3 (w3.alloc (.cells (RGate.cells G).toArray 60)) := by go_grown
            have b0 : ∀ j u, (RGate.cells G)[j]? = some u → w4.cell? ⟨w3.heap.size, j, none⟩ = some u := fun j u hu => cell_onN hb4 (by
              have h := (Sl.new w3 (RGate.cells G).toArray 60) (by simp [RGate.cells])
              obtain ⟨b9, o9, e9, _, hc9⟩ := h
              cases e9
              have := hc9 j u (by simpa [RGate.cells] using hu)
              rw [Nat.zero_add] at this
              exact this) (by simp)
            have hB4 := bnext hB3 (bnext hal hb4)
            have hO4 := owns_onW (owns_onW hO3 hal) hb4
            have hS4 : w3.heap.size < w4.heap.size := by have := hb4.size; rw [World.size_alloc] at this; omega
            clear hb4 hal hB3 hO3
            cases hk1 : vPoint G.f1 G.f2
            · have hC : Hid (gtC nm P wd s = 6) := Lib.hid (by rw [hCe.out, if_neg (by omega), if_neg (by rw [hbadq.out (by unfold okGate; rw [hk1]; rfl)]; simp)])
              go_wp2
              go_ret2
              exact ⟨_, by rw [hC.out] <;> rfl, hBn.trans (hB4.mono hwn), by rw [hLe.out, if_neg (by rw [hC.out]; decide)]; exact Rs.nil _ _ _ _⟩
            have x0 := b0 0 _ rfl
            have x1 := b0 1 _ rfl
            have x2 := b0 2 _ rfl
            have x3 := b0 3 _ rfl
            have x4 := b0 4 _ rfl
            go_wp2_with fail
            refine (spec_l02Ok _ _ _).mono ?_
            rintro e w5 ⟨rfl, hb5⟩
            have hB5 := bnext hB4 hb5
            have hO5 := owns_onW hO4 hb5
            have hS5 := hb5.size
            replace x0 := cell_onN hb5 x0 hS4
            replace x1 := cell_onN hb5 x1 hS4
            replace x2 := cell_onN hb5 x2 hS4
            replace x3 := cell_onN hb5 x3 hS4
            replace x4 := cell_onN hb5 x4 hS4
            have hS6 : w3.heap.size < w5.heap.size := by omega
            clear hb5 b0 hB4 hO4
            cases hk2 : vPoint G.f3 G.f4
            · have hC : Hid (gtC nm P wd s = 6) := Lib.hid (by rw [hCe.out, if_neg (by omega), if_neg (by rw [hbadq.out (by unfold okGate; rw [hk1, hk2]; rfl)]; simp)])
              go_wp2
              go_ret2
              exact ⟨_, by rw [hC.out] <;> rfl, hBn.trans (hB5.mono hwn), by rw [hLe.out, if_neg (by rw [hC.out]; decide)]; exact Rs.nil _ _ _ _⟩
            have hok2 : Hid ((gatesTo P wd s (q + 1)).all okGate = true) := Lib.hid (by rw [hst.out, List.all_append, hok.out]; simp [okGate, hk1, hk2])
            have hst2 : Hid (flat RGate.cells (gatesTo P wd s (q + 1)) = flat RGate.cells (gatesTo P wd s q) ++ RGate.cells G) := Lib.hid (by rw [hst.out, flat_snoc])
            clear hst hok hbadq
            go_wp2_with (at_builtin; refine wpList_append_own _ rfl _ _ 53 rfl (wn.heap.size) 60 j0 (.agg #[.int .i64 0, .int .i64 0, .int .i64 0, .int .i64 0, .int .i64 0]) 5 40 Try.underlying53 hj je0 je1 je2 rfl (by decide) _ _ _ rfl (hO5.alloc _) ⟨w5.heap.size, 0, none⟩ 1 1 (RGate.cells (G)) rfl rfl ?rc1 ?rc2 ?rc3 ?rc4 ?rc5 ?_)
            try (case rc1 =>
                intro j u hj
                match j, hj with
                | 0, hj => simp [RGate.cells] at hj; subst hj; simp [Addr.add]
                | 1, hj => simp [RGate.cells] at hj; subst hj; simp [Addr.add]
                | 2, hj => simp [RGate.cells] at hj; subst hj; simp [Addr.add]
                | 3, hj => simp [RGate.cells] at hj; subst hj; simp [Addr.add]
                | 4, hj => simp [RGate.cells] at hj; subst hj; simp [Addr.add])
            try (case rc2 => first | (intro u hu; simp [RGate.cells] at hu; rcases hu with rfl | rfl | rfl | rfl | rfl <;> rfl) | rfl | simp)
            case rc3 => unfold maxLen; omega
            case rc4 => omega
            case rc5 => first | omega | (simp; omega)
            intro v' wm hown' hgrow _
            have hBm := (show Below wn.heap.size wn (w5.alloc (.cells (RGate.cells G).toArray 60)) by go_grown).grown hgrow (by simp; omega) (fun q e => by have := (hO5.lt q e).1; omega)
            rw [← hst2.out] at hown'
            clear hgrow hst2 hO5 hB5 x0 x1 x2 x3 x4
            go_wp2
            go_roundw
            case rel => exact ⟨q + 1, by go_num, by omega, hok2, hBm, hown'⟩
            case measure => simp [intOf]; omega
          · obtain rfl : q = k + 1 := by omega
            have hgood : Hid ((gates P wd s).all okGate = true) := Lib.hid (by
              have h := gates_good (P := P) (wd := wd) (s := s)
              rw [hLL2.out, hpl'.out] at h
              exact h hok.out)
            have hall : Hid (gatesTo P wd s (k + 1) = gates P wd s) := Lib.hid (by
              have h := gatesTo_all P wd s
              rw [hLL2.out, hpl'.out] at h
              exact h)
            have hC : Hid (gtC nm P wd s = 0) := Lib.hid (by rw [hCe.out, if_neg (by omega), if_pos hgood.out])
            have hG : Hid (gtL nm P wd s = gates P wd s) := Lib.hid (by rw [hLe.out, if_pos hC.out])
            have hgl : (gates P wd s).length = k + 1 := by rw [← hall.out]; exact gatesTo_len (by rw [hLL2.out, hpl'.out]; exact Nat.le_refl _)
            have hgl' := Lib.hid hgl
            clear hgl
            go_wp2
            go_ret2
            refine ⟨_, by rw [hC.out] <;> rfl, hBn.trans (hBr.mono hwn), ?_⟩
            rw [hG.out, hgl'.out, ← hall.out]
            exact (Rs.of_owns hown).more hwn
theorem spec_Gates (nm : ByteArray) (hnm : nm.size ≤ maxLen) (P : List RPoint) (A : Option Addr) (c B g : Nat) (wd s : Int) (w : World) (hZ0 : Cz w g nm A P.length c wd) (hP : Sl w B A (flat RPoint.cells P)) (hB : B ≤ w.heap.size) (hl : P.length ≤ 1048576) :
    Calls Try.prog 185 #[.pointer (some ⟨g, 0, none⟩), .int .i64 s] w (GtPost (gtC nm P wd s) (gtL nm P wd s) w) := by
  cases hv : vChan nm P wd
  · have hC : Hid (gtC nm P wd s = 1) := Lib.hid (by unfold gtC; rw [if_pos hv])
    have hG : Hid (gtL nm P wd s = []) := Lib.hid (by unfold gtL; rw [hC.out]; rfl)
    go_enter Try.func185, Try.ntmps185
    go_wp2_with fail
    refine (spec_l13Ok nm hnm P A c B g wd _ hZ0 (hP.below ((show Below w.heap.size w _ by go_grown).mono hB)) hB hl).mono ?_
    rintro e w1 ⟨rfl, hb1⟩
    rw [hv]
    go_wp2
    go_ret2
    exact ⟨_, by rw [hC.out] <;> rfl, hb1, by rw [hG.out]; exact Rs.nil _ _ _ _⟩
  cases hs : inB s 50 200000
  · have hC : Hid (gtC nm P wd s = 2) := Lib.hid (by unfold gtC; rw [hv, hs]; rfl)
    have hG : Hid (gtL nm P wd s = []) := Lib.hid (by unfold gtL; rw [hC.out]; rfl)
    go_enter Try.func185, Try.ntmps185
    go_wp2_with fail
    refine (spec_l13Ok nm hnm P A c B g wd _ hZ0 (hP.below ((show Below w.heap.size w _ by go_grown).mono hB)) hB hl).mono ?_
    rintro e w1 ⟨rfl, hb1⟩
    rw [hv]
    go_wp2_with (go_at_call 119; refine (in_any _ _ _ _).mono ?_; rintro e w' ⟨rfl, rfl⟩)
    go_ret2
    exact ⟨_, by rw [hC.out] <;> rfl, hb1, by rw [hG.out]; exact Rs.nil _ _ _ _⟩
  exact spec_Gates_yes nm hnm P A c B g wd s w hZ0 hP hB hv hs
theorem impl_gbad (G : RGate) (w : World) : Calls Try.prog 86 #[.agg #[.int .i64 (G).f0, .int .i64 (G).f1, .int .i64 (G).f2, .int .i64 (G).f3, .int .i64 (G).f4]] w fun e w' => e = .returned (.bool (!okGate G)) ∧ Below w.heap.size w w' := by
  have e : Hid (okGate G = vPoint2 G.f1 G.f2 G.f3 G.f4) := Lib.hid rfl
  rw [e.out]
  go_enter Try.func86, Try.ntmps86
  go_wp2_with fail
  refine (arePoints_two G.f1 G.f2 G.f3 G.f4 _ _ (by simp) (by simp [go_sem]) (by simp [go_sem]) (by simp [go_sem]) (by simp [go_sem])).mono ?_
  rintro e w1 ⟨rfl, hb1⟩
  have hB1 := bnext (show Below w.heap.size w _ by go_grown) hb1
  go_wp2
  go_ret
  exact ⟨rfl, hB1⟩
/-- What a search for the first that is not fine finds. -/
def Found (p : Nat → Bool) (n : Nat) (r : Int) : Prop := (r = -1 ∧ ∀ j, j < n → p j = true) ∨ ∃ k : Nat, r = k ∧ k < n ∧ p k = false ∧ ∀ j, j < k → p j = true
set_option maxHeartbeats 1600000 in
theorem impl_gindex (L : List RGate) (A : Option Addr) (c B : Nat) (w : World) (hs : Sl w B A (flat RGate.cells L)) (hB : B ≤ w.heap.size) (hl : L.length ≤ 1048576) :
    Calls Try.prog 134 #[.slice A L.length c, .func (Fn.func 86) #[] #[]] w fun e w' => ∃ r, e = .returned (.int .i64 r) ∧ Below w.heap.size w w' ∧ Found (fun j => okGate (L.getD j default)) L.length r := by
  have hs' := Lib.hid hs
  clear hs
  go_enter Try.func134, Try.ntmps134
  go_wp2
  go_loopw [8] (fun i wr => ∃ k : Nat, i = .int .i64 k ∧ k ≤ L.length ∧ Hid (∀ j, j < k → okGate (L.getD j default) = true) ∧ Below w.heap.size w wr) (fun i _ => L.length - (intOf i).toNat)
  case atStart => exact ⟨0, rfl, Nat.zero_le _, Lib.hid (fun j hj => by omega), Below.refl _ _⟩
  case round =>
    obtain ⟨k, rfl, hk, hok, hB1⟩ := hrel
    have hS1 := hB1.size
    by_cases hlt : k < L.length
    · obtain ⟨b, o, rfl, hb, he⟩ := Sl.elem RGate.len (by decide) (hs'.out.below (hB1.mono hB)) hlt
      have hg := Lib.hid (getD_at hlt)
      obtain ⟨a, ha⟩ : ∃ a, L[k] = a := ⟨_, rfl⟩
      rw [ha] at hg he
      clear ha
      have d0 : wr.cell? ⟨b, o + k * 5, none⟩ = some (.int .i64 a.f0) := by have := he 0 _ rfl; simpa [Nat.add_assoc] using this
      have d1 : wr.cell? ⟨b, o + k * 5 + 1, none⟩ = some (.int .i64 a.f1) := by have := he 1 _ rfl; simpa [Nat.add_assoc] using this
      have d2 : wr.cell? ⟨b, o + k * 5 + 2, none⟩ = some (.int .i64 a.f2) := by have := he 2 _ rfl; simpa [Nat.add_assoc] using this
      have d3 : wr.cell? ⟨b, o + k * 5 + 3, none⟩ = some (.int .i64 a.f3) := by have := he 3 _ rfl; simpa [Nat.add_assoc] using this
      have d4 : wr.cell? ⟨b, o + k * 5 + 4, none⟩ = some (.int .i64 a.f4) := by have := he 4 _ rfl; simpa [Nat.add_assoc] using this
      have hki : (k : Int) < (L.length : Int) := by omega
      clear he
      go_wp2_with fail
      refine (impl_gbad a _).mono ?_
      rintro e w1 ⟨rfl, hb1⟩
      have hB2 := bnext hB1 hb1
      clear hb1 d0 d1 d2 d3 d4
      cases hoa : okGate a
      · go_wp2
        go_ret
        exact ⟨_, rfl, hB2, .inr ⟨k, rfl, hlt, by show okGate (L.getD k default) = false; rw [hg.out]; exact hoa, hok.out⟩⟩
      · have hok2 : Hid (∀ j, j < k + 1 → okGate (L.getD j default) = true) := Lib.hid (fun j hj => by
          rcases (by omega : j < k ∨ j = k) with h | rfl
          · exact hok.out j h
          · rw [hg.out]; exact hoa)
        clear hok
        go_wp2
        go_roundw
        case rel => exact ⟨k + 1, by go_num, by omega, hok2, hB2⟩
        case measure => simp [intOf]; omega
    · obtain rfl : k = L.length := by omega
      go_wp2
      go_ret
      exact ⟨_, rfl, hB1, .inl ⟨rfl, hok.out⟩⟩
theorem all_getD {α : Type} [Inhabited α] {p : α → Bool} {L : List α} (h : ∀ j, j < L.length → p (L.getD j default) = true) : L.all p = true := by
  rw [List.all_eq_true]
  intro x hx
  obtain ⟨j, hj, rfl⟩ := List.getElem_of_mem hx
  have := h j hj
  rwa [getD_at hj] at this
theorem all_hit {α : Type} [Inhabited α] {p : α → Bool} {L : List α} {j : Nat} (hj : j < L.length) (h : p (L.getD j default) = false) : L.all p = false := by
  rw [List.all_eq_false]
  exact ⟨L[j], List.getElem_mem hj, by rw [← getD_at hj, h]; simp⟩
theorem impl_gcontains (L : List RGate) (A : Option Addr) (c B : Nat) (w : World) (hs : Sl w B A (flat RGate.cells L)) (hB : B ≤ w.heap.size) (hl : L.length ≤ 1048576) :
    Calls Try.prog 85 #[.slice A L.length c, .func (Fn.func 86) #[] #[]] w fun e w' => e = .returned (.bool (!L.all okGate)) ∧ Below w.heap.size w w' := by
  have h := fun w (hs : Sl w B A (flat RGate.cells L)) hB => impl_gindex L A c B w hs hB hl
  go_enter Try.func85, Try.ntmps85
  go_wp2_with fail
  refine (h _ hs hB).mono ?_
  rintro e w1 ⟨r, rfl, hb, hr⟩
  rcases hr with ⟨rfl, hr⟩ | ⟨k, rfl, hk, hf, _⟩
  · have e : Hid (L.all okGate = true) := Lib.hid (all_getD hr)
    clear h hr
    go_wp2
    go_ret
    exact ⟨ret_bool (by rw [e.out]; rfl), hb⟩
  · have e : Hid (L.all okGate = false) := Lib.hid (all_hit hk hf)
    clear h hf hk
    go_wp2
    go_ret
    exact ⟨ret_bool (by rw [e.out]; rfl), hb⟩
set_option maxHeartbeats 3200000 in
theorem impl_Gates_yes (nm : ByteArray) (hnm : nm.size ≤ maxLen) (P : List RPoint) (A : Option Addr) (c B : Nat) (wd s : Int) (w : World) (hP : Sl w B A (flat RPoint.cells P)) (hB : B ≤ w.heap.size) (hv : vChan nm P wd = true) (hs : inB s 50 200000 = true) :
    Calls Try.prog 33 #[.agg #[.string nm, .slice A P.length c, .int .i64 wd], .int .i64 s] w (GtPost (gtC nm P wd s) (gtL nm P wd s) w) := by
  obtain ⟨hvl, ⟨h2, h12⟩, hwd⟩ := chan_facts hv
  have hl : P.length ≤ 1048576 := by omega
  have hsb := inB_yes.1 hs
  obtain ⟨hL0, hL1⟩ := len_lim hvl h12
  have hcn := cnt_lim hsb.1 hL0 hL1
  have hlen := fun w (h : Sl w B A (flat RPoint.cells P)) (hB : B ≤ w.heap.size) => impl_Len nm P A c B wd w h hB hl (by omega) hvl
  have hga := fun w d (h : Sl w B A (flat RPoint.cells P)) (hB : B ≤ w.heap.size) (hd : 0 ≤ d ∧ d ≤ lenM P) => impl_gate nm P A c B wd d w h hB hl h2 hvl hwd hd
  have hCe : Hid (gtC nm P wd s = if 32 < cntM (lenM P) s + 1 then 5 else if (gates P wd s).all okGate = true then 0 else 6) := Lib.hid (by unfold gtC; rw [hv, hs, gates_len]; rfl)
  have hLe : Hid (gtL nm P wd s = if gtC nm P wd s = 0 then gates P wd s else []) := Lib.hid rfl
  have hiff := fun k => cnt_iff (L := lenM P) (s := s) (by omega) k
  have hcdef : Hid ((cntM (lenM P) s : Int) = (lenM P + s - 1) / s) := Lib.hid (by unfold cntM; rw [Int.toNat_of_nonneg (Int.ediv_nonneg (by omega) (by omega))])
  have hP' := Lib.hid hP
  have hlen' := Lib.hid hlen
  have hga' := Lib.hid hga
  have hiff' := Lib.hid hiff
  have hZ0 := Lib.hid (Cz.new w nm A P.length c wd 49)
  obtain ⟨j0, hj, je0, je1, je2⟩ := info_parts infoGt
  clear hP hlen hga hiff
  have hst0 := fun k (h : k < cntM (lenM P) s) => gatesTo_step (P := P) (wd := wd) (s := s) (k := k) (d := (k : Int) * s) (by rw [plcs_len]; omega) (plcs_at h)
  have hst1 := gatesTo_step (P := P) (wd := wd) (s := s) (k := cntM (lenM P) s) (d := lenM P) (by rw [plcs_len]; omega) (plcs_last _ _)
  have hall := gatesTo_all P wd s
  rw [plcs_len] at hall
  have hst0' := Lib.hid hst0
  have hst1' := Lib.hid hst1
  have hall' := Lib.hid hall
  have hgl := Lib.hid (gates_len P wd s)
  clear hst0 hst1 hall
  obtain ⟨L, hLL⟩ : ∃ L, lenM P = L := ⟨_, rfl⟩
  rw [hLL] at hL0 hL1 hcn hlen' hga' hiff' hCe hcdef hst0' hst1' hall' hgl
  clear hLL
  obtain ⟨n, hn⟩ : ∃ n, cntM L s = n := ⟨_, rfl⟩
  rw [hn] at hcn hiff' hCe hcdef hst0' hst1' hall' hgl
  clear hn
  have hqd : (L + s - 1) / s = (n : Int) := hcdef.out.symm
  go_enter Try.func33, Try.ntmps33
  go_wp2_with fail
  refine (impl_ValidChannel nm hnm P A c B wd _ (hP'.out.below ((show Below w.heap.size w _ by go_grown).mono hB)) (by simp; omega) hl).mono ?_
  rintro e w1 ⟨rfl, hb1⟩
  rw [hv]
  have hZ1 := hZ0.out.on hb1
  have hB1 := bnext (w := w) (by go_grown) hb1
  clear hb1 hv hZ0
  obtain ⟨hzl, z0, z1, z2⟩ := id hZ1
  go_wp2_with (go_at_call 82; refine (within_any _ _ _ _).mono ?_; rintro e w' ⟨rfl, rfl⟩)
  refine (hlen'.out _ (hP'.out.below (hB1.mono hB)) (Nat.le_trans hB hB1.size)).mono ?_
  rintro e w2 ⟨rfl, hb2⟩
  have hB2 := bnext hB1 hb2
  have hZ2 := hZ1.on hb2
  have hS2 := hB2.size
  clear hb2 hB1 hZ1 hzl z0 z1 z2 hs
  by_cases hful : 32 < n + 1
  · have hC : Hid (gtC nm P wd s = 5) := Lib.hid (by rw [hCe.out, if_pos hful])
    have hk32 : (32 : Int) < (n : Int) + 1 := by omega
    go_wp2_with fail
    go_ret2
    exact ⟨_, by rw [hC.out] <;> rfl, hB2, by rw [hLe.out, if_neg (by rw [hC.out]; decide)]; exact Rs.nil _ _ _ _⟩
  have hk32 : ¬ (32 : Int) < (n : Int) + 1 := by omega
  go_wp2_with fail
  have hzl2 := hZ2.1
  have hO0 : (w2.alloc (.cells #[] 60)).ownsRow (w.heap.size + 1) 60 5 (.slice (some ⟨w2.heap.size, 0, none⟩) 0 0) 0 (flat RGate.cells (gatesTo P wd s 0)) := World.ownsRow_made w2 #[] 0 (by omega) (Nat.zero_le _) rfl
  have hal : Below w2.heap.size w2 (w2.alloc (.cells #[] 60)) := by go_grown
  have hBa := bnext hB2 hal
  have hZa := hZ2.on hal
  clear hqd hcdef
  go_loopw [7, 8] (fun v d wr => ∃ (k : Nat) (z : Int), d = .int .i64 z ∧ Hid (z = (k : Int) * s) ∧ 0 ≤ z ∧ k ≤ n ∧ z ≤ 3311273 ∧ Below w.heap.size w wr ∧ Cz wr w.heap.size nm A P.length c wd ∧ wr.ownsRow (w.heap.size + 1) 60 5 v k (flat RGate.cells (gatesTo P wd s k))) (fun _ d _ => (3311274 - intOf d).toNat)
  case atStart => exact ⟨0, 0, rfl, Lib.hid (by simp), by omega, by omega, by omega, hBa, hZa, hO0⟩
  case round =>
    clear hBa hO0 hB2 hS2 hZa hZ2 hal hzl2
    obtain ⟨k, z, rfl, hzk, hz0, hkn, hzm, hB1, hZ, hown⟩ := hrel
    have hS1 := hB1.size
    obtain ⟨hzl, z0, z1, z2⟩ := id hZ
    by_cases hlt : z < L
    · have hk1 : k < n := (hiff'.out k).1 (by rw [← hzk.out]; exact hlt)
      have hz2 : Hid (z + s = ((k + 1 : Nat) : Int) * s) := Lib.hid (by rw [hzk.out, Int.natCast_add, Int.add_mul]; simp)
      have hst2 : Hid (flat RGate.cells (gatesTo P wd s (k + 1)) = flat RGate.cells (gatesTo P wd s k) ++ RGate.cells (gateM P wd z)) := Lib.hid (by rw [hst0'.out k hk1, flat_snoc, hzk.out])
      go_wp2_with fail
      refine (hga'.out _ _ (hP'.out.below (hB1.mono hB)) (Nat.le_trans hB hB1.size) ⟨hz0, by omega⟩).mono ?_
      rintro e w3 ⟨rfl, hb3⟩
      have hB3 := bnext hB1 hb3
      have hZ3 := hZ.on hb3
      have hO3 := owns_onW hown hb3
      have hS3 := hZ3.1
      clear hb3 hown hZ hB1 z0 z1 z2 hzl
      generalize gateM P wd z = G at *
      go_wp2_with (at_builtin; refine wpList_append_own _ rfl _ _ 53 rfl (w.heap.size + 1) 60 j0 (.agg #[.int .i64 0, .int .i64 0, .int .i64 0, .int .i64 0, .int .i64 0]) 5 40 Try.underlying53 hj je0 je1 je2 rfl (by decide) _ _ _ rfl (hO3.alloc _) ⟨w3.heap.size, 0, none⟩ 1 1 (RGate.cells (G)) rfl rfl ?pc1 ?pc2 ?pc3 ?pc4 ?pc5 ?_)
      try (case pc1 =>
          intro j u hj
          match j, hj with
          | 0, hj => simp [RGate.cells] at hj; subst hj; simp [Addr.add]
          | 1, hj => simp [RGate.cells] at hj; subst hj; simp [Addr.add]
          | 2, hj => simp [RGate.cells] at hj; subst hj; simp [Addr.add]
          | 3, hj => simp [RGate.cells] at hj; subst hj; simp [Addr.add]
          | 4, hj => simp [RGate.cells] at hj; subst hj; simp [Addr.add])
      try (case pc2 => first | (intro u hu; simp [RGate.cells] at hu; rcases hu with rfl | rfl | rfl | rfl | rfl <;> rfl) | rfl | simp)
      case pc3 => unfold maxLen; omega
      case pc4 => omega
      case pc5 => first | omega | (simp; omega)
      intro v' wm hown' hgrow _
      have hal : Below w3.heap.size w3 (w3.alloc (.cells (RGate.cells G).toArray 60)) := by go_grown
      have hBm := (bnext hB3 hal).grown hgrow (by simp; omega) (fun q e => by have := (hO3.lt q e).1; omega)
      have hZm := cz_far (hZ3.on hal) hgrow (fun e => by have := (hO3.lt _ e).1; omega)
      rw [← hst2.out] at hown'
      clear hgrow hst2 hO3 hB3 hZ3 hal
      go_wp2
      go_roundw
      case rel => exact ⟨k + 1, _, rfl, hz2, by omega, by omega, by omega, hBm, hZm, hown'⟩
      case measure => simp [intOf]; omega
    · obtain rfl : k = n := by
        have h1 := hiff'.out k
        rw [← hzk.out] at h1
        omega
      have hst2 : Hid (flat RGate.cells (gates P wd s) = flat RGate.cells (gatesTo P wd s k) ++ RGate.cells (gateM P wd L)) := Lib.hid (by rw [← hall'.out, hst1'.out, flat_snoc])
      clear hzk hiff'
      go_wp2_with fail
      refine (hga'.out _ _ (hP'.out.below (hB1.mono hB)) (Nat.le_trans hB hB1.size) ⟨hL0, Int.le_refl _⟩).mono ?_
      rintro e w3 ⟨rfl, hb3⟩
      have hB3 := bnext hB1 hb3
      have hO3 := owns_onW hown hb3
      have hS3 := (hZ.on hb3).1
      clear hb3 hown hZ hB1 z0 z1 z2 hzl
      generalize gateM P wd L = G at *
      go_wp2_with (at_builtin; refine wpList_append_own _ rfl _ _ 53 rfl (w.heap.size + 1) 60 j0 (.agg #[.int .i64 0, .int .i64 0, .int .i64 0, .int .i64 0, .int .i64 0]) 5 40 Try.underlying53 hj je0 je1 je2 rfl (by decide) _ _ _ rfl (hO3.alloc _) ⟨w3.heap.size, 0, none⟩ 1 1 (RGate.cells (G)) rfl rfl ?qc1 ?qc2 ?qc3 ?qc4 ?qc5 ?_)
      try (case qc1 =>
          intro j u hj
          match j, hj with
          | 0, hj => simp [RGate.cells] at hj; subst hj; simp [Addr.add]
          | 1, hj => simp [RGate.cells] at hj; subst hj; simp [Addr.add]
          | 2, hj => simp [RGate.cells] at hj; subst hj; simp [Addr.add]
          | 3, hj => simp [RGate.cells] at hj; subst hj; simp [Addr.add]
          | 4, hj => simp [RGate.cells] at hj; subst hj; simp [Addr.add])
      try (case qc2 => first | (intro u hu; simp [RGate.cells] at hu; rcases hu with rfl | rfl | rfl | rfl | rfl <;> rfl) | rfl | simp)
      case qc3 => unfold maxLen; omega
      case qc4 => omega
      case qc5 => first | omega | (simp; omega)
      intro v' wm hown' hgrow _
      have hal : Below w3.heap.size w3 (w3.alloc (.cells (RGate.cells G).toArray 60)) := by go_grown
      have hBm := (bnext hB3 hal).grown hgrow (by simp; omega) (fun q e => by have := (hO3.lt q e).1; omega)
      rw [← hst2.out] at hown'
      clear hgrow hst2 hO3 hB3 hal
      obtain ⟨A7, c7, rfl, hrow⟩ := (Rs.of_owns hown').sl
      have hgo := impl_gcontains (gates P wd s) A7 c7 wm.heap.size wm hrow (Nat.le_refl _) (by rw [hgl.out]; omega)
      rw [hgl.out] at hgo
      obtain ⟨bb, hbb⟩ : ∃ bb, (gates P wd s).all okGate = bb := ⟨_, rfl⟩
      rw [hbb] at hgo
      have hbb' := Lib.hid hbb
      clear hbb hrow
      have hown2 := Lib.hid hown'
      clear hown'
      go_wp2_with fail
      refine hgo.mono ?_
      rintro e w5 ⟨rfl, hb5⟩
      have hB5 := bnext hBm hb5
      have hO5 := Lib.hid (owns_onW hown2.out hb5)
      clear hb5 hgo hown2 hBm
      cases bb
      · have hC : Hid (gtC nm P wd s = 6) := Lib.hid (by rw [hCe.out, if_neg hful, if_neg (by rw [hbb'.out]; simp)])
        go_wp2
        go_ret2
        exact ⟨_, by rw [hC.out] <;> rfl, hB5, by rw [hLe.out, if_neg (by rw [hC.out]; decide)]; exact Rs.nil _ _ _ _⟩
      · have hC : Hid (gtC nm P wd s = 0) := Lib.hid (by rw [hCe.out, if_neg hful, if_pos hbb'.out])
        have hG : Hid (gtL nm P wd s = gates P wd s) := Lib.hid (by rw [hLe.out, if_pos hC.out])
        go_wp2
        go_ret2
        refine ⟨_, by rw [hC.out] <;> rfl, hB5, ?_⟩
        rw [hG.out, hgl.out]
        exact (Rs.of_owns hO5.out).more (by omega)
theorem impl_Gates (nm : ByteArray) (hnm : nm.size ≤ maxLen) (P : List RPoint) (A : Option Addr) (c B : Nat) (wd s : Int) (w : World) (hP : Sl w B A (flat RPoint.cells P)) (hB : B ≤ w.heap.size) (hl : P.length ≤ 1048576) :
    Calls Try.prog 33 #[.agg #[.string nm, .slice A P.length c, .int .i64 wd], .int .i64 s] w (GtPost (gtC nm P wd s) (gtL nm P wd s) w) := by
  cases hv : vChan nm P wd
  · have hC : Hid (gtC nm P wd s = 1) := Lib.hid (by unfold gtC; rw [if_pos hv])
    have hG : Hid (gtL nm P wd s = []) := Lib.hid (by unfold gtL; rw [hC.out]; rfl)
    go_enter Try.func33, Try.ntmps33
    go_wp2_with fail
    refine (impl_ValidChannel nm hnm P A c B wd _ (hP.below ((show Below w.heap.size w _ by go_grown).mono hB)) (by simp; omega) hl).mono ?_
    rintro e w1 ⟨rfl, hb1⟩
    rw [hv]
    have hB1 := bnext (show Below w.heap.size w _ by go_grown) hb1
    go_wp2
    go_ret2
    exact ⟨_, by rw [hC.out] <;> rfl, hB1, by rw [hG.out]; exact Rs.nil _ _ _ _⟩
  cases hs : inB s 50 200000
  · have hC : Hid (gtC nm P wd s = 2) := Lib.hid (by unfold gtC; rw [hv, hs]; rfl)
    have hG : Hid (gtL nm P wd s = []) := Lib.hid (by unfold gtL; rw [hC.out]; rfl)
    go_enter Try.func33, Try.ntmps33
    go_wp2_with fail
    refine (impl_ValidChannel nm hnm P A c B wd _ (hP.below ((show Below w.heap.size w _ by go_grown).mono hB)) (by simp; omega) hl).mono ?_
    rintro e w1 ⟨rfl, hb1⟩
    rw [hv]
    have hB1 := bnext (show Below w.heap.size w _ by go_grown) hb1
    go_wp2_with (go_at_call 82; refine (within_any _ _ _ _).mono ?_; rintro e w' ⟨rfl, rfl⟩)
    go_ret2
    exact ⟨_, by rw [hC.out] <;> rfl, hB1, by rw [hG.out]; exact Rs.nil _ _ _ _⟩
  exact impl_Gates_yes nm hnm P A c B wd s w hP hB hv hs
end Go.Proofs.Ytlflefnjoeappaa
