/-
  Contracts of the buoys that a list does not have: the reference's, and the program's tests. Under the conditions that each states.
-/
import Derived.Test.YtlflefnjoeappaaBuoysF
import Derived.Test.YtlflefnjoeappaaRowOps
set_option linter.unusedVariables false
set_option linter.unnecessarySimpa false
set_option maxRecDepth 100000
set_option linter.unusedSimpArgs false
namespace Go.Proofs.Ytlflefnjoeappaa
open Go.RowKit BigFrame

/-- A buoy in a variable. -/
def Bv (w : World) (g : Nat) (a : RBuoy) : Prop := g < w.heap.size ∧ w.cell? ⟨g, 0, none⟩ = some (.int .i64 a.f0) ∧ w.cell? ⟨g, 1, none⟩ = some (.int .i64 a.f1) ∧ w.cell? ⟨g, 2, none⟩ = some (.int .i64 a.f2)
theorem Bv.on {w w1 : World} {g : Nat} {a : RBuoy} (h : Bv w g a) (hb : Below w.heap.size w w1) : Bv w1 g a := by
  obtain ⟨h1, h2, h3, h4⟩ := h
  obtain ⟨hc, _⟩ := bcell hb
  exact ⟨Nat.lt_of_lt_of_le h1 hb.size, (hc _ _ h1).trans h2, (hc _ _ h1).trans h3, (hc _ _ h1).trans h4⟩
theorem Bv.new (w : World) (a : RBuoy) (t : TypeId) : Bv (w.alloc (.cells #[.int .i64 a.f0, .int .i64 a.f1, .int .i64 a.f2] t)) w.heap.size a := ⟨by simp, by simp, by simp, by simp⟩
theorem buoys_pt {L : List RBuoy} (h : vBuoys L = true) : ∀ k, k < L.length → vPoint (L.getD k default).f0 (L.getD k default).f1 = true := fun k hk => buoy_pt h rfl hk
theorem hasB_hit {L : List RBuoy} {b : RBuoy} {t : Int} {k : Nat} {a : RBuoy} (hk : k < L.length) (hg : L.getD k default = a) (h : nearB b a t = true) : hasB L b t = true := by
  unfold hasB
  rw [List.any_eq_true]
  exact ⟨L[k], List.getElem_mem hk, by rw [← getD_at hk, hg]; exact h⟩
theorem hasB_none {L : List RBuoy} {b : RBuoy} {t : Int} (h : ∀ j, j < L.length → nearB b (L.getD j default) t = false) : hasB L b t = false := by
  unfold hasB
  rw [List.any_eq_false]
  intro x hx
  obtain ⟨j, hj, rfl⟩ := List.getElem_of_mem hx
  have := h j hj
  rw [getD_at hj] at this
  simp [this]
theorem near_same {a b : RBuoy} {t : Int} (h : a.f2 = b.f2) : nearB b a t = decide (distM a.f0 a.f1 b.f0 b.f1 ≤ t) := by unfold nearB; rw [h]; simp
theorem near_other {a b : RBuoy} {t : Int} (h : ¬ a.f2 = b.f2) : nearB b a t = false := by unfold nearB; simp [h]
set_option maxHeartbeats 3200000 in
theorem spec_Has (L : List RBuoy) (A : Option Addr) (c B : Nat) (b : RBuoy) (t : Int) (w : World) (hs : Sl w B A (flat RBuoy.cells L)) (hB : B ≤ w.heap.size) (hl : L.length ≤ 1048576) (hv : vBuoys L = true) (hb : vPoint b.f0 b.f1 = true) :
    Calls Try.prog 150 #[.slice A L.length c, .agg #[.int .i64 (b).f0, .int .i64 (b).f1, .int .i64 (b).f2], .int .i64 t] w fun e w' => e = .returned (.bool (hasB L b t)) ∧ Below w.heap.size w w' := by
  have hs' := Lib.hid hs
  have hv' := Lib.hid (buoys_pt hv)
  have hvb := vPoint_yes hb
  clear hs hv hb
  go_enter Try.func150, Try.ntmps150
  go_wp2
  have hV0 := Bv.new w b 66
  have hBa : Below w.heap.size w (w.alloc (.cells #[.int .i64 b.f0, .int .i64 b.f1, .int .i64 b.f2] 66)) := by go_grown
  go_loopw [7] (fun i wr => ∃ k : Nat, i = .int .i64 k ∧ k ≤ L.length ∧ Hid (∀ j, j < k → nearB b (L.getD j default) t = false) ∧ Below w.heap.size w wr ∧ Bv wr w.heap.size b) (fun i _ => L.length - (intOf i).toNat)
  case atStart => exact ⟨0, rfl, Nat.zero_le _, Lib.hid (fun j hj => by omega), hBa, hV0⟩
  case round =>
    clear hBa hV0
    obtain ⟨k, rfl, hk, hno, hB1, hV⟩ := hrel
    have hS1 := hB1.size
    obtain ⟨hvl, v0, v1, v2⟩ := id hV
    by_cases hlt : k < L.length
    · obtain ⟨b', o, rfl, hb', he⟩ := Sl.elem RBuoy.len (by decide) (hs'.out.below (hB1.mono hB)) hlt
      have hg := Lib.hid (getD_at hlt)
      obtain ⟨a, ha⟩ : ∃ a, L[k] = a := ⟨_, rfl⟩
      rw [ha] at hg he
      clear ha
      have hva := vPoint_yes (by have := hv'.out k hlt; rw [hg.out] at this; exact this)
      have d0 : wr.cell? ⟨b', o + k * 3, none⟩ = some (.int .i64 a.f0) := by have := he 0 _ rfl; simpa [Nat.add_assoc] using this
      have d1 : wr.cell? ⟨b', o + k * 3 + 1, none⟩ = some (.int .i64 a.f1) := by have := he 1 _ rfl; simpa [Nat.add_assoc] using this
      have d2 : wr.cell? ⟨b', o + k * 3 + 2, none⟩ = some (.int .i64 a.f2) := by have := he 2 _ rfl; simpa [Nat.add_assoc] using this
      have hbw : b' < wr.heap.size := by omega
      have hki : (k : Int) < (L.length : Int) := by omega
      clear he
      have hq := fun w => spec_Apart a.f0 a.f1 b.f0 b.f1 w hva.1 hva.2 hvb.1 hvb.2
      obtain ⟨n, hn⟩ : ∃ n, distM a.f0 a.f1 b.f0 b.f1 = n := ⟨_, rfl⟩
      rw [hn] at hq
      have hn' := Lib.hid hn
      clear hn
      by_cases hkd : a.f2 = b.f2
      · have hkb : (a.f2 == b.f2) = true := by simpa using hkd
        have hnear : Hid (nearB b a t = decide (n ≤ t)) := Lib.hid (by rw [near_same hkd, hn'.out])
        by_cases hnt : n ≤ t
        · have hyes : Hid (hasB L b t = true) := Lib.hid (hasB_hit hlt hg.out (by rw [hnear.out]; simpa using hnt))
          clear hkd
          go_wp2_with fail
          refine wp_region_grew (by kernel_rfl) (by kernel_rfl) ?_
          repeat (first | (go_big_quiet_step ((go_at_call 186; exact grew_of (hq _)))) | (quiet_step ((go_at_call 186; exact grew_of (hq _)))))
          refine wpQuiet_nil ?_
          rintro w9 ⟨⟨w8, hb9⟩, rfl⟩
          try dsimp only
          obtain ⟨hc9, hf9⟩ := bcell hb9
          have hB9 := bnext hB1 hb9
          clear hc9 hf9 hb9 d0 d1 d2 v0 v1 v2
          go_wp2
          go_ret
          exact ⟨ret_bool hyes.out.symm, hB9⟩
        · have hnk : Hid (nearB b a t = false) := Lib.hid (by rw [hnear.out]; simpa using hnt)
          have hno2 : Hid (∀ j, j < k + 1 → nearB b (L.getD j default) t = false) := Lib.hid (fun j hj => by
            rcases (by omega : j < k ∨ j = k) with h | rfl
            · exact hno.out j h
            · rw [hg.out]; exact hnk.out)
          clear hkd
          go_wp2_with fail
          refine wp_region_grew (by kernel_rfl) (by kernel_rfl) ?_
          repeat (first | (go_big_quiet_step ((go_at_call 186; exact grew_of (hq _)))) | (quiet_step ((go_at_call 186; exact grew_of (hq _)))))
          refine wpQuiet_nil ?_
          rintro w9 ⟨⟨w8, hb9⟩, rfl⟩
          try dsimp only
          obtain ⟨hc9, hf9⟩ := bcell hb9
          have hB9 := bnext hB1 hb9
          have hV9 := hV.on hb9
          clear hc9 hf9 hb9 d0 d1 d2 v0 v1 v2
          go_wp2
          go_roundw
          case rel => exact ⟨k + 1, by go_num, by omega, hno2, hB9, hV9⟩
          case measure => simp [intOf]; omega
      · have hkb : (a.f2 == b.f2) = false := by simpa using hkd
        have hno2 : Hid (∀ j, j < k + 1 → nearB b (L.getD j default) t = false) := Lib.hid (fun j hj => by
          rcases (by omega : j < k ∨ j = k) with h | rfl
          · exact hno.out j h
          · rw [hg.out]; exact near_other hkd)
        clear hkd
        go_wp2_with fail
        refine wp_region_grew (by kernel_rfl) (by kernel_rfl) ?_
        repeat (first | (go_big_quiet_step ((go_at_call 186; exact grew_of (hq _)))) | (quiet_step ((go_at_call 186; exact grew_of (hq _)))))
        refine wpQuiet_nil ?_
        rintro w9 ⟨⟨w8, hb9⟩, rfl⟩
        try dsimp only
        obtain ⟨hc9, hf9⟩ := bcell hb9
        have hB9 := bnext hB1 hb9
        have hV9 := hV.on hb9
        clear hc9 hf9 hb9 d0 d1 d2 v0 v1 v2
        go_wp2
        go_roundw
        case rel => exact ⟨k + 1, by go_num, by omega, hno2, hB9, hV9⟩
        case measure => simp [intOf]; omega
    · obtain rfl : k = L.length := by omega
      have hnn := Lib.hid (hasB_none hno.out)
      go_wp2
      go_ret
      exact ⟨ret_bool hnn.out.symm, hB1⟩
/-- What is left of the first k. -/
def lackTo (W L : List RBuoy) (t : Int) (k : Nat) : List RBuoy := lacks (W.take k) L t
theorem lackTo_keep {W L : List RBuoy} {t : Int} {k : Nat} {b : RBuoy} (hk : k < W.length) (hg : W.getD k default = b) (h : hasB L b t = false) : lackTo W L t (k + 1) = lackTo W L t k ++ [b] := by
  have e : W[k] = b := (getD_at hk).symm.trans hg
  unfold lackTo lacks
  rw [List.take_succ_eq_append_getElem hk, List.filter_append, e, List.filter_cons, h]
  simp
theorem lackTo_drop {W L : List RBuoy} {t : Int} {k : Nat} {b : RBuoy} (hk : k < W.length) (hg : W.getD k default = b) (h : hasB L b t = true) : lackTo W L t (k + 1) = lackTo W L t k := by
  have e : W[k] = b := (getD_at hk).symm.trans hg
  unfold lackTo lacks
  rw [List.take_succ_eq_append_getElem hk, List.filter_append, e, List.filter_cons, h]
  simp
theorem lackTo_le (W L : List RBuoy) (t : Int) (k : Nat) : (lackTo W L t k).length ≤ k := by
  unfold lackTo lacks
  refine Nat.le_trans (List.length_filter_le _ _) ?_
  rw [List.length_take]
  omega
theorem lackTo_all (W L : List RBuoy) (t : Int) : lackTo W L t W.length = lacks W L t := by unfold lackTo; rw [List.take_length]
/-- The buoys of valid gates lie at valid places. -/
theorem buoys_ok {nm : ByteArray} {P : List RPoint} {wd s : Int} : ∀ k, k < (buoysOf (gtL nm P wd s)).length → vPoint ((buoysOf (gtL nm P wd s)).getD k default).f0 ((buoysOf (gtL nm P wd s)).getD k default).f1 = true := fun k hk => by
  rw [getD_at hk]
  have hm := List.getElem_mem hk
  obtain ⟨b, hbe⟩ : ∃ b, (buoysOf (gtL nm P wd s))[k] = b := ⟨_, rfl⟩
  rw [hbe] at hm ⊢
  clear hbe
  unfold buoysOf at hm
  rw [List.mem_flatMap] at hm
  obtain ⟨g, hg, hb⟩ := hm
  have hok : okGate g = true := by
    unfold gtL at hg
    split at hg
    · rename_i h
      unfold gtC at h
      split at h
      · cases h
      · split at h
        · cases h
        · split at h
          · cases h
          · split at h
            · rename_i h4
              exact List.all_eq_true.1 h4 g hg
            · cases h
    · cases hg
  unfold okGate at hok
  rw [Bool.and_eq_true] at hok
  have hb' : b = ⟨g.f1, g.f2, 1⟩ ∨ b = ⟨g.f3, g.f4, 2⟩ := by simpa using hb
  rcases hb' with rfl | rfl
  · exact hok.1
  · exact hok.2
theorem buoysL_le (nm : ByteArray) (P : List RPoint) (wd s : Int) : (buoysOf (gtL nm P wd s)).length ≤ 64 := by
  rw [buoysOf_len]
  have := gtL_le nm P wd s
  omega
theorem msL_is {nm : ByteArray} {P : List RPoint} {wd s : Int} {L : List RBuoy} {t : Int} (hv : vChan nm P wd = true) (hv2 : vBuoys L = true) (ht : inB t 0 5000 = true) : msC nm P wd s L t = gtC nm P wd s ∧ msL nm P wd s L t = lacks (buoysOf (gtL nm P wd s)) L t := by
  have h1 : msC nm P wd s L t = gtC nm P wd s := by unfold msC; rw [hv, hv2, ht]; simp
  refine ⟨h1, ?_⟩
  unfold msL
  rw [h1]
  unfold gtL
  by_cases h : gtC nm P wd s = 0
  · rw [if_pos h, if_pos h]
  · rw [if_neg h, if_neg h]; rfl
theorem ms_no {nm : ByteArray} {P : List RPoint} {wd s : Int} {L : List RBuoy} {t : Int} (hv : ¬ (vChan nm P wd = true ∧ vBuoys L = true)) : msC nm P wd s L t = 1 ∧ msL nm P wd s L t = [] := by
  have h1 : msC nm P wd s L t = 1 := by unfold msC; rw [if_pos hv]
  exact ⟨h1, by unfold msL; rw [h1]; rfl⟩
theorem ms_no2 {nm : ByteArray} {P : List RPoint} {wd s : Int} {L : List RBuoy} {t : Int} (hv : vChan nm P wd = true) (hv2 : vBuoys L = true) (ht : inB t 0 5000 = false) : msC nm P wd s L t = 2 ∧ msL nm P wd s L t = [] := by
  have h1 : msC nm P wd s L t = 2 := by unfold msC; rw [hv, hv2, ht]; simp
  exact ⟨h1, by unfold msL; rw [h1]; rfl⟩
theorem msL_le (nm : ByteArray) (P : List RPoint) (wd s : Int) (L : List RBuoy) (t : Int) : (msL nm P wd s L t).length ≤ 64 := by
  by_cases hv : vChan nm P wd = true ∧ vBuoys L = true
  · cases ht : inB t 0 5000
    · rw [(ms_no2 hv.1 hv.2 ht).2]; exact Nat.zero_le _
    · rw [(msL_is hv.1 hv.2 ht).2]
      unfold lacks
      exact Nat.le_trans (List.length_filter_le _ _) (buoysL_le _ _ _ _)
  · rw [(ms_no hv).2]; exact Nat.zero_le _
set_option maxHeartbeats 3200000 in
theorem spec_Miss_yes (nm : ByteArray) (hnm : nm.size ≤ maxLen) (P : List RPoint) (A : Option Addr) (c B g : Nat) (wd s : Int) (L : List RBuoy) (A2 : Option Addr) (c2 : Nat) (t : Int) (w : World) (hZ0 : Cz w g nm A P.length c wd) (hP : Sl w B A (flat RPoint.cells P)) (hs : Sl w B A2 (flat RBuoy.cells L)) (hB : B ≤ w.heap.size) (hl : P.length ≤ 1048576) (hn : L.length ≤ 1048576) (hv : vChan nm P wd = true) (hv2 : vBuoys L = true) (ht : inB t 0 5000 = true) :
    Calls Try.prog 104 #[.pointer (some ⟨g, 0, none⟩), .int .i64 s, .slice A2 L.length c2, .int .i64 t] w (BuPost (gtC nm P wd s) (lacks (buoysOf (gtL nm P wd s)) L t) w) := by
  have hbu := fun w hz hp hB => spec_Buoys nm hnm P A c B g wd s w hz hp hB hl
  have hle := buoysL_le nm P wd s
  have hvp := buoys_ok (nm := nm) (P := P) (wd := wd) (s := s)
  have hno : ¬ gtC nm P wd s = 0 → buoysOf (gtL nm P wd s) = [] := fun h => by unfold gtL; rw [if_neg h]; rfl
  have hha := fun w b hs hB hb => spec_Has L A2 c2 B b t w hs hB hn hv2 hb
  obtain ⟨j0, hj, je0, je1, je2⟩ := info_parts infoBu
  generalize buoysOf (gtL nm P wd s) = W at *
  generalize gtC nm P wd s = C at *
  have hno' := Lib.hid hno
  have hP' := Lib.hid hP
  have hs' := Lib.hid hs
  have hbu' := Lib.hid hbu
  have hha' := Lib.hid hha
  have hvp' := Lib.hid hvp
  have hki := Lib.hid (lackTo_all W L t)
  clear hno hP hs hbu hha hvp
  go_enter Try.func104, Try.ntmps104
  go_wp2_with fail
  refine (spec_l13Ok nm hnm P A c B g wd _ hZ0 (hP'.out.below ((show Below w.heap.size w _ by go_grown).mono hB)) hB hl).mono ?_
  rintro e w1 ⟨rfl, hb1⟩
  rw [hv]
  have hB1 := bnext (Below.refl w.heap.size w) hb1
  clear hb1 hv
  go_wp2_with fail
  refine (spec_l13List L A2 c2 B _ (hs'.out.below (hB1.mono hB)) (Nat.le_trans hB hB1.size) hn).mono ?_
  rintro e w2 ⟨rfl, hb2⟩
  rw [hv2]
  have hB2 := bnext hB1 hb2
  clear hb2 hB1 hv2
  go_wp2_with (go_at_call 119; refine (in_any _ _ _ _).mono ?_; rintro e w' ⟨rfl, rfl⟩)
  refine (hbu'.out _ (hZ0.on hB2) (hP'.out.below (hB2.mono hB)) (Nat.le_trans hB hB2.size)).mono ?_
  rintro e w3 ⟨v, rfl, hb3, hR⟩
  have hB3 := bnext hB2 hb3
  have hS2 := hB2.size
  have hS3 := hB3.size
  clear hb3 ht
  by_cases hC : C = 0
  rotate_left
  · have hC' : (C != 0) = true := by simpa using hC
    have hG := Lib.hid (hno'.out hC)
    clear hC
    go_wp2
    go_ret2
    exact ⟨_, rfl, hB3, by rw [hG.out]; exact Rs.nil _ _ _ _⟩
  subst hC
  obtain ⟨A7, c7, rfl, _⟩ := hR.sl
  clear hno'
  go_wp2_with fail
  have hO0 : (w3.alloc (.cells #[] 66)).ownsRow w3.heap.size 66 3 (.slice (some ⟨w3.heap.size, 0, none⟩) 0 0) (lackTo W L t 0).length (flat RBuoy.cells (lackTo W L t 0)) := World.ownsRow_made w3 #[] 0 (Nat.le_refl _) (Nat.zero_le _) rfl
  have hBa : Below w3.heap.size w3 (w3.alloc (.cells #[] 66)) := by go_grown
  go_loopw [12, 13] (fun v i wr => ∃ k n : Nat, i = .int .i64 k ∧ k ≤ W.length ∧ Hid ((lackTo W L t k).length = n) ∧ n ≤ k ∧ Below w3.heap.size w3 wr ∧ wr.ownsRow w3.heap.size 66 3 v n (flat RBuoy.cells (lackTo W L t k))) (fun _ i _ => W.length - (intOf i).toNat)
  case atStart => exact ⟨0, 0, rfl, Nat.zero_le _, Lib.hid rfl, Nat.le_refl _, hBa, hO0⟩
  case round =>
    clear hBa hO0
    obtain ⟨k, n, rfl, hk, hnl, hnk, hBr, hown⟩ := hrel
    have hSr := hBr.size
    have hBw := hB3.trans (hBr.mono hS3)
    by_cases hlt : k < W.length
    · obtain ⟨b', o, e7, hb', he⟩ := Sl.elem RBuoy.len (by decide) (rs_row (hR.on hBr)) hlt
      subst e7
      have hg := Lib.hid (getD_at hlt)
      obtain ⟨a, ha⟩ : ∃ a, W[k] = a := ⟨_, rfl⟩
      rw [ha] at hg he
      clear ha
      have hva := hvp'.out k hlt
      rw [hg.out] at hva
      have d0 : wr.cell? ⟨b', o + k * 3, none⟩ = some (.int .i64 a.f0) := by have := he 0 _ rfl; simpa [Nat.add_assoc] using this
      have d1 : wr.cell? ⟨b', o + k * 3 + 1, none⟩ = some (.int .i64 a.f1) := by have := he 1 _ rfl; simpa [Nat.add_assoc] using this
      have d2 : wr.cell? ⟨b', o + k * 3 + 2, none⟩ = some (.int .i64 a.f2) := by have := he 2 _ rfl; simpa [Nat.add_assoc] using this
      have hki' : (k : Int) < (W.length : Int) := by omega
      have hyes := Lib.hid (lackTo_drop (L := L) (t := t) hlt hg.out)
      have hnot := Lib.hid (lackTo_keep (L := L) (t := t) hlt hg.out)
      clear he
      go_wp2_with fail
      refine (hha'.out _ _ (hs'.out.below (hBw.mono hB)) (Nat.le_trans hB hBw.size) hva).mono ?_
      rintro e w9 ⟨rfl, hb9⟩
      have hB9 := bnext hBr hb9
      have hO9 := owns_onW hown hb9
      have hz9 := hb9.size
      have m0 := cell_onN hb9 d0 hb'
      have m1 := cell_onN hb9 d1 hb'
      have m2 := cell_onN hb9 d2 hb'
      have hb9' : b' < w9.heap.size := by omega
      clear hown hBr hb9 d0 d1 d2 hBw
      cases hhb : hasB L a t
      · have hst : Hid (flat RBuoy.cells (lackTo W L t (k + 1)) = flat RBuoy.cells (lackTo W L t k) ++ RBuoy.cells a) := Lib.hid (by rw [hnot.out hhb, flat_snoc])
        have hnl2 : Hid ((lackTo W L t (k + 1)).length = n + 1) := Lib.hid (by rw [hnot.out hhb, List.length_append, hnl.out]; rfl)
        clear hnot hyes
        go_wp2_with (at_builtin; refine wpList_append_own _ rfl _ _ 56 rfl (w3.heap.size) 66 j0 (.agg #[.int .i64 0, .int .i64 0, .int .i64 0]) 3 24 Try.underlying56 hj je0 je1 je2 rfl (by decide) _ _ _ rfl (hO9.alloc _) ⟨w9.heap.size, 0, none⟩ 1 1 (RBuoy.cells (a)) rfl rfl ?pc1 ?pc2 ?pc3 ?pc4 ?pc5 ?_)
        try (case pc1 =>
            intro j u hj
            match j, hj with
            | 0, hj => simp [RBuoy.cells] at hj; subst hj; simp [Addr.add]
            | 1, hj => simp [RBuoy.cells] at hj; subst hj; simp [Addr.add]
            | 2, hj => simp [RBuoy.cells] at hj; subst hj; simp [Addr.add])
        try (case pc2 => first | (intro u hu; simp [RBuoy.cells] at hu; rcases hu with rfl | rfl | rfl <;> rfl) | rfl | simp)
        case pc3 => unfold maxLen; omega
        case pc4 => omega
        case pc5 => first | omega | (simp; omega)
        intro v' wm hown' hgrow _
        have hBm := (show Below w3.heap.size w3 (w9.alloc (.cells (RBuoy.cells a).toArray 66)) by go_grown).grown hgrow (by simp; omega) (fun q e => by have := (hO9.lt q e).1; omega)
        rw [← hst.out] at hown'
        clear hgrow hst hO9 hB9 m0 m1 m2
        go_wp2
        go_roundw
        case rel => exact ⟨k + 1, n + 1, by go_num, by omega, hnl2, by omega, hBm, hown'⟩
        case measure => simp [intOf]; omega
      · have hst := Lib.hid (hyes.out hhb)
        have hnl2 : Hid ((lackTo W L t (k + 1)).length = n) := Lib.hid (by rw [hst.out, hnl.out])
        clear hnot hyes
        go_wp2
        go_roundw
        case rel => exact ⟨k + 1, n, by go_num, by omega, hnl2, by omega, hB9, by rw [hst.out]; exact hO9⟩
        case measure => simp [intOf]; omega
    · obtain rfl : k = W.length := by omega
      go_wp2
      go_ret2
      refine ⟨_, rfl, hBw, ?_⟩
      rw [← hki.out, hnl.out]
      exact (Rs.of_owns hown).more hS3
theorem spec_Missing (nm : ByteArray) (hnm : nm.size ≤ maxLen) (P : List RPoint) (A : Option Addr) (c B : Nat) (wd s : Int) (L : List RBuoy) (A2 : Option Addr) (c2 : Nat) (t : Int) (w : World) (hP : Sl w B A (flat RPoint.cells P)) (hs : Sl w B A2 (flat RBuoy.cells L)) (hB : B ≤ w.heap.size) (hl : P.length ≤ 1048576) (hn : L.length ≤ 1048576) :
    Calls Try.prog 51 #[.agg #[.string nm, .slice A P.length c, .int .i64 wd], .int .i64 s, .slice A2 L.length c2, .int .i64 t] w (BuPost (msC nm P wd s L t) (msL nm P wd s L t) w) := by
  have hcall : ∀ w g, Cz w g nm A P.length c wd → Sl w B A (flat RPoint.cells P) → Sl w B A2 (flat RBuoy.cells L) → B ≤ w.heap.size → Calls Try.prog 104 #[.pointer (some ⟨g, 0, none⟩), .int .i64 s, .slice A2 L.length c2, .int .i64 t] w (BuPost (msC nm P wd s L t) (msL nm P wd s L t) w) := fun w g hZ0 hP hs hB => by
    cases hv : vChan nm P wd
    · obtain ⟨h1, h2⟩ := ms_no (s := s) (t := t) (nm := nm) (P := P) (wd := wd) (L := L) (by rw [hv]; simp)
      rw [h1, h2]
      clear h1 h2
      go_enter Try.func104, Try.ntmps104
      go_wp2_with fail
      refine (spec_l13Ok nm hnm P A c B g wd _ hZ0 (hP.below ((show Below w.heap.size w _ by go_grown).mono hB)) hB hl).mono ?_
      rintro e w1 ⟨rfl, hb1⟩
      rw [hv]
      go_wp2
      go_ret2
      exact ⟨_, rfl, hb1, Rs.nil _ _ _ _⟩
    cases hv2 : vBuoys L
    · obtain ⟨h1, h2⟩ := ms_no (s := s) (t := t) (nm := nm) (P := P) (wd := wd) (L := L) (by rw [hv2]; simp)
      rw [h1, h2]
      clear h1 h2
      have hs' := Lib.hid hs
      clear hs
      go_enter Try.func104, Try.ntmps104
      go_wp2_with fail
      refine (spec_l13Ok nm hnm P A c B g wd _ hZ0 (hP.below ((show Below w.heap.size w _ by go_grown).mono hB)) hB hl).mono ?_
      rintro e w1 ⟨rfl, hb1⟩
      rw [hv]
      have hB1 := bnext (Below.refl w.heap.size w) hb1
      clear hb1
      go_wp2_with fail
      refine (spec_l13List L A2 c2 B _ (hs'.out.below (hB1.mono hB)) (Nat.le_trans hB hB1.size) hn).mono ?_
      rintro e w2 ⟨rfl, hb2⟩
      rw [hv2]
      have hB2 := bnext hB1 hb2
      clear hb2 hB1
      go_wp2
      go_ret2
      exact ⟨_, rfl, hB2, Rs.nil _ _ _ _⟩
    cases ht : inB t 0 5000
    · obtain ⟨h1, h2⟩ := ms_no2 (s := s) hv hv2 ht
      rw [h1, h2]
      clear h1 h2
      have hs' := Lib.hid hs
      clear hs
      go_enter Try.func104, Try.ntmps104
      go_wp2_with fail
      refine (spec_l13Ok nm hnm P A c B g wd _ hZ0 (hP.below ((show Below w.heap.size w _ by go_grown).mono hB)) hB hl).mono ?_
      rintro e w1 ⟨rfl, hb1⟩
      rw [hv]
      have hB1 := bnext (Below.refl w.heap.size w) hb1
      clear hb1
      go_wp2_with fail
      refine (spec_l13List L A2 c2 B _ (hs'.out.below (hB1.mono hB)) (Nat.le_trans hB hB1.size) hn).mono ?_
      rintro e w2 ⟨rfl, hb2⟩
      rw [hv2]
      have hB2 := bnext hB1 hb2
      clear hb2 hB1
      go_wp2_with (go_at_call 119; refine (in_any _ _ _ _).mono ?_; rintro e w' ⟨rfl, rfl⟩)
      go_ret2
      exact ⟨_, rfl, hB2, Rs.nil _ _ _ _⟩
    · obtain ⟨h1, h2⟩ := msL_is (s := s) hv hv2 ht
      rw [h1, h2]
      exact spec_Miss_yes nm hnm P A c B g wd s L A2 c2 t w hZ0 hP hs hB hl hn hv hv2 ht
  have hP' := Lib.hid hP
  have hs' := Lib.hid hs
  have hcall' := Lib.hid hcall
  have hZ0 := Lib.hid (Cz.new w nm A P.length c wd 49)
  clear hP hs hcall
  go_enter Try.func51, Try.ntmps51
  go_wp2_with fail
  refine (hcall'.out _ _ hZ0.out (hP'.out.below ((show Below w.heap.size w _ by go_grown).mono hB)) (hs'.out.below ((show Below w.heap.size w _ by go_grown).mono hB)) (by simp; omega)).mono ?_
  rintro e w1 ⟨v, rfl, hb1, hR⟩
  have hB1 := bnext (show Below w.heap.size w _ by go_grown) hb1
  rw [World.size_alloc] at hR
  go_wp2
  go_ret2
  exact ⟨_, rfl, hB1, hR.more (by omega)⟩
end Go.Proofs.Ytlflefnjoeappaa
