/-
  Contracts of the buoys on the wrong side of a channel: the program's and the reference's. Under the conditions that each states.
-/
import Derived.Test.YtlflefnjoeappaaBuoy
import Derived.Lib.BufferOwn
set_option linter.unusedVariables false
set_option linter.unnecessarySimpa false
set_option maxRecDepth 100000
set_option linter.unusedSimpArgs false
namespace Go.Proofs.Ytlflefnjoeappaa
open Go.RowKit BigFrame

theorem owns_onW {w w' : World} {B : Nat} {e : TypeId} {sz : Nat} {v : Value} {n : Nat} {xs : List Value} (h : w.ownsRow B e sz v n xs) (hb : Below w.heap.size w w') : w'.ownsRow B e sz v n xs := by
  refine World.ownsRow.kept (row := none) h ⟨hb.os, hb.tape, hb.output, hb.size, fun k hk _ => hb.block k hk⟩ ?_
  cases v.ownBlock
  · exact .inl rfl
  · exact .inr (by simp)
theorem cz_far {w w' : World} {row : Option Nat} {g : Nat} {s : ByteArray} {A : Option Addr} {n c : Nat} {wd : Int} (h : Cz w g s A n c wd) (hg : w.grownBy w' row) (hne : row ≠ some g) : Cz w' g s A n c wd := by
  obtain ⟨h1, c0, c1, c2⟩ := h
  exact ⟨Nat.lt_of_lt_of_le h1 hg.size, hg.cell c0 (fun e => hne e.symm), hg.cell c1 (fun e => hne e.symm), hg.cell c2 (fun e => hne e.symm)⟩
/-- A buoy of kind n at a place is on the wrong side. -/
def bad (P : List RPoint) (a : RBuoy) : Bool := (decide (a.f2 = 1) && !decide (chanS P a.f0 a.f1 = 1)) || (decide (a.f2 = 2) && !decide (chanS P a.f0 a.f1 = -1))
/-- The numbers of the wrong ones of the first k buoys. -/
def wrTo (P : List RPoint) (L : List RBuoy) : Nat → List Int
  | 0 => []
  | k + 1 => wrTo P L k ++ (if bad P (L.getD k default) then [(k : Int)] else [])
theorem wrTo_hit {P : List RPoint} {L : List RBuoy} {k : Nat} {a : RBuoy} (hg : L.getD k default = a) (h : bad P a = true) : wrTo P L (k + 1) = wrTo P L k ++ [(k : Int)] := by rw [wrTo, hg, h]; rfl
theorem wrTo_miss {P : List RPoint} {L : List RBuoy} {k : Nat} {a : RBuoy} (hg : L.getD k default = a) (h : bad P a = false) : wrTo P L (k + 1) = wrTo P L k := by rw [wrTo, hg, h]; simp
theorem wrTo_le (P : List RPoint) (L : List RBuoy) : ∀ k, (wrTo P L k).length ≤ k
  | 0 => Nat.le_refl _
  | k + 1 => by
    have ih := wrTo_le P L k
    rw [wrTo, List.length_append]
    split
    · simp; omega
    · simp; omega
theorem buoy_pt {L : List RBuoy} (h : vBuoys L = true) {k : Nat} {a : RBuoy} (hg : L.getD k default = a) (hk : k < L.length) : vPoint a.f0 a.f1 = true := by
  have h1 : okBuoy L k = true := by
    rw [← Bool.not_eq_false]
    intro hf
    rw [vBuoys_hit hk hf] at h
    cases h
  rw [okBuoy_is hg, Bool.and_eq_true] at h1
  exact h1.1
def WrPost (C : Int) (K : List Int) (w : World) (e : Ending) (w' : World) : Prop := ∃ v, e = .returned (.tuple #[v, .int .i64 C]) ∧ Below w.heap.size w w' ∧ Rs w' w.heap.size 2 1 v K.length ((K).map (Value.int .i64))
theorem infoI64 : (Try.prog.info? 2).map (fun i => (i.zero, i.size, i.bytes)) = some (some (.int .i64 0), 1, 8) := by kernel_rfl
set_option maxHeartbeats 3200000 in
theorem spec_Wrong_ok (s : ByteArray) (hsz : s.size ≤ maxLen) (P : List RPoint) (A : Option Addr) (c : Nat) (wd : Int) (L : List RBuoy) (A2 : Option Addr) (c2 B : Nat) (w : World) (hP : Sl w B A (flat RPoint.cells P)) (hs : Sl w B A2 (flat RBuoy.cells L)) (hB : B ≤ w.heap.size) (hl : P.length ≤ 1048576) (hn : L.length ≤ 1048576) (hv1 : vChan s P wd = true) (hv2 : vBuoys L = true) :
    Calls Try.prog 41 #[.agg #[.string s, .slice A P.length c, .int .i64 wd], .slice A2 L.length c2] w (WrPost 0 (wrTo P L L.length) w) := by
  have hP' := Lib.hid hP
  have hs' := Lib.hid hs
  have hv2' := Lib.hid hv2
  have hvv : vLine P = true ∧ 2 ≤ P.length := by
    have h := hv1
    unfold vChan at h
    simp only [Bool.and_eq_true] at h
    have h1 := inB_yes.1 h.2.2.1
    exact ⟨h.1, by omega⟩
  have hvl := Lib.hid hvv.1
  have h2 := hvv.2
  have hZ0 := Lib.hid (Cz.new w s A P.length c wd 49)
  obtain ⟨i0, hi, ie0, ie1, ie2⟩ := info_parts infoI64
  clear hP hs hvv
  go_enter Try.func41, Try.ntmps41
  go_wp2_with fail
  refine (spec_l13Ok s hsz P A c B w.heap.size wd _ hZ0.out (hP'.out.below ((show Below w.heap.size w _ by go_grown).mono hB)) (by simp; omega) hl).mono ?_
  rintro e w1 ⟨rfl, hb1⟩
  rw [hv1]
  have hZ1 := hZ0.out.on hb1
  have hB1 := bnext (w := w) (by go_grown) hb1
  clear hb1 hv1
  go_wp2_with fail
  refine (spec_l13List L A2 c2 B _ (hs'.out.below (hB1.mono hB)) (Nat.le_trans hB hB1.size) hn).mono ?_
  rintro e w2 ⟨rfl, hb2⟩
  rw [hv2]
  have hZ2 := hZ1.on hb2
  have hB2 := bnext hB1 hb2
  have hS2 := hB2.size
  have hz2 := hZ2.1
  clear hb2 hv2 hZ1 hB1
  go_wp2_with fail
  have hO0 : (w2.alloc (.cells #[] 2)).ownsRow (w.heap.size + 1) 2 1 (.slice (some ⟨w2.heap.size, 0, none⟩) 0 0) (wrTo P L 0).length ((wrTo P L 0).map (Value.int .i64)) := World.ownsRow_made w2 #[] 0 (by omega) (Nat.zero_le _) rfl
  have hZa := hZ2.on (show Below w2.heap.size w2 (w2.alloc (.cells #[] 2)) by go_grown)
  have hBa : Below w.heap.size w (w2.alloc (.cells #[] 2)) := by go_grown
  go_loopw [6, 7] (fun v i wr => ∃ k : Nat, i = .int .i64 k ∧ k ≤ L.length ∧ Below w.heap.size w wr ∧ Cz wr w.heap.size s A P.length c wd ∧ wr.ownsRow (w.heap.size + 1) 2 1 v (wrTo P L k).length ((wrTo P L k).map (Value.int .i64))) (fun _ i _ => L.length - (intOf i).toNat)
  case atStart => exact ⟨0, rfl, Nat.zero_le _, hBa, hZa, hO0⟩
  case round =>
    clear hBa hZa hO0 hB2 hZ2 hz2
    obtain ⟨k, rfl, hk, hBr, hZ, hown⟩ := hrel
    have hSr := hBr.size
    by_cases hlt : k < L.length
    · have hle := wrTo_le P L k
      obtain ⟨b, o, rfl, hb, he⟩ := Sl.elem RBuoy.len (by decide) (hs'.out.below (hBr.mono hB)) hlt
      have hg := Lib.hid (getD_at hlt)
      obtain ⟨a, ha⟩ : ∃ a, L[k] = a := ⟨_, rfl⟩
      rw [ha] at hg he
      clear ha
      have d0 : wr.cell? ⟨b, o + k * 3, none⟩ = some (.int .i64 a.f0) := by have := he 0 _ rfl; simpa [Nat.add_assoc] using this
      have d1 : wr.cell? ⟨b, o + k * 3 + 1, none⟩ = some (.int .i64 a.f1) := by have := he 1 _ rfl; simpa [Nat.add_assoc] using this
      have d2 : wr.cell? ⟨b, o + k * 3 + 2, none⟩ = some (.int .i64 a.f2) := by have := he 2 _ rfl; simpa [Nat.add_assoc] using this
      clear he
      have hbw : b < wr.heap.size := by omega
      have hki : (k : Int) < (L.length : Int) := by omega
      have hpt := Lib.hid (buoy_pt hv2'.out hg.out hlt)
      obtain ⟨D, hD⟩ : ∃ D, chanS P a.f0 a.f1 = D := ⟨_, rfl⟩
      have hbd : Hid (bad P a = ((decide (a.f2 = 1) && !decide (D = 1)) || (decide (a.f2 = 2) && !decide (D = -1)))) := Lib.hid (by unfold bad; rw [hD])
      have hh := Lib.hid (wrTo_hit (P := P) (k := k) hg.out)
      have hm := Lib.hid (wrTo_miss (P := P) (k := k) hg.out)
      have hcall := spec_ChSide s P A c B w.heap.size wd a.f0 a.f1 wr hZ (hP'.out.below (hBr.mono hB)) (by omega) hl h2 hvl.out hpt.out
      rw [hD] at hcall
      go_wp2_with fail
      refine hcall.mono ?_
      rintro e w9 ⟨rfl, hbs⟩
      have x2 := cell_onN hbs d2 hbw
      have hB9 := bnext hBr hbs
      have hZ9 := hZ.on hbs
      clear hcall d0 d1 d2 hZ
      have hO9 := owns_onW hown hbs
      have hz9 := hbs.size
      clear hbs hown hD
      generalize a.f2 = ak at x2 hbd
      by_cases e1 : ak = 1
      · subst e1
        by_cases e2 : D = 1
        · subst e2
          have H := Lib.hid (hm.out (hbd.out.trans (by simp [])))
          clear hh hm hbd
          go_wp2
          go_roundw
          case rel => exact ⟨k + 1, by go_num, by omega, hB9, hZ9, by rw [H.out]; exact hO9⟩
          case measure => simp [intOf]; omega
        · have e3 : (D != 1) = true := by simp [e2]
          have H := Lib.hid (hh.out (hbd.out.trans (by simp [e2])))
          clear hh hm hbd
          go_wp2_with (at_builtin; refine wpList_append_own _ rfl _ _ 62 rfl (w.heap.size + 1) 2 i0 (.int .i64 0) 1 8 Try.underlying62 hi ie0 ie1 ie2 rfl (by decide) _ _ _ rfl (hO9.alloc _) ⟨w9.heap.size, 0, none⟩ 1 1 [.int .i64 k] rfl rfl ?c1 ?c2 ?c3 ?c4 ?c5 ?_)
          case c1 =>
            intro j u hj
            match j, hj with
            | 0, hj => simp at hj; subst hj; simp [Addr.add]
          case c2 => intro u hu; simp at hu; subst hu; rfl
          case c3 => unfold maxLen; omega
          case c4 => omega
          case c5 => simp; omega
          intro v' wn hown' hgrow _
          have hBn := (show Below w.heap.size w (w9.alloc (.cells #[.int .i64 k] 2)) by go_grown).grown hgrow (by simp; omega) (fun q e => by have := (hO9.lt q e).1; omega)
          have hZn := cz_far (hZ9.on (show Below w9.heap.size w9 (w9.alloc (.cells #[.int .i64 k] 2)) by go_grown)) hgrow (fun e => by have := (hO9.lt _ e).1; omega)
          have hOn : wn.ownsRow (w.heap.size + 1) 2 1 v' (wrTo P L (k + 1)).length ((wrTo P L (k + 1)).map (Value.int .i64)) := by rw [H.out]; simpa using hown'
          clear hown' hgrow hB9 hZ9 hO9 hz9
          go_wp2
          go_roundw
          case rel => exact ⟨k + 1, by go_num, by omega, hBn, hZn, hOn⟩
          case measure => simp [intOf]; omega
      by_cases e4 : ak = 2
      · subst e4
        by_cases e2 : D = -1
        · subst e2
          have H := Lib.hid (hm.out (hbd.out.trans (by simp [])))
          clear hh hm hbd
          go_wp2
          go_roundw
          case rel => exact ⟨k + 1, by go_num, by omega, hB9, hZ9, by rw [H.out]; exact hO9⟩
          case measure => simp [intOf]; omega
        · have e3 : (D != -1) = true := by simp [e2]
          have H := Lib.hid (hh.out (hbd.out.trans (by simp [e2])))
          clear hh hm hbd
          go_wp2_with (at_builtin; refine wpList_append_own _ rfl _ _ 62 rfl (w.heap.size + 1) 2 i0 (.int .i64 0) 1 8 Try.underlying62 hi ie0 ie1 ie2 rfl (by decide) _ _ _ rfl (hO9.alloc _) ⟨w9.heap.size, 0, none⟩ 1 1 [.int .i64 k] rfl rfl ?c1 ?c2 ?c3 ?c4 ?c5 ?_)
          case c1 =>
            intro j u hj
            match j, hj with
            | 0, hj => simp at hj; subst hj; simp [Addr.add]
          case c2 => intro u hu; simp at hu; subst hu; rfl
          case c3 => unfold maxLen; omega
          case c4 => omega
          case c5 => simp; omega
          intro v' wn hown' hgrow _
          have hBn := (show Below w.heap.size w (w9.alloc (.cells #[.int .i64 k] 2)) by go_grown).grown hgrow (by simp; omega) (fun q e => by have := (hO9.lt q e).1; omega)
          have hZn := cz_far (hZ9.on (show Below w9.heap.size w9 (w9.alloc (.cells #[.int .i64 k] 2)) by go_grown)) hgrow (fun e => by have := (hO9.lt _ e).1; omega)
          have hOn : wn.ownsRow (w.heap.size + 1) 2 1 v' (wrTo P L (k + 1)).length ((wrTo P L (k + 1)).map (Value.int .i64)) := by rw [H.out]; simpa using hown'
          clear hown' hgrow hB9 hZ9 hO9 hz9
          go_wp2
          go_roundw
          case rel => exact ⟨k + 1, by go_num, by omega, hBn, hZn, hOn⟩
          case measure => simp [intOf]; omega
      · have H := Lib.hid (hm.out (hbd.out.trans (by simp [e1, e4])))
        clear hh hm hbd
        go_wp2
        go_roundw
        case rel => exact ⟨k + 1, by go_num, by omega, hB9, hZ9, by rw [H.out]; exact hO9⟩
        case measure => simp [intOf]; omega
    · obtain rfl : k = L.length := by omega
      go_wp2
      go_ret2
      exact ⟨_, rfl, hBr, (Rs.of_owns hown).more (by omega)⟩
set_option maxHeartbeats 3200000 in
theorem impl_Wrong_ok (s : ByteArray) (hsz : s.size ≤ maxLen) (P : List RPoint) (A : Option Addr) (c : Nat) (wd : Int) (L : List RBuoy) (A2 : Option Addr) (c2 B : Nat) (w : World) (hP : Sl w B A (flat RPoint.cells P)) (hs : Sl w B A2 (flat RBuoy.cells L)) (hB : B ≤ w.heap.size) (hl : P.length ≤ 1048576) (hn : L.length ≤ 1048576) (hv1 : vChan s P wd = true) (hv2 : vBuoys L = true) :
    Calls Try.prog 36 #[.agg #[.string s, .slice A P.length c, .int .i64 wd], .slice A2 L.length c2] w (WrPost 0 (wrTo P L L.length) w) := by
  have hP' := Lib.hid hP
  have hs' := Lib.hid hs
  have hv2' := Lib.hid hv2
  have hvv : vLine P = true ∧ 2 ≤ P.length := by
    have h := hv1
    unfold vChan at h
    simp only [Bool.and_eq_true] at h
    have h1 := inB_yes.1 h.2.2.1
    exact ⟨h.1, by omega⟩
  have hvl := Lib.hid hvv.1
  have h2 := hvv.2
  have hZ0 := Lib.hid (Cz.new w s A P.length c wd 49)
  obtain ⟨i0, hi, ie0, ie1, ie2⟩ := info_parts infoI64
  clear hP hs hvv
  go_enter Try.func36, Try.ntmps36
  go_wp2_with fail
  refine (impl_ValidChannel s hsz P A c B wd _ (hP'.out.below ((show Below w.heap.size w _ by go_grown).mono hB)) (by simp; omega) hl).mono ?_
  rintro e w1 ⟨rfl, hb1⟩
  rw [hv1]
  have hZ1 := hZ0.out.on hb1
  have hB1 := bnext (w := w) (by go_grown) hb1
  clear hb1 hv1
  go_wp2_with fail
  refine (impl_ValidBuoys L A2 c2 B _ (hs'.out.below (hB1.mono hB)) (Nat.le_trans hB hB1.size) hn).mono ?_
  rintro e w2 ⟨rfl, hb2⟩
  rw [hv2]
  have hZ2 := hZ1.on hb2
  have hB2 := bnext hB1 hb2
  have hS2 := hB2.size
  have hz2 := hZ2.1
  clear hb2 hv2 hZ1 hB1
  go_wp2_with fail
  have hO0 : (w2.alloc (.cells #[] 2)).ownsRow (w.heap.size + 1) 2 1 (.slice (some ⟨w2.heap.size, 0, none⟩) 0 0) (wrTo P L 0).length ((wrTo P L 0).map (Value.int .i64)) := World.ownsRow_made w2 #[] 0 (by omega) (Nat.zero_le _) rfl
  have hZa := hZ2.on (show Below w2.heap.size w2 (w2.alloc (.cells #[] 2)) by go_grown)
  have hBa : Below w.heap.size w (w2.alloc (.cells #[] 2)) := by go_grown
  go_loopw [6, 21] (fun v i wr => ∃ k : Nat, i = .int .i64 k ∧ k ≤ L.length ∧ Below w.heap.size w wr ∧ Cz wr w.heap.size s A P.length c wd ∧ wr.ownsRow (w.heap.size + 1) 2 1 v (wrTo P L k).length ((wrTo P L k).map (Value.int .i64))) (fun _ i _ => L.length - (intOf i).toNat)
  case atStart => exact ⟨0, rfl, Nat.zero_le _, hBa, hZa, hO0⟩
  case round =>
    clear hBa hZa hO0 hB2 hZ2 hz2
    obtain ⟨k, rfl, hk, hBr, hZ, hown⟩ := hrel
    have hSr := hBr.size
    obtain ⟨hzl, hc0, hc1, hc2⟩ := id hZ
    by_cases hlt : k < L.length
    · have hle := wrTo_le P L k
      obtain ⟨b, o, rfl, hb, he⟩ := Sl.elem RBuoy.len (by decide) (hs'.out.below (hBr.mono hB)) hlt
      have hg := Lib.hid (getD_at hlt)
      obtain ⟨a, ha⟩ : ∃ a, L[k] = a := ⟨_, rfl⟩
      rw [ha] at hg he
      clear ha
      have d0 : wr.cell? ⟨b, o + k * 3, none⟩ = some (.int .i64 a.f0) := by have := he 0 _ rfl; simpa [Nat.add_assoc] using this
      have d1 : wr.cell? ⟨b, o + k * 3 + 1, none⟩ = some (.int .i64 a.f1) := by have := he 1 _ rfl; simpa [Nat.add_assoc] using this
      have d2 : wr.cell? ⟨b, o + k * 3 + 2, none⟩ = some (.int .i64 a.f2) := by have := he 2 _ rfl; simpa [Nat.add_assoc] using this
      clear he
      have hbw : b < wr.heap.size := by omega
      have hki : (k : Int) < (L.length : Int) := by omega
      have hpt := Lib.hid (buoy_pt hv2'.out hg.out hlt)
      obtain ⟨D, hD⟩ : ∃ D, chanS P a.f0 a.f1 = D := ⟨_, rfl⟩
      have hbd : Hid (bad P a = ((decide (a.f2 = 1) && !decide (D = 1)) || (decide (a.f2 = 2) && !decide (D = -1)))) := Lib.hid (by unfold bad; rw [hD])
      have hh := Lib.hid (wrTo_hit (P := P) (k := k) hg.out)
      have hm := Lib.hid (wrTo_miss (P := P) (k := k) hg.out)
      have hal : Below wr.heap.size wr (wr.alloc (.cells #[.int .i64 a.f0, .int .i64 a.f1, .int .i64 a.f2] 66)) := by go_grown
      have hBl := bnext hBr hal
      have hcall := impl_ChSide s P A c B wd a.f0 a.f1 _ (hP'.out.below (hBl.mono hB)) (by simp; omega) hl h2 hvl.out hpt.out
      rw [hD] at hcall
      have hownl := owns_onW hown hal
      have hZl := hZ.on hal
      clear hown hZ
      go_wp2_with fail
      refine hcall.mono ?_
      rintro e w9 ⟨rfl, hbs⟩
      have x2 := cell_onN hbs (show (wr.alloc (.cells #[.int .i64 a.f0, .int .i64 a.f1, .int .i64 a.f2] 66)).cell? ⟨wr.heap.size, 2, none⟩ = some (.int .i64 a.f2) by simp) (by simp)
      have hB9 := bnext hBl hbs
      have hZ9 := hZl.on hbs
      have hown := hownl
      have hzw := hbs.size
      rw [World.size_alloc] at hzw
      clear hcall d0 d1 d2 hZl hownl hal hBl hc0 hc1 hc2
      have hO9 := owns_onW hown hbs
      have hz9 := hbs.size
      clear hbs hown hD
      generalize a.f2 = ak at x2 hbd
      by_cases e1 : ak = 1
      · subst e1
        by_cases e2 : D = 1
        · subst e2
          have H := Lib.hid (hm.out (hbd.out.trans (by simp [])))
          clear hh hm hbd
          go_wp2
          go_roundw
          case rel => exact ⟨k + 1, by go_num, by omega, hB9, hZ9, by rw [H.out]; exact hO9⟩
          case measure => simp [intOf]; omega
        · have e3 : (D != 1) = true := by simp [e2]
          have H := Lib.hid (hh.out (hbd.out.trans (by simp [e2])))
          clear hh hm hbd
          go_wp2_with (at_builtin; refine wpList_append_own _ rfl _ _ 62 rfl (w.heap.size + 1) 2 i0 (.int .i64 0) 1 8 Try.underlying62 hi ie0 ie1 ie2 rfl (by decide) _ _ _ rfl (hO9.alloc _) ⟨w9.heap.size, 0, none⟩ 1 1 [.int .i64 k] rfl rfl ?c1 ?c2 ?c3 ?c4 ?c5 ?_)
          case c1 =>
            intro j u hj
            match j, hj with
            | 0, hj => simp at hj; subst hj; simp [Addr.add]
          case c2 => intro u hu; simp at hu; subst hu; rfl
          case c3 => unfold maxLen; omega
          case c4 => omega
          case c5 => simp; omega
          intro v' wn hown' hgrow _
          have hBn := (show Below w.heap.size w (w9.alloc (.cells #[.int .i64 k] 2)) by go_grown).grown hgrow (by simp; omega) (fun q e => by have := (hO9.lt q e).1; omega)
          have hZn := cz_far (hZ9.on (show Below w9.heap.size w9 (w9.alloc (.cells #[.int .i64 k] 2)) by go_grown)) hgrow (fun e => by have := (hO9.lt _ e).1; omega)
          have hOn : wn.ownsRow (w.heap.size + 1) 2 1 v' (wrTo P L (k + 1)).length ((wrTo P L (k + 1)).map (Value.int .i64)) := by rw [H.out]; simpa using hown'
          clear hown' hgrow hB9 hZ9 hO9 hz9
          go_wp2
          go_roundw
          case rel => exact ⟨k + 1, by go_num, by omega, hBn, hZn, hOn⟩
          case measure => simp [intOf]; omega
      by_cases e4 : ak = 2
      · subst e4
        by_cases e2 : D = -1
        · subst e2
          have H := Lib.hid (hm.out (hbd.out.trans (by simp [])))
          clear hh hm hbd
          go_wp2
          go_roundw
          case rel => exact ⟨k + 1, by go_num, by omega, hB9, hZ9, by rw [H.out]; exact hO9⟩
          case measure => simp [intOf]; omega
        · have e3 : (D != -1) = true := by simp [e2]
          have H := Lib.hid (hh.out (hbd.out.trans (by simp [e2])))
          clear hh hm hbd
          go_wp2_with (at_builtin; refine wpList_append_own _ rfl _ _ 62 rfl (w.heap.size + 1) 2 i0 (.int .i64 0) 1 8 Try.underlying62 hi ie0 ie1 ie2 rfl (by decide) _ _ _ rfl (hO9.alloc _) ⟨w9.heap.size, 0, none⟩ 1 1 [.int .i64 k] rfl rfl ?c1 ?c2 ?c3 ?c4 ?c5 ?_)
          case c1 =>
            intro j u hj
            match j, hj with
            | 0, hj => simp at hj; subst hj; simp [Addr.add]
          case c2 => intro u hu; simp at hu; subst hu; rfl
          case c3 => unfold maxLen; omega
          case c4 => omega
          case c5 => simp; omega
          intro v' wn hown' hgrow _
          have hBn := (show Below w.heap.size w (w9.alloc (.cells #[.int .i64 k] 2)) by go_grown).grown hgrow (by simp; omega) (fun q e => by have := (hO9.lt q e).1; omega)
          have hZn := cz_far (hZ9.on (show Below w9.heap.size w9 (w9.alloc (.cells #[.int .i64 k] 2)) by go_grown)) hgrow (fun e => by have := (hO9.lt _ e).1; omega)
          have hOn : wn.ownsRow (w.heap.size + 1) 2 1 v' (wrTo P L (k + 1)).length ((wrTo P L (k + 1)).map (Value.int .i64)) := by rw [H.out]; simpa using hown'
          clear hown' hgrow hB9 hZ9 hO9 hz9
          go_wp2
          go_roundw
          case rel => exact ⟨k + 1, by go_num, by omega, hBn, hZn, hOn⟩
          case measure => simp [intOf]; omega
      · have H := Lib.hid (hm.out (hbd.out.trans (by simp [e1, e4])))
        clear hh hm hbd
        go_wp2
        go_roundw
        case rel => exact ⟨k + 1, by go_num, by omega, hB9, hZ9, by rw [H.out]; exact hO9⟩
        case measure => simp [intOf]; omega
    · obtain rfl : k = L.length := by omega
      go_wp2
      go_ret2
      exact ⟨_, rfl, hBr, (Rs.of_owns hown).more (by omega)⟩
/-- The code; the numbers. -/
def wrC (s : ByteArray) (P : List RPoint) (wd : Int) (L : List RBuoy) : Int := if vChan s P wd = true ∧ vBuoys L = true then 0 else 1
def wrK (s : ByteArray) (P : List RPoint) (wd : Int) (L : List RBuoy) : List Int := if vChan s P wd = true ∧ vBuoys L = true then wrTo P L L.length else []
theorem wrK_le (s : ByteArray) (P : List RPoint) (wd : Int) (L : List RBuoy) : (wrK s P wd L).length ≤ L.length := by
  unfold wrK
  split
  · exact wrTo_le P L L.length
  · exact Nat.zero_le _
theorem spec_Wrong_no (s : ByteArray) (hsz : s.size ≤ maxLen) (P : List RPoint) (A : Option Addr) (c : Nat) (wd : Int) (L : List RBuoy) (A2 : Option Addr) (c2 B : Nat) (w : World) (hP : Sl w B A (flat RPoint.cells P)) (hs : Sl w B A2 (flat RBuoy.cells L)) (hB : B ≤ w.heap.size) (hl : P.length ≤ 1048576) (hn : L.length ≤ 1048576) (hv : ¬ (vChan s P wd = true ∧ vBuoys L = true)) :
    Calls Try.prog 41 #[.agg #[.string s, .slice A P.length c, .int .i64 wd], .slice A2 L.length c2] w (WrPost 1 [] w) := by
  have hP' := Lib.hid hP
  have hs' := Lib.hid hs
  have hZ0 := Lib.hid (Cz.new w s A P.length c wd 49)
  clear hP hs
  cases hv1 : vChan s P wd
  · clear hv
    go_enter Try.func41, Try.ntmps41
    go_wp2_with fail
    refine (spec_l13Ok s hsz P A c B w.heap.size wd _ hZ0.out (hP'.out.below ((show Below w.heap.size w _ by go_grown).mono hB)) (by simp; omega) hl).mono ?_
    rintro e w1 ⟨rfl, hb1⟩
    rw [hv1]
    have hB1 := bnext (w := w) (by go_grown) hb1
    clear hb1
    go_wp2
    go_ret2
    exact ⟨_, rfl, hB1, Rs.nil _ _ _ _⟩
  have hv2 : vBuoys L = false := by
    cases h : vBuoys L
    · rfl
    · exact absurd ⟨hv1, h⟩ hv
  clear hv
  go_enter Try.func41, Try.ntmps41
  go_wp2_with fail
  refine (spec_l13Ok s hsz P A c B w.heap.size wd _ hZ0.out (hP'.out.below ((show Below w.heap.size w _ by go_grown).mono hB)) (by simp; omega) hl).mono ?_
  rintro e w1 ⟨rfl, hb1⟩
  rw [hv1]
  have hB1 := bnext (w := w) (by go_grown) hb1
  clear hb1
  go_wp2_with fail
  refine (spec_l13List L A2 c2 B _ (hs'.out.below (hB1.mono hB)) (Nat.le_trans hB hB1.size) hn).mono ?_
  rintro e w2 ⟨rfl, hb2⟩
  rw [hv2]
  have hB2 := bnext hB1 hb2
  clear hb2 hB1
  go_wp2
  go_ret2
  exact ⟨_, rfl, hB2, Rs.nil _ _ _ _⟩
theorem spec_Wrong (s : ByteArray) (hsz : s.size ≤ maxLen) (P : List RPoint) (A : Option Addr) (c : Nat) (wd : Int) (L : List RBuoy) (A2 : Option Addr) (c2 B : Nat) (w : World) (hP : Sl w B A (flat RPoint.cells P)) (hs : Sl w B A2 (flat RBuoy.cells L)) (hB : B ≤ w.heap.size) (hl : P.length ≤ 1048576) (hn : L.length ≤ 1048576) :
    Calls Try.prog 41 #[.agg #[.string s, .slice A P.length c, .int .i64 wd], .slice A2 L.length c2] w (WrPost (wrC s P wd L) (wrK s P wd L) w) := by
  unfold wrC wrK
  by_cases h : vChan s P wd = true ∧ vBuoys L = true
  · rw [if_pos h, if_pos h]
    exact spec_Wrong_ok s hsz P A c wd L A2 c2 B w hP hs hB hl hn h.1 h.2
  · rw [if_neg h, if_neg h]
    exact spec_Wrong_no s hsz P A c wd L A2 c2 B w hP hs hB hl hn h
theorem impl_Wrong_no (s : ByteArray) (hsz : s.size ≤ maxLen) (P : List RPoint) (A : Option Addr) (c : Nat) (wd : Int) (L : List RBuoy) (A2 : Option Addr) (c2 B : Nat) (w : World) (hP : Sl w B A (flat RPoint.cells P)) (hs : Sl w B A2 (flat RBuoy.cells L)) (hB : B ≤ w.heap.size) (hl : P.length ≤ 1048576) (hn : L.length ≤ 1048576) (hv : ¬ (vChan s P wd = true ∧ vBuoys L = true)) :
    Calls Try.prog 36 #[.agg #[.string s, .slice A P.length c, .int .i64 wd], .slice A2 L.length c2] w (WrPost 1 [] w) := by
  have hP' := Lib.hid hP
  have hs' := Lib.hid hs
  have hZ0 := Lib.hid (Cz.new w s A P.length c wd 49)
  clear hP hs
  cases hv1 : vChan s P wd
  · clear hv
    go_enter Try.func36, Try.ntmps36
    go_wp2_with fail
    refine (impl_ValidChannel s hsz P A c B wd _ (hP'.out.below ((show Below w.heap.size w _ by go_grown).mono hB)) (by simp; omega) hl).mono ?_
    rintro e w1 ⟨rfl, hb1⟩
    rw [hv1]
    have hB1 := bnext (w := w) (by go_grown) hb1
    clear hb1
    go_wp2
    go_ret2
    exact ⟨_, rfl, hB1, Rs.nil _ _ _ _⟩
  have hv2 : vBuoys L = false := by
    cases h : vBuoys L
    · rfl
    · exact absurd ⟨hv1, h⟩ hv
  clear hv
  go_enter Try.func36, Try.ntmps36
  go_wp2_with fail
  refine (impl_ValidChannel s hsz P A c B wd _ (hP'.out.below ((show Below w.heap.size w _ by go_grown).mono hB)) (by simp; omega) hl).mono ?_
  rintro e w1 ⟨rfl, hb1⟩
  rw [hv1]
  have hB1 := bnext (w := w) (by go_grown) hb1
  clear hb1
  go_wp2_with fail
  refine (impl_ValidBuoys L A2 c2 B _ (hs'.out.below (hB1.mono hB)) (Nat.le_trans hB hB1.size) hn).mono ?_
  rintro e w2 ⟨rfl, hb2⟩
  rw [hv2]
  have hB2 := bnext hB1 hb2
  clear hb2 hB1
  go_wp2
  go_ret2
  exact ⟨_, rfl, hB2, Rs.nil _ _ _ _⟩
theorem impl_Wrong (s : ByteArray) (hsz : s.size ≤ maxLen) (P : List RPoint) (A : Option Addr) (c : Nat) (wd : Int) (L : List RBuoy) (A2 : Option Addr) (c2 B : Nat) (w : World) (hP : Sl w B A (flat RPoint.cells P)) (hs : Sl w B A2 (flat RBuoy.cells L)) (hB : B ≤ w.heap.size) (hl : P.length ≤ 1048576) (hn : L.length ≤ 1048576) :
    Calls Try.prog 36 #[.agg #[.string s, .slice A P.length c, .int .i64 wd], .slice A2 L.length c2] w (WrPost (wrC s P wd L) (wrK s P wd L) w) := by
  unfold wrC wrK
  by_cases h : vChan s P wd = true ∧ vBuoys L = true
  · rw [if_pos h, if_pos h]
    exact impl_Wrong_ok s hsz P A c wd L A2 c2 B w hP hs hB hl hn h.1 h.2
  · rw [if_neg h, if_neg h]
    exact impl_Wrong_no s hsz P A c wd L A2 c2 B w hP hs hB hl hn h
end Go.Proofs.Ytlflefnjoeappaa
