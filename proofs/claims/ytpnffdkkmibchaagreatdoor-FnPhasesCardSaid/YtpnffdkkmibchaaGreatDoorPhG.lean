/-
  Contract of the phases of a character that is drawn: the reference's. Under the conditions that it states.
-/
import Derived.Test.YtpnffdkkmibchaaGreatDoorPhF
import Derived.Deep.RegionHeld3
set_option linter.unusedVariables false
set_option linter.unnecessarySimpa false
set_option maxRecDepth 100000
set_option linter.unusedSimpArgs false
namespace Go.Proofs.YtpnffdkkmibchaaGreatDoor
open Go.RowKit BigFrame Go.Deep

theorem owns_moreP {w : World} {B B' : Nat} {e : TypeId} {sz : Nat} {v : Value} {n : Nat} {xs : List Value} (h : w.ownsRow B e sz v n xs) (hB : B' ≤ B) : w.ownsRow B' e sz v n xs := by
  obtain ⟨hl, h | ⟨g, cap, cur, h1, h2, h3⟩⟩ := h
  · exact ⟨hl, .inl h⟩
  · exact ⟨hl, .inr ⟨g, cap, cur, h1, Nat.le_trans hB h2, h3⟩⟩
theorem owns_lit (w : World) (cs : Array Value) (e : TypeId) (n sz : Nat) (h : cs.size = n * sz) (hn : n ≤ maxLen) : (w.alloc (.cells cs e)).ownsRow w.heap.size e sz (.slice (some ⟨w.heap.size, 0, none⟩) n n) n cs.toList :=
  ⟨by rw [Array.length_toList]; exact h, .inr ⟨w.heap.size, n, cs, rfl, Nat.le_refl _, heap_alloc_new w _, Nat.le_refl _, hn, h, by rw [← h, ← Array.length_toList, List.take_length]⟩⟩
theorem flat_pone (L : List RPhase) (a : RPhase) : flat RPhase.cells (L ++ [a]) = flat RPhase.cells L ++ [.string a.f0, .int .i64 a.f1] := by rw [flat_append]; rfl
/-- Phases that are drawn: their colors, their lengths' bounds; the first one is lit or dark for a time. -/
def colD (col : ByteArray) (P : List RPhase) : Prop := ∀ a ∈ P, a.f0 = ⟨#[]⟩ ∨ a.f0 = col
def goodD (col : ByteArray) (P : List RPhase) : Prop := (1 ≤ P.length ∧ P.length ≤ 70) ∧ colD col P ∧ (∀ a ∈ P, -10000 ≤ a.f1 ∧ a.f1 ≤ 700) ∧ ∀ a, P.head? = some a → 1 ≤ a.f1
def PhK (col : ByteArray) (w : World) (e : Ending) (w' : World) : Prop := ∃ P : List RPhase, goodD col P ∧ ∃ v, e = .returned v ∧ Below w.heap.size w w' ∧ w'.ownsRow w.heap.size 51 2 v P.length (flat RPhase.cells P)
theorem good_end {col : ByteArray} {P : List RPhase} {U : List Int} (hl : 1 ≤ U.length ∧ U.length ≤ 70) (hc : colD col P) (hm : P.map (fun a => a.f1) = U) (hU : ∀ t ∈ U, -10000 ≤ t ∧ t ≤ 700) (h0 : ∀ t, U.head? = some t → 1 ≤ t) : goodD col P ∧ P.length = U.length := by
  have hl2 : P.length = U.length := by rw [← hm, List.length_map]
  refine ⟨⟨by omega, hc, fun a ha => hU _ (by rw [← hm]; exact List.mem_map_of_mem ha), fun a ha => h0 _ ?_⟩, hl2⟩
  rw [← hm, List.head?_map, ha]; rfl
theorem colD.snoc {col : ByteArray} {P : List RPhase} (h : colD col P) (a : RPhase) (ha : a.f0 = ⟨#[]⟩ ∨ a.f0 = col) : colD col (P ++ [a]) := fun x hx => by
  rcases List.mem_append.1 hx with h1 | h1
  · exact h x h1
  · rw [List.mem_singleton.1 h1]; exact ha
set_option maxHeartbeats 3200000 in
theorem spec_PhasesK (b : Nat) (k : Int) (H : List Int) (A : Option Addr) (c B : Nat) (L col : ByteArray) (p : Int) (w : World) (hk : 1 ≤ k ∧ k ≤ 8) (h : ChA w b k A H.length c L) (h4 : w.cell? ⟨b, 4, none⟩ = some (.int .i64 p)) (hs : Sl w B A (ints H)) (hB : B ≤ w.heap.size) (hG : ∀ g ∈ H, 1 ≤ g ∧ g ≤ 9) (hGl : H.length ≤ 2) (hL : letOk k L) (hp : 0 ≤ p ∧ p ≤ 700 ∧ (k = 3 → 20 ≤ p)) :
    Calls Tryz.prog 59 #[.pointer (some ⟨b, 0, none⟩), .string col] w (PhK col w) := by
  have hT : ∀ w', w' = w → Calls Tryz.prog 79 #[.pointer (some ⟨b, 0, none⟩)] w' fun e w'' => ∃ T, (goodI 38 T ∧ 1 ≤ T.length) ∧ ∃ v, e = .returned v ∧ Below w.heap.size w w'' ∧ w''.ownsRow w.heap.size 2 1 v T.length (ints T) := fun w' e => by
    subst e
    by_cases h8 : k = 8
    · obtain ⟨x, hx, hLx⟩ := hL h8
      subst h8
      subst hLx
      exact spec_TimesM b A H.length c x hx w' h
    · exact spec_TimesK b k H A c B L w' (by omega) h hs hB hG hGl
  have hT' := Lib.hid hT
  have hch := Lib.hid h
  obtain ⟨j0, hjj, je0, je1, je2⟩ := info_parts infoPh
  obtain ⟨i0, hi, ie0, ie1, ie2⟩ := info_parts infoIntP
  obtain ⟨hb, d0, d1, d2⟩ := h
  have hZ := Lib.hid (And.intro hb d0)
  have hpa := hp.1
  have hpb := hp.2.1
  clear hT hs hG hL
  by_cases hk1 : k = 1
  · subst hk1
    have hO := owns_lit w #[.string col, .int .i64 10] 51 1 2 rfl (by decide)
    go_enter Tryz.func59, Tryz.ntmps59
    go_wp2_with fail
    go_ret
    exact ⟨[⟨col, 10⟩], ⟨by simp, (fun a ha => by simp at ha; subst ha; exact .inr rfl), (fun a ha => by simp at ha; subst ha; simp), (fun a ha => by simp at ha; subst ha; simp)⟩, _, rfl, by go_grown, hO⟩
  have hk1' : (k == 1) = false := beq_eq_false_iff_ne.2 hk1
  by_cases hk3 : k = 3
  · subst hk3
    have hp20 := hp.2.2 rfl
    have hO := owns_lit w #[.string col, .int .i64 (p / 2), .string ⟨#[]⟩, .int .i64 (p / 2)] 51 2 2 rfl (by decide)
    have hdv : 10 ≤ p / 2 ∧ p / 2 ≤ 700 := by omega
    go_enter Tryz.func59, Tryz.ntmps59
    go_wp2_with fail
    go_region
    have hO' := owns_onP hO (show Below _ _ ((w.alloc (.cells #[.string col, .int .i64 (p / 2), .string ⟨#[]⟩, .int .i64 (p / 2)] 51)).drew) from ((Below.refl _ _).drew))
    clear hO
    go_wp2_with fail
    go_ret
    exact ⟨[⟨col, p / 2⟩, ⟨⟨#[]⟩, p / 2⟩], ⟨by simp, (fun a ha => by simp at ha; rcases ha with rfl | rfl; exact .inr rfl; exact .inl rfl), (fun a ha => by simp at ha; rcases ha with rfl | rfl <;> (dsimp only; omega)), (fun a ha => by simp at ha; subst ha; dsimp only; omega)⟩, _, rfl, by go_grown, hO'⟩
  have hk3' : (k == 3) = false := beq_eq_false_iff_ne.2 hk3
  have hkk : k ≠ 3 := hk3
  go_enter Tryz.func59, Tryz.ntmps59
  go_wp2_with fail
  refine (hT'.out _ rfl).mono ?_
  rintro e w1 ⟨T, ⟨hT1, hT2⟩, v, rfl, hb1, hown⟩
  obtain ⟨A2, c2, rfl, -, hsl⟩ := owns_slc2 hown
  have hch1 := hch.out.on hb1
  have h41 : w1.cell? ⟨b, 4, none⟩ = some (.int .i64 p) := ((bcell hb1).1 _ _ hb).trans h4
  have hTb := Lib.hid hT1.2
  have hTl := hT1.1
  have hown' := Lib.hid hown
  have hTot := Lib.hid (fun wx (hx : Below w1.heap.size w1 wx) => spec_TotalK T A2 c2 w1.heap.size wx (hsl.below hx) hx.size (fun t ht => by have := hT1.2 t ht; omega) (by omega))
  have hbs := hb1.size
  have hb1' := hb1
  clear hT1 hown hsl hch hT' d0 d1 d2 h4 hb hb1
  obtain ⟨hb, d0, d1, d2⟩ := id hch1
  go_wp2_with fail
  go_region_held3 (fun w' => w'.cell? ⟨b, 4, none⟩ = some (.int .i64 p)) (first | (with_reducible assumption) | (exact h41) | (exact h42)) (first | (go_at_call 80; (with_reducible refine (hTot.out _ ((Below.refl _ _).drew)).mono ?_); rintro e w2 ⟨s, ⟨hsa, hsb⟩, rfl, hb2⟩; have h42 : w2.cell? ⟨b, 4, none⟩ = some (.int .i64 p) := ((bcell hb2).1 _ _ hb).trans h41))
  have hbx := bnext hb1' (bnext ((Below.refl w1.heap.size w1).drew) hb2)
  have hownx := owns_onP (owns_onP hown'.out (show Below w1.heap.size w1 w1.drew from (Below.refl w1.heap.size w1).drew)) hb2
  have hchx := (hch1.on ((Below.refl w1.heap.size w1).drew)).on hb2
  have hzb : -10000 ≤ IntKind.i64.wrap (p - s) ∧ IntKind.i64.wrap (p - s) ≤ 700 := by rw [IntWalk.i64_in _ (by omega)]; omega
  have hzx := Lib.hid hzb
  obtain ⟨z, hz⟩ : ∃ z, IntKind.i64.wrap (p - s) = z := ⟨_, rfl⟩
  rw [hz] at hzb
  simp only [hz]
  have hbz := hbx.size
  clear hzx hz hTot hch1 h41 hb2 hb1' hown' d0 d1 d2 hb hbs hsa hsb
  have hd2 := Lib.hid hchx
  go_wp2_with fail
  refine (spec_SteadyK b k A H.length c L w2 hk (by omega) hchx).mono ?_
  rintro e w' ⟨st, hst, rfl, rfl⟩
  obtain ⟨hb, d0, d1, d2⟩ := id hchx
  clear hst
  cases st
  · go_wp2_with (at_builtin; refine wpList_append_own _ rfl _ _ 65 rfl (w.heap.size) 2 i0 (.int .i64 0) 1 8 Tryz.underlying65 hi ie0 ie1 ie2 rfl (by decide) _ _ _ rfl (hownx.alloc _) ⟨w2.heap.size, 0, none⟩ 1 1 [.int .i64 (z)] rfl rfl ?pc1 ?pc2 ?pc3 ?pc4 ?pc5 ?_)
    try (case pc1 =>
        intro j u hj
        match j, hj with
        | 0, hj => simp at hj; subst hj; simp [Addr.add])
    try (case pc2 => first | (intro u hu; simp at hu; subst hu; rfl) | rfl)
    case pc3 => unfold maxLen; omega
    case pc4 => omega
    case pc5 => first | omega | (simp; omega)
    intro v' w3 hO3 hg3 _
    obtain ⟨A3, c3, rfl, -, hs3⟩ := owns_slc2 hO3
    have hb3 := (show Below w.heap.size w (w2.alloc (.cells #[.int .i64 z] 2)) by go_grown).grown hg3 (by simp; omega) (fun q e => (hownx.lt q e).1)
    have hTb' := hTb.out
    obtain ⟨hbw, dz⟩ := hZ.out
    have dz3 := ((bcell hb3).1 _ _ hbw).trans dz
    obtain ⟨U, hU, eL⟩ : ∃ U, U = T ++ [z] ∧ U.length = T.length + 1 := ⟨_, rfl, by simp⟩
    have hUb : Hid (∀ t ∈ U, -10000 ≤ t ∧ t ≤ 700) := Lib.hid (fun t ht => by
      rw [hU] at ht
      rcases List.mem_append.1 ht with h1 | h1
      · have := hTb' t h1; omega
      · rw [List.mem_singleton.1 h1]; exact hzb)
    have hU0 : Hid (∀ t, U.head? = some t → 1 ≤ t) := Lib.hid (fun t ht => by
      rw [hU] at ht
      cases T with
      | nil => simp at hT2
      | cons x T => simp at ht; subst ht; exact (hTb' x List.mem_cons_self).1)
    have hUl : 1 ≤ U.length ∧ U.length ≤ 39 := by omega
    rw [← ints_one, ← hU] at hs3
    rw [← eL]
    have hs3' := Lib.hid hs3
    have hsz3 := hb3.size
    have hbw3 : b < w3.heap.size := by omega
    clear hU eL hTb hTb' hO3 hg3 hs3 hownx dz hZ hzb hT2 hTl hd2 hchx hbx d0 d1 d2 hb
    go_wp2_with fail
    have hO0 : (w3.alloc (.cells #[] 51)).ownsRow w3.heap.size 51 2 (.slice (some ⟨w3.heap.size, 0, none⟩) 0 0) 0 (flat RPhase.cells []) := World.ownsRow_made w3 #[] 0 (Nat.le_refl _) (Nat.zero_le _) rfl
    have hBa : Below w3.heap.size w3 (w3.alloc (.cells #[] 51)) := by go_grown
    go_loopw [7, 8] (fun v i wr => ∃ (j : Nat) (P : List RPhase), i = .int .i64 j ∧ P.length = j ∧ j ≤ U.length ∧ Hid (colD col P) ∧ Hid (P.map (fun a => a.f1) = U.take j) ∧ Below w3.heap.size w3 wr ∧ wr.ownsRow w3.heap.size 51 2 v j (flat RPhase.cells P)) (fun _ i _ => U.length - (intOf i).toNat)
    case atStart => exact ⟨0, [], rfl, rfl, Nat.zero_le _, Lib.hid (fun a ha => by cases ha), Lib.hid rfl, hBa, hO0⟩
    case round =>
      clear hBa hO0
      obtain ⟨j, P, rfl, hPl, hj, hcol, hPm, hBr, hown⟩ := hrel
      have hSr := hBr.size
      by_cases hlt : j < U.length
      · obtain ⟨bt, ot, rfl, hbt, hc⟩ := Sl.int hs3'.out hlt
        have dt := ((bcell hBr).1 _ _ hbt).trans hc
        have dk := ((bcell hBr).1 _ _ hbw3).trans dz3
        have hst := Lib.hid (List.take_succ_eq_append_getElem hlt)
        obtain ⟨f, hf⟩ : ∃ f, U[j] = f := ⟨_, rfl⟩
        rw [hf] at dt hst
        clear hf hc
        have hjI : (j : Int) < (U.length : Int) := by omega
        rcases (by omega : (j : Int) % 2 = 0 ∨ (j : Int) % 2 = 1) with hpar | hpar
        · by_cases hk2 : k = 2
          · subst hk2
            go_wp2_with (at_builtin; refine wpList_append_own _ rfl _ _ 24 rfl (w3.heap.size) 51 j0 (.agg #[.string ⟨#[]⟩, .int .i64 0]) 2 24 Tryz.underlying24 hjj je0 je1 je2 rfl (by decide) _ _ _ rfl (hown.alloc _) ⟨wr.heap.size, 0, none⟩ 1 1 [.string (⟨#[]⟩), .int .i64 (f)] rfl rfl ?pc1 ?pc2 ?pc3 ?pc4 ?pc5 ?_)
            try (case pc1 =>
                intro j u hj
                match j, hj with
                | 0, hj => obtain rfl := Option.some.inj hj; simp [Addr.add, go_sem]
                | 1, hj => obtain rfl := Option.some.inj hj; simp [Addr.add, go_sem, *])
            try (case pc2 => first | exact ⟨rfl, rfl⟩ | (intro u hu; simp at hu; rcases hu with rfl | rfl <;> rfl))
            case pc3 => unfold maxLen; omega
            case pc4 => omega
            case pc5 => first | omega | (simp; omega)
            intro v' wn hown' hgrow _
            have hBn := (show Below w3.heap.size w3 (wr.alloc (.cells #[.string ⟨#[]⟩, .int .i64 f] 51)) by go_grown).grown hgrow (by simp; omega) (fun q e => (hown.lt q e).1)
            clear hown hgrow hBr
            go_wp2_with fail
            go_roundw
            case rel => exact ⟨j + 1, P ++ [⟨⟨#[]⟩, f⟩], by go_num, by simp [hPl], by omega, Lib.hid (hcol.out.snoc _ (.inl rfl)), Lib.hid (by rw [List.map_append, hPm.out, hst.out]; rfl), hBn, by rw [flat_pone]; exact hown'⟩
            case measure => simp [intOf]; omega
          · have hk2' : (k == 2) = false := beq_eq_false_iff_ne.2 hk2
            go_wp2_with (at_builtin; refine wpList_append_own _ rfl _ _ 24 rfl (w3.heap.size) 51 j0 (.agg #[.string ⟨#[]⟩, .int .i64 0]) 2 24 Tryz.underlying24 hjj je0 je1 je2 rfl (by decide) _ _ _ rfl (hown.alloc _) ⟨wr.heap.size, 0, none⟩ 1 1 [.string (col), .int .i64 (f)] rfl rfl ?pc1 ?pc2 ?pc3 ?pc4 ?pc5 ?_)
            try (case pc1 =>
                intro j u hj
                match j, hj with
                | 0, hj => obtain rfl := Option.some.inj hj; simp [Addr.add, go_sem]
                | 1, hj => obtain rfl := Option.some.inj hj; simp [Addr.add, go_sem, *])
            try (case pc2 => first | exact ⟨rfl, rfl⟩ | (intro u hu; simp at hu; rcases hu with rfl | rfl <;> rfl))
            case pc3 => unfold maxLen; omega
            case pc4 => omega
            case pc5 => first | omega | (simp; omega)
            intro v' wn hown' hgrow _
            have hBn := (show Below w3.heap.size w3 (wr.alloc (.cells #[.string col, .int .i64 f] 51)) by go_grown).grown hgrow (by simp; omega) (fun q e => (hown.lt q e).1)
            clear hown hgrow hBr
            go_wp2_with fail
            go_roundw
            case rel => exact ⟨j + 1, P ++ [⟨col, f⟩], by go_num, by simp [hPl], by omega, Lib.hid (hcol.out.snoc _ (.inr rfl)), Lib.hid (by rw [List.map_append, hPm.out, hst.out]; rfl), hBn, by rw [flat_pone]; exact hown'⟩
            case measure => simp [intOf]; omega
        · by_cases hk2 : k = 2
          · subst hk2
            go_wp2_with (at_builtin; refine wpList_append_own _ rfl _ _ 24 rfl (w3.heap.size) 51 j0 (.agg #[.string ⟨#[]⟩, .int .i64 0]) 2 24 Tryz.underlying24 hjj je0 je1 je2 rfl (by decide) _ _ _ rfl (hown.alloc _) ⟨wr.heap.size, 0, none⟩ 1 1 [.string (col), .int .i64 (f)] rfl rfl ?pc1 ?pc2 ?pc3 ?pc4 ?pc5 ?_)
            try (case pc1 =>
                intro j u hj
                match j, hj with
                | 0, hj => obtain rfl := Option.some.inj hj; simp [Addr.add, go_sem]
                | 1, hj => obtain rfl := Option.some.inj hj; simp [Addr.add, go_sem, *])
            try (case pc2 => first | exact ⟨rfl, rfl⟩ | (intro u hu; simp at hu; rcases hu with rfl | rfl <;> rfl))
            case pc3 => unfold maxLen; omega
            case pc4 => omega
            case pc5 => first | omega | (simp; omega)
            intro v' wn hown' hgrow _
            have hBn := (show Below w3.heap.size w3 (wr.alloc (.cells #[.string col, .int .i64 f] 51)) by go_grown).grown hgrow (by simp; omega) (fun q e => (hown.lt q e).1)
            clear hown hgrow hBr
            go_wp2_with fail
            go_roundw
            case rel => exact ⟨j + 1, P ++ [⟨col, f⟩], by go_num, by simp [hPl], by omega, Lib.hid (hcol.out.snoc _ (.inr rfl)), Lib.hid (by rw [List.map_append, hPm.out, hst.out]; rfl), hBn, by rw [flat_pone]; exact hown'⟩
            case measure => simp [intOf]; omega
          · have hk2' : (k == 2) = false := beq_eq_false_iff_ne.2 hk2
            go_wp2_with (at_builtin; refine wpList_append_own _ rfl _ _ 24 rfl (w3.heap.size) 51 j0 (.agg #[.string ⟨#[]⟩, .int .i64 0]) 2 24 Tryz.underlying24 hjj je0 je1 je2 rfl (by decide) _ _ _ rfl (hown.alloc _) ⟨wr.heap.size, 0, none⟩ 1 1 [.string (⟨#[]⟩), .int .i64 (f)] rfl rfl ?pc1 ?pc2 ?pc3 ?pc4 ?pc5 ?_)
            try (case pc1 =>
                intro j u hj
                match j, hj with
                | 0, hj => obtain rfl := Option.some.inj hj; simp [Addr.add, go_sem]
                | 1, hj => obtain rfl := Option.some.inj hj; simp [Addr.add, go_sem, *])
            try (case pc2 => first | exact ⟨rfl, rfl⟩ | (intro u hu; simp at hu; rcases hu with rfl | rfl <;> rfl))
            case pc3 => unfold maxLen; omega
            case pc4 => omega
            case pc5 => first | omega | (simp; omega)
            intro v' wn hown' hgrow _
            have hBn := (show Below w3.heap.size w3 (wr.alloc (.cells #[.string ⟨#[]⟩, .int .i64 f] 51)) by go_grown).grown hgrow (by simp; omega) (fun q e => (hown.lt q e).1)
            clear hown hgrow hBr
            go_wp2_with fail
            go_roundw
            case rel => exact ⟨j + 1, P ++ [⟨⟨#[]⟩, f⟩], by go_num, by simp [hPl], by omega, Lib.hid (hcol.out.snoc _ (.inl rfl)), Lib.hid (by rw [List.map_append, hPm.out, hst.out]; rfl), hBn, by rw [flat_pone]; exact hown'⟩
            case measure => simp [intOf]; omega
      · obtain rfl : j = U.length := by omega
        go_wp2_with fail
        go_ret
        have hPm' := hPm.out
        rw [List.take_length] at hPm'
        obtain ⟨hgd, hl⟩ := good_end ⟨by omega, by omega⟩ hcol.out hPm' hUb.out hU0.out
        exact ⟨P, hgd, _, rfl, hb3.trans (hBr.mono hsz3), by rw [hl]; exact owns_moreP hown hsz3⟩
  · go_wp2_with fail
    refine (spec_GapK k w2 hk).mono ?_
    rintro e w' ⟨r, hr, rfl, rfl⟩
    clear hzb
    have hzb : -10000 ≤ r ∧ r ≤ 700 := by omega
    clear hr
    go_wp2_with (at_builtin; refine wpList_append_own _ rfl _ _ 65 rfl (w.heap.size) 2 i0 (.int .i64 0) 1 8 Tryz.underlying65 hi ie0 ie1 ie2 rfl (by decide) _ _ _ rfl (hownx.alloc _) ⟨w2.heap.size, 0, none⟩ 1 1 [.int .i64 (r)] rfl rfl ?pc1 ?pc2 ?pc3 ?pc4 ?pc5 ?_)
    try (case pc1 =>
        intro j u hj
        match j, hj with
        | 0, hj => simp at hj; subst hj; simp [Addr.add])
    try (case pc2 => first | (intro u hu; simp at hu; subst hu; rfl) | rfl)
    case pc3 => unfold maxLen; omega
    case pc4 => omega
    case pc5 => first | omega | (simp; omega)
    intro v' w3 hO3 hg3 _
    obtain ⟨A3, c3, rfl, -, hs3⟩ := owns_slc2 hO3
    have hb3 := (show Below w.heap.size w (w2.alloc (.cells #[.int .i64 r] 2)) by go_grown).grown hg3 (by simp; omega) (fun q e => (hownx.lt q e).1)
    have hTb' := hTb.out
    obtain ⟨hbw, dz⟩ := hZ.out
    have dz3 := ((bcell hb3).1 _ _ hbw).trans dz
    obtain ⟨U, hU, eL⟩ : ∃ U, U = T ++ [r] ∧ U.length = T.length + 1 := ⟨_, rfl, by simp⟩
    have hUb : Hid (∀ t ∈ U, -10000 ≤ t ∧ t ≤ 700) := Lib.hid (fun t ht => by
      rw [hU] at ht
      rcases List.mem_append.1 ht with h1 | h1
      · have := hTb' t h1; omega
      · rw [List.mem_singleton.1 h1]; exact hzb)
    have hU0 : Hid (∀ t, U.head? = some t → 1 ≤ t) := Lib.hid (fun t ht => by
      rw [hU] at ht
      cases T with
      | nil => simp at hT2
      | cons x T => simp at ht; subst ht; exact (hTb' x List.mem_cons_self).1)
    have hUl : 1 ≤ U.length ∧ U.length ≤ 39 := by omega
    rw [← ints_one, ← hU] at hs3
    rw [← eL]
    have hs3' := Lib.hid hs3
    have hsz3 := hb3.size
    have hbw3 : b < w3.heap.size := by omega
    clear hU eL hTb hTb' hO3 hg3 hs3 hownx dz hZ hzb hT2 hTl hd2 hchx hbx d0 d1 d2 hb
    go_wp2_with fail
    have hO0 : (w3.alloc (.cells #[] 51)).ownsRow w3.heap.size 51 2 (.slice (some ⟨w3.heap.size, 0, none⟩) 0 0) 0 (flat RPhase.cells []) := World.ownsRow_made w3 #[] 0 (Nat.le_refl _) (Nat.zero_le _) rfl
    have hBa : Below w3.heap.size w3 (w3.alloc (.cells #[] 51)) := by go_grown
    go_loopw [7, 8] (fun v i wr => ∃ (j : Nat) (P : List RPhase), i = .int .i64 j ∧ P.length = j ∧ j ≤ U.length ∧ Hid (colD col P) ∧ Hid (P.map (fun a => a.f1) = U.take j) ∧ Below w3.heap.size w3 wr ∧ wr.ownsRow w3.heap.size 51 2 v j (flat RPhase.cells P)) (fun _ i _ => U.length - (intOf i).toNat)
    case atStart => exact ⟨0, [], rfl, rfl, Nat.zero_le _, Lib.hid (fun a ha => by cases ha), Lib.hid rfl, hBa, hO0⟩
    case round =>
      clear hBa hO0
      obtain ⟨j, P, rfl, hPl, hj, hcol, hPm, hBr, hown⟩ := hrel
      have hSr := hBr.size
      by_cases hlt : j < U.length
      · obtain ⟨bt, ot, rfl, hbt, hc⟩ := Sl.int hs3'.out hlt
        have dt := ((bcell hBr).1 _ _ hbt).trans hc
        have dk := ((bcell hBr).1 _ _ hbw3).trans dz3
        have hst := Lib.hid (List.take_succ_eq_append_getElem hlt)
        obtain ⟨f, hf⟩ : ∃ f, U[j] = f := ⟨_, rfl⟩
        rw [hf] at dt hst
        clear hf hc
        have hjI : (j : Int) < (U.length : Int) := by omega
        rcases (by omega : (j : Int) % 2 = 0 ∨ (j : Int) % 2 = 1) with hpar | hpar
        · by_cases hk2 : k = 2
          · subst hk2
            go_wp2_with (at_builtin; refine wpList_append_own _ rfl _ _ 24 rfl (w3.heap.size) 51 j0 (.agg #[.string ⟨#[]⟩, .int .i64 0]) 2 24 Tryz.underlying24 hjj je0 je1 je2 rfl (by decide) _ _ _ rfl (hown.alloc _) ⟨wr.heap.size, 0, none⟩ 1 1 [.string (⟨#[]⟩), .int .i64 (f)] rfl rfl ?pc1 ?pc2 ?pc3 ?pc4 ?pc5 ?_)
            try (case pc1 =>
                intro j u hj
                match j, hj with
                | 0, hj => obtain rfl := Option.some.inj hj; simp [Addr.add, go_sem]
                | 1, hj => obtain rfl := Option.some.inj hj; simp [Addr.add, go_sem, *])
            try (case pc2 => first | exact ⟨rfl, rfl⟩ | (intro u hu; simp at hu; rcases hu with rfl | rfl <;> rfl))
            case pc3 => unfold maxLen; omega
            case pc4 => omega
            case pc5 => first | omega | (simp; omega)
            intro v' wn hown' hgrow _
            have hBn := (show Below w3.heap.size w3 (wr.alloc (.cells #[.string ⟨#[]⟩, .int .i64 f] 51)) by go_grown).grown hgrow (by simp; omega) (fun q e => (hown.lt q e).1)
            clear hown hgrow hBr
            go_wp2_with fail
            go_roundw
            case rel => exact ⟨j + 1, P ++ [⟨⟨#[]⟩, f⟩], by go_num, by simp [hPl], by omega, Lib.hid (hcol.out.snoc _ (.inl rfl)), Lib.hid (by rw [List.map_append, hPm.out, hst.out]; rfl), hBn, by rw [flat_pone]; exact hown'⟩
            case measure => simp [intOf]; omega
          · have hk2' : (k == 2) = false := beq_eq_false_iff_ne.2 hk2
            go_wp2_with (at_builtin; refine wpList_append_own _ rfl _ _ 24 rfl (w3.heap.size) 51 j0 (.agg #[.string ⟨#[]⟩, .int .i64 0]) 2 24 Tryz.underlying24 hjj je0 je1 je2 rfl (by decide) _ _ _ rfl (hown.alloc _) ⟨wr.heap.size, 0, none⟩ 1 1 [.string (col), .int .i64 (f)] rfl rfl ?pc1 ?pc2 ?pc3 ?pc4 ?pc5 ?_)
            try (case pc1 =>
                intro j u hj
                match j, hj with
                | 0, hj => obtain rfl := Option.some.inj hj; simp [Addr.add, go_sem]
                | 1, hj => obtain rfl := Option.some.inj hj; simp [Addr.add, go_sem, *])
            try (case pc2 => first | exact ⟨rfl, rfl⟩ | (intro u hu; simp at hu; rcases hu with rfl | rfl <;> rfl))
            case pc3 => unfold maxLen; omega
            case pc4 => omega
            case pc5 => first | omega | (simp; omega)
            intro v' wn hown' hgrow _
            have hBn := (show Below w3.heap.size w3 (wr.alloc (.cells #[.string col, .int .i64 f] 51)) by go_grown).grown hgrow (by simp; omega) (fun q e => (hown.lt q e).1)
            clear hown hgrow hBr
            go_wp2_with fail
            go_roundw
            case rel => exact ⟨j + 1, P ++ [⟨col, f⟩], by go_num, by simp [hPl], by omega, Lib.hid (hcol.out.snoc _ (.inr rfl)), Lib.hid (by rw [List.map_append, hPm.out, hst.out]; rfl), hBn, by rw [flat_pone]; exact hown'⟩
            case measure => simp [intOf]; omega
        · by_cases hk2 : k = 2
          · subst hk2
            go_wp2_with (at_builtin; refine wpList_append_own _ rfl _ _ 24 rfl (w3.heap.size) 51 j0 (.agg #[.string ⟨#[]⟩, .int .i64 0]) 2 24 Tryz.underlying24 hjj je0 je1 je2 rfl (by decide) _ _ _ rfl (hown.alloc _) ⟨wr.heap.size, 0, none⟩ 1 1 [.string (col), .int .i64 (f)] rfl rfl ?pc1 ?pc2 ?pc3 ?pc4 ?pc5 ?_)
            try (case pc1 =>
                intro j u hj
                match j, hj with
                | 0, hj => obtain rfl := Option.some.inj hj; simp [Addr.add, go_sem]
                | 1, hj => obtain rfl := Option.some.inj hj; simp [Addr.add, go_sem, *])
            try (case pc2 => first | exact ⟨rfl, rfl⟩ | (intro u hu; simp at hu; rcases hu with rfl | rfl <;> rfl))
            case pc3 => unfold maxLen; omega
            case pc4 => omega
            case pc5 => first | omega | (simp; omega)
            intro v' wn hown' hgrow _
            have hBn := (show Below w3.heap.size w3 (wr.alloc (.cells #[.string col, .int .i64 f] 51)) by go_grown).grown hgrow (by simp; omega) (fun q e => (hown.lt q e).1)
            clear hown hgrow hBr
            go_wp2_with fail
            go_roundw
            case rel => exact ⟨j + 1, P ++ [⟨col, f⟩], by go_num, by simp [hPl], by omega, Lib.hid (hcol.out.snoc _ (.inr rfl)), Lib.hid (by rw [List.map_append, hPm.out, hst.out]; rfl), hBn, by rw [flat_pone]; exact hown'⟩
            case measure => simp [intOf]; omega
          · have hk2' : (k == 2) = false := beq_eq_false_iff_ne.2 hk2
            go_wp2_with (at_builtin; refine wpList_append_own _ rfl _ _ 24 rfl (w3.heap.size) 51 j0 (.agg #[.string ⟨#[]⟩, .int .i64 0]) 2 24 Tryz.underlying24 hjj je0 je1 je2 rfl (by decide) _ _ _ rfl (hown.alloc _) ⟨wr.heap.size, 0, none⟩ 1 1 [.string (⟨#[]⟩), .int .i64 (f)] rfl rfl ?pc1 ?pc2 ?pc3 ?pc4 ?pc5 ?_)
            try (case pc1 =>
                intro j u hj
                match j, hj with
                | 0, hj => obtain rfl := Option.some.inj hj; simp [Addr.add, go_sem]
                | 1, hj => obtain rfl := Option.some.inj hj; simp [Addr.add, go_sem, *])
            try (case pc2 => first | exact ⟨rfl, rfl⟩ | (intro u hu; simp at hu; rcases hu with rfl | rfl <;> rfl))
            case pc3 => unfold maxLen; omega
            case pc4 => omega
            case pc5 => first | omega | (simp; omega)
            intro v' wn hown' hgrow _
            have hBn := (show Below w3.heap.size w3 (wr.alloc (.cells #[.string ⟨#[]⟩, .int .i64 f] 51)) by go_grown).grown hgrow (by simp; omega) (fun q e => (hown.lt q e).1)
            clear hown hgrow hBr
            go_wp2_with fail
            go_roundw
            case rel => exact ⟨j + 1, P ++ [⟨⟨#[]⟩, f⟩], by go_num, by simp [hPl], by omega, Lib.hid (hcol.out.snoc _ (.inl rfl)), Lib.hid (by rw [List.map_append, hPm.out, hst.out]; rfl), hBn, by rw [flat_pone]; exact hown'⟩
            case measure => simp [intOf]; omega
      · obtain rfl : j = U.length := by omega
        go_wp2_with fail
        go_ret
        have hPm' := hPm.out
        rw [List.take_length] at hPm'
        obtain ⟨hgd, hl⟩ := good_end ⟨by omega, by omega⟩ hcol.out hPm' hUb.out hU0.out
        exact ⟨P, hgd, _, rfl, hb3.trans (hBr.mono hsz3), by rw [hl]; exact owns_moreP hown hsz3⟩
end Go.Proofs.YtpnffdkkmibchaaGreatDoor
