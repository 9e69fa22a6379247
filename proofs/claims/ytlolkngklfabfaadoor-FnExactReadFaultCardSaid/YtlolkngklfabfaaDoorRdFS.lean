/-
  Contract of faults read from texts: the reference's. Under the conditions that it states.
-/
import Derived.Test.YtlolkngklfabfaaDoorRdFI
set_option linter.unusedVariables false
set_option linter.unnecessarySimpa false
set_option maxRecDepth 100000
set_option linter.unusedSimpArgs false
namespace Go.Proofs.YtlolkngklfabfaaDoor
open Go.RowKit BigFrame

/-- The number of the last of the first k names that is this one. -/
def fkTo (b : List UInt8) : Nat → Int
  | 0 => 0
  | k + 1 => if names4[k]? = some (ba b) then (k : Int) + 1 else fkTo b k
theorem fkTo_hit {b : List UInt8} {k : Nat} {X : ByteArray} (h : names4[k]? = some X) (e : X = ba b) : fkTo b (k + 1) = (k : Int) + 1 := by
  rw [fkTo, if_pos (by rw [h, e])]
theorem fkTo_miss {b : List UInt8} {k : Nat} {X : ByteArray} (h : names4[k]? = some X) (e : ¬ X = ba b) : fkTo b (k + 1) = fkTo b k := by
  rw [fkTo, if_neg (by rw [h]; intro h2; exact e (Option.some.inj h2))]
theorem ba_inj {a b : List UInt8} (h : ba a = ba b) : a = b := by
  have := congrArg (fun z => z.data.toList) h
  exact this
theorem fkTo_all (b : List UInt8) : fkTo b 4 = fkN b := by
  have e0 : names4[0]? = some (ba [111, 117, 116]) := rfl
  have e1 : names4[1]? = some (ba [114, 104, 121, 116, 104, 109]) := rfl
  have e2 : names4[2]? = some (ba [112, 108, 97, 99, 101]) := rfl
  have e3 : names4[3]? = some (ba [115, 111, 117, 110, 100]) := rfl
  unfold fkN
  by_cases h1 : b = [111, 117, 116]
  · subst h1; decide
  by_cases h2 : b = [114, 104, 121, 116, 104, 109]
  · subst h2; decide
  by_cases h3 : b = [112, 108, 97, 99, 101]
  · subst h3; decide
  by_cases h4 : b = [115, 111, 117, 110, 100]
  · subst h4; decide
  rw [if_neg h1, if_neg h2, if_neg h3, if_neg h4]
  rw [fkTo_miss e3 (fun e => h4 (ba_inj e).symm), fkTo_miss e2 (fun e => h3 (ba_inj e).symm), fkTo_miss e1 (fun e => h2 (ba_inj e).symm), fkTo_miss e0 (fun e => h1 (ba_inj e).symm)]
  rfl
/-- A fault in memory, whose kind may be written. -/
def Fq (w : World) (g : Nat) (a k f u : Int) : Prop := Ft w g a k f u ∧ w.frozen? ⟨g, 1, none⟩ = false
theorem Fq.on {w w' : World} {g : Nat} {a k f u : Int} (h : Fq w g a k f u) (hb : Below w.heap.size w w') : Fq w' g a k f u :=
  ⟨h.1.on hb, ((bcell hb).2 _ _ h.1.1).trans h.2⟩
theorem Fq.set {w : World} {g : Nat} {a k f u : Int} (h : Fq w g a k f u) (k' : Int) : Fq (w.setCell ⟨g, 1, none⟩ (.int .i64 k')) g a k' f u := by
  obtain ⟨⟨hg, c0, c1, c2, c3⟩, hf⟩ := h
  refine ⟨⟨by simpa using hg, ?_, ?_, ?_, ?_⟩, by simpa using hf⟩
  · rw [World.cell?_setCell_other _ _ _ _ (fun e => by simp at e)]; exact c0
  · exact World.cell?_setCell_same _ _ _ c1
  · rw [World.cell?_setCell_other _ _ _ _ (fun e => by simp at e)]; exact c2
  · rw [World.cell?_setCell_other _ _ _ _ (fun e => by simp at e)]; exact c3
theorem Fq.new (w : World) (a k f u : Int) (t : TypeId) : Fq (w.alloc (.cells #[.int .i64 a, .int .i64 k, .int .i64 f, .int .i64 u] t)) w.heap.size a k f u :=
  ⟨⟨by simp, by simp, by simp, by simp, by simp⟩, by simp⟩
theorem Zq.set {w : World} {g q : Nat} (h : Zq w g) (hne : g ≠ q) (v : Value) : Zq (w.setCell ⟨q, 1, none⟩ v) g := by
  obtain ⟨h1, ⟨c0, c1, c2, c3⟩, f0, f1, f2, f3⟩ := h
  have ho : ∀ k, (w.setCell ⟨q, 1, none⟩ v).cell? ⟨g, k, none⟩ = w.cell? ⟨g, k, none⟩ := fun k => World.cell?_setCell_other _ _ _ _ (fun e => by have := congrArg Addr.block e; exact hne this.symm)
  exact ⟨by simpa using h1, ⟨(ho 0).trans c0, (ho 1).trans c1, (ho 2).trans c2, (ho 3).trans c3⟩, by simpa using f0, by simpa using f1, by simpa using f2, by simpa using f3⟩
set_option maxHeartbeats 1600000 in
theorem spec_RFaultR (s : ByteArray) (hs : s.size ≤ 1048576) (w : World) : Calls Tryd.prog 30 #[.string s] w fun e w' => e = .returned (.tuple #[.agg #[.int .i64 (ft (s.data.toList) (rdV (ba (rlA (s.data.toList) 0)))), .int .i64 (ft (s.data.toList) (fkN (rlA (s.data.toList) 1))), .int .i64 (ft (s.data.toList) (rdV (ba (rlA (s.data.toList) 2)))), .int .i64 (ft (s.data.toList) (rdV (ba (rlA (s.data.toList) 3))))], .bool (ftOk (s.data.toList))]) ∧ Below w.heap.size w w' := by
  obtain ⟨L, hL⟩ : ∃ L, s.data.toList = L := ⟨_, rfl⟩
  have hsz : s.size = L.length := by rw [← hL]; exact (Array.length_toList).symm
  obtain ⟨S, hS⟩ : ∃ S, splitL 32 L = S := ⟨_, rfl⟩
  have hS' := Lib.hid hS
  by_cases h4 : S.length = 4
  · obtain ⟨a, b, c, d, rfl⟩ := four_of h4
    have hsa : a.length ≤ 1048576 := by have := part_len 32 L a (by rw [hS]; simp); omega
    have hsb : b.length ≤ 1048576 := by have := part_len 32 L b (by rw [hS]; simp); omega
    have hsc : c.length ≤ 1048576 := by have := part_len 32 L c (by rw [hS]; simp); omega
    have hsd : d.length ≤ 1048576 := by have := part_len 32 L d (by rw [hS]; simp); omega
    obtain ⟨e0, e1, e2, e3⟩ := rl_four hS
    have hrl : Hid (ftOk L = (numOk a && (numOk c && (numOk d && vFault (rdV (ba a)) (fkN b) (rdV (ba c)) (rdV (ba d)))))) := Lib.hid (by unfold ftOk; rw [hS, e0, e1, e2, e3]; rfl)
    rw [hL, e0, e1, e2, e3]
    clear e0 e1 e2 e3 hS h4 hsz
    go_enter Tryd.func30, Tryd.ntmps30
    go_wp2_with fail
    refine (spec_Split s hs 32 (by omega) _).mono ?_
    rintro e w1 ⟨A, cc, rfl, hA, hb1⟩
    rw [hL, show UInt8.ofNat 32 = 32 from rfl, hS'.out] at hA ⊢
    have hlen : ([a, b, c, d] : List (List UInt8)).length = 4 := rfl
    rw [hlen]
    have hB1 := bnext (w := w) (by go_grown) hb1
    have hZ1 := (Zq.new w 23).on hb1
    have hwz : w.heap.size < w1.heap.size := hZ1.1
    obtain ⟨g, o, rfl, hg, hcc⟩ := hA (by simp [partsV])
    have d0 : w1.cell? ⟨g, o, none⟩ = some (.string (ba a)) := by have := hcc 0 _ rfl; simpa using this
    have d1 : w1.cell? ⟨g, o + 1, none⟩ = some (.string (ba b)) := by have := hcc 1 _ rfl; simpa using this
    have d2 : w1.cell? ⟨g, o + 2, none⟩ = some (.string (ba c)) := by have := hcc 2 _ rfl; simpa using this
    have d3 : w1.cell? ⟨g, o + 3, none⟩ = some (.string (ba d)) := by have := hcc 3 _ rfl; simpa using this
    clear hcc hA hb1
    go_wp2_with fail
    refine (spec_NumL a hsa _).mono ?_
    rintro e w' ⟨rfl, rfl⟩
    go_wp2_with fail
    refine (spec_NumL c hsc _).mono ?_
    rintro e w' ⟨rfl, rfl⟩
    go_wp2_with fail
    refine (spec_NumL d hsd _).mono ?_
    rintro e w' ⟨rfl, rfl⟩
    go_wp2_with fail
    obtain ⟨n, hn⟩ : ∃ n, w1.heap.size = n := ⟨_, rfl⟩
    have hF0 := Fq.new w1 (rdV (ba a)) 0 (rdV (ba c)) (rdV (ba d)) 23
    have hB0 := hB1.alloc hB1.size (.cells #[.int .i64 (rdV (ba a)), .int .i64 0, .int .i64 (rdV (ba c)), .int .i64 (rdV (ba d))] 23)
    have hZ0 := hZ1.al (.cells #[.int .i64 (rdV (ba a)), .int .i64 0, .int .i64 (rdV (ba c)), .int .i64 (rdV (ba d))] 23)
    have hd0 := cell_al (o := .cells #[.int .i64 (rdV (ba a)), .int .i64 0, .int .i64 (rdV (ba c)), .int .i64 (rdV (ba d))] 23) d1
    rw [hn] at hF0 hg hwz ⊢
    go_loopw [12] (fun i wr => ∃ k : Nat, i = .int .i64 k ∧ k ≤ 4 ∧ Below w.heap.size w wr ∧ Zq wr w.heap.size ∧ Fq wr n (rdV (ba a)) (fkTo b k) (rdV (ba c)) (rdV (ba d)) ∧ wr.cell? ⟨g, o + 1, none⟩ = some (.string (ba b))) (fun i _ => 4 - (intOf i).toNat)
    case atStart => exact ⟨0, rfl, by omega, hB0, hZ0, hF0, hd0⟩
    case round =>
      clear hB0 hZ0 hF0 hd0 hB1 hZ1 d0 d1 d2 d3
      obtain ⟨k, rfl, hk, hBr, hZr, hFr, hwr⟩ := hrel
      by_cases hlt : k < 4
      · obtain ⟨X, hX⟩ : ∃ X, names4[k]? = some X := ⟨_, List.getElem?_eq_getElem (show k < 4 from hlt)⟩
        have hX' := Lib.hid hX
        clear hX
        have hki : (k : Int) < 4 := by omega
        have hk0 : (0 : Int) ≤ (k : Int) := by omega
        have hgr : g < wr.heap.size := by have := hFr.1.1; omega
        have hcase : (Hid (X = ba b ∧ fkTo b (k + 1) = (k : Int) + 1) ∧ (X.toList == (ba b).toList) = true) ∨ (Hid (fkTo b (k + 1) = fkTo b k) ∧ (X.toList == (ba b).toList) = false) := by
          by_cases e : X = ba b
          · exact Or.inl ⟨Lib.hid ⟨e, fkTo_hit hX'.out e⟩, bytes_eq e⟩
          · exact Or.inr ⟨Lib.hid (fkTo_miss hX'.out e), bytes_ne e⟩
        go_wp2_with fail
        refine wp_region_held_drew (S := fun w' => g < w'.heap.size ∧ w'.cell? ⟨g, o + 1, none⟩ = some (.string (ba b))) (by kernel_rfl) (show g < wr.drew.heap.size ∧ wr.drew.cell? ⟨g, o + 1, none⟩ = some (.string (ba b)) from ⟨hgr, hwr⟩) (fun hHeld => ?_)
        refine wpAnyH_take (i := 1) (v := ?_) rfl (by kernel_rfl) (by kernel_rfl) (by kernel_rfl) (fun _ _ _ h => h) (Or.inl ⟨by rfl, ?_⟩) (by assumption) ?_
        rotate_left
        · (intro w9 hS9; obtain ⟨hg9, d1⟩ := hS9; go_simp; try (with_reducible rfl))
        try simp only [Act.put, List.setIfInBounds_toArray, List.set_cons_zero, List.set_cons_succ]
        refine wpAnyH_take (i := 4) (v := ?_) rfl (by kernel_rfl) (by kernel_rfl) (by kernel_rfl) (fun _ _ _ h => h) (Or.inl ⟨by rfl, ?_⟩) (by assumption) ?_
        rotate_left
        · (intro w9 hS9; obtain ⟨hg9, d1⟩ := hS9; go_simp; try (with_reducible rfl))
        try simp only [Act.put, List.setIfInBounds_toArray, List.set_cons_zero, List.set_cons_succ]
        refine wpAnyH_take (i := 5) (v := ?_) rfl (by kernel_rfl) (by kernel_rfl) (by kernel_rfl) (fun _ _ _ h => h) (Or.inl ⟨by rfl, ?_⟩) (by assumption) ?_
        rotate_left
        · (intro w9 hS9; obtain ⟨hg9, d1⟩ := hS9; go_simp; try (with_reducible rfl))
        try simp only [Act.put, List.setIfInBounds_toArray, List.set_cons_zero, List.set_cons_succ]
        refine wpAnyH_take (i := 6) (v := ?_) rfl (by kernel_rfl) (by kernel_rfl) (by kernel_rfl) (fun _ _ _ h => h) (Or.inl ⟨by rfl, ?_⟩) (by assumption) ?_
        rotate_left
        · (intro w9 hS9; obtain ⟨hg9, d1⟩ := hS9; go_simp; try (with_reducible rfl))
        try simp only [Act.put, List.setIfInBounds_toArray, List.set_cons_zero, List.set_cons_succ]
        refine wpAnyH_ready (rs := [0]) (by kernel_rfl) (by simp) ?_
        refine AllReadyH.cons rfl (fun K hK => ?_) AllReadyH.nil
        go_simp
        refine (spec_names _).mono ?_
        rintro e w2 ⟨rfl, hb2, hl2, hc2⟩
        have hbr : Below wr.heap.size wr w2 := (show Below wr.heap.size wr wr.drew by go_grown).trans hb2
        have hnm : w2.cell? ⟨wr.heap.size, k, none⟩ = some (.string X) := hc2 k X hX'.out
        have hF2 := hFr.on hbr
        have hZ2 := hZr.on hbr
        have hw2 := cell_on hbr hwr
        have hB2 := bnext hBr hbr
        have hg2 : g < w2.heap.size := Nat.lt_of_lt_of_le hgr hbr.size
        have hl2 : wr.heap.size < w2.heap.size := hl2
        obtain ⟨m, hm⟩ : ∃ m, wr.heap.size = m := ⟨_, rfl⟩
        rw [hm] at hnm hl2
        go_wp2_with fail
        try rw [hm]
        refine hK.out _ _ ⟨hg2, hw2⟩ (fun hHeld' => wpAnyH_more (S' := fun w' => (g < w'.heap.size ∧ w'.cell? ⟨g, o + 1, none⟩ = some (.string (ba b))) ∧ m < w'.heap.size ∧ w'.cell? ⟨m, k, none⟩ = some (.string X)) (fun _ h => h.1) _ _ _ _ ?_)
        have hHeld2 : (g < w2.heap.size ∧ w2.cell? ⟨g, o + 1, none⟩ = some (.string (ba b))) ∧ m < w2.heap.size ∧ w2.cell? ⟨m, k, none⟩ = some (.string X) := ⟨⟨hg2, hw2⟩, hl2, hnm⟩
        clear hK K hc2 hm hHeld' hHeld hnm hbr
        try simp only [Act.put, List.setIfInBounds_toArray, List.set_cons_zero, List.set_cons_succ]
        refine wpAnyH_take (i := 2) (v := ?_) rfl (by kernel_rfl) (by kernel_rfl) (by kernel_rfl) (fun _ _ _ h => h) (Or.inl ⟨by rfl, ?_⟩) (by assumption) ?_
        rotate_left
        · (intro w9 hS9; obtain ⟨⟨hg9, d1⟩, hm9, d2⟩ := hS9; go_simp; try (with_reducible rfl))
        try simp only [Act.put, List.setIfInBounds_toArray, List.set_cons_zero, List.set_cons_succ]
        refine wpAnyH_take (i := 3) (v := ?_) rfl (by kernel_rfl) (by kernel_rfl) (by kernel_rfl) (fun _ _ _ h => h) (Or.inl ⟨by rfl, ?_⟩) (by assumption) ?_
        rotate_left
        · (intro w9 hS9; obtain ⟨⟨hg9, d1⟩, hm9, d2⟩ := hS9; go_simp; try (with_reducible rfl))
        try simp only [Act.put, List.setIfInBounds_toArray, List.set_cons_zero, List.set_cons_succ]
        refine wpAnyH_take (i := 7) (v := ?_) rfl (by kernel_rfl) (by kernel_rfl) (by kernel_rfl) (fun _ _ _ h => h) (Or.inl ⟨by rfl, ?_⟩) (by assumption) ?_
        rotate_left
        · (intro w9 hS9; obtain ⟨⟨hg9, d1⟩, hm9, d2⟩ := hS9; go_simp; try (with_reducible rfl))
        try simp only [Act.put, List.setIfInBounds_toArray, List.set_cons_zero, List.set_cons_succ]
        refine wpAnyH_done (by kernel_rfl) ?_ _
        have hne : w.heap.size ≠ n := by omega
        rcases hcase with ⟨hX2, ht⟩ | ⟨hX2, ht⟩
        · have hFn := hF2.set ((k : Int) + 1)
          have hZn := hZ2.set hne (.int .i64 ((k : Int) + 1))
          have hBn := hB2.setCell (show w.heap.size ≤ n by omega) (p := ⟨n, 1, none⟩) (.int .i64 ((k : Int) + 1))
          have hwn : (w2.setCell ⟨n, 1, none⟩ (.int .i64 ((k : Int) + 1))).cell? ⟨g, o + 1, none⟩ = some (.string (ba b)) := by rw [World.cell?_setCell_other _ _ _ _ (fun e => by have := congrArg Addr.block e; simp at this; omega)]; exact hw2
          obtain ⟨⟨hgf, c0, c1, c2, c3⟩, hfz⟩ := id hF2
          go_wp2
          all_goals try (exfalso; rename_i hx; rw [ht] at hx; cases hx; done)
          go_roundw
          case rel => exact ⟨k + 1, by go_num, by omega, hBn, hZn, by rw [hX2.out.2]; exact hFn, hwn⟩
          case measure => simp [intOf]; omega
        · obtain ⟨⟨hgf, c0, c1, c2, c3⟩, hfz⟩ := id hF2
          go_wp2
          all_goals try (exfalso; rename_i hx; rw [ht] at hx; cases hx; done)
          go_roundw
          case rel => exact ⟨k + 1, by go_num, by omega, hB2, hZ2, by rw [hX2.out]; exact hF2, hw2⟩
          case measure => simp [intOf]; omega
      · obtain rfl : k = 4 := by omega
        rw [fkTo_all] at hFr
        cases h1 : numOk a
        · have hK : Hid (ftOk L = false) := Lib.hid (by rw [hrl.out] <;> simp [*])
          have hV := Lib.hid (ft_no hK.out)
          have hee : Hid (rlA L 0 = rlA L 0 ∧ rlA L 1 = rlA L 1 ∧ rlA L 2 = rlA L 2 ∧ rlA L 3 = rlA L 3) := Lib.hid ⟨rfl, rfl, rfl, rfl⟩
          obtain ⟨zl, ⟨z0, z1, z2, z3⟩, y0, y1, y2, y3⟩ := id hZr
          go_wp2
          all_goals try (exfalso; omega)
          refine end_at ?_
          intro wf hwf
          obtain ⟨t0, t1, t2, t3⟩ : wf.cell? ⟨w.heap.size, 0, none⟩ = some (.int .i64 (0)) ∧ wf.cell? ⟨w.heap.size, 1, none⟩ = some (.int .i64 (0)) ∧ wf.cell? ⟨w.heap.size, 2, none⟩ = some (.int .i64 (0)) ∧ wf.cell? ⟨w.heap.size, 3, none⟩ = some (.int .i64 (0)) := by rw [hwf]; exact zq_read hZr _ _ _ _
          have hBf : Below w.heap.size w wf := by rw [hwf]; exact quad_below (Nat.le_refl w.heap.size) hBr _ _ _ _
          clear hwf
          refine bodyPost_ret (by simp [results, Tryd.results30, go_sem, t0, t1, t2, t3]; try rfl) rfl ?_
          exact ⟨by rw [hV.out, hV.out, hV.out, hV.out, hK.out] <;> (try rw [hee.out.1, hee.out.2.1, hee.out.2.2.1, hee.out.2.2.2]) <;> rfl, hBf⟩
        cases h3 : numOk c
        · have hK : Hid (ftOk L = false) := Lib.hid (by rw [hrl.out] <;> simp [*])
          have hV := Lib.hid (ft_no hK.out)
          have hee : Hid (rlA L 0 = rlA L 0 ∧ rlA L 1 = rlA L 1 ∧ rlA L 2 = rlA L 2 ∧ rlA L 3 = rlA L 3) := Lib.hid ⟨rfl, rfl, rfl, rfl⟩
          obtain ⟨zl, ⟨z0, z1, z2, z3⟩, y0, y1, y2, y3⟩ := id hZr
          go_wp2
          all_goals try (exfalso; omega)
          refine end_at ?_
          intro wf hwf
          obtain ⟨t0, t1, t2, t3⟩ : wf.cell? ⟨w.heap.size, 0, none⟩ = some (.int .i64 (0)) ∧ wf.cell? ⟨w.heap.size, 1, none⟩ = some (.int .i64 (0)) ∧ wf.cell? ⟨w.heap.size, 2, none⟩ = some (.int .i64 (0)) ∧ wf.cell? ⟨w.heap.size, 3, none⟩ = some (.int .i64 (0)) := by rw [hwf]; exact zq_read hZr _ _ _ _
          have hBf : Below w.heap.size w wf := by rw [hwf]; exact quad_below (Nat.le_refl w.heap.size) hBr _ _ _ _
          clear hwf
          refine bodyPost_ret (by simp [results, Tryd.results30, go_sem, t0, t1, t2, t3]; try rfl) rfl ?_
          exact ⟨by rw [hV.out, hV.out, hV.out, hV.out, hK.out] <;> (try rw [hee.out.1, hee.out.2.1, hee.out.2.2.1, hee.out.2.2.2]) <;> rfl, hBf⟩
        cases h5 : numOk d
        · have hK : Hid (ftOk L = false) := Lib.hid (by rw [hrl.out] <;> simp [*])
          have hV := Lib.hid (ft_no hK.out)
          have hee : Hid (rlA L 0 = rlA L 0 ∧ rlA L 1 = rlA L 1 ∧ rlA L 2 = rlA L 2 ∧ rlA L 3 = rlA L 3) := Lib.hid ⟨rfl, rfl, rfl, rfl⟩
          obtain ⟨zl, ⟨z0, z1, z2, z3⟩, y0, y1, y2, y3⟩ := id hZr
          go_wp2
          all_goals try (exfalso; omega)
          refine end_at ?_
          intro wf hwf
          obtain ⟨t0, t1, t2, t3⟩ : wf.cell? ⟨w.heap.size, 0, none⟩ = some (.int .i64 (0)) ∧ wf.cell? ⟨w.heap.size, 1, none⟩ = some (.int .i64 (0)) ∧ wf.cell? ⟨w.heap.size, 2, none⟩ = some (.int .i64 (0)) ∧ wf.cell? ⟨w.heap.size, 3, none⟩ = some (.int .i64 (0)) := by rw [hwf]; exact zq_read hZr _ _ _ _
          have hBf : Below w.heap.size w wf := by rw [hwf]; exact quad_below (Nat.le_refl w.heap.size) hBr _ _ _ _
          clear hwf
          refine bodyPost_ret (by simp [results, Tryd.results30, go_sem, t0, t1, t2, t3]; try rfl) rfl ?_
          exact ⟨by rw [hV.out, hV.out, hV.out, hV.out, hK.out] <;> (try rw [hee.out.1, hee.out.2.1, hee.out.2.2.1, hee.out.2.2.2]) <;> rfl, hBf⟩
        go_wp2_with fail
        refine (spec_faultOne _ _ _ _ n _ hFr.1).mono ?_
        rintro e w4 ⟨rfl, hb4⟩
        have hB4 := bnext hBr hb4
        have hZ4 := hZr.on hb4
        obtain ⟨⟨hl4, m0, m1, m2, m3⟩, _⟩ := hFr.on hb4
        clear hb4 hBr hZr hFr
        cases hv : vFault (rdV (ba a)) (fkN b) (rdV (ba c)) (rdV (ba d))
        · have hK : Hid (ftOk L = false) := Lib.hid (by rw [hrl.out] <;> simp [*])
          have hV := Lib.hid (ft_no hK.out)
          have hee : Hid (rlA L 0 = rlA L 0 ∧ rlA L 1 = rlA L 1 ∧ rlA L 2 = rlA L 2 ∧ rlA L 3 = rlA L 3) := Lib.hid ⟨rfl, rfl, rfl, rfl⟩
          obtain ⟨zl, ⟨z0, z1, z2, z3⟩, y0, y1, y2, y3⟩ := id hZ4
          go_wp2
          all_goals try (exfalso; omega)
          refine end_at ?_
          intro wf hwf
          obtain ⟨t0, t1, t2, t3⟩ : wf.cell? ⟨w.heap.size, 0, none⟩ = some (.int .i64 (0)) ∧ wf.cell? ⟨w.heap.size, 1, none⟩ = some (.int .i64 (0)) ∧ wf.cell? ⟨w.heap.size, 2, none⟩ = some (.int .i64 (0)) ∧ wf.cell? ⟨w.heap.size, 3, none⟩ = some (.int .i64 (0)) := by rw [hwf]; exact zq_read hZ4 _ _ _ _
          have hBf : Below w.heap.size w wf := by rw [hwf]; exact quad_below (Nat.le_refl w.heap.size) hB4 _ _ _ _
          clear hwf
          refine bodyPost_ret (by simp [results, Tryd.results30, go_sem, t0, t1, t2, t3]; try rfl) rfl ?_
          exact ⟨by rw [hV.out, hV.out, hV.out, hV.out, hK.out] <;> (try rw [hee.out.1, hee.out.2.1, hee.out.2.2.1, hee.out.2.2.2]) <;> rfl, hBf⟩
        · have hK : Hid (ftOk L = true) := Lib.hid (by rw [hrl.out]; simp [*])
          have hV := Lib.hid (ft_yes hK.out)
          have hee : Hid (rlA L 0 = rlA L 0 ∧ rlA L 1 = rlA L 1 ∧ rlA L 2 = rlA L 2 ∧ rlA L 3 = rlA L 3) := Lib.hid ⟨rfl, rfl, rfl, rfl⟩
          obtain ⟨zl, ⟨z0, z1, z2, z3⟩, y0, y1, y2, y3⟩ := id hZ4
          go_wp2
          refine end_at ?_
          intro wf hwf
          obtain ⟨t0, t1, t2, t3⟩ : wf.cell? ⟨w.heap.size, 0, none⟩ = some (.int .i64 (rdV (ba a))) ∧ wf.cell? ⟨w.heap.size, 1, none⟩ = some (.int .i64 (fkN b)) ∧ wf.cell? ⟨w.heap.size, 2, none⟩ = some (.int .i64 (rdV (ba c))) ∧ wf.cell? ⟨w.heap.size, 3, none⟩ = some (.int .i64 (rdV (ba d))) := by rw [hwf]; exact zq_read hZ4 _ _ _ _
          have hBf : Below w.heap.size w wf := by rw [hwf]; exact quad_below (Nat.le_refl w.heap.size) hB4 _ _ _ _
          clear hwf
          refine bodyPost_ret (by simp [results, Tryd.results30, go_sem, t0, t1, t2, t3]; try rfl) rfl ?_
          exact ⟨by rw [hV.out, hV.out, hV.out, hV.out, hK.out] <;> (try rw [hee.out.1, hee.out.2.1, hee.out.2.2.1, hee.out.2.2.2]) <;> rfl, hBf⟩
  · have hK : Hid (ftOk L = false) := Lib.hid (by unfold ftOk; rw [hS, decide_eq_false h4] <;> rfl)
    have h4' : ((S.length : Int) != 4) = true := by first | (simp; done) | (simp; omega)
    rw [hL]
    clear hS hsz
    go_enter Tryd.func30, Tryd.ntmps30
    go_wp2_with fail
    refine (spec_Split s hs 32 (by omega) _).mono ?_
    rintro e w1 ⟨A, cc, rfl, hA, hb1⟩
    rw [hL, show UInt8.ofNat 32 = 32 from rfl, hS'.out]
    have hB1 := bnext (w := w) (by go_grown) hb1
    have hZ1 := (Zq.new w 23).on hb1
    clear hA hb1
    have hV := Lib.hid (ft_no hK.out)
    have hee : Hid (rlA L 0 = rlA L 0 ∧ rlA L 1 = rlA L 1 ∧ rlA L 2 = rlA L 2 ∧ rlA L 3 = rlA L 3) := Lib.hid ⟨rfl, rfl, rfl, rfl⟩
    obtain ⟨zl, ⟨z0, z1, z2, z3⟩, y0, y1, y2, y3⟩ := id hZ1
    go_wp2
    all_goals try (exfalso; omega)
    refine end_at ?_
    intro wf hwf
    obtain ⟨t0, t1, t2, t3⟩ : wf.cell? ⟨w.heap.size, 0, none⟩ = some (.int .i64 (0)) ∧ wf.cell? ⟨w.heap.size, 1, none⟩ = some (.int .i64 (0)) ∧ wf.cell? ⟨w.heap.size, 2, none⟩ = some (.int .i64 (0)) ∧ wf.cell? ⟨w.heap.size, 3, none⟩ = some (.int .i64 (0)) := by rw [hwf]; exact zq_read hZ1 _ _ _ _
    have hBf : Below w.heap.size w wf := by rw [hwf]; exact quad_below (Nat.le_refl w.heap.size) hB1 _ _ _ _
    clear hwf
    refine bodyPost_ret (by simp [results, Tryd.results30, go_sem, t0, t1, t2, t3]; try rfl) rfl ?_
    exact ⟨by rw [hV.out, hV.out, hV.out, hV.out, hK.out] <;> (try rw [hee.out.1, hee.out.2.1, hee.out.2.2.1, hee.out.2.2.2]) <;> rfl, hBf⟩
theorem spec_RFault (s : ByteArray) (hs : s.size ≤ 1048576) (w : World) : Calls Tryd.prog 7 #[.string s] w fun e w' => e = .returned (.tuple #[.agg #[.int .i64 (ft (s.data.toList) (rdV (ba (rlA (s.data.toList) 0)))), .int .i64 (ft (s.data.toList) (fkN (rlA (s.data.toList) 1))), .int .i64 (ft (s.data.toList) (rdV (ba (rlA (s.data.toList) 2)))), .int .i64 (ft (s.data.toList) (rdV (ba (rlA (s.data.toList) 3))))], .bool (ftOk (s.data.toList))]) ∧ Below w.heap.size w w' := by
  go_enter Tryd.func7, Tryd.ntmps7
  go_wp2_with fail
  refine (spec_RFaultR s hs _).mono ?_
  rintro e w1 ⟨rfl, hb1⟩
  have hB1 := bnext (w := w) (by go_grown) hb1
  have hZ1 := (Zq.new w 23).on hb1
  obtain ⟨zl, ⟨z0, z1, z2, z3⟩, y0, y1, y2, y3⟩ := id hZ1
  clear hb1
  go_wp2
  refine end_at ?_
  intro wf hwf
  obtain ⟨t0, t1, t2, t3⟩ : wf.cell? ⟨w.heap.size, 0, none⟩ = some (.int .i64 (ft s.data.toList (rdV (ba (rlA s.data.toList 0))))) ∧ wf.cell? ⟨w.heap.size, 1, none⟩ = some (.int .i64 (ft s.data.toList (fkN (rlA s.data.toList 1)))) ∧ wf.cell? ⟨w.heap.size, 2, none⟩ = some (.int .i64 (ft s.data.toList (rdV (ba (rlA s.data.toList 2))))) ∧ wf.cell? ⟨w.heap.size, 3, none⟩ = some (.int .i64 (ft s.data.toList (rdV (ba (rlA s.data.toList 3))))) := by rw [hwf]; exact zq_read hZ1 _ _ _ _
  have hBf : Below w.heap.size w wf := by rw [hwf]; exact quad_below (Nat.le_refl w.heap.size) hB1 _ _ _ _
  clear hwf
  refine bodyPost_ret (by simp [results, Tryd.results7, go_sem, t0, t1, t2, t3]; try rfl) rfl ?_
  exact ⟨rfl, hBf⟩
end Go.Proofs.YtlolkngklfabfaaDoor
