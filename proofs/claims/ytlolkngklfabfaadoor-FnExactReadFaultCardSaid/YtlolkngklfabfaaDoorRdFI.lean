/-
  Contract of faults read from texts: the program's. Under the conditions that it states.
-/
import Derived.Test.YtlolkngklfabfaaDoorRdF
set_option linter.unusedVariables false
set_option linter.unnecessarySimpa false
set_option maxRecDepth 100000
set_option linter.unusedSimpArgs false
namespace Go.Proofs.YtlolkngklfabfaaDoor
open Go.RowKit BigFrame

/-- Four zeros, to be written. -/
def Zq (w : World) (g : Nat) : Prop := g < w.heap.size ∧ (w.cell? ⟨g, 0, none⟩ = some (.int .i64 0) ∧ w.cell? ⟨g, 1, none⟩ = some (.int .i64 0) ∧ w.cell? ⟨g, 2, none⟩ = some (.int .i64 0) ∧ w.cell? ⟨g, 3, none⟩ = some (.int .i64 0)) ∧ w.frozen? ⟨g, 0, none⟩ = false ∧ w.frozen? ⟨g, 1, none⟩ = false ∧ w.frozen? ⟨g, 2, none⟩ = false ∧ w.frozen? ⟨g, 3, none⟩ = false
theorem Zq.on {w w' : World} {g : Nat} (h : Zq w g) (hb : Below w.heap.size w w') : Zq w' g := by
  obtain ⟨h1, ⟨c0, c1, c2, c3⟩, f0, f1, f2, f3⟩ := h
  obtain ⟨hc, hf⟩ := bcell hb
  exact ⟨Nat.lt_of_lt_of_le h1 hb.size, ⟨(hc _ _ h1).trans c0, (hc _ _ h1).trans c1, (hc _ _ h1).trans c2, (hc _ _ h1).trans c3⟩, (hf _ _ h1).trans f0, (hf _ _ h1).trans f1, (hf _ _ h1).trans f2, (hf _ _ h1).trans f3⟩
theorem Zq.new (w : World) (t : TypeId) : Zq (w.alloc (.cells #[.int .i64 0, .int .i64 0, .int .i64 0, .int .i64 0] t)) w.heap.size := by
  refine ⟨by simp, ⟨by simp, by simp, by simp, by simp⟩, by simp, by simp, by simp, by simp⟩
theorem Zq.al {w : World} {g : Nat} (h : Zq w g) (o : Obj) : Zq (w.alloc o) g := h.on ((Below.refl _ _).alloc (Nat.le_refl _) _)
theorem zq_read {w : World} {g : Nat} (h : Zq w g) (a b c d : Int) :
    (World.setCell (World.setCell (World.setCell (World.setCell w ⟨g, 0, none⟩ (.int .i64 (a))) ⟨g, 1, none⟩ (.int .i64 (b))) ⟨g, 2, none⟩ (.int .i64 (c))) ⟨g, 3, none⟩ (.int .i64 (d))).cell? ⟨g, 0, none⟩ = some (.int .i64 a) ∧ (World.setCell (World.setCell (World.setCell (World.setCell w ⟨g, 0, none⟩ (.int .i64 (a))) ⟨g, 1, none⟩ (.int .i64 (b))) ⟨g, 2, none⟩ (.int .i64 (c))) ⟨g, 3, none⟩ (.int .i64 (d))).cell? ⟨g, 1, none⟩ = some (.int .i64 b) ∧ (World.setCell (World.setCell (World.setCell (World.setCell w ⟨g, 0, none⟩ (.int .i64 (a))) ⟨g, 1, none⟩ (.int .i64 (b))) ⟨g, 2, none⟩ (.int .i64 (c))) ⟨g, 3, none⟩ (.int .i64 (d))).cell? ⟨g, 2, none⟩ = some (.int .i64 c) ∧ (World.setCell (World.setCell (World.setCell (World.setCell w ⟨g, 0, none⟩ (.int .i64 (a))) ⟨g, 1, none⟩ (.int .i64 (b))) ⟨g, 2, none⟩ (.int .i64 (c))) ⟨g, 3, none⟩ (.int .i64 (d))).cell? ⟨g, 3, none⟩ = some (.int .i64 d) := by
  obtain ⟨_, ⟨c0, c1, c2, c3⟩, _⟩ := h
  have r := setFrom_read g [.int .i64 a, .int .i64 b, .int .i64 c, .int .i64 d] w 0 (fun k hk => by
    rw [Nat.zero_add]
    match k, hk with
    | 0, _ => rw [c0]; rfl
    | 1, _ => rw [c1]; rfl
    | 2, _ => rw [c2]; rfl
    | 3, _ => rw [c3]; rfl)
  exact ⟨r 0 _ rfl, r 1 _ rfl, r 2 _ rfl, r 3 _ rfl⟩
theorem quad_below {B g : Nat} {a w : World} (hg : B ≤ g) (h : Below B a w) (s x y z : Int) : Below B a (World.setCell (World.setCell (World.setCell (World.setCell w ⟨g, 0, none⟩ (.int .i64 (s))) ⟨g, 1, none⟩ (.int .i64 (x))) ⟨g, 2, none⟩ (.int .i64 (y))) ⟨g, 3, none⟩ (.int .i64 (z))) :=
  setFrom_below hg [.int .i64 s, .int .i64 x, .int .i64 y, .int .i64 z] 0 h
set_option maxHeartbeats 800000 in
theorem impl_RFault (s : ByteArray) (hs : s.size ≤ 1048576) (w : World) (hE : Env w) : Calls Tryd.prog 8 #[.string s] w fun e w' => e = .returned (.tuple #[.agg #[.int .i64 (ft (s.data.toList) (rdV (ba (rlA (s.data.toList) 0)))), .int .i64 (ft (s.data.toList) (fkN (rlA (s.data.toList) 1))), .int .i64 (ft (s.data.toList) (rdV (ba (rlA (s.data.toList) 2)))), .int .i64 (ft (s.data.toList) (rdV (ba (rlA (s.data.toList) 3))))], .bool (ftOk (s.data.toList))]) ∧ Below w.heap.size w w' := by
  obtain ⟨L, hL⟩ : ∃ L, s.data.toList = L := ⟨_, rfl⟩
  have hsz : s.size = L.length := by rw [← hL]; exact (Array.length_toList).symm
  obtain ⟨S, hS⟩ : ∃ S, wordsL L = S := ⟨_, rfl⟩
  have hS' := Lib.hid hS
  by_cases h4 : S.length = 4
  · obtain ⟨a, b, c, d, rfl⟩ := four_of h4
    have hm : ∀ p ∈ [a, b, c, d], p.length ≤ 1048576 := fun p hp => by
      rw [← hS] at hp
      have := part_len 32 L p (mem_full hp)
      omega
    have hsa := hm a (by simp)
    have hsc := hm c (by simp)
    have hsd := hm d (by simp)
    rw [hL]
    clear hS h4 hsz hm
    go_enter Tryd.func8, Tryd.ntmps8
    go_wp2_with fail
    refine (impl_Words s hs _ (hE.on (by go_grown))).mono ?_
    rintro e w1 ⟨A, cc, rfl, hA, hb1⟩
    rw [hL, hS'.out] at hA ⊢
    have hlen : ([a, b, c, d] : List (List UInt8)).length = 4 := rfl
    rw [hlen]
    have hB1 := bnext (w := w) (by go_grown) hb1
    have hZ1 := (Zq.new w 23).on hb1
    obtain ⟨g, o, rfl, hg, hcc⟩ := hA (by simp [partsV])
    have d0 : w1.cell? ⟨g, o, none⟩ = some (.string (ba a)) := by have := hcc 0 _ rfl; simpa using this
    have d2 : w1.cell? ⟨g, o + 2, none⟩ = some (.string (ba c)) := by have := hcc 2 _ rfl; simpa using this
    have d3 : w1.cell? ⟨g, o + 3, none⟩ = some (.string (ba d)) := by have := hcc 3 _ rfl; simpa using this
    clear hcc hA hb1
    go_wp2_with fail
    refine (impl_NumL a hsa _ (hE.on hB1)).mono ?_
    rintro e w2 ⟨rfl, hb2⟩
    have hB2 := bnext hB1 hb2
    have hZ2 := hZ1.on hb2
    have hg2 : g < w2.heap.size := Nat.lt_of_lt_of_le hg hb2.size
    have e2 := cell_on hb2 d2
    have e3 := cell_on hb2 d3
    clear hb2 d0 d2 d3 hg hZ1 hB1
    go_wp2_with fail
    refine (impl_NumL c hsc _ (hE.on hB2)).mono ?_
    rintro e w3 ⟨rfl, hb3⟩
    have hB3 := bnext hB2 hb3
    have hZ3 := hZ2.on hb3
    have hg3 : g < w3.heap.size := Nat.lt_of_lt_of_le hg2 hb3.size
    have k3 := cell_on hb3 e3
    clear hb3 e2 e3 hg2 hZ2 hB2
    go_wp2_with fail
    refine (impl_NumL d hsd _ (hE.on hB3)).mono ?_
    rintro e w4 ⟨rfl, hb4⟩
    have hB4 := bnext hB3 hb4
    have hZ4 := hZ3.on hb4
    clear hb4 k3 hg3 hZ3 hB3
    have b1 := Lib.hid (has_of (rd_zero (l := a)))
    have b2 := Lib.hid (has_of (rd_zero (l := c)))
    have b3 := Lib.hid (has_of (rd_zero (l := d)))
    go_wp2_with fail
    go_loopw [3, 11, 12] (fun q i _ wr => ∃ k : Nat, q = .bool false ∧ i = .int .i64 k ∧ 1 ≤ k ∧ k ≤ 5 ∧ Below w.heap.size w wr ∧ Zq wr w.heap.size ∧ Hid (∀ j : Int, 1 ≤ j → j < k → vFault (rdV (ba a)) j (rdV (ba c)) (rdV (ba d)) = true → (faultT (rdV (ba a)) (pickS j faultNames) (rdV (ba c)) (rdV (ba d))).data.toList ≠ L)) (fun _ i _ _ => 5 - (intOf i).toNat)
    case atStart => exact ⟨1, rfl, rfl, Nat.le_refl _, by omega, hB4, hZ4, Lib.hid (fun j h1 h2 => by omega)⟩
    case round =>
      clear hB4 hZ4
      obtain ⟨k, rfl, rfl, hk1, hk5, hB5, hZ5, hH⟩ := hrel
      cases h1 : numOk a
      · have hK : Hid (ftOk L = false) := Lib.hid (ft_impl hS'.out (fun x => by rw [h1] at x; cases x))
        have hq : k ≤ 4 ∨ ¬ k ≤ 4 := by omega
        rcases hq with hq | hq
        · have hV := Lib.hid (ft_no hK.out)
          have hee : Hid (rlA L 0 = rlA L 0 ∧ rlA L 1 = rlA L 1 ∧ rlA L 2 = rlA L 2 ∧ rlA L 3 = rlA L 3) := Lib.hid ⟨rfl, rfl, rfl, rfl⟩
          obtain ⟨zl, ⟨z0, z1, z2, z3⟩, y0, y1, y2, y3⟩ := id hZ5
          go_wp2
          all_goals try (exfalso; omega)
          refine end_at ?_
          intro wf hwf
          obtain ⟨t0, t1, t2, t3⟩ : wf.cell? ⟨w.heap.size, 0, none⟩ = some (.int .i64 (0)) ∧ wf.cell? ⟨w.heap.size, 1, none⟩ = some (.int .i64 (0)) ∧ wf.cell? ⟨w.heap.size, 2, none⟩ = some (.int .i64 (0)) ∧ wf.cell? ⟨w.heap.size, 3, none⟩ = some (.int .i64 (0)) := by rw [hwf]; exact zq_read hZ5 _ _ _ _
          have hBf : Below w.heap.size w wf := by rw [hwf]; exact quad_below (Nat.le_refl w.heap.size) hB5 _ _ _ _
          clear hwf
          refine bodyPost_ret (by simp [results, Tryd.results8, go_sem, t0, t1, t2, t3]; try rfl) rfl ?_
          exact ⟨by rw [hV.out, hV.out, hV.out, hV.out, hK.out] <;> (try rw [hee.out.1, hee.out.2.1, hee.out.2.2.1, hee.out.2.2.2]) <;> rfl, hBf⟩
        · have hV := Lib.hid (ft_no hK.out)
          have hee : Hid (rlA L 0 = rlA L 0 ∧ rlA L 1 = rlA L 1 ∧ rlA L 2 = rlA L 2 ∧ rlA L 3 = rlA L 3) := Lib.hid ⟨rfl, rfl, rfl, rfl⟩
          obtain ⟨zl, ⟨z0, z1, z2, z3⟩, y0, y1, y2, y3⟩ := id hZ5
          go_wp2
          all_goals try (exfalso; omega)
          refine end_at ?_
          intro wf hwf
          obtain ⟨t0, t1, t2, t3⟩ : wf.cell? ⟨w.heap.size, 0, none⟩ = some (.int .i64 (0)) ∧ wf.cell? ⟨w.heap.size, 1, none⟩ = some (.int .i64 (0)) ∧ wf.cell? ⟨w.heap.size, 2, none⟩ = some (.int .i64 (0)) ∧ wf.cell? ⟨w.heap.size, 3, none⟩ = some (.int .i64 (0)) := by rw [hwf]; exact zq_read hZ5 _ _ _ _
          have hBf : Below w.heap.size w wf := by rw [hwf]; exact quad_below (Nat.le_refl w.heap.size) hB5 _ _ _ _
          clear hwf
          refine bodyPost_ret (by simp [results, Tryd.results8, go_sem, t0, t1, t2, t3]; try rfl) rfl ?_
          exact ⟨by rw [hV.out, hV.out, hV.out, hV.out, hK.out] <;> (try rw [hee.out.1, hee.out.2.1, hee.out.2.2.1, hee.out.2.2.2]) <;> rfl, hBf⟩
      cases h3 : numOk c
      · have hK : Hid (ftOk L = false) := Lib.hid (ft_impl hS'.out (fun _ x => by rw [h3] at x; cases x))
        have hq : k ≤ 4 ∨ ¬ k ≤ 4 := by omega
        rcases hq with hq | hq
        · have hV := Lib.hid (ft_no hK.out)
          have hee : Hid (rlA L 0 = rlA L 0 ∧ rlA L 1 = rlA L 1 ∧ rlA L 2 = rlA L 2 ∧ rlA L 3 = rlA L 3) := Lib.hid ⟨rfl, rfl, rfl, rfl⟩
          obtain ⟨zl, ⟨z0, z1, z2, z3⟩, y0, y1, y2, y3⟩ := id hZ5
          go_wp2
          all_goals try (exfalso; omega)
          refine end_at ?_
          intro wf hwf
          obtain ⟨t0, t1, t2, t3⟩ : wf.cell? ⟨w.heap.size, 0, none⟩ = some (.int .i64 (0)) ∧ wf.cell? ⟨w.heap.size, 1, none⟩ = some (.int .i64 (0)) ∧ wf.cell? ⟨w.heap.size, 2, none⟩ = some (.int .i64 (0)) ∧ wf.cell? ⟨w.heap.size, 3, none⟩ = some (.int .i64 (0)) := by rw [hwf]; exact zq_read hZ5 _ _ _ _
          have hBf : Below w.heap.size w wf := by rw [hwf]; exact quad_below (Nat.le_refl w.heap.size) hB5 _ _ _ _
          clear hwf
          refine bodyPost_ret (by simp [results, Tryd.results8, go_sem, t0, t1, t2, t3]; try rfl) rfl ?_
          exact ⟨by rw [hV.out, hV.out, hV.out, hV.out, hK.out] <;> (try rw [hee.out.1, hee.out.2.1, hee.out.2.2.1, hee.out.2.2.2]) <;> rfl, hBf⟩
        · have hV := Lib.hid (ft_no hK.out)
          have hee : Hid (rlA L 0 = rlA L 0 ∧ rlA L 1 = rlA L 1 ∧ rlA L 2 = rlA L 2 ∧ rlA L 3 = rlA L 3) := Lib.hid ⟨rfl, rfl, rfl, rfl⟩
          obtain ⟨zl, ⟨z0, z1, z2, z3⟩, y0, y1, y2, y3⟩ := id hZ5
          go_wp2
          all_goals try (exfalso; omega)
          refine end_at ?_
          intro wf hwf
          obtain ⟨t0, t1, t2, t3⟩ : wf.cell? ⟨w.heap.size, 0, none⟩ = some (.int .i64 (0)) ∧ wf.cell? ⟨w.heap.size, 1, none⟩ = some (.int .i64 (0)) ∧ wf.cell? ⟨w.heap.size, 2, none⟩ = some (.int .i64 (0)) ∧ wf.cell? ⟨w.heap.size, 3, none⟩ = some (.int .i64 (0)) := by rw [hwf]; exact zq_read hZ5 _ _ _ _
          have hBf : Below w.heap.size w wf := by rw [hwf]; exact quad_below (Nat.le_refl w.heap.size) hB5 _ _ _ _
          clear hwf
          refine bodyPost_ret (by simp [results, Tryd.results8, go_sem, t0, t1, t2, t3]; try rfl) rfl ?_
          exact ⟨by rw [hV.out, hV.out, hV.out, hV.out, hK.out] <;> (try rw [hee.out.1, hee.out.2.1, hee.out.2.2.1, hee.out.2.2.2]) <;> rfl, hBf⟩
      cases h5 : numOk d
      · have hK : Hid (ftOk L = false) := Lib.hid (ft_impl hS'.out (fun _ _ x => by rw [h5] at x; cases x))
        have hq : k ≤ 4 ∨ ¬ k ≤ 4 := by omega
        rcases hq with hq | hq
        · have hV := Lib.hid (ft_no hK.out)
          have hee : Hid (rlA L 0 = rlA L 0 ∧ rlA L 1 = rlA L 1 ∧ rlA L 2 = rlA L 2 ∧ rlA L 3 = rlA L 3) := Lib.hid ⟨rfl, rfl, rfl, rfl⟩
          obtain ⟨zl, ⟨z0, z1, z2, z3⟩, y0, y1, y2, y3⟩ := id hZ5
          go_wp2
          all_goals try (exfalso; omega)
          refine end_at ?_
          intro wf hwf
          obtain ⟨t0, t1, t2, t3⟩ : wf.cell? ⟨w.heap.size, 0, none⟩ = some (.int .i64 (0)) ∧ wf.cell? ⟨w.heap.size, 1, none⟩ = some (.int .i64 (0)) ∧ wf.cell? ⟨w.heap.size, 2, none⟩ = some (.int .i64 (0)) ∧ wf.cell? ⟨w.heap.size, 3, none⟩ = some (.int .i64 (0)) := by rw [hwf]; exact zq_read hZ5 _ _ _ _
          have hBf : Below w.heap.size w wf := by rw [hwf]; exact quad_below (Nat.le_refl w.heap.size) hB5 _ _ _ _
          clear hwf
          refine bodyPost_ret (by simp [results, Tryd.results8, go_sem, t0, t1, t2, t3]; try rfl) rfl ?_
          exact ⟨by rw [hV.out, hV.out, hV.out, hV.out, hK.out] <;> (try rw [hee.out.1, hee.out.2.1, hee.out.2.2.1, hee.out.2.2.2]) <;> rfl, hBf⟩
        · have hV := Lib.hid (ft_no hK.out)
          have hee : Hid (rlA L 0 = rlA L 0 ∧ rlA L 1 = rlA L 1 ∧ rlA L 2 = rlA L 2 ∧ rlA L 3 = rlA L 3) := Lib.hid ⟨rfl, rfl, rfl, rfl⟩
          obtain ⟨zl, ⟨z0, z1, z2, z3⟩, y0, y1, y2, y3⟩ := id hZ5
          go_wp2
          all_goals try (exfalso; omega)
          refine end_at ?_
          intro wf hwf
          obtain ⟨t0, t1, t2, t3⟩ : wf.cell? ⟨w.heap.size, 0, none⟩ = some (.int .i64 (0)) ∧ wf.cell? ⟨w.heap.size, 1, none⟩ = some (.int .i64 (0)) ∧ wf.cell? ⟨w.heap.size, 2, none⟩ = some (.int .i64 (0)) ∧ wf.cell? ⟨w.heap.size, 3, none⟩ = some (.int .i64 (0)) := by rw [hwf]; exact zq_read hZ5 _ _ _ _
          have hBf : Below w.heap.size w wf := by rw [hwf]; exact quad_below (Nat.le_refl w.heap.size) hB5 _ _ _ _
          clear hwf
          refine bodyPost_ret (by simp [results, Tryd.results8, go_sem, t0, t1, t2, t3]; try rfl) rfl ?_
          exact ⟨by rw [hV.out, hV.out, hV.out, hV.out, hK.out] <;> (try rw [hee.out.1, hee.out.2.1, hee.out.2.2.1, hee.out.2.2.2]) <;> rfl, hBf⟩
      by_cases hk : k ≤ 4
      · have hki : (k : Int) ≤ 4 := by omega
        go_wp2_with fail
        all_goals try (exfalso; omega)
        refine (impl_FaultText (rdV (ba a)) (k : Int) (rdV (ba c)) (rdV (ba d)) b1.out b2.out b3.out _ (hE.on (hB5.alloc hB5.size _)).tab).mono ?_
        rintro e w6 ⟨rfl, hb6⟩
        have hB6 := bnext (hB5.alloc hB5.size (.cells #[.int .i64 (rdV (ba a)), .int .i64 k, .int .i64 (rdV (ba c)), .int .i64 (rdV (ba d))] 23)) hb6
        have hZ6 := (hZ5.al (.cells #[.int .i64 (rdV (ba a)), .int .i64 k, .int .i64 (rdV (ba c)), .int .i64 (rdV (ba d))] 23)).on hb6
        have m0 : w6.cell? ⟨wr.heap.size, 0, none⟩ = some (.int .i64 (rdV (ba a))) := cell_on hb6 (by simp)
        have m1 : w6.cell? ⟨wr.heap.size, 1, none⟩ = some (.int .i64 k) := cell_on hb6 (by simp)
        have m2 : w6.cell? ⟨wr.heap.size, 2, none⟩ = some (.int .i64 (rdV (ba c))) := cell_on hb6 (by simp)
        have m3 : w6.cell? ⟨wr.heap.size, 3, none⟩ = some (.int .i64 (rdV (ba d))) := cell_on hb6 (by simp)
        have hz6 := hb6.size
        rw [World.size_alloc] at hz6
        have hl6 : wr.heap.size < w6.heap.size := by omega
        clear hb6
        by_cases hT : faultX (rdV (ba a)) k (rdV (ba c)) (rdV (ba d)) = s
        · cases hv : vFault (rdV (ba a)) k (rdV (ba c)) (rdV (ba d))
          · exfalso
            unfold faultX at hT
            rw [hv] at hT
            have : L = [] := by rw [← hL, ← hT]; rfl
            have h := hS'.out
            rw [this] at h
            cases h
          · have hT2 : (faultT (rdV (ba a)) (pickS k faultNames) (rdV (ba c)) (rdV (ba d))).data.toList = L := by rw [← hL, ← hT]; unfold faultX; rw [hv]; rfl
            obtain ⟨hkk, e0, e1, e2, e3⟩ := ft_good h1 h3 h5 hv hT2
            have hK := Lib.hid hkk
            have hV := Lib.hid (ft_yes hkk)
            have hee := Lib.hid (And.intro e0 (And.intro e1 (And.intro e2 e3)))
            have hcmp := bytes_eq hT
            clear hT hT2 hkk e0 e1 e2 e3 hH
            obtain ⟨zl, ⟨z0, z1, z2, z3⟩, y0, y1, y2, y3⟩ := id hZ6
            generalize faultX (rdV (ba a)) k (rdV (ba c)) (rdV (ba d)) = T at hcmp ⊢
            go_wp2
            refine end_at ?_
            intro wf hwf
            obtain ⟨t0, t1, t2, t3⟩ : wf.cell? ⟨w.heap.size, 0, none⟩ = some (.int .i64 (rdV (ba a))) ∧ wf.cell? ⟨w.heap.size, 1, none⟩ = some (.int .i64 ((k : Int))) ∧ wf.cell? ⟨w.heap.size, 2, none⟩ = some (.int .i64 (rdV (ba c))) ∧ wf.cell? ⟨w.heap.size, 3, none⟩ = some (.int .i64 (rdV (ba d))) := by rw [hwf]; exact zq_read hZ6 _ _ _ _
            have hBf : Below w.heap.size w wf := by rw [hwf]; exact quad_below (Nat.le_refl w.heap.size) hB6 _ _ _ _
            clear hwf
            refine bodyPost_ret (by simp [results, Tryd.results8, go_sem, t0, t1, t2, t3]; try rfl) rfl ?_
            exact ⟨by rw [hV.out, hV.out, hV.out, hV.out, hK.out] <;> (try rw [hee.out.1, hee.out.2.1, hee.out.2.2.1, hee.out.2.2.2]) <;> rfl, hBf⟩
        · have hH2 : Hid (∀ j : Int, 1 ≤ j → j < ((k + 1 : Nat) : Int) → vFault (rdV (ba a)) j (rdV (ba c)) (rdV (ba d)) = true → (faultT (rdV (ba a)) (pickS j faultNames) (rdV (ba c)) (rdV (ba d))).data.toList ≠ L) := by
            apply Lib.hid
            intro j j1 j2 jv he
            by_cases hj : j = k
            · subst hj
              exact hT (by unfold faultX; rw [jv]; exact (ba_ext he).trans (ba_ext hL).symm)
            · exact hH.out j j1 (by omega) jv he
          have hcmp := bytes_ne hT
          generalize faultX (rdV (ba a)) k (rdV (ba c)) (rdV (ba d)) = T at hcmp hT ⊢
          clear hT hH
          go_wp2
          go_roundw
          case rel => exact ⟨k + 1, rfl, by go_num, by omega, by omega, hB6, hZ6, hH2⟩
          case measure => simp [intOf]; omega
      · obtain rfl : k = 5 := by omega
        have hK : Hid (ftOk L = false) := Lib.hid (ft_impl hS'.out (fun _ _ _ j hv => hH.out j (vF_kind hv).1 (by have := (vF_kind hv).2; omega) hv))
        have hV := Lib.hid (ft_no hK.out)
        have hee : Hid (rlA L 0 = rlA L 0 ∧ rlA L 1 = rlA L 1 ∧ rlA L 2 = rlA L 2 ∧ rlA L 3 = rlA L 3) := Lib.hid ⟨rfl, rfl, rfl, rfl⟩
        obtain ⟨zl, ⟨z0, z1, z2, z3⟩, y0, y1, y2, y3⟩ := id hZ5
        go_wp2
        all_goals try (exfalso; omega)
        refine end_at ?_
        intro wf hwf
        obtain ⟨t0, t1, t2, t3⟩ : wf.cell? ⟨w.heap.size, 0, none⟩ = some (.int .i64 (0)) ∧ wf.cell? ⟨w.heap.size, 1, none⟩ = some (.int .i64 (0)) ∧ wf.cell? ⟨w.heap.size, 2, none⟩ = some (.int .i64 (0)) ∧ wf.cell? ⟨w.heap.size, 3, none⟩ = some (.int .i64 (0)) := by rw [hwf]; exact zq_read hZ5 _ _ _ _
        have hBf : Below w.heap.size w wf := by rw [hwf]; exact quad_below (Nat.le_refl w.heap.size) hB5 _ _ _ _
        clear hwf
        refine bodyPost_ret (by simp [results, Tryd.results8, go_sem, t0, t1, t2, t3]; try rfl) rfl ?_
        exact ⟨by rw [hV.out, hV.out, hV.out, hV.out, hK.out] <;> (try rw [hee.out.1, hee.out.2.1, hee.out.2.2.1, hee.out.2.2.2]) <;> rfl, hBf⟩
  · have hK : Hid (ftOk L = false) := by
      apply Lib.hid
      rw [← Bool.not_eq_true]
      intro h
      obtain ⟨hw, a, b, c, d, hS2, _⟩ := ft_words h
      rw [hw, hS2] at hS
      exact h4 (by rw [← hS]; rfl)
    have h4' : ((S.length : Int) != 4) = true := by first | (simp; done) | (simp; omega)
    rw [hL]
    clear hS hsz
    go_enter Tryd.func8, Tryd.ntmps8
    go_wp2_with fail
    refine (impl_Words s hs _ (hE.on (by go_grown))).mono ?_
    rintro e w1 ⟨A, cc, rfl, hA, hb1⟩
    rw [hL, hS'.out]
    have hB1 := bnext (w := w) (by go_grown) hb1
    have hZ1 := (Zq.new w 23).on hb1
    clear hA hb1
    have hV := Lib.hid (ft_no hK.out)
    have hee : Hid (rlA L 0 = rlA L 0 ∧ rlA L 1 = rlA L 1 ∧ rlA L 2 = rlA L 2 ∧ rlA L 3 = rlA L 3) := Lib.hid ⟨rfl, rfl, rfl, rfl⟩
    obtain ⟨zl, ⟨z0, z1, z2, z3⟩, y0, y1, y2, y3⟩ := id hZ1
    go_wp2
    all_goals try (exfalso; omega)
    refine end_at ?_
    intro wf hwf
    obtain ⟨t0, t1, t2, t3⟩ : wf.cell? ⟨w.heap.size, 0, none⟩ = some (.int .i64 (0)) ∧ wf.cell? ⟨w.heap.size, 1, none⟩ = some (.int .i64 (0)) ∧ wf.cell? ⟨w.heap.size, 2, none⟩ = some (.int .i64 (0)) ∧ wf.cell? ⟨w.heap.size, 3, none⟩ = some (.int .i64 (0)) := by rw [hwf]; exact zq_read hZ1 _ _ _ _
    have hBf : Below w.heap.size w wf := by rw [hwf]; exact quad_below (Nat.le_refl w.heap.size) hB1 _ _ _ _
    clear hwf
    refine bodyPost_ret (by simp [results, Tryd.results8, go_sem, t0, t1, t2, t3]; try rfl) rfl ?_
    exact ⟨by rw [hV.out, hV.out, hV.out, hV.out, hK.out] <;> (try rw [hee.out.1, hee.out.2.1, hee.out.2.2.1, hee.out.2.2.2]) <;> rfl, hBf⟩
end Go.Proofs.YtlolkngklfabfaaDoor
