/-
  Contracts of dangers read from texts: the program's and the reference's. Under the conditions that each states.
-/
import Derived.Test.YthjkkidcpidgdaaGreatDoorRdL
import Derived.RegionTactic
import Derived.BigRegion
set_option linter.unusedVariables false
set_option linter.unnecessarySimpa false
set_option maxRecDepth 100000
set_option linter.unusedSimpArgs false
namespace Go.Proofs.YthjkkidcpidgdaaGreatDoor
open Go.RowKit BigFrame

/-- An empty text and three zeros, to be written. -/
def Z4 (w : World) (g : Nat) : Prop := g < w.heap.size ∧ (w.cell? ⟨g, 0, none⟩ = some (.string ⟨#[]⟩) ∧ w.cell? ⟨g, 1, none⟩ = some (.int .i64 0) ∧ w.cell? ⟨g, 2, none⟩ = some (.int .i64 0) ∧ w.cell? ⟨g, 3, none⟩ = some (.int .i64 0)) ∧ w.frozen? ⟨g, 0, none⟩ = false ∧ w.frozen? ⟨g, 1, none⟩ = false ∧ w.frozen? ⟨g, 2, none⟩ = false ∧ w.frozen? ⟨g, 3, none⟩ = false
theorem Z4.on {w w' : World} {g : Nat} (h : Z4 w g) (hb : Below w.heap.size w w') : Z4 w' g := by
  obtain ⟨h1, ⟨c0, c1, c2, c3⟩, f0, f1, f2, f3⟩ := h
  obtain ⟨hc, hf⟩ := bcell hb
  exact ⟨Nat.lt_of_lt_of_le h1 hb.size, ⟨(hc _ _ h1).trans c0, (hc _ _ h1).trans c1, (hc _ _ h1).trans c2, (hc _ _ h1).trans c3⟩, (hf _ _ h1).trans f0, (hf _ _ h1).trans f1, (hf _ _ h1).trans f2, (hf _ _ h1).trans f3⟩
theorem Z4.new (w : World) (t : TypeId) : Z4 (w.alloc (.cells #[.string ⟨#[]⟩, .int .i64 0, .int .i64 0, .int .i64 0] t)) w.heap.size := by
  refine ⟨by simp, ⟨by simp, by simp, by simp, by simp⟩, by simp, by simp, by simp, by simp⟩
theorem Z4.al {w : World} {g : Nat} (h : Z4 w g) (o : Obj) : Z4 (w.alloc o) g := h.on ((Below.refl _ _).alloc (Nat.le_refl _) _)
theorem z4_read {w : World} {g : Nat} (h : Z4 w g) (a : ByteArray) (b c d : Int) :
    (World.setCell (World.setCell (World.setCell (World.setCell w ⟨g, 0, none⟩ (.string (a))) ⟨g, 1, none⟩ (.int .i64 (b))) ⟨g, 2, none⟩ (.int .i64 (c))) ⟨g, 3, none⟩ (.int .i64 (d))).cell? ⟨g, 0, none⟩ = some (.string a) ∧ (World.setCell (World.setCell (World.setCell (World.setCell w ⟨g, 0, none⟩ (.string (a))) ⟨g, 1, none⟩ (.int .i64 (b))) ⟨g, 2, none⟩ (.int .i64 (c))) ⟨g, 3, none⟩ (.int .i64 (d))).cell? ⟨g, 1, none⟩ = some (.int .i64 b) ∧ (World.setCell (World.setCell (World.setCell (World.setCell w ⟨g, 0, none⟩ (.string (a))) ⟨g, 1, none⟩ (.int .i64 (b))) ⟨g, 2, none⟩ (.int .i64 (c))) ⟨g, 3, none⟩ (.int .i64 (d))).cell? ⟨g, 2, none⟩ = some (.int .i64 c) ∧ (World.setCell (World.setCell (World.setCell (World.setCell w ⟨g, 0, none⟩ (.string (a))) ⟨g, 1, none⟩ (.int .i64 (b))) ⟨g, 2, none⟩ (.int .i64 (c))) ⟨g, 3, none⟩ (.int .i64 (d))).cell? ⟨g, 3, none⟩ = some (.int .i64 d) := by
  obtain ⟨_, ⟨c0, c1, c2, c3⟩, _⟩ := h
  have r := setFrom_read g [.string a, .int .i64 b, .int .i64 c, .int .i64 d] w 0 (fun k hk => by
    rw [Nat.zero_add]
    match k, hk with
    | 0, _ => rw [c0]; rfl
    | 1, _ => rw [c1]; rfl
    | 2, _ => rw [c2]; rfl
    | 3, _ => rw [c3]; rfl)
  exact ⟨r 0 _ rfl, r 1 _ rfl, r 2 _ rfl, r 3 _ rfl⟩
theorem four_below {B g : Nat} {a w : World} (hg : B ≤ g) (h : Below B a w) (s : ByteArray) (x y z : Int) : Below B a (World.setCell (World.setCell (World.setCell (World.setCell w ⟨g, 0, none⟩ (.string (s))) ⟨g, 1, none⟩ (.int .i64 (x))) ⟨g, 2, none⟩ (.int .i64 (y))) ⟨g, 3, none⟩ (.int .i64 (z))) :=
  setFrom_below hg [.string s, .int .i64 x, .int .i64 y, .int .i64 z] 0 h
def dgOk (l : List UInt8) : Bool := decide ((splitL 32 l).length = 3) && (rpOk (rlA l 1) && (numOk (rlA l 2) && vDanger (ba (rlA l 0)) (rpX (rlA l 1)) (rpY (rlA l 1)) (rdV (ba (rlA l 2)))))
def dg (l : List UInt8) (v : Int) : Int := if dgOk l then v else 0
def dgS (l : List UInt8) (s : ByteArray) : ByteArray := if dgOk l then s else ⟨#[]⟩
theorem dg_no {l : List UInt8} (h : dgOk l = false) : (∀ v, dg l v = 0) ∧ ∀ s, dgS l s = ⟨#[]⟩ := ⟨fun v => by unfold dg; rw [h]; rfl, fun v => by unfold dgS; rw [h]; rfl⟩
theorem dg_yes {l : List UInt8} (h : dgOk l = true) : (∀ v, dg l v = v) ∧ ∀ s, dgS l s = s := ⟨fun v => by unfold dg; rw [h]; rfl, fun v => by unfold dgS; rw [h]; rfl⟩
theorem three_of {S : List (List UInt8)} (h : S.length = 3) : ∃ a b c, S = [a, b, c] := by
  rcases S with _ | ⟨a, _ | ⟨b, _ | ⟨c, _ | ⟨d, t⟩⟩⟩⟩ <;> simp at h
  exact ⟨a, b, c, rfl⟩
theorem rl_three {l a b c : List UInt8} (h : splitL 32 l = [a, b, c]) : rlA l 0 = a ∧ rlA l 1 = b ∧ rlA l 2 = c := by
  unfold rlA
  rw [h]
  exact ⟨rfl, rfl, rfl⟩
theorem then_at2 {K : Act → World → Prop} {Q : Exit → Act → World → Prop} {a : Act} {W : World} (h : ∀ wf, wf = W → Exit.then K Q .normal a wf) : Exit.then K Q .normal a W := h W rfl
theorem below_drew {B : Nat} {a w : World} (h : Below B a w) : Below B a w.drew := h.trans ⟨rfl, rfl, rfl, Nat.le_refl _, fun _ _ => rfl⟩
theorem ba_max {l : List UInt8} (h : l.length ≤ 1048576) : (ba l).size ≤ maxLen := by
  rw [ba_size]
  have : maxLen = 9223372036854775807 := rfl
  omega
theorem all_of {f : Nat → Bool} {k n : Nat} (h : allTo f n = true) (hk : k < n) : f k = true := by
  rw [← Bool.not_eq_false]
  intro hf
  rw [allTo_hit hk hf] at h
  cases h
theorem name_free {l : List UInt8} (h : nameM (ba l) = true) : (32 : UInt8) ∉ l ∧ l ≠ [] := by
  unfold nameM at h
  rw [Bool.and_eq_true, Bool.and_eq_true] at h
  obtain ⟨h1, h2, _⟩ := h
  constructor
  · intro hm
    obtain ⟨k, hk, e⟩ := List.mem_iff_getElem.1 hm
    have hk2 : k < (ba l).size := by rw [ba_size]; exact hk
    have hf := all_of h1 hk2
    obtain ⟨b, hb, _, hbe⟩ := byteAt_is hk2
    have hb3 : b = 32 := by
      rw [← hb]
      show (l[k]'hk).toNat = 32
      rw [e]; rfl
    unfold nameF at hf
    rw [hbe, hb3] at hf
    simp [inB] at hf
  · intro e
    subst e
    exact absurd h2 (by decide)
theorem dangT_of {a b c : List UInt8} (h1 : rpOk b = true) (h2 : numOk c = true) : (dangT (ba a) (rpX b) (rpY b) (rdV (ba c))).data.toList = a ++ 32 :: (b ++ 32 :: c) := by
  unfold dangT
  rw [ptT_of h1, decT_of h2]
  simp only [ByteArray.data_append, Array.toList_append]
  show (((a ++ [32]) ++ b) ++ [32]) ++ c = _
  simp
theorem vD_name {s : ByteArray} {x y r : Int} (h : vDanger s x y r = true) : nameM s = true := by
  unfold vDanger at h
  rw [Bool.and_eq_true] at h
  exact h.1
theorem dg_words {L : List UInt8} (h : dgOk L = true) : wordsL L = splitL 32 L ∧ ∃ a b c, splitL 32 L = [a, b, c] ∧ rpOk b = true ∧ numOk c = true ∧ vDanger (ba a) (rpX b) (rpY b) (rdV (ba c)) = true := by
  have h' := h
  unfold dgOk at h'
  rw [Bool.and_eq_true] at h'
  obtain ⟨h4, h'⟩ := h'
  obtain ⟨a, b, c, hS⟩ := three_of (of_decide_eq_true h4)
  obtain ⟨e0, e1, e2⟩ := rl_three hS
  rw [e0, e1, e2] at h'
  simp only [Bool.and_eq_true] at h'
  obtain ⟨k1, k2, k3⟩ := h'
  refine ⟨words_all ?_, a, b, c, hS, k1, k2, k3⟩
  rw [hS]
  intro p hp
  simp only [List.mem_cons, List.not_mem_nil, or_false] at hp
  rcases hp with rfl | rfl | rfl
  · exact (name_free (vD_name k3)).2
  · exact (rp_free k1).2
  · exact (num_free2 k2).2
theorem dg_impl {L a b c : List UInt8} (hW : wordsL L = [a, b, c]) (hn : rpOk b = true → numOk c = true → vDanger (ba a) (rpX b) (rpY b) (rdV (ba c)) = true → (dangT (ba a) (rpX b) (rpY b) (rdV (ba c))).data.toList ≠ L) : dgOk L = false := by
  rw [← Bool.not_eq_true]
  intro h
  obtain ⟨hw, a', b', c', hS, k1, k2, k3⟩ := dg_words h
  rw [hw, hS] at hW
  injection hW with x1 hW
  injection hW with x2 hW
  injection hW with x3 _
  subst x1 x2 x3
  refine hn k1 k2 k3 ?_
  rw [dangT_of k1 k2]
  have hj := split_join 32 L
  rw [hS, Lib.join_cons] at hj
  rw [← hj]
  simp [Lib.joinTail]
theorem dg_good {L a b c : List UInt8} (k1 : rpOk b = true) (k2 : numOk c = true) (k3 : vDanger (ba a) (rpX b) (rpY b) (rdV (ba c)) = true) (hL : (dangT (ba a) (rpX b) (rpY b) (rdV (ba c))).data.toList = L) : dgOk L = true ∧ rlA L 0 = a ∧ rlA L 1 = b ∧ rlA L 2 = c := by
  rw [dangT_of k1 k2] at hL
  have hS : splitL 32 (a ++ 32 :: (b ++ 32 :: c)) = [a, b, c] := by
    rw [split_app _ (name_free (vD_name k3)).1, split_app _ (rp_free k1).1, split_free (num_free2 k2).1]
  rw [hL] at hS
  obtain ⟨e0, e1, e2⟩ := rl_three hS
  refine ⟨?_, e0, e1, e2⟩
  unfold dgOk
  rw [hS, e0, e1, e2, k1, k2, k3]
  rfl
set_option maxHeartbeats 800000 in
theorem impl_RDang (s : ByteArray) (hs : s.size ≤ 1048576) (w : World) (hE : Env w) : Calls Tryz.prog 10 #[.string s] w fun e w' => e = .returned (.tuple #[.agg #[.string (dgS (s.data.toList) (ba (rlA (s.data.toList) 0))), .int .i64 (dg (s.data.toList) (rpX (rlA (s.data.toList) 1))), .int .i64 (dg (s.data.toList) (rpY (rlA (s.data.toList) 1))), .int .i64 (dg (s.data.toList) (rdV (ba (rlA (s.data.toList) 2))))], .bool (dgOk (s.data.toList))]) ∧ Below w.heap.size w w' := by
  obtain ⟨L, hL⟩ : ∃ L, s.data.toList = L := ⟨_, rfl⟩
  have hsz : s.size = L.length := by rw [← hL]; exact (Array.length_toList).symm
  obtain ⟨S, hS⟩ : ∃ S, wordsL L = S := ⟨_, rfl⟩
  have hS' := Lib.hid hS
  by_cases h4 : S.length = 3
  · obtain ⟨a, b, c, rfl⟩ := three_of h4
    have hm : ∀ p ∈ [a, b, c], p.length ≤ 1048576 := fun p hp => by
      rw [← hS] at hp
      have := part_len 32 L p (mem_full hp)
      omega
    have hsa := hm a (by simp)
    have hsb := hm b (by simp)
    have hsc := hm c (by simp)
    rw [hL]
    clear hS h4 hsz hm
    go_enter Tryz.func10, Tryz.ntmps10
    go_wp2_with fail
    refine (impl_Words s hs _ (hE.on (by go_grown))).mono ?_
    rintro e w1 ⟨A, cc, rfl, hA, hb1⟩
    rw [hL, hS'.out] at hA ⊢
    have hlen : ([a, b, c] : List (List UInt8)).length = 3 := rfl
    rw [hlen]
    have hB1 := bnext (w := w) (by go_grown) hb1
    have hZ1 := (Z4.new w 36).on hb1
    obtain ⟨g, o, rfl, hg, hcc⟩ := hA (by simp [partsV])
    have d0 : w1.cell? ⟨g, o, none⟩ = some (.string (ba a)) := by have := hcc 0 _ rfl; simpa using this
    have d1 : w1.cell? ⟨g, o + 1, none⟩ = some (.string (ba b)) := by have := hcc 1 _ rfl; simpa using this
    have d2 : w1.cell? ⟨g, o + 2, none⟩ = some (.string (ba c)) := by have := hcc 2 _ rfl; simpa using this
    clear hcc hA hb1
    go_wp2_with fail
    refine (impl_RPtL b hsb _ (hE.on hB1)).mono ?_
    rintro e w2 ⟨rfl, hb2⟩
    have hB2 := bnext hB1 hb2
    have hZ2 := hZ1.on hb2
    have hg2 : g < w2.heap.size := Nat.lt_of_lt_of_le hg hb2.size
    have e0 := cell_on hb2 d0
    have e2 := cell_on hb2 d2
    clear hb2 d0 d1 d2 hg hZ1 hB1
    go_wp2_with fail
    refine (impl_NumL c hsc _ (hE.on (hB2.alloc hB2.size _))).mono ?_
    rintro e w3 ⟨rfl, hb3⟩
    have hB3 := bnext (hB2.alloc hB2.size (.cells #[.int .i64 (rpX b), .int .i64 (rpY b)] 34)) hb3
    have hZ3 := (hZ2.al (.cells #[.int .i64 (rpX b), .int .i64 (rpY b)] 34)).on hb3
    have hz3 := hb3.size
    rw [World.size_alloc] at hz3
    have q0 : w3.cell? ⟨w2.heap.size, 0, none⟩ = some (.int .i64 (rpX b)) := cell_on hb3 (by simp)
    have q1 : w3.cell? ⟨w2.heap.size, 1, none⟩ = some (.int .i64 (rpY b)) := cell_on hb3 (by simp)
    have e3 := cell_on hb3 (cell_al e0)
    go_upto_region 6 with fail
    refine wp_at ?_
    intro wx hwx
    obtain ⟨n2, hn2⟩ : ∃ n, w2.heap.size = n := ⟨_, rfl⟩
    have hZx : Z4 wx w.heap.size := by rw [hwx]; exact hZ3
    have hBx : Below w.heap.size w wx := by rw [hwx]; exact hB3
    have p0 : wx.cell? ⟨n2, 0, none⟩ = some (.int .i64 (rpX b)) := by rw [hwx, ← hn2]; exact q0
    have p1 : wx.cell? ⟨n2, 1, none⟩ = some (.int .i64 (rpY b)) := by rw [hwx, ← hn2]; exact q1
    have k0 : wx.cell? ⟨g, o, none⟩ = some (.string (ba a)) := by rw [hwx]; exact e3
    have hgx : g < wx.heap.size := by rw [hwx]; omega
    have hpx : n2 < wx.heap.size := by rw [hwx]; omega
    rw [hn2]
    clear hwx hn2 hZ2 hB2 hZ3 hB3 hb3 hz3 q0 q1 e0 e2 e3 hg2
    go_region
    refine then_at2 ?_
    intro wy hwy
    have hZy : Z4 wy w.heap.size := by rw [hwy]; exact hZx.on (below_drew ((Below.refl _ _).alloc (Nat.le_refl _) _))
    have hBy : Below w.heap.size w wy := by rw [hwy]; exact below_drew (hBx.alloc hBx.size _)
    obtain ⟨nl, hnl⟩ : ∃ n, wx.heap.size = n := ⟨_, rfl⟩
    have l0 : wy.cell? ⟨nl, 0, none⟩ = some (.string (ba a)) := by rw [hwy, ← hnl]; simp
    have l1 : wy.cell? ⟨nl, 1, none⟩ = some (.int .i64 (rpX b)) := by rw [hwy, ← hnl]; simp
    have l2 : wy.cell? ⟨nl, 2, none⟩ = some (.int .i64 (rpY b)) := by rw [hwy, ← hnl]; simp
    have l3 : wy.cell? ⟨nl, 3, none⟩ = some (.int .i64 (rdV (ba c))) := by rw [hwy, ← hnl]; simp
    have hly : nl < wy.heap.size := by rw [hwy, ← hnl]; simp
    rw [hnl]
    clear hwy hnl hZx hBx p0 p1 k0 hgx hpx
    cases h1 : rpOk b
    · have hK : Hid (dgOk L = false) := Lib.hid (dg_impl hS'.out (fun x => by rw [h1] at x; cases x))
      have hV := Lib.hid (dg_no hK.out)
      have hee : Hid (rlA L 0 = rlA L 0 ∧ rlA L 1 = rlA L 1 ∧ rlA L 2 = rlA L 2) := Lib.hid ⟨rfl, rfl, rfl⟩
      obtain ⟨zl, ⟨z0, z1, z2, z3⟩, y0, y1, y2, y3⟩ := id hZy
      go_wp2
      refine end_at ?_
      intro wf hwf
      obtain ⟨t0, t1, t2, t3⟩ : wf.cell? ⟨w.heap.size, 0, none⟩ = some (.string (⟨#[]⟩)) ∧ wf.cell? ⟨w.heap.size, 1, none⟩ = some (.int .i64 (0)) ∧ wf.cell? ⟨w.heap.size, 2, none⟩ = some (.int .i64 (0)) ∧ wf.cell? ⟨w.heap.size, 3, none⟩ = some (.int .i64 (0)) := by rw [hwf]; exact z4_read hZy _ _ _ _
      have hBf : Below w.heap.size w wf := by rw [hwf]; exact four_below (Nat.le_refl w.heap.size) hBy _ _ _ _
      clear hwf
      refine bodyPost_ret (by simp [results, Tryz.results10, go_sem, t0, t1, t2, t3]; try rfl) rfl ?_
      exact ⟨by rw [hV.out.2, hV.out.1, hV.out.1, hV.out.1, hK.out] <;> (try rw [hee.out.1, hee.out.2.1, hee.out.2.2]) <;> rfl, hBf⟩
    cases h3 : numOk c
    · have hK : Hid (dgOk L = false) := Lib.hid (dg_impl hS'.out (fun _ x => by rw [h3] at x; cases x))
      have hV := Lib.hid (dg_no hK.out)
      have hee : Hid (rlA L 0 = rlA L 0 ∧ rlA L 1 = rlA L 1 ∧ rlA L 2 = rlA L 2) := Lib.hid ⟨rfl, rfl, rfl⟩
      obtain ⟨zl, ⟨z0, z1, z2, z3⟩, y0, y1, y2, y3⟩ := id hZy
      go_wp2
      refine end_at ?_
      intro wf hwf
      obtain ⟨t0, t1, t2, t3⟩ : wf.cell? ⟨w.heap.size, 0, none⟩ = some (.string (⟨#[]⟩)) ∧ wf.cell? ⟨w.heap.size, 1, none⟩ = some (.int .i64 (0)) ∧ wf.cell? ⟨w.heap.size, 2, none⟩ = some (.int .i64 (0)) ∧ wf.cell? ⟨w.heap.size, 3, none⟩ = some (.int .i64 (0)) := by rw [hwf]; exact z4_read hZy _ _ _ _
      have hBf : Below w.heap.size w wf := by rw [hwf]; exact four_below (Nat.le_refl w.heap.size) hBy _ _ _ _
      clear hwf
      refine bodyPost_ret (by simp [results, Tryz.results10, go_sem, t0, t1, t2, t3]; try rfl) rfl ?_
      exact ⟨by rw [hV.out.2, hV.out.1, hV.out.1, hV.out.1, hK.out] <;> (try rw [hee.out.1, hee.out.2.1, hee.out.2.2]) <;> rfl, hBf⟩
    have b1 := Lib.hid (has_of (rp_zero (l := b)).1)
    have b2 := Lib.hid (has_of (rp_zero (l := b)).2)
    have b3 := Lib.hid (has_of (rd_zero (l := c)))
    go_wp2_with fail
    refine (impl_DangerText (ba a) (ba_max hsa) (rpX b) (rpY b) (rdV (ba c)) b1.out b2.out b3.out _ (hE.on hBy).tab).mono ?_
    rintro e w6 ⟨rfl, hb6⟩
    have hB6 := bnext hBy hb6
    have hZ6 := hZy.on hb6
    have m0 := cell_on hb6 l0
    have m1 := cell_on hb6 l1
    have m2 := cell_on hb6 l2
    have m3 := cell_on hb6 l3
    have hl6 : nl < w6.heap.size := Nat.lt_of_lt_of_le hly hb6.size
    clear hb6 hBy hZy l0 l1 l2 l3 hly b1 b2 b3 hE
    by_cases hT : dangX (ba a) (rpX b) (rpY b) (rdV (ba c)) = s
    · cases hv : vDanger (ba a) (rpX b) (rpY b) (rdV (ba c))
      · exfalso
        unfold dangX at hT
        rw [hv] at hT
        have : L = [] := by rw [← hL, ← hT]; rfl
        have h := hS'.out
        rw [this] at h
        cases h
      · have hT2 : (dangT (ba a) (rpX b) (rpY b) (rdV (ba c))).data.toList = L := by rw [← hL, ← hT]; unfold dangX; rw [hv]; rfl
        obtain ⟨hk, e0, e1, e2⟩ := dg_good h1 h3 hv hT2
        have hK := Lib.hid hk
        have hV := Lib.hid (dg_yes hk)
        have hee := Lib.hid (And.intro e0 (And.intro e1 e2))
        have hcmp := bytes_eq hT
        clear hT hT2 hk e0 e1 e2
        obtain ⟨zl, ⟨z0, z1, z2, z3⟩, y0, y1, y2, y3⟩ := id hZ6
        generalize dangX (ba a) (rpX b) (rpY b) (rdV (ba c)) = T at hcmp ⊢
        go_wp2
        refine end_at ?_
        intro wf hwf
        obtain ⟨t0, t1, t2, t3⟩ : wf.cell? ⟨w.heap.size, 0, none⟩ = some (.string (ba a)) ∧ wf.cell? ⟨w.heap.size, 1, none⟩ = some (.int .i64 (rpX b)) ∧ wf.cell? ⟨w.heap.size, 2, none⟩ = some (.int .i64 (rpY b)) ∧ wf.cell? ⟨w.heap.size, 3, none⟩ = some (.int .i64 (rdV (ba c))) := by rw [hwf]; exact z4_read hZ6 _ _ _ _
        have hBf : Below w.heap.size w wf := by rw [hwf]; exact four_below (Nat.le_refl w.heap.size) hB6 _ _ _ _
        clear hwf
        refine bodyPost_ret (by simp [results, Tryz.results10, go_sem, t0, t1, t2, t3]; try rfl) rfl ?_
        exact ⟨by rw [hV.out.2, hV.out.1, hV.out.1, hV.out.1, hK.out] <;> (try rw [hee.out.1, hee.out.2.1, hee.out.2.2]) <;> rfl, hBf⟩
    · have hK : Hid (dgOk L = false) := Lib.hid (dg_impl hS'.out (fun _ _ hv he => hT (by unfold dangX; rw [hv]; exact (ba_ext he).trans (ba_ext hL).symm)))
      have hcmp := bytes_ne hT
      generalize dangX (ba a) (rpX b) (rpY b) (rdV (ba c)) = T at hcmp hT ⊢
      clear hT
      have hV := Lib.hid (dg_no hK.out)
      have hee : Hid (rlA L 0 = rlA L 0 ∧ rlA L 1 = rlA L 1 ∧ rlA L 2 = rlA L 2) := Lib.hid ⟨rfl, rfl, rfl⟩
      obtain ⟨zl, ⟨z0, z1, z2, z3⟩, y0, y1, y2, y3⟩ := id hZ6
      go_wp2
      refine end_at ?_
      intro wf hwf
      obtain ⟨t0, t1, t2, t3⟩ : wf.cell? ⟨w.heap.size, 0, none⟩ = some (.string (⟨#[]⟩)) ∧ wf.cell? ⟨w.heap.size, 1, none⟩ = some (.int .i64 (0)) ∧ wf.cell? ⟨w.heap.size, 2, none⟩ = some (.int .i64 (0)) ∧ wf.cell? ⟨w.heap.size, 3, none⟩ = some (.int .i64 (0)) := by rw [hwf]; exact z4_read hZ6 _ _ _ _
      have hBf : Below w.heap.size w wf := by rw [hwf]; exact four_below (Nat.le_refl w.heap.size) hB6 _ _ _ _
      clear hwf
      refine bodyPost_ret (by simp [results, Tryz.results10, go_sem, t0, t1, t2, t3]; try rfl) rfl ?_
      exact ⟨by rw [hV.out.2, hV.out.1, hV.out.1, hV.out.1, hK.out] <;> (try rw [hee.out.1, hee.out.2.1, hee.out.2.2]) <;> rfl, hBf⟩
  · have hK : Hid (dgOk L = false) := by
      apply Lib.hid
      rw [← Bool.not_eq_true]
      intro h
      obtain ⟨hw, a, b, c, hS2, _⟩ := dg_words h
      rw [hw, hS2] at hS
      exact h4 (by rw [← hS]; rfl)
    have h4' : ((S.length : Int) != 3) = true := by first | (simp; done) | (simp; omega)
    rw [hL]
    clear hS hsz
    go_enter Tryz.func10, Tryz.ntmps10
    go_wp2_with fail
    refine (impl_Words s hs _ (hE.on (by go_grown))).mono ?_
    rintro e w1 ⟨A, cc, rfl, hA, hb1⟩
    rw [hL, hS'.out]
    have hB1 := bnext (w := w) (by go_grown) hb1
    have hZ1 := (Z4.new w 36).on hb1
    clear hA hb1
    have hV := Lib.hid (dg_no hK.out)
    have hee : Hid (rlA L 0 = rlA L 0 ∧ rlA L 1 = rlA L 1 ∧ rlA L 2 = rlA L 2) := Lib.hid ⟨rfl, rfl, rfl⟩
    obtain ⟨zl, ⟨z0, z1, z2, z3⟩, y0, y1, y2, y3⟩ := id hZ1
    go_wp2
    refine end_at ?_
    intro wf hwf
    obtain ⟨t0, t1, t2, t3⟩ : wf.cell? ⟨w.heap.size, 0, none⟩ = some (.string (⟨#[]⟩)) ∧ wf.cell? ⟨w.heap.size, 1, none⟩ = some (.int .i64 (0)) ∧ wf.cell? ⟨w.heap.size, 2, none⟩ = some (.int .i64 (0)) ∧ wf.cell? ⟨w.heap.size, 3, none⟩ = some (.int .i64 (0)) := by rw [hwf]; exact z4_read hZ1 _ _ _ _
    have hBf : Below w.heap.size w wf := by rw [hwf]; exact four_below (Nat.le_refl w.heap.size) hB1 _ _ _ _
    clear hwf
    refine bodyPost_ret (by simp [results, Tryz.results10, go_sem, t0, t1, t2, t3]; try rfl) rfl ?_
    exact ⟨by rw [hV.out.2, hV.out.1, hV.out.1, hV.out.1, hK.out] <;> (try rw [hee.out.1, hee.out.2.1, hee.out.2.2]) <;> rfl, hBf⟩
end Go.Proofs.YthjkkidcpidgdaaGreatDoor
