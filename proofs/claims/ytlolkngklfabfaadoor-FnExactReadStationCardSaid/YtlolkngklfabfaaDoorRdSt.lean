/-
  Contracts of stations read from texts: the program's and the reference's. Under the conditions that each states.
-/
import Derived.Test.YtlolkngklfabfaaDoorRList
import Derived.Test.YtlolkngklfabfaaDoorStation
import Derived.Test.YtlolkngklfabfaaDoorRdD
set_option linter.unusedVariables false
set_option linter.unnecessarySimpa false
set_option maxRecDepth 100000
set_option linter.unusedSimpArgs false
namespace Go.Proofs.YtlolkngklfabfaaDoor
open Go.RowKit BigFrame

/-- Five zeros, to be written. -/
def Z5 (w : World) (g : Nat) : Prop := g < w.heap.size ∧ (w.cell? ⟨g, 0, none⟩ = some (.int .i64 0) ∧ w.cell? ⟨g, 1, none⟩ = some (.int .i64 0) ∧ w.cell? ⟨g, 2, none⟩ = some (.int .i64 0) ∧ w.cell? ⟨g, 3, none⟩ = some (.int .i64 0) ∧ w.cell? ⟨g, 4, none⟩ = some (.int .i64 0)) ∧ w.frozen? ⟨g, 0, none⟩ = false ∧ w.frozen? ⟨g, 1, none⟩ = false ∧ w.frozen? ⟨g, 2, none⟩ = false ∧ w.frozen? ⟨g, 3, none⟩ = false ∧ w.frozen? ⟨g, 4, none⟩ = false
theorem Z5.on {w w' : World} {g : Nat} (h : Z5 w g) (hb : Below w.heap.size w w') : Z5 w' g := by
  obtain ⟨h1, ⟨c0, c1, c2, c3, c4⟩, f0, f1, f2, f3, f4⟩ := h
  obtain ⟨hc, hf⟩ := bcell hb
  exact ⟨Nat.lt_of_lt_of_le h1 hb.size, ⟨(hc _ _ h1).trans c0, (hc _ _ h1).trans c1, (hc _ _ h1).trans c2, (hc _ _ h1).trans c3, (hc _ _ h1).trans c4⟩, (hf _ _ h1).trans f0, (hf _ _ h1).trans f1, (hf _ _ h1).trans f2, (hf _ _ h1).trans f3, (hf _ _ h1).trans f4⟩
theorem Z5.new (w : World) (t : TypeId) : Z5 (w.alloc (.cells #[.int .i64 0, .int .i64 0, .int .i64 0, .int .i64 0, .int .i64 0] t)) w.heap.size := by
  refine ⟨by simp, ⟨by simp, by simp, by simp, by simp, by simp⟩, by simp, by simp, by simp, by simp, by simp⟩
theorem Z5.al {w : World} {g : Nat} (h : Z5 w g) (o : Obj) : Z5 (w.alloc o) g := h.on ((Below.refl _ _).alloc (Nat.le_refl _) _)
theorem z5_read {w : World} {g : Nat} (h : Z5 w g) (a b c d f : Int) :
    (World.setCell (World.setCell (World.setCell (World.setCell (World.setCell w ⟨g, 0, none⟩ (.int .i64 (a))) ⟨g, 1, none⟩ (.int .i64 (b))) ⟨g, 2, none⟩ (.int .i64 (c))) ⟨g, 3, none⟩ (.int .i64 (d))) ⟨g, 4, none⟩ (.int .i64 (f))).cell? ⟨g, 0, none⟩ = some (.int .i64 a) ∧ (World.setCell (World.setCell (World.setCell (World.setCell (World.setCell w ⟨g, 0, none⟩ (.int .i64 (a))) ⟨g, 1, none⟩ (.int .i64 (b))) ⟨g, 2, none⟩ (.int .i64 (c))) ⟨g, 3, none⟩ (.int .i64 (d))) ⟨g, 4, none⟩ (.int .i64 (f))).cell? ⟨g, 1, none⟩ = some (.int .i64 b) ∧ (World.setCell (World.setCell (World.setCell (World.setCell (World.setCell w ⟨g, 0, none⟩ (.int .i64 (a))) ⟨g, 1, none⟩ (.int .i64 (b))) ⟨g, 2, none⟩ (.int .i64 (c))) ⟨g, 3, none⟩ (.int .i64 (d))) ⟨g, 4, none⟩ (.int .i64 (f))).cell? ⟨g, 2, none⟩ = some (.int .i64 c) ∧ (World.setCell (World.setCell (World.setCell (World.setCell (World.setCell w ⟨g, 0, none⟩ (.int .i64 (a))) ⟨g, 1, none⟩ (.int .i64 (b))) ⟨g, 2, none⟩ (.int .i64 (c))) ⟨g, 3, none⟩ (.int .i64 (d))) ⟨g, 4, none⟩ (.int .i64 (f))).cell? ⟨g, 3, none⟩ = some (.int .i64 d) ∧ (World.setCell (World.setCell (World.setCell (World.setCell (World.setCell w ⟨g, 0, none⟩ (.int .i64 (a))) ⟨g, 1, none⟩ (.int .i64 (b))) ⟨g, 2, none⟩ (.int .i64 (c))) ⟨g, 3, none⟩ (.int .i64 (d))) ⟨g, 4, none⟩ (.int .i64 (f))).cell? ⟨g, 4, none⟩ = some (.int .i64 f) := by
  obtain ⟨_, ⟨c0, c1, c2, c3, c4⟩, _⟩ := h
  have r := setFrom_read g [.int .i64 a, .int .i64 b, .int .i64 c, .int .i64 d, .int .i64 f] w 0 (fun k hk => by
    rw [Nat.zero_add]
    match k, hk with
    | 0, _ => rw [c0]; rfl
    | 1, _ => rw [c1]; rfl
    | 2, _ => rw [c2]; rfl
    | 3, _ => rw [c3]; rfl
    | 4, _ => rw [c4]; rfl)
  exact ⟨r 0 _ rfl, r 1 _ rfl, r 2 _ rfl, r 3 _ rfl, r 4 _ rfl⟩
theorem quin_below {B g : Nat} {a w : World} (hg : B ≤ g) (h : Below B a w) (s x y z u : Int) : Below B a (World.setCell (World.setCell (World.setCell (World.setCell (World.setCell w ⟨g, 0, none⟩ (.int .i64 (s))) ⟨g, 1, none⟩ (.int .i64 (x))) ⟨g, 2, none⟩ (.int .i64 (y))) ⟨g, 3, none⟩ (.int .i64 (z))) ⟨g, 4, none⟩ (.int .i64 (u))) :=
  setFrom_below hg [.int .i64 s, .int .i64 x, .int .i64 y, .int .i64 z, .int .i64 u] 0 h
/-- The numbers of a text, and whether they are a station. -/
def sA (l : List UInt8) (k : Nat) : Int := (rsV l).getD k 0
def stOk (l : List UInt8) : Bool := rsOk l && (decide ((rsV l).length = 5) && vStation (sA l 0) (sA l 1) (sA l 2) (sA l 3) (sA l 4))
def sv (l : List UInt8) (v : Int) : Int := if stOk l then v else 0
theorem sv_no {l : List UInt8} (h : stOk l = false) : ∀ v, sv l v = 0 := fun v => by unfold sv; rw [h]; rfl
theorem sv_yes {l : List UInt8} (h : stOk l = true) : ∀ v, sv l v = v := fun v => by unfold sv; rw [h]; rfl
theorem five_of {V : List Int} (h : V.length = 5) : ∃ a b c d f, V = [a, b, c, d, f] := by
  rcases V with _ | ⟨a, _ | ⟨b, _ | ⟨c, _ | ⟨d, _ | ⟨f, _ | ⟨e, t⟩⟩⟩⟩⟩⟩ <;> simp at h
  exact ⟨a, b, c, d, f, rfl⟩
set_option maxHeartbeats 800000 in
theorem spec_RStatR (s : ByteArray) (hs : s.size ≤ 1048576) (w : World) : Calls Tryd.prog 33 #[.string s] w fun e w' => e = .returned (.tuple #[.agg #[.int .i64 (sv (s.data.toList) (sA (s.data.toList) 0)), .int .i64 (sv (s.data.toList) (sA (s.data.toList) 1)), .int .i64 (sv (s.data.toList) (sA (s.data.toList) 2)), .int .i64 (sv (s.data.toList) (sA (s.data.toList) 3)), .int .i64 (sv (s.data.toList) (sA (s.data.toList) 4))], .bool (stOk (s.data.toList))]) ∧ Below w.heap.size w w' := by
  obtain ⟨L, hL⟩ : ∃ L, s.data.toList = L := ⟨_, rfl⟩
  obtain ⟨V, hV⟩ : ∃ V, rsV L = V := ⟨_, rfl⟩
  have hst : Hid (stOk L = (rsOk L && (decide (V.length = 5) && vStation (V.getD 0 0) (V.getD 1 0) (V.getD 2 0) (V.getD 3 0) (V.getD 4 0)))) := Lib.hid (by unfold stOk sA; rw [hV])
  have hR : Hid (∀ k, sA L k = V.getD k 0) := Lib.hid (fun k => by unfold sA; rw [hV])
  have hV' := Lib.hid hV
  rw [hL]
  clear hV
  go_enter Tryd.func33, Tryd.ntmps33
  go_wp2_with fail
  refine (spec_RList s hs _).mono ?_
  rintro e w1 ⟨A, cc, rfl, hA, hb1⟩
  rw [hL, hV'.out] at hA ⊢
  have hB1 := bnext (w := w) (by go_grown) hb1
  have hZ1 := (Z5.new w 29).on hb1
  clear hb1
  cases h1 : rsOk L
  · have hK : Hid (stOk L = false) := Lib.hid (by rw [hst.out, h1]; rfl)
    clear hA
    have hW : Hid (sv L (sA L 0) = 0 ∧ sv L (sA L 1) = 0 ∧ sv L (sA L 2) = 0 ∧ sv L (sA L 3) = 0 ∧ sv L (sA L 4) = 0 ∧ stOk L = false) := Lib.hid ⟨sv_no hK.out _, sv_no hK.out _, sv_no hK.out _, sv_no hK.out _, sv_no hK.out _, hK.out⟩
    obtain ⟨zl, ⟨z0, z1, z2, z3, z4⟩, y0, y1, y2, y3, y4⟩ := id hZ1
    go_wp2
    refine end_at ?_
    intro wf hwf
    obtain ⟨t0, t1, t2, t3, t4⟩ : wf.cell? ⟨w.heap.size, 0, none⟩ = some (.int .i64 (0)) ∧ wf.cell? ⟨w.heap.size, 1, none⟩ = some (.int .i64 (0)) ∧ wf.cell? ⟨w.heap.size, 2, none⟩ = some (.int .i64 (0)) ∧ wf.cell? ⟨w.heap.size, 3, none⟩ = some (.int .i64 (0)) ∧ wf.cell? ⟨w.heap.size, 4, none⟩ = some (.int .i64 (0)) := by rw [hwf]; exact z5_read hZ1 _ _ _ _ _
    have hBf : Below w.heap.size w wf := by rw [hwf]; exact quin_below (Nat.le_refl w.heap.size) hB1 _ _ _ _ _
    clear hwf
    refine bodyPost_ret (by simp [results, Tryd.results33, go_sem, t0, t1, t2, t3, t4]; try rfl) rfl ?_
    exact ⟨by rw [hW.out.1, hW.out.2.1, hW.out.2.2.1, hW.out.2.2.2.1, hW.out.2.2.2.2.1, hW.out.2.2.2.2.2], hBf⟩
  by_cases h5 : V.length = 5
  rotate_left
  · have hK : Hid (stOk L = false) := Lib.hid (by rw [hst.out, decide_eq_false h5, Bool.false_and, Bool.and_false])
    have h5' : ((V.length : Int) != 5) = true := by first | (simp; done) | (simp; omega)
    clear hA
    have hW : Hid (sv L (sA L 0) = 0 ∧ sv L (sA L 1) = 0 ∧ sv L (sA L 2) = 0 ∧ sv L (sA L 3) = 0 ∧ sv L (sA L 4) = 0 ∧ stOk L = false) := Lib.hid ⟨sv_no hK.out _, sv_no hK.out _, sv_no hK.out _, sv_no hK.out _, sv_no hK.out _, hK.out⟩
    obtain ⟨zl, ⟨z0, z1, z2, z3, z4⟩, y0, y1, y2, y3, y4⟩ := id hZ1
    go_wp2
    refine end_at ?_
    intro wf hwf
    obtain ⟨t0, t1, t2, t3, t4⟩ : wf.cell? ⟨w.heap.size, 0, none⟩ = some (.int .i64 (0)) ∧ wf.cell? ⟨w.heap.size, 1, none⟩ = some (.int .i64 (0)) ∧ wf.cell? ⟨w.heap.size, 2, none⟩ = some (.int .i64 (0)) ∧ wf.cell? ⟨w.heap.size, 3, none⟩ = some (.int .i64 (0)) ∧ wf.cell? ⟨w.heap.size, 4, none⟩ = some (.int .i64 (0)) := by rw [hwf]; exact z5_read hZ1 _ _ _ _ _
    have hBf : Below w.heap.size w wf := by rw [hwf]; exact quin_below (Nat.le_refl w.heap.size) hB1 _ _ _ _ _
    clear hwf
    refine bodyPost_ret (by simp [results, Tryd.results33, go_sem, t0, t1, t2, t3, t4]; try rfl) rfl ?_
    exact ⟨by rw [hW.out.1, hW.out.2.1, hW.out.2.2.1, hW.out.2.2.2.1, hW.out.2.2.2.2.1, hW.out.2.2.2.2.2], hBf⟩
  obtain ⟨a, b, c, d, f, rfl⟩ := five_of h5
  have hst2 : Hid (stOk L = vStation a b c d f) := Lib.hid (by rw [hst.out, h1]; rfl)
  have hlen : ([a, b, c, d, f] : List Int).length = 5 := rfl
  rw [hlen]
  obtain ⟨g, o, rfl, hg, hcc⟩ := hA (by simp [ints])
  have d0 : w1.cell? ⟨g, o, none⟩ = some (.int .i64 a) := by have := hcc 0 _ rfl; simpa using this
  have d1 : w1.cell? ⟨g, o + 1, none⟩ = some (.int .i64 b) := by have := hcc 1 _ rfl; simpa using this
  have d2 : w1.cell? ⟨g, o + 2, none⟩ = some (.int .i64 c) := by have := hcc 2 _ rfl; simpa using this
  have d3 : w1.cell? ⟨g, o + 3, none⟩ = some (.int .i64 d) := by have := hcc 3 _ rfl; simpa using this
  have d4 : w1.cell? ⟨g, o + 4, none⟩ = some (.int .i64 f) := by have := hcc 4 _ rfl; simpa using this
  clear hcc hA h5
  go_upto_region 4 with fail
  go_region
  refine then_at2 ?_
  intro wy hwy
  have hZy : Z5 wy w.heap.size := by rw [hwy]; exact hZ1.on (below_drew ((Below.refl _ _).alloc (Nat.le_refl _) _))
  have hBy : Below w.heap.size w wy := by rw [hwy]; exact below_drew (hB1.alloc hB1.size _)
  obtain ⟨nl, hnl⟩ : ∃ n, w1.heap.size = n := ⟨_, rfl⟩
  have l0 : wy.cell? ⟨nl, 0, none⟩ = some (.int .i64 a) := by rw [hwy, ← hnl]; simp
  have l1 : wy.cell? ⟨nl, 1, none⟩ = some (.int .i64 b) := by rw [hwy, ← hnl]; simp
  have l2 : wy.cell? ⟨nl, 2, none⟩ = some (.int .i64 c) := by rw [hwy, ← hnl]; simp
  have l3 : wy.cell? ⟨nl, 3, none⟩ = some (.int .i64 d) := by rw [hwy, ← hnl]; simp
  have l4 : wy.cell? ⟨nl, 4, none⟩ = some (.int .i64 f) := by rw [hwy, ← hnl]; simp
  have hly : nl < wy.heap.size := by rw [hwy, ← hnl]; simp
  rw [hnl]
  clear hwy hnl hZ1 hB1 d0 d1 d2 d3 d4 hg
  have hW0 : Hid (sA L 0 = a ∧ sA L 1 = b ∧ sA L 2 = c ∧ sA L 3 = d ∧ sA L 4 = f) := Lib.hid ⟨hR.out 0, hR.out 1, hR.out 2, hR.out 3, hR.out 4⟩
  go_wp2_with fail
  refine (spec_l19Ok a b c d f nl _ l0 l1 l2 l3 l4).mono ?_
  rintro e w4 ⟨rfl, rfl⟩
  cases hv : vStation a b c d f
  · have hK : Hid (stOk L = false) := Lib.hid (by rw [hst2.out, hv])
    have hW : Hid (sv L (sA L 0) = 0 ∧ sv L (sA L 1) = 0 ∧ sv L (sA L 2) = 0 ∧ sv L (sA L 3) = 0 ∧ sv L (sA L 4) = 0 ∧ stOk L = false) := Lib.hid ⟨sv_no hK.out _, sv_no hK.out _, sv_no hK.out _, sv_no hK.out _, sv_no hK.out _, hK.out⟩
    obtain ⟨zl, ⟨z0, z1, z2, z3, z4⟩, y0, y1, y2, y3, y4⟩ := id hZy
    go_wp2
    refine end_at ?_
    intro wf hwf
    obtain ⟨t0, t1, t2, t3, t4⟩ : wf.cell? ⟨w.heap.size, 0, none⟩ = some (.int .i64 (0)) ∧ wf.cell? ⟨w.heap.size, 1, none⟩ = some (.int .i64 (0)) ∧ wf.cell? ⟨w.heap.size, 2, none⟩ = some (.int .i64 (0)) ∧ wf.cell? ⟨w.heap.size, 3, none⟩ = some (.int .i64 (0)) ∧ wf.cell? ⟨w.heap.size, 4, none⟩ = some (.int .i64 (0)) := by rw [hwf]; exact z5_read hZy _ _ _ _ _
    have hBf : Below w.heap.size w wf := by rw [hwf]; exact quin_below (Nat.le_refl w.heap.size) hBy _ _ _ _ _
    clear hwf
    refine bodyPost_ret (by simp [results, Tryd.results33, go_sem, t0, t1, t2, t3, t4]; try rfl) rfl ?_
    exact ⟨by rw [hW.out.1, hW.out.2.1, hW.out.2.2.1, hW.out.2.2.2.1, hW.out.2.2.2.2.1, hW.out.2.2.2.2.2], hBf⟩
  · have hK : Hid (stOk L = true) := Lib.hid (by rw [hst2.out, hv])
    have hW : Hid (sv L (sA L 0) = a ∧ sv L (sA L 1) = b ∧ sv L (sA L 2) = c ∧ sv L (sA L 3) = d ∧ sv L (sA L 4) = f ∧ stOk L = true) := Lib.hid ⟨(sv_yes hK.out _).trans hW0.out.1, (sv_yes hK.out _).trans hW0.out.2.1, (sv_yes hK.out _).trans hW0.out.2.2.1, (sv_yes hK.out _).trans hW0.out.2.2.2.1, (sv_yes hK.out _).trans hW0.out.2.2.2.2, hK.out⟩
    obtain ⟨zl, ⟨z0, z1, z2, z3, z4⟩, y0, y1, y2, y3, y4⟩ := id hZy
    go_wp2
    refine end_at ?_
    intro wf hwf
    obtain ⟨t0, t1, t2, t3, t4⟩ : wf.cell? ⟨w.heap.size, 0, none⟩ = some (.int .i64 (a)) ∧ wf.cell? ⟨w.heap.size, 1, none⟩ = some (.int .i64 (b)) ∧ wf.cell? ⟨w.heap.size, 2, none⟩ = some (.int .i64 (c)) ∧ wf.cell? ⟨w.heap.size, 3, none⟩ = some (.int .i64 (d)) ∧ wf.cell? ⟨w.heap.size, 4, none⟩ = some (.int .i64 (f)) := by rw [hwf]; exact z5_read hZy _ _ _ _ _
    have hBf : Below w.heap.size w wf := by rw [hwf]; exact quin_below (Nat.le_refl w.heap.size) hBy _ _ _ _ _
    clear hwf
    refine bodyPost_ret (by simp [results, Tryd.results33, go_sem, t0, t1, t2, t3, t4]; try rfl) rfl ?_
    exact ⟨by rw [hW.out.1, hW.out.2.1, hW.out.2.2.1, hW.out.2.2.2.1, hW.out.2.2.2.2.1, hW.out.2.2.2.2.2], hBf⟩
theorem spec_RStat (s : ByteArray) (hs : s.size ≤ 1048576) (w : World) : Calls Tryd.prog 10 #[.string s] w fun e w' => e = .returned (.tuple #[.agg #[.int .i64 (sv (s.data.toList) (sA (s.data.toList) 0)), .int .i64 (sv (s.data.toList) (sA (s.data.toList) 1)), .int .i64 (sv (s.data.toList) (sA (s.data.toList) 2)), .int .i64 (sv (s.data.toList) (sA (s.data.toList) 3)), .int .i64 (sv (s.data.toList) (sA (s.data.toList) 4))], .bool (stOk (s.data.toList))]) ∧ Below w.heap.size w w' := by
  go_enter Tryd.func10, Tryd.ntmps10
  go_wp2_with fail
  refine (spec_RStatR s hs _).mono ?_
  rintro e w1 ⟨rfl, hb1⟩
  have hB1 := bnext (w := w) (by go_grown) hb1
  have hZ1 := (Z5.new w 29).on hb1
  obtain ⟨zl, ⟨z0, z1, z2, z3, z4⟩, y0, y1, y2, y3, y4⟩ := id hZ1
  clear hb1
  go_wp2
  refine end_at ?_
  intro wf hwf
  obtain ⟨t0, t1, t2, t3, t4⟩ : wf.cell? ⟨w.heap.size, 0, none⟩ = some (.int .i64 (sv s.data.toList (sA s.data.toList 0))) ∧ wf.cell? ⟨w.heap.size, 1, none⟩ = some (.int .i64 (sv s.data.toList (sA s.data.toList 1))) ∧ wf.cell? ⟨w.heap.size, 2, none⟩ = some (.int .i64 (sv s.data.toList (sA s.data.toList 2))) ∧ wf.cell? ⟨w.heap.size, 3, none⟩ = some (.int .i64 (sv s.data.toList (sA s.data.toList 3))) ∧ wf.cell? ⟨w.heap.size, 4, none⟩ = some (.int .i64 (sv s.data.toList (sA s.data.toList 4))) := by rw [hwf]; exact z5_read hZ1 _ _ _ _ _
  have hBf : Below w.heap.size w wf := by rw [hwf]; exact quin_below (Nat.le_refl w.heap.size) hB1 _ _ _ _ _
  clear hwf
  refine bodyPost_ret (by simp [results, Tryd.results10, go_sem, t0, t1, t2, t3, t4]; try rfl) rfl ?_
  exact ⟨rfl, hBf⟩
set_option maxHeartbeats 800000 in
theorem impl_RStat (s : ByteArray) (hs : s.size ≤ 1048576) (w : World) (hE : Env w) : Calls Tryd.prog 11 #[.string s] w fun e w' => e = .returned (.tuple #[.agg #[.int .i64 (sv (s.data.toList) (sA (s.data.toList) 0)), .int .i64 (sv (s.data.toList) (sA (s.data.toList) 1)), .int .i64 (sv (s.data.toList) (sA (s.data.toList) 2)), .int .i64 (sv (s.data.toList) (sA (s.data.toList) 3)), .int .i64 (sv (s.data.toList) (sA (s.data.toList) 4))], .bool (stOk (s.data.toList))]) ∧ Below w.heap.size w w' := by
  obtain ⟨L, hL⟩ : ∃ L, s.data.toList = L := ⟨_, rfl⟩
  obtain ⟨V, hV⟩ : ∃ V, rsV L = V := ⟨_, rfl⟩
  have hst : Hid (stOk L = (rsOk L && (decide (V.length = 5) && vStation (V.getD 0 0) (V.getD 1 0) (V.getD 2 0) (V.getD 3 0) (V.getD 4 0)))) := Lib.hid (by unfold stOk sA; rw [hV])
  have hR : Hid (∀ k, sA L k = V.getD k 0) := Lib.hid (fun k => by unfold sA; rw [hV])
  have hV' := Lib.hid hV
  rw [hL]
  clear hV
  go_enter Tryd.func11, Tryd.ntmps11
  go_wp2_with fail
  refine (impl_RList s hs _ (hE.on (by go_grown))).mono ?_
  rintro e w1 ⟨A, cc, rfl, hA, hb1⟩
  rw [hL, hV'.out] at hA ⊢
  have hB1 := bnext (w := w) (by go_grown) hb1
  have hZ1 := (Z5.new w 29).on hb1
  clear hb1
  cases h1 : rsOk L
  · have hK : Hid (stOk L = false) := Lib.hid (by rw [hst.out, h1]; rfl)
    clear hA
    have hW : Hid (sv L (sA L 0) = 0 ∧ sv L (sA L 1) = 0 ∧ sv L (sA L 2) = 0 ∧ sv L (sA L 3) = 0 ∧ sv L (sA L 4) = 0 ∧ stOk L = false) := Lib.hid ⟨sv_no hK.out _, sv_no hK.out _, sv_no hK.out _, sv_no hK.out _, sv_no hK.out _, hK.out⟩
    obtain ⟨zl, ⟨z0, z1, z2, z3, z4⟩, y0, y1, y2, y3, y4⟩ := id hZ1
    go_wp2
    refine end_at ?_
    intro wf hwf
    obtain ⟨t0, t1, t2, t3, t4⟩ : wf.cell? ⟨w.heap.size, 0, none⟩ = some (.int .i64 (0)) ∧ wf.cell? ⟨w.heap.size, 1, none⟩ = some (.int .i64 (0)) ∧ wf.cell? ⟨w.heap.size, 2, none⟩ = some (.int .i64 (0)) ∧ wf.cell? ⟨w.heap.size, 3, none⟩ = some (.int .i64 (0)) ∧ wf.cell? ⟨w.heap.size, 4, none⟩ = some (.int .i64 (0)) := by rw [hwf]; exact z5_read hZ1 _ _ _ _ _
    have hBf : Below w.heap.size w wf := by rw [hwf]; exact quin_below (Nat.le_refl w.heap.size) hB1 _ _ _ _ _
    clear hwf
    refine bodyPost_ret (by simp [results, Tryd.results11, go_sem, t0, t1, t2, t3, t4]; try rfl) rfl ?_
    exact ⟨by rw [hW.out.1, hW.out.2.1, hW.out.2.2.1, hW.out.2.2.2.1, hW.out.2.2.2.2.1, hW.out.2.2.2.2.2], hBf⟩
  by_cases h5 : V.length = 5
  rotate_left
  · have hK : Hid (stOk L = false) := Lib.hid (by rw [hst.out, decide_eq_false h5, Bool.false_and, Bool.and_false])
    have h5' : ((V.length : Int) != 5) = true := by first | (simp; done) | (simp; omega)
    clear hA
    have hW : Hid (sv L (sA L 0) = 0 ∧ sv L (sA L 1) = 0 ∧ sv L (sA L 2) = 0 ∧ sv L (sA L 3) = 0 ∧ sv L (sA L 4) = 0 ∧ stOk L = false) := Lib.hid ⟨sv_no hK.out _, sv_no hK.out _, sv_no hK.out _, sv_no hK.out _, sv_no hK.out _, hK.out⟩
    obtain ⟨zl, ⟨z0, z1, z2, z3, z4⟩, y0, y1, y2, y3, y4⟩ := id hZ1
    go_wp2
    refine end_at ?_
    intro wf hwf
    obtain ⟨t0, t1, t2, t3, t4⟩ : wf.cell? ⟨w.heap.size, 0, none⟩ = some (.int .i64 (0)) ∧ wf.cell? ⟨w.heap.size, 1, none⟩ = some (.int .i64 (0)) ∧ wf.cell? ⟨w.heap.size, 2, none⟩ = some (.int .i64 (0)) ∧ wf.cell? ⟨w.heap.size, 3, none⟩ = some (.int .i64 (0)) ∧ wf.cell? ⟨w.heap.size, 4, none⟩ = some (.int .i64 (0)) := by rw [hwf]; exact z5_read hZ1 _ _ _ _ _
    have hBf : Below w.heap.size w wf := by rw [hwf]; exact quin_below (Nat.le_refl w.heap.size) hB1 _ _ _ _ _
    clear hwf
    refine bodyPost_ret (by simp [results, Tryd.results11, go_sem, t0, t1, t2, t3, t4]; try rfl) rfl ?_
    exact ⟨by rw [hW.out.1, hW.out.2.1, hW.out.2.2.1, hW.out.2.2.2.1, hW.out.2.2.2.2.1, hW.out.2.2.2.2.2], hBf⟩
  obtain ⟨a, b, c, d, f, rfl⟩ := five_of h5
  have hst2 : Hid (stOk L = vStation a b c d f) := Lib.hid (by rw [hst.out, h1]; rfl)
  have hlen : ([a, b, c, d, f] : List Int).length = 5 := rfl
  rw [hlen]
  obtain ⟨g, o, rfl, hg, hcc⟩ := hA (by simp [ints])
  have d0 : w1.cell? ⟨g, o, none⟩ = some (.int .i64 a) := by have := hcc 0 _ rfl; simpa using this
  have d1 : w1.cell? ⟨g, o + 1, none⟩ = some (.int .i64 b) := by have := hcc 1 _ rfl; simpa using this
  have d2 : w1.cell? ⟨g, o + 2, none⟩ = some (.int .i64 c) := by have := hcc 2 _ rfl; simpa using this
  have d3 : w1.cell? ⟨g, o + 3, none⟩ = some (.int .i64 d) := by have := hcc 3 _ rfl; simpa using this
  have d4 : w1.cell? ⟨g, o + 4, none⟩ = some (.int .i64 f) := by have := hcc 4 _ rfl; simpa using this
  clear hcc hA h5
  go_upto_region 4 with fail
  go_region
  refine then_at2 ?_
  intro wy hwy
  have hZy : Z5 wy w.heap.size := by rw [hwy]; exact hZ1.on (below_drew ((Below.refl _ _).alloc (Nat.le_refl _) _))
  have hBy : Below w.heap.size w wy := by rw [hwy]; exact below_drew (hB1.alloc hB1.size _)
  obtain ⟨nl, hnl⟩ : ∃ n, w1.heap.size = n := ⟨_, rfl⟩
  have l0 : wy.cell? ⟨nl, 0, none⟩ = some (.int .i64 a) := by rw [hwy, ← hnl]; simp
  have l1 : wy.cell? ⟨nl, 1, none⟩ = some (.int .i64 b) := by rw [hwy, ← hnl]; simp
  have l2 : wy.cell? ⟨nl, 2, none⟩ = some (.int .i64 c) := by rw [hwy, ← hnl]; simp
  have l3 : wy.cell? ⟨nl, 3, none⟩ = some (.int .i64 d) := by rw [hwy, ← hnl]; simp
  have l4 : wy.cell? ⟨nl, 4, none⟩ = some (.int .i64 f) := by rw [hwy, ← hnl]; simp
  have hly : nl < wy.heap.size := by rw [hwy, ← hnl]; simp
  rw [hnl]
  clear hwy hnl hZ1 hB1 d0 d1 d2 d3 d4 hg
  have hW0 : Hid (sA L 0 = a ∧ sA L 1 = b ∧ sA L 2 = c ∧ sA L 3 = d ∧ sA L 4 = f) := Lib.hid ⟨hR.out 0, hR.out 1, hR.out 2, hR.out 3, hR.out 4⟩
  go_wp2_with fail
  refine (impl_ValidStation a b c d f _).mono ?_
  rintro e w4 ⟨rfl, hb4⟩
  have hB4 := bnext hBy hb4
  have hZ4 := hZy.on hb4
  have m0 := cell_on hb4 l0
  have m1 := cell_on hb4 l1
  have m2 := cell_on hb4 l2
  have m3 := cell_on hb4 l3
  have m4 := cell_on hb4 l4
  have hl4 : nl < w4.heap.size := Nat.lt_of_lt_of_le hly hb4.size
  clear hb4 hBy hZy l0 l1 l2 l3 l4 hly
  cases hv : vStation a b c d f
  · have hK : Hid (stOk L = false) := Lib.hid (by rw [hst2.out, hv])
    have hW : Hid (sv L (sA L 0) = 0 ∧ sv L (sA L 1) = 0 ∧ sv L (sA L 2) = 0 ∧ sv L (sA L 3) = 0 ∧ sv L (sA L 4) = 0 ∧ stOk L = false) := Lib.hid ⟨sv_no hK.out _, sv_no hK.out _, sv_no hK.out _, sv_no hK.out _, sv_no hK.out _, hK.out⟩
    obtain ⟨zl, ⟨z0, z1, z2, z3, z4⟩, y0, y1, y2, y3, y4⟩ := id hZ4
    go_wp2
    refine end_at ?_
    intro wf hwf
    obtain ⟨t0, t1, t2, t3, t4⟩ : wf.cell? ⟨w.heap.size, 0, none⟩ = some (.int .i64 (0)) ∧ wf.cell? ⟨w.heap.size, 1, none⟩ = some (.int .i64 (0)) ∧ wf.cell? ⟨w.heap.size, 2, none⟩ = some (.int .i64 (0)) ∧ wf.cell? ⟨w.heap.size, 3, none⟩ = some (.int .i64 (0)) ∧ wf.cell? ⟨w.heap.size, 4, none⟩ = some (.int .i64 (0)) := by rw [hwf]; exact z5_read hZ4 _ _ _ _ _
    have hBf : Below w.heap.size w wf := by rw [hwf]; exact quin_below (Nat.le_refl w.heap.size) hB4 _ _ _ _ _
    clear hwf
    refine bodyPost_ret (by simp [results, Tryd.results11, go_sem, t0, t1, t2, t3, t4]; try rfl) rfl ?_
    exact ⟨by rw [hW.out.1, hW.out.2.1, hW.out.2.2.1, hW.out.2.2.2.1, hW.out.2.2.2.2.1, hW.out.2.2.2.2.2], hBf⟩
  · have hK : Hid (stOk L = true) := Lib.hid (by rw [hst2.out, hv])
    have hW : Hid (sv L (sA L 0) = a ∧ sv L (sA L 1) = b ∧ sv L (sA L 2) = c ∧ sv L (sA L 3) = d ∧ sv L (sA L 4) = f ∧ stOk L = true) := Lib.hid ⟨(sv_yes hK.out _).trans hW0.out.1, (sv_yes hK.out _).trans hW0.out.2.1, (sv_yes hK.out _).trans hW0.out.2.2.1, (sv_yes hK.out _).trans hW0.out.2.2.2.1, (sv_yes hK.out _).trans hW0.out.2.2.2.2, hK.out⟩
    obtain ⟨zl, ⟨z0, z1, z2, z3, z4⟩, y0, y1, y2, y3, y4⟩ := id hZ4
    go_wp2
    refine end_at ?_
    intro wf hwf
    obtain ⟨t0, t1, t2, t3, t4⟩ : wf.cell? ⟨w.heap.size, 0, none⟩ = some (.int .i64 (a)) ∧ wf.cell? ⟨w.heap.size, 1, none⟩ = some (.int .i64 (b)) ∧ wf.cell? ⟨w.heap.size, 2, none⟩ = some (.int .i64 (c)) ∧ wf.cell? ⟨w.heap.size, 3, none⟩ = some (.int .i64 (d)) ∧ wf.cell? ⟨w.heap.size, 4, none⟩ = some (.int .i64 (f)) := by rw [hwf]; exact z5_read hZ4 _ _ _ _ _
    have hBf : Below w.heap.size w wf := by rw [hwf]; exact quin_below (Nat.le_refl w.heap.size) hB4 _ _ _ _ _
    clear hwf
    refine bodyPost_ret (by simp [results, Tryd.results11, go_sem, t0, t1, t2, t3, t4]; try rfl) rfl ?_
    exact ⟨by rw [hW.out.1, hW.out.2.1, hW.out.2.2.1, hW.out.2.2.2.1, hW.out.2.2.2.2.1, hW.out.2.2.2.2.2], hBf⟩
end Go.Proofs.YtlolkngklfabfaaDoor
