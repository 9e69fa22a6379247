/-
  Contracts of leading lines read from texts: the program's and the reference's. Under the conditions that each states.
-/
import Derived.Test.YtkdfknmhijjlpaaDoorPtR
import Derived.Test.YtkdfknmhijjlpaaDoorTextL
set_option linter.unusedVariables false
set_option linter.unnecessarySimpa false
set_option maxRecDepth 100000
set_option linter.unusedSimpArgs false
namespace Go.Proofs.YtkdfknmhijjlpaaDoor
open Go.RowKit BigFrame

theorem cell_on {w w' : World} {b k : Nat} {v : Value} (hb : Below w.heap.size w w') (h : w.cell? ⟨b, k, none⟩ = some v) : w'.cell? ⟨b, k, none⟩ = some v := (hb.cell (p := ⟨b, k, none⟩) (cell_lt h)).trans h
theorem cell_al {w : World} {b k : Nat} {v : Value} {o : Obj} (h : w.cell? ⟨b, k, none⟩ = some v) : (w.alloc o).cell? ⟨b, k, none⟩ = some v := (alloc_cell (cell_lt h)).trans h
theorem some_set {w : World} {p q : Addr} {v : Value} (h : (w.cell? q).isSome = true) : ((w.setCell p v).cell? q).isSome = true := by
  by_cases e : p = q
  · subst e
    obtain ⟨u, hu⟩ := Option.isSome_iff_exists.1 h
    rw [World.cell?_setCell_same _ _ _ hu]; rfl
  · rw [World.cell?_setCell_other _ _ _ _ e]; exact h
def setFrom (w : World) (g o : Nat) : List Value → World
  | [] => w
  | v :: vs => setFrom (w.setCell ⟨g, o, none⟩ v) g (o + 1) vs
theorem setFrom_ahead (g : Nat) : ∀ (vs : List Value) (w : World) (o q : Nat), q < o → (setFrom w g o vs).cell? ⟨g, q, none⟩ = w.cell? ⟨g, q, none⟩
  | [], w, o, q, h => rfl
  | v :: vs, w, o, q, h => by
    have ih := setFrom_ahead g vs (w.setCell ⟨g, o, none⟩ v) (o + 1) q (by omega)
    show (setFrom (w.setCell ⟨g, o, none⟩ v) g (o + 1) vs).cell? ⟨g, q, none⟩ = _
    rw [ih, World.cell?_setCell_other _ _ _ _ (fun e => by have := congrArg Addr.off e; simp at this; omega)]
theorem setFrom_read (g : Nat) : ∀ (vs : List Value) (w : World) (o : Nat), (∀ k, k < vs.length → (w.cell? ⟨g, o + k, none⟩).isSome = true) → ∀ (k : Nat) (u : Value), vs[k]? = some u → (setFrom w g o vs).cell? ⟨g, o + k, none⟩ = some u
  | [], w, o, h, k, u, hu => by simp at hu
  | v :: vs, w, o, h, 0, u, hu => by
    obtain ⟨x, hx⟩ := Option.isSome_iff_exists.1 (h 0 (by simp))
    simp at hu
    subst hu
    show (setFrom (w.setCell ⟨g, o, none⟩ v) g (o + 1) vs).cell? ⟨g, o + 0, none⟩ = _
    rw [setFrom_ahead g vs _ _ _ (by omega)]
    exact World.cell?_setCell_same _ _ _ hx
  | v :: vs, w, o, h, k + 1, u, hu => by
    have ih := setFrom_read g vs (w.setCell ⟨g, o, none⟩ v) (o + 1) (fun j hj => some_set (by have := h (j + 1) (by simp; omega); rwa [Nat.add_assoc, Nat.add_comm 1 j])) k u (by simpa using hu)
    rw [Nat.add_assoc, Nat.add_comm 1 k] at ih
    exact ih
theorem setFrom_below {B g : Nat} (hg : B ≤ g) : ∀ (vs : List Value) {a w : World} (o : Nat), Below B a w → Below B a (setFrom w g o vs)
  | [], _, _, _, h => h
  | v :: vs, _, _, o, h => setFrom_below hg vs (o + 1) (h.setCell hg v)
theorem six_read {w : World} {g : Nat} (h : ∀ k, k < 6 → (w.cell? ⟨g, k, none⟩).isSome = true) (a b c d e f : Int) :
    (World.setCell (World.setCell (World.setCell (World.setCell (World.setCell (World.setCell w ⟨g, 0, none⟩ (.int .i64 (a))) ⟨g, 1, none⟩ (.int .i64 (b))) ⟨g, 2, none⟩ (.int .i64 (c))) ⟨g, 3, none⟩ (.int .i64 (d))) ⟨g, 4, none⟩ (.int .i64 (e))) ⟨g, 5, none⟩ (.int .i64 (f))).cell? ⟨g, 0, none⟩ = some (.int .i64 a) ∧ (World.setCell (World.setCell (World.setCell (World.setCell (World.setCell (World.setCell w ⟨g, 0, none⟩ (.int .i64 (a))) ⟨g, 1, none⟩ (.int .i64 (b))) ⟨g, 2, none⟩ (.int .i64 (c))) ⟨g, 3, none⟩ (.int .i64 (d))) ⟨g, 4, none⟩ (.int .i64 (e))) ⟨g, 5, none⟩ (.int .i64 (f))).cell? ⟨g, 1, none⟩ = some (.int .i64 b) ∧ (World.setCell (World.setCell (World.setCell (World.setCell (World.setCell (World.setCell w ⟨g, 0, none⟩ (.int .i64 (a))) ⟨g, 1, none⟩ (.int .i64 (b))) ⟨g, 2, none⟩ (.int .i64 (c))) ⟨g, 3, none⟩ (.int .i64 (d))) ⟨g, 4, none⟩ (.int .i64 (e))) ⟨g, 5, none⟩ (.int .i64 (f))).cell? ⟨g, 2, none⟩ = some (.int .i64 c) ∧ (World.setCell (World.setCell (World.setCell (World.setCell (World.setCell (World.setCell w ⟨g, 0, none⟩ (.int .i64 (a))) ⟨g, 1, none⟩ (.int .i64 (b))) ⟨g, 2, none⟩ (.int .i64 (c))) ⟨g, 3, none⟩ (.int .i64 (d))) ⟨g, 4, none⟩ (.int .i64 (e))) ⟨g, 5, none⟩ (.int .i64 (f))).cell? ⟨g, 3, none⟩ = some (.int .i64 d) ∧ (World.setCell (World.setCell (World.setCell (World.setCell (World.setCell (World.setCell w ⟨g, 0, none⟩ (.int .i64 (a))) ⟨g, 1, none⟩ (.int .i64 (b))) ⟨g, 2, none⟩ (.int .i64 (c))) ⟨g, 3, none⟩ (.int .i64 (d))) ⟨g, 4, none⟩ (.int .i64 (e))) ⟨g, 5, none⟩ (.int .i64 (f))).cell? ⟨g, 4, none⟩ = some (.int .i64 e) ∧ (World.setCell (World.setCell (World.setCell (World.setCell (World.setCell (World.setCell w ⟨g, 0, none⟩ (.int .i64 (a))) ⟨g, 1, none⟩ (.int .i64 (b))) ⟨g, 2, none⟩ (.int .i64 (c))) ⟨g, 3, none⟩ (.int .i64 (d))) ⟨g, 4, none⟩ (.int .i64 (e))) ⟨g, 5, none⟩ (.int .i64 (f))).cell? ⟨g, 5, none⟩ = some (.int .i64 f) := by
  have r := setFrom_read g [.int .i64 a, .int .i64 b, .int .i64 c, .int .i64 d, .int .i64 e, .int .i64 f] w 0 (fun k hk => by rw [Nat.zero_add]; exact h k (by simpa using hk))
  exact ⟨r 0 _ rfl, r 1 _ rfl, r 2 _ rfl, r 3 _ rfl, r 4 _ rfl, r 5 _ rfl⟩
theorem six_below {B g : Nat} {a w : World} (hg : B ≤ g) (h : Below B a w) (x y z u v t : Int) : Below B a (World.setCell (World.setCell (World.setCell (World.setCell (World.setCell (World.setCell w ⟨g, 0, none⟩ (.int .i64 (x))) ⟨g, 1, none⟩ (.int .i64 (y))) ⟨g, 2, none⟩ (.int .i64 (z))) ⟨g, 3, none⟩ (.int .i64 (u))) ⟨g, 4, none⟩ (.int .i64 (v))) ⟨g, 5, none⟩ (.int .i64 (t))) :=
  setFrom_below hg [.int .i64 x, .int .i64 y, .int .i64 z, .int .i64 u, .int .i64 v, .int .i64 t] 0 h
/-- Six zeros, to be written. -/
def Z6 (w : World) (g : Nat) : Prop := g < w.heap.size ∧ (w.cell? ⟨g, 0, none⟩ = some (.int .i64 0) ∧ w.cell? ⟨g, 1, none⟩ = some (.int .i64 0) ∧ w.cell? ⟨g, 2, none⟩ = some (.int .i64 0) ∧ w.cell? ⟨g, 3, none⟩ = some (.int .i64 0) ∧ w.cell? ⟨g, 4, none⟩ = some (.int .i64 0) ∧ w.cell? ⟨g, 5, none⟩ = some (.int .i64 0)) ∧ w.frozen? ⟨g, 0, none⟩ = false ∧ w.frozen? ⟨g, 1, none⟩ = false ∧ w.frozen? ⟨g, 2, none⟩ = false ∧ w.frozen? ⟨g, 3, none⟩ = false ∧ w.frozen? ⟨g, 4, none⟩ = false ∧ w.frozen? ⟨g, 5, none⟩ = false
theorem Z6.on {w w' : World} {g : Nat} (h : Z6 w g) (hb : Below w.heap.size w w') : Z6 w' g := by
  obtain ⟨h1, ⟨c0, c1, c2, c3, c4, c5⟩, f0, f1, f2, f3, f4, f5⟩ := h
  obtain ⟨hc, hf⟩ := bcell hb
  exact ⟨Nat.lt_of_lt_of_le h1 hb.size, ⟨(hc _ _ h1).trans c0, (hc _ _ h1).trans c1, (hc _ _ h1).trans c2, (hc _ _ h1).trans c3, (hc _ _ h1).trans c4, (hc _ _ h1).trans c5⟩, (hf _ _ h1).trans f0, (hf _ _ h1).trans f1, (hf _ _ h1).trans f2, (hf _ _ h1).trans f3, (hf _ _ h1).trans f4, (hf _ _ h1).trans f5⟩
theorem Z6.new (w : World) (t : TypeId) : Z6 (w.alloc (.cells #[.int .i64 0, .int .i64 0, .int .i64 0, .int .i64 0, .int .i64 0, .int .i64 0] t)) w.heap.size := by
  refine ⟨by simp, ⟨by simp, by simp, by simp, by simp, by simp, by simp⟩, by simp, by simp, by simp, by simp, by simp, by simp⟩
theorem Z6.al {w : World} {g : Nat} (h : Z6 w g) (o : Obj) : Z6 (w.alloc o) g := h.on ((Below.refl _ _).alloc (Nat.le_refl _) _)
theorem z6_read {w : World} {g : Nat} (h : Z6 w g) (a b c d e f : Int) :
    (World.setCell (World.setCell (World.setCell (World.setCell (World.setCell (World.setCell w ⟨g, 0, none⟩ (.int .i64 (a))) ⟨g, 1, none⟩ (.int .i64 (b))) ⟨g, 2, none⟩ (.int .i64 (c))) ⟨g, 3, none⟩ (.int .i64 (d))) ⟨g, 4, none⟩ (.int .i64 (e))) ⟨g, 5, none⟩ (.int .i64 (f))).cell? ⟨g, 0, none⟩ = some (.int .i64 a) ∧ (World.setCell (World.setCell (World.setCell (World.setCell (World.setCell (World.setCell w ⟨g, 0, none⟩ (.int .i64 (a))) ⟨g, 1, none⟩ (.int .i64 (b))) ⟨g, 2, none⟩ (.int .i64 (c))) ⟨g, 3, none⟩ (.int .i64 (d))) ⟨g, 4, none⟩ (.int .i64 (e))) ⟨g, 5, none⟩ (.int .i64 (f))).cell? ⟨g, 1, none⟩ = some (.int .i64 b) ∧ (World.setCell (World.setCell (World.setCell (World.setCell (World.setCell (World.setCell w ⟨g, 0, none⟩ (.int .i64 (a))) ⟨g, 1, none⟩ (.int .i64 (b))) ⟨g, 2, none⟩ (.int .i64 (c))) ⟨g, 3, none⟩ (.int .i64 (d))) ⟨g, 4, none⟩ (.int .i64 (e))) ⟨g, 5, none⟩ (.int .i64 (f))).cell? ⟨g, 2, none⟩ = some (.int .i64 c) ∧ (World.setCell (World.setCell (World.setCell (World.setCell (World.setCell (World.setCell w ⟨g, 0, none⟩ (.int .i64 (a))) ⟨g, 1, none⟩ (.int .i64 (b))) ⟨g, 2, none⟩ (.int .i64 (c))) ⟨g, 3, none⟩ (.int .i64 (d))) ⟨g, 4, none⟩ (.int .i64 (e))) ⟨g, 5, none⟩ (.int .i64 (f))).cell? ⟨g, 3, none⟩ = some (.int .i64 d) ∧ (World.setCell (World.setCell (World.setCell (World.setCell (World.setCell (World.setCell w ⟨g, 0, none⟩ (.int .i64 (a))) ⟨g, 1, none⟩ (.int .i64 (b))) ⟨g, 2, none⟩ (.int .i64 (c))) ⟨g, 3, none⟩ (.int .i64 (d))) ⟨g, 4, none⟩ (.int .i64 (e))) ⟨g, 5, none⟩ (.int .i64 (f))).cell? ⟨g, 4, none⟩ = some (.int .i64 e) ∧ (World.setCell (World.setCell (World.setCell (World.setCell (World.setCell (World.setCell w ⟨g, 0, none⟩ (.int .i64 (a))) ⟨g, 1, none⟩ (.int .i64 (b))) ⟨g, 2, none⟩ (.int .i64 (c))) ⟨g, 3, none⟩ (.int .i64 (d))) ⟨g, 4, none⟩ (.int .i64 (e))) ⟨g, 5, none⟩ (.int .i64 (f))).cell? ⟨g, 5, none⟩ = some (.int .i64 f) := by
  obtain ⟨_, ⟨c0, c1, c2, c3, c4, c5⟩, _⟩ := h
  refine six_read (fun k hk => ?_) a b c d e f
  match k, hk with
  | 0, _ => rw [c0]; rfl
  | 1, _ => rw [c1]; rfl
  | 2, _ => rw [c2]; rfl
  | 3, _ => rw [c3]; rfl
  | 4, _ => rw [c4]; rfl
  | 5, _ => rw [c5]; rfl
theorem z6_lt {w : World} {g : Nat} (h : Z6 w g) (a b c d e f : Int) : g < (World.setCell (World.setCell (World.setCell (World.setCell (World.setCell (World.setCell w ⟨g, 0, none⟩ (.int .i64 (a))) ⟨g, 1, none⟩ (.int .i64 (b))) ⟨g, 2, none⟩ (.int .i64 (c))) ⟨g, 3, none⟩ (.int .i64 (d))) ⟨g, 4, none⟩ (.int .i64 (e))) ⟨g, 5, none⟩ (.int .i64 (f))).heap.size := by simpa using h.1
/-- What a text of a leading line gives. -/
def rlA (l : List UInt8) (k : Nat) : List UInt8 := (splitL 32 l).getD k []
def rlOk (l : List UInt8) : Bool := decide ((splitL 32 l).length = 4) && (rpOk (rlA l 0) && (rpOk (rlA l 1) && (numOk (rlA l 2) && (numOk (rlA l 3) && vLead (rpX (rlA l 0)) (rpY (rlA l 0)) (rpX (rlA l 1)) (rpY (rlA l 1)) (rdV (ba (rlA l 2))) (rdV (ba (rlA l 3)))))))
def rl (l : List UInt8) (v : Int) : Int := if rlOk l then v else 0
theorem rl_no {l : List UInt8} (h : rlOk l = false) : ∀ v, rl l v = 0 := fun v => by unfold rl; rw [h]; rfl
theorem rl_yes {l : List UInt8} (h : rlOk l = true) : ∀ v, rl l v = v := fun v => by unfold rl; rw [h]; rfl
theorem four_of {S : List (List UInt8)} (h : S.length = 4) : ∃ a b c d, S = [a, b, c, d] := by
  rcases S with _ | ⟨a, _ | ⟨b, _ | ⟨c, _ | ⟨d, _ | ⟨e, t⟩⟩⟩⟩⟩ <;> simp at h
  exact ⟨a, b, c, d, rfl⟩
theorem rl_four {l a b c d : List UInt8} (h : splitL 32 l = [a, b, c, d]) : rlA l 0 = a ∧ rlA l 1 = b ∧ rlA l 2 = c ∧ rlA l 3 = d := by
  unfold rlA
  rw [h]
  exact ⟨rfl, rfl, rfl, rfl⟩
theorem spec_RPtL (l : List UInt8) (hs : l.length ≤ 1048576) (w : World) : Calls Tryd.prog 48 #[.string (ba l)] w fun e w' => e = .returned (.tuple #[.agg #[.int .i64 (rpX (l)), .int .i64 (rpY (l))], .bool (rpOk (l))]) ∧ Below w.heap.size w w' := spec_RPt (ba l) (by rw [ba_size]; exact hs) w
theorem spec_NumL (l : List UInt8) (hs : l.length ≤ 1048576) (w : World) : Calls Tryd.prog 49 #[.string (ba l)] w fun e w' => e = .returned (.tuple #[.int .i64 (rdV (ba l)), .bool (numOk l)]) ∧ w = w' := spec_Num (ba l) (by rw [ba_size]; omega) w
theorem wp_at {P : Program} {c : Code} {Q : Exit → Act → World → Prop} {a : Act} {W : World} (h : ∀ wf, wf = W → Code.wp P c Q a wf) : Code.wp P c Q a W := h W rfl
set_option maxHeartbeats 800000 in
theorem spec_RLead (s : ByteArray) (hs : s.size ≤ 1048576) (w : World) : Calls Tryd.prog 43 #[.string s] w fun e w' => e = .returned (.tuple #[.agg #[.int .i64 (rl (s.data.toList) (rpX (rlA (s.data.toList) 0))), .int .i64 (rl (s.data.toList) (rpY (rlA (s.data.toList) 0))), .int .i64 (rl (s.data.toList) (rpX (rlA (s.data.toList) 1))), .int .i64 (rl (s.data.toList) (rpY (rlA (s.data.toList) 1))), .int .i64 (rl (s.data.toList) (rdV (ba (rlA (s.data.toList) 2)))), .int .i64 (rl (s.data.toList) (rdV (ba (rlA (s.data.toList) 3))))], .bool (rlOk (s.data.toList))]) ∧ Below w.heap.size w w' := by
  obtain ⟨L, hL⟩ : ∃ L, s.data.toList = L := ⟨_, rfl⟩
  have hsz : s.size = L.length := by rw [← hL]; exact (Array.length_toList).symm
  obtain ⟨S, hS⟩ : ∃ S, splitL 32 L = S := ⟨_, rfl⟩
  have hS' := Lib.hid hS
  by_cases h4 : S.length = 4
  · obtain ⟨a, b, c, d, rfl⟩ := four_of h4
    have hsa : a.length ≤ 1048576 := by have := part_len 32 L a (by rw [hS]; simp); omega
    have hsb : b.length ≤ 1048576 := by have := part_len 32 L b (by rw [hS]; simp); omega
    have hsc : c.length ≤ 1048576 := by have := part_len 32 L c (by rw [hS]; simp); omega
    have hsd : d.length ≤ 1048576 := by have := part_len 32 L d (by rw [hS]; simp); omega
    obtain ⟨e0, e1, e2, e3⟩ := rl_four hS
    have hrl : Hid (rlOk L = (rpOk a && (rpOk b && (numOk c && (numOk d && vLead (rpX a) (rpY a) (rpX b) (rpY b) (rdV (ba c)) (rdV (ba d))))))) := Lib.hid (by unfold rlOk; rw [hS, e0, e1, e2, e3]; rfl)
    rw [hL, e0, e1, e2, e3]
    clear e0 e1 e2 e3 hS h4 hsz
    go_enter Tryd.func43, Tryd.ntmps43
    go_wp2_with fail
    refine (spec_Split s hs 32 (by omega) _).mono ?_
    rintro e w1 ⟨A, cc, rfl, hA, hb1⟩
    rw [hL, show UInt8.ofNat 32 = 32 from rfl, hS'.out] at hA ⊢
    have hlen : ([a, b, c, d] : List (List UInt8)).length = 4 := rfl
    rw [hlen]
    have hB1 := bnext (w := w) (by go_grown) hb1
    have hZ1 := (Z6.new w 36).on hb1
    obtain ⟨g, o, rfl, hg, hcc⟩ := hA (by simp [partsV])
    have d0 : w1.cell? ⟨g, o, none⟩ = some (.string (ba a)) := by have := hcc 0 _ rfl; simpa using this
    have d1 : w1.cell? ⟨g, o + 1, none⟩ = some (.string (ba b)) := by have := hcc 1 _ rfl; simpa using this
    have d2 : w1.cell? ⟨g, o + 2, none⟩ = some (.string (ba c)) := by have := hcc 2 _ rfl; simpa using this
    have d3 : w1.cell? ⟨g, o + 3, none⟩ = some (.string (ba d)) := by have := hcc 3 _ rfl; simpa using this
    clear hcc hA hb1
    go_wp2_with fail
    refine (spec_RPtL a hsa _).mono ?_
    rintro e w2 ⟨rfl, hb2⟩
    have hB2 := bnext hB1 hb2
    have hZ2 := hZ1.on hb2
    have hg2 : g < w2.heap.size := Nat.lt_of_lt_of_le hg hb2.size
    have e1 := cell_on hb2 d1
    have e2 := cell_on hb2 d2
    have e3 := cell_on hb2 d3
    clear hb2 d0 d1 d2 d3 hg hZ1 hB1
    go_wp2_with fail
    refine (spec_RPtL b hsb _).mono ?_
    rintro e w3 ⟨rfl, hb3⟩
    have hB3 := bnext (hB2.alloc hB2.size (.cells #[.int .i64 (rpX a), .int .i64 (rpY a)] 34)) hb3
    have hZ3 := (hZ2.al (.cells #[.int .i64 (rpX a), .int .i64 (rpY a)] 34)).on hb3
    have hz3 := hb3.size
    rw [World.size_alloc] at hz3
    have hg3 : g < w3.heap.size := by omega
    have p0 : w3.cell? ⟨w2.heap.size, 0, none⟩ = some (.int .i64 (rpX a)) := cell_on hb3 (by simp)
    have p1 : w3.cell? ⟨w2.heap.size, 1, none⟩ = some (.int .i64 (rpY a)) := cell_on hb3 (by simp)
    have k2 := cell_on hb3 (cell_al e2)
    have k3 := cell_on hb3 (cell_al e3)
    have hp3 : w2.heap.size < w3.heap.size := by omega
    clear hb3 e1 e2 e3 hg2 hZ2 hB2
    go_wp2_with fail
    refine (spec_NumL c hsc _).mono ?_
    rintro e w' ⟨rfl, rfl⟩
    go_wp2_with fail
    refine (spec_NumL d hsd _).mono ?_
    rintro e w' ⟨rfl, rfl⟩
    go_upto_region 9 with fail
    refine wp_at ?_
    intro wx hwx
    have hZx : Z6 wx w.heap.size := by rw [hwx]; exact (hZ3.al _).al _
    have hBx : Below w.heap.size w wx := by rw [hwx]; exact (hB3.alloc hB3.size _).alloc (by rw [World.size_alloc]; have := hB3.size; omega) _
    obtain ⟨nl, hnl⟩ : ∃ n, w3.heap.size + 1 = n := ⟨_, rfl⟩
    have l0 : wx.cell? ⟨nl, 0, none⟩ = some (.int .i64 (rpX a)) := by rw [hwx, ← hnl]; simp
    have l1 : wx.cell? ⟨nl, 1, none⟩ = some (.int .i64 (rpY a)) := by rw [hwx, ← hnl]; simp
    have l2 : wx.cell? ⟨nl, 2, none⟩ = some (.int .i64 (rpX b)) := by rw [hwx, ← hnl]; simp
    have l3 : wx.cell? ⟨nl, 3, none⟩ = some (.int .i64 (rpY b)) := by rw [hwx, ← hnl]; simp
    have l4 : wx.cell? ⟨nl, 4, none⟩ = some (.int .i64 (rdV (ba c))) := by rw [hwx, ← hnl]; simp
    have l5 : wx.cell? ⟨nl, 5, none⟩ = some (.int .i64 (rdV (ba d))) := by rw [hwx, ← hnl]; simp
    have hlx : nl < wx.heap.size := by rw [hwx, ← hnl]; simp
    rw [hnl]
    clear hwx hnl hZ3 hB3 p0 p1 k2 k3 hp3 hg3 hz3
    cases h1 : rpOk a
    · have hK : Hid (rlOk L = false) := Lib.hid (by rw [hrl.out] <;> simp [*])
      have hV := Lib.hid (rl_no hK.out)
      obtain ⟨zl, ⟨z0, z1, z2, z3, z4, z5⟩, y0, y1, y2, y3, y4, y5⟩ := id hZx
      go_wp2
      refine end_at ?_
      intro wf hwf
      obtain ⟨t0, t1, t2, t3, t4, t5⟩ : wf.cell? ⟨w.heap.size, 0, none⟩ = some (.int .i64 (0)) ∧ wf.cell? ⟨w.heap.size, 1, none⟩ = some (.int .i64 (0)) ∧ wf.cell? ⟨w.heap.size, 2, none⟩ = some (.int .i64 (0)) ∧ wf.cell? ⟨w.heap.size, 3, none⟩ = some (.int .i64 (0)) ∧ wf.cell? ⟨w.heap.size, 4, none⟩ = some (.int .i64 (0)) ∧ wf.cell? ⟨w.heap.size, 5, none⟩ = some (.int .i64 (0)) := by rw [hwf]; exact z6_read hZx _ _ _ _ _ _
      have hBf : Below w.heap.size w wf := by rw [hwf]; exact six_below (Nat.le_refl w.heap.size) hBx _ _ _ _ _ _
      clear hwf
      refine bodyPost_ret (by simp [results, Tryd.results43, go_sem, t0, t1, t2, t3, t4, t5]; try rfl) rfl ?_
      exact ⟨by rw [hV.out, hV.out, hV.out, hV.out, hV.out, hV.out, hK.out] <;> rfl, hBf⟩
    cases h2 : rpOk b
    · have hK : Hid (rlOk L = false) := Lib.hid (by rw [hrl.out] <;> simp [*])
      have hV := Lib.hid (rl_no hK.out)
      obtain ⟨zl, ⟨z0, z1, z2, z3, z4, z5⟩, y0, y1, y2, y3, y4, y5⟩ := id hZx
      go_wp2
      refine end_at ?_
      intro wf hwf
      obtain ⟨t0, t1, t2, t3, t4, t5⟩ : wf.cell? ⟨w.heap.size, 0, none⟩ = some (.int .i64 (0)) ∧ wf.cell? ⟨w.heap.size, 1, none⟩ = some (.int .i64 (0)) ∧ wf.cell? ⟨w.heap.size, 2, none⟩ = some (.int .i64 (0)) ∧ wf.cell? ⟨w.heap.size, 3, none⟩ = some (.int .i64 (0)) ∧ wf.cell? ⟨w.heap.size, 4, none⟩ = some (.int .i64 (0)) ∧ wf.cell? ⟨w.heap.size, 5, none⟩ = some (.int .i64 (0)) := by rw [hwf]; exact z6_read hZx _ _ _ _ _ _
      have hBf : Below w.heap.size w wf := by rw [hwf]; exact six_below (Nat.le_refl w.heap.size) hBx _ _ _ _ _ _
      clear hwf
      refine bodyPost_ret (by simp [results, Tryd.results43, go_sem, t0, t1, t2, t3, t4, t5]; try rfl) rfl ?_
      exact ⟨by rw [hV.out, hV.out, hV.out, hV.out, hV.out, hV.out, hK.out] <;> rfl, hBf⟩
    cases h3 : numOk c
    · have hK : Hid (rlOk L = false) := Lib.hid (by rw [hrl.out] <;> simp [*])
      have hV := Lib.hid (rl_no hK.out)
      obtain ⟨zl, ⟨z0, z1, z2, z3, z4, z5⟩, y0, y1, y2, y3, y4, y5⟩ := id hZx
      go_wp2
      refine end_at ?_
      intro wf hwf
      obtain ⟨t0, t1, t2, t3, t4, t5⟩ : wf.cell? ⟨w.heap.size, 0, none⟩ = some (.int .i64 (0)) ∧ wf.cell? ⟨w.heap.size, 1, none⟩ = some (.int .i64 (0)) ∧ wf.cell? ⟨w.heap.size, 2, none⟩ = some (.int .i64 (0)) ∧ wf.cell? ⟨w.heap.size, 3, none⟩ = some (.int .i64 (0)) ∧ wf.cell? ⟨w.heap.size, 4, none⟩ = some (.int .i64 (0)) ∧ wf.cell? ⟨w.heap.size, 5, none⟩ = some (.int .i64 (0)) := by rw [hwf]; exact z6_read hZx _ _ _ _ _ _
      have hBf : Below w.heap.size w wf := by rw [hwf]; exact six_below (Nat.le_refl w.heap.size) hBx _ _ _ _ _ _
      clear hwf
      refine bodyPost_ret (by simp [results, Tryd.results43, go_sem, t0, t1, t2, t3, t4, t5]; try rfl) rfl ?_
      exact ⟨by rw [hV.out, hV.out, hV.out, hV.out, hV.out, hV.out, hK.out] <;> rfl, hBf⟩
    cases h5 : numOk d
    · have hK : Hid (rlOk L = false) := Lib.hid (by rw [hrl.out] <;> simp [*])
      have hV := Lib.hid (rl_no hK.out)
      obtain ⟨zl, ⟨z0, z1, z2, z3, z4, z5⟩, y0, y1, y2, y3, y4, y5⟩ := id hZx
      go_wp2
      refine end_at ?_
      intro wf hwf
      obtain ⟨t0, t1, t2, t3, t4, t5⟩ : wf.cell? ⟨w.heap.size, 0, none⟩ = some (.int .i64 (0)) ∧ wf.cell? ⟨w.heap.size, 1, none⟩ = some (.int .i64 (0)) ∧ wf.cell? ⟨w.heap.size, 2, none⟩ = some (.int .i64 (0)) ∧ wf.cell? ⟨w.heap.size, 3, none⟩ = some (.int .i64 (0)) ∧ wf.cell? ⟨w.heap.size, 4, none⟩ = some (.int .i64 (0)) ∧ wf.cell? ⟨w.heap.size, 5, none⟩ = some (.int .i64 (0)) := by rw [hwf]; exact z6_read hZx _ _ _ _ _ _
      have hBf : Below w.heap.size w wf := by rw [hwf]; exact six_below (Nat.le_refl w.heap.size) hBx _ _ _ _ _ _
      clear hwf
      refine bodyPost_ret (by simp [results, Tryd.results43, go_sem, t0, t1, t2, t3, t4, t5]; try rfl) rfl ?_
      exact ⟨by rw [hV.out, hV.out, hV.out, hV.out, hV.out, hV.out, hK.out] <;> rfl, hBf⟩
    go_wp2_with fail
    refine (spec_l15Ok (rpX a) (rpY a) (rpX b) (rpY b) (rdV (ba c)) (rdV (ba d)) nl _ hlx l0 l1 l2 l3 l4 l5).mono ?_
    rintro e w4 ⟨rfl, hb4⟩
    have hB4 := bnext hBx hb4
    have hZ4 := hZx.on hb4
    have m0 := cell_on hb4 l0
    have m1 := cell_on hb4 l1
    have m2 := cell_on hb4 l2
    have m3 := cell_on hb4 l3
    have m4 := cell_on hb4 l4
    have m5 := cell_on hb4 l5
    have hl4 : nl < w4.heap.size := Nat.lt_of_lt_of_le hlx hb4.size
    clear hb4 hBx hZx l0 l1 l2 l3 l4 l5 hlx
    cases hv : vLead (rpX a) (rpY a) (rpX b) (rpY b) (rdV (ba c)) (rdV (ba d))
    · have hK : Hid (rlOk L = false) := Lib.hid (by rw [hrl.out] <;> simp [*])
      have hV := Lib.hid (rl_no hK.out)
      obtain ⟨zl, ⟨z0, z1, z2, z3, z4, z5⟩, y0, y1, y2, y3, y4, y5⟩ := id hZ4
      go_wp2
      refine end_at ?_
      intro wf hwf
      obtain ⟨t0, t1, t2, t3, t4, t5⟩ : wf.cell? ⟨w.heap.size, 0, none⟩ = some (.int .i64 (0)) ∧ wf.cell? ⟨w.heap.size, 1, none⟩ = some (.int .i64 (0)) ∧ wf.cell? ⟨w.heap.size, 2, none⟩ = some (.int .i64 (0)) ∧ wf.cell? ⟨w.heap.size, 3, none⟩ = some (.int .i64 (0)) ∧ wf.cell? ⟨w.heap.size, 4, none⟩ = some (.int .i64 (0)) ∧ wf.cell? ⟨w.heap.size, 5, none⟩ = some (.int .i64 (0)) := by rw [hwf]; exact z6_read hZ4 _ _ _ _ _ _
      have hBf : Below w.heap.size w wf := by rw [hwf]; exact six_below (Nat.le_refl w.heap.size) hB4 _ _ _ _ _ _
      clear hwf
      refine bodyPost_ret (by simp [results, Tryd.results43, go_sem, t0, t1, t2, t3, t4, t5]; try rfl) rfl ?_
      exact ⟨by rw [hV.out, hV.out, hV.out, hV.out, hV.out, hV.out, hK.out] <;> rfl, hBf⟩
    · have hK : Hid (rlOk L = true) := Lib.hid (by rw [hrl.out] <;> simp [*])
      have hV := Lib.hid (rl_yes hK.out)
      obtain ⟨zl, ⟨z0, z1, z2, z3, z4, z5⟩, y0, y1, y2, y3, y4, y5⟩ := id hZ4
      go_wp2
      refine end_at ?_
      intro wf hwf
      obtain ⟨t0, t1, t2, t3, t4, t5⟩ : wf.cell? ⟨w.heap.size, 0, none⟩ = some (.int .i64 (rpX a)) ∧ wf.cell? ⟨w.heap.size, 1, none⟩ = some (.int .i64 (rpY a)) ∧ wf.cell? ⟨w.heap.size, 2, none⟩ = some (.int .i64 (rpX b)) ∧ wf.cell? ⟨w.heap.size, 3, none⟩ = some (.int .i64 (rpY b)) ∧ wf.cell? ⟨w.heap.size, 4, none⟩ = some (.int .i64 (rdV (ba c))) ∧ wf.cell? ⟨w.heap.size, 5, none⟩ = some (.int .i64 (rdV (ba d))) := by rw [hwf]; exact z6_read hZ4 _ _ _ _ _ _
      have hBf : Below w.heap.size w wf := by rw [hwf]; exact six_below (Nat.le_refl w.heap.size) hB4 _ _ _ _ _ _
      clear hwf
      refine bodyPost_ret (by simp [results, Tryd.results43, go_sem, t0, t1, t2, t3, t4, t5]; try rfl) rfl ?_
      exact ⟨by rw [hV.out, hV.out, hV.out, hV.out, hV.out, hV.out, hK.out] <;> rfl, hBf⟩
  · have hrl : Hid (rlOk L = false) := Lib.hid (by unfold rlOk; rw [hS, decide_eq_false h4] <;> rfl)
    have h4' : ((S.length : Int) != 4) = true := by first | (simp; done) | (simp; omega)
    rw [hL]
    clear hS hsz
    go_enter Tryd.func43, Tryd.ntmps43
    go_wp2_with fail
    refine (spec_Split s hs 32 (by omega) _).mono ?_
    rintro e w1 ⟨A, cc, rfl, hA, hb1⟩
    rw [hL, show UInt8.ofNat 32 = 32 from rfl, hS'.out]
    have hB1 := bnext (w := w) (by go_grown) hb1
    have hZ1 := (Z6.new w 36).on hb1
    clear hA hb1
    have hK : Hid (rlOk L = false) := Lib.hid (by rw [hrl.out] <;> simp [*])
    have hV := Lib.hid (rl_no hK.out)
    obtain ⟨zl, ⟨z0, z1, z2, z3, z4, z5⟩, y0, y1, y2, y3, y4, y5⟩ := id hZ1
    go_wp2
    refine end_at ?_
    intro wf hwf
    obtain ⟨t0, t1, t2, t3, t4, t5⟩ : wf.cell? ⟨w.heap.size, 0, none⟩ = some (.int .i64 (0)) ∧ wf.cell? ⟨w.heap.size, 1, none⟩ = some (.int .i64 (0)) ∧ wf.cell? ⟨w.heap.size, 2, none⟩ = some (.int .i64 (0)) ∧ wf.cell? ⟨w.heap.size, 3, none⟩ = some (.int .i64 (0)) ∧ wf.cell? ⟨w.heap.size, 4, none⟩ = some (.int .i64 (0)) ∧ wf.cell? ⟨w.heap.size, 5, none⟩ = some (.int .i64 (0)) := by rw [hwf]; exact z6_read hZ1 _ _ _ _ _ _
    have hBf : Below w.heap.size w wf := by rw [hwf]; exact six_below (Nat.le_refl w.heap.size) hB1 _ _ _ _ _ _
    clear hwf
    refine bodyPost_ret (by simp [results, Tryd.results43, go_sem, t0, t1, t2, t3, t4, t5]; try rfl) rfl ?_
    exact ⟨by rw [hV.out, hV.out, hV.out, hV.out, hV.out, hV.out, hK.out] <;> rfl, hBf⟩
theorem impl_RPtL (l : List UInt8) (hs : l.length ≤ 1048576) (w : World) (hE : Env w) : Calls Tryd.prog 44 #[.string (ba l)] w fun e w' => e = .returned (.tuple #[.agg #[.int .i64 (rpX (l)), .int .i64 (rpY (l))], .bool (rpOk (l))]) ∧ Below w.heap.size w w' := impl_RPt (ba l) (by rw [ba_size]; exact hs) w hE
theorem impl_NumL (l : List UInt8) (hs : l.length ≤ 1048576) (w : World) (hE : Env w) : Calls Tryd.prog 30 #[.string (ba l)] w fun e w' => e = .returned (.tuple #[.int .i64 (rdV (ba l)), .bool (numOk l)]) ∧ Below w.heap.size w w' := impl_RDec (ba l) (by rw [ba_size]; omega) w hE
theorem mem_full {S : List (List UInt8)} {p : List UInt8} (h : p ∈ S.filter full) : p ∈ S := (List.mem_filter.1 h).1
theorem ptT_of {l : List UInt8} (h : rpOk l = true) : ptT (rpX l) (rpY l) = ba l := by
  have h' := h
  unfold rpOk at h'
  rw [Bool.and_eq_true, Bool.and_eq_true] at h'
  have e1 : rpX l = numV (cutA l) := by unfold rpX; rw [h]; rfl
  have e2 : rpY l = numV (cutB l) := by unfold rpY; rw [h]; rfl
  rw [e1, e2]
  have n1 := num_itoa h'.1
  have n2 := num_itoa h'.2.1
  apply ByteArray.ext
  apply Array.toList_inj.1
  unfold ptT decT
  rw [n1, n2]
  simp only [ByteArray.data_append, Array.toList_append]
  show cutA l ++ [44] ++ cutB l = l
  rcases cut_one l with ⟨_, _, h3⟩ | ⟨i, hi, hl, h2, h3⟩
  · rw [h3] at h'; cases h'.2.1
  · rw [h2, h3]
    have hg : l[i] = 44 := by
      have := split_some hi
      have hj := split_join 44 l
      rw [this, Lib.join_cons] at hj
      cases hq : splitL 44 (l.drop (i + 1)) with
      | nil => exact absurd hq (split_ne _ _)
      | cons x t =>
        rw [hq] at hj
        simp only [Lib.joinTail, List.map_cons, List.flatten_cons] at hj
        have h5 := congrArg (fun z => z[i]?) hj
        rw [List.getElem?_append_right (by rw [List.length_take]; omega), List.length_take, Nat.min_eq_left (by omega), Nat.sub_self, List.getElem?_eq_getElem hl] at h5
        simpa using h5.symm
    conv => rhs; rw [← List.take_append_drop i l, List.drop_eq_getElem_cons hl, hg]
    simp
theorem decT_of {l : List UInt8} (h : numOk l = true) : decT (rdV (ba l)) = ba l := by
  have e1 : rdV (ba l) = numV l := by unfold rdV; rw [ba_list, h]; rfl
  rw [e1]
  unfold decT
  rw [num_itoa h]
  rfl
theorem rp_free {l : List UInt8} (h : rpOk l = true) : (32 : UInt8) ∉ l ∧ l ≠ [] := by
  have h' := h
  unfold rpOk at h'
  rw [Bool.and_eq_true, Bool.and_eq_true] at h'
  have f1 := num_free h'.1 32 (by decide) (by decide)
  have f2 := num_free h'.2.1 32 (by decide) (by decide)
  have e := congrArg (fun z => z.data.toList) (ptT_of h)
  have e1 : rpX l = numV (cutA l) := by unfold rpX; rw [h]; rfl
  have e2 : rpY l = numV (cutB l) := by unfold rpY; rw [h]; rfl
  rw [e1, e2] at e
  have e3 : l = cutA l ++ [44] ++ cutB l := by
    have n1 := num_itoa h'.1
    have n2 := num_itoa h'.2.1
    unfold ptT decT at e
    rw [n1, n2] at e
    simp only [ByteArray.data_append, Array.toList_append] at e
    exact e.symm
  constructor
  · rw [e3]
    simp only [List.mem_append, List.mem_singleton]
    rintro ((h | h) | h)
    · exact f1 h
    · cases h
    · exact f2 h
  · intro e4; rw [e4] at e3; simp at e3
theorem num_free2 {l : List UInt8} (h : numOk l = true) : (32 : UInt8) ∉ l ∧ l ≠ [] := by
  refine ⟨num_free h 32 (by decide) (by decide), ?_⟩
  rintro rfl
  cases h
theorem leadT_of {a b c d : List UInt8} (h1 : rpOk a = true) (h2 : rpOk b = true) (h3 : numOk c = true) (h4 : numOk d = true) : (leadT (rpX a) (rpY a) (rpX b) (rpY b) (rdV (ba c)) (rdV (ba d))).data.toList = a ++ 32 :: (b ++ 32 :: (c ++ 32 :: d)) := by
  unfold leadT
  rw [ptT_of h1, ptT_of h2, decT_of h3, decT_of h4]
  simp only [ByteArray.data_append, Array.toList_append]
  show (((((a ++ [32]) ++ b) ++ [32]) ++ c) ++ [32]) ++ d = _
  simp
theorem split_four {a b c d : List UInt8} (h1 : (32 : UInt8) ∉ a) (h2 : (32 : UInt8) ∉ b) (h3 : (32 : UInt8) ∉ c) (h4 : (32 : UInt8) ∉ d) : splitL 32 (a ++ 32 :: (b ++ 32 :: (c ++ 32 :: d))) = [a, b, c, d] := by
  rw [split_app _ h1, split_app _ h2, split_app _ h3, split_free h4]
/-- The words are the parts, where the reference reads. -/
theorem rl_words {L : List UInt8} (h : rlOk L = true) : wordsL L = splitL 32 L ∧ ∃ a b c d, splitL 32 L = [a, b, c, d] ∧ rpOk a = true ∧ rpOk b = true ∧ numOk c = true ∧ numOk d = true ∧ vLead (rpX a) (rpY a) (rpX b) (rpY b) (rdV (ba c)) (rdV (ba d)) = true := by
  have h' := h
  unfold rlOk at h'
  rw [Bool.and_eq_true] at h'
  obtain ⟨h4, h'⟩ := h'
  obtain ⟨a, b, c, d, hS⟩ := four_of (of_decide_eq_true h4)
  obtain ⟨e0, e1, e2, e3⟩ := rl_four hS
  rw [e0, e1, e2, e3] at h'
  simp only [Bool.and_eq_true] at h'
  obtain ⟨k1, k2, k3, k4, k5⟩ := h'
  refine ⟨words_all ?_, a, b, c, d, hS, k1, k2, k3, k4, k5⟩
  rw [hS]
  intro p hp
  simp only [List.mem_cons, List.not_mem_nil, or_false] at hp
  rcases hp with rfl | rfl | rfl | rfl
  · exact (rp_free k1).2
  · exact (rp_free k2).2
  · exact (num_free2 k3).2
  · exact (num_free2 k4).2
/-- What the program reads of its four words. -/
theorem rl_impl {L a b c d : List UInt8} (hW : wordsL L = [a, b, c, d]) (hn : rpOk a = true → rpOk b = true → numOk c = true → numOk d = true → vLead (rpX a) (rpY a) (rpX b) (rpY b) (rdV (ba c)) (rdV (ba d)) = true → (leadT (rpX a) (rpY a) (rpX b) (rpY b) (rdV (ba c)) (rdV (ba d))).data.toList ≠ L) : rlOk L = false := by
  rw [← Bool.not_eq_true]
  intro h
  obtain ⟨hw, a', b', c', d', hS, k1, k2, k3, k4, k5⟩ := rl_words h
  rw [hw, hS] at hW
  injection hW with x1 hW
  injection hW with x2 hW
  injection hW with x3 hW
  injection hW with x4 _
  subst x1 x2 x3 x4
  refine hn k1 k2 k3 k4 k5 ?_
  rw [leadT_of k1 k2 k3 k4]
  have hj := split_join 32 L
  rw [hS, Lib.join_cons] at hj
  rw [← hj]
  simp [Lib.joinTail]
theorem rl_good {L a b c d : List UInt8} (k1 : rpOk a = true) (k2 : rpOk b = true) (k3 : numOk c = true) (k4 : numOk d = true) (k5 : vLead (rpX a) (rpY a) (rpX b) (rpY b) (rdV (ba c)) (rdV (ba d)) = true) (hL : (leadT (rpX a) (rpY a) (rpX b) (rpY b) (rdV (ba c)) (rdV (ba d))).data.toList = L) : rlOk L = true ∧ rlA L 0 = a ∧ rlA L 1 = b ∧ rlA L 2 = c ∧ rlA L 3 = d := by
  rw [leadT_of k1 k2 k3 k4] at hL
  have hS := split_four (rp_free k1).1 (rp_free k2).1 (num_free2 k3).1 (num_free2 k4).1
  rw [hL] at hS
  obtain ⟨e0, e1, e2, e3⟩ := rl_four hS
  refine ⟨?_, e0, e1, e2, e3⟩
  unfold rlOk
  rw [hS, e0, e1, e2, e3, k1, k2, k3, k4, k5]
  rfl
theorem rp_zero {l : List UInt8} : (-1000000000000000000 < rpX l ∧ rpX l < 1000000000000000000) ∧ -1000000000000000000 < rpY l ∧ rpY l < 1000000000000000000 := by
  cases h : rpOk l
  · have hx : rpX l = 0 := by unfold rpX; rw [h]; rfl
    have hy : rpY l = 0 := by unfold rpY; rw [h]; rfl
    rw [hx, hy]
    omega
  · have h' := h
    unfold rpOk at h'
    rw [Bool.and_eq_true, Bool.and_eq_true] at h'
    have e1 : rpX l = numV (cutA l) := by unfold rpX; rw [h]; rfl
    have e2 : rpY l = numV (cutB l) := by unfold rpY; rw [h]; rfl
    rw [e1, e2]
    exact ⟨numV_small h'.1, numV_small h'.2.1⟩
theorem rd_zero {l : List UInt8} : -1000000000000000000 < rdV (ba l) ∧ rdV (ba l) < 1000000000000000000 := by
  unfold rdV
  rw [ba_list]
  split
  · rename_i h
    exact numV_small h
  · omega
theorem has_of {n : Int} (h : -1000000000000000000 < n ∧ n < 1000000000000000000) : IntKind.i64.has n := by
  simp [IntKind.has, IntKind.min, IntKind.max, IntKind.signed, IntKind.bits]
  omega
set_option maxHeartbeats 800000 in
theorem impl_RLead (s : ByteArray) (hs : s.size ≤ 1048576) (w : World) (hE : Env w) : Calls Tryd.prog 16 #[.string s] w fun e w' => e = .returned (.tuple #[.agg #[.int .i64 (rl (s.data.toList) (rpX (rlA (s.data.toList) 0))), .int .i64 (rl (s.data.toList) (rpY (rlA (s.data.toList) 0))), .int .i64 (rl (s.data.toList) (rpX (rlA (s.data.toList) 1))), .int .i64 (rl (s.data.toList) (rpY (rlA (s.data.toList) 1))), .int .i64 (rl (s.data.toList) (rdV (ba (rlA (s.data.toList) 2)))), .int .i64 (rl (s.data.toList) (rdV (ba (rlA (s.data.toList) 3))))], .bool (rlOk (s.data.toList))]) ∧ Below w.heap.size w w' := by
  obtain ⟨L, hL⟩ : ∃ L, s.data.toList = L := ⟨_, rfl⟩
  have hsz : s.size = L.length := by rw [← hL]; exact (Array.length_toList).symm
  obtain ⟨S, hS⟩ : ∃ S, wordsL L = S := ⟨_, rfl⟩
  have hS' := Lib.hid hS
  by_cases h4 : S.length = 4
  · obtain ⟨a, b, c, d, rfl⟩ := four_of h4
    have hm : ∀ p ∈ [a, b, c, d], p.length ≤ 1048576 := fun p hp => by
      rw [← hS] at hp
      have := part_len 32 L p (mem_full hp)
      omega
    have hsa := hm a (by simp)
    have hsb := hm b (by simp)
    have hsc := hm c (by simp)
    have hsd := hm d (by simp)
    rw [hL]
    clear hS h4 hsz hm
    go_enter Tryd.func16, Tryd.ntmps16
    go_wp2_with fail
    refine (impl_Words s hs _ (hE.on (by go_grown))).mono ?_
    rintro e w1 ⟨A, cc, rfl, hA, hb1⟩
    rw [hL, hS'.out] at hA ⊢
    have hlen : ([a, b, c, d] : List (List UInt8)).length = 4 := rfl
    rw [hlen]
    have hB1 := bnext (w := w) (by go_grown) hb1
    have hZ1 := (Z6.new w 36).on hb1
    obtain ⟨g, o, rfl, hg, hcc⟩ := hA (by simp [partsV])
    have d0 : w1.cell? ⟨g, o, none⟩ = some (.string (ba a)) := by have := hcc 0 _ rfl; simpa using this
    have d1 : w1.cell? ⟨g, o + 1, none⟩ = some (.string (ba b)) := by have := hcc 1 _ rfl; simpa using this
    have d2 : w1.cell? ⟨g, o + 2, none⟩ = some (.string (ba c)) := by have := hcc 2 _ rfl; simpa using this
    have d3 : w1.cell? ⟨g, o + 3, none⟩ = some (.string (ba d)) := by have := hcc 3 _ rfl; simpa using this
    clear hcc hA hb1
    go_wp2_with fail
    refine (impl_RPtL a hsa _ (hE.on hB1)).mono ?_
    rintro e w2 ⟨rfl, hb2⟩
    have hB2 := bnext hB1 hb2
    have hZ2 := hZ1.on hb2
    have hg2 : g < w2.heap.size := Nat.lt_of_lt_of_le hg hb2.size
    have e1 := cell_on hb2 d1
    have e2 := cell_on hb2 d2
    have e3 := cell_on hb2 d3
    clear hb2 d0 d1 d2 d3 hg hZ1 hB1
    go_wp2_with fail
    refine (impl_RPtL b hsb _ (hE.on (hB2.alloc hB2.size _))).mono ?_
    rintro e w3 ⟨rfl, hb3⟩
    have hB3 := bnext (hB2.alloc hB2.size (.cells #[.int .i64 (rpX a), .int .i64 (rpY a)] 34)) hb3
    have hZ3 := (hZ2.al (.cells #[.int .i64 (rpX a), .int .i64 (rpY a)] 34)).on hb3
    have hz3 := hb3.size
    rw [World.size_alloc] at hz3
    have hg3 : g < w3.heap.size := by omega
    have p0 : w3.cell? ⟨w2.heap.size, 0, none⟩ = some (.int .i64 (rpX a)) := cell_on hb3 (by simp)
    have p1 : w3.cell? ⟨w2.heap.size, 1, none⟩ = some (.int .i64 (rpY a)) := cell_on hb3 (by simp)
    have k2 := cell_on hb3 (cell_al e2)
    have k3 := cell_on hb3 (cell_al e3)
    have hp3 : w2.heap.size < w3.heap.size := by omega
    obtain ⟨n2, hn2⟩ : ∃ n, w2.heap.size = n := ⟨_, rfl⟩
    rw [hn2] at p0 p1 hp3
    rw [hn2]
    clear hb3 e1 e2 e3 hg2 hZ2 hB2 hz3 hn2
    go_wp2_with fail
    refine (impl_NumL c hsc _ (hE.on (hB3.alloc hB3.size _))).mono ?_
    rintro e w4 ⟨rfl, hb4⟩
    have hB4 := bnext (hB3.alloc hB3.size (.cells #[.int .i64 (rpX b), .int .i64 (rpY b)] 34)) hb4
    have hZ4 := (hZ3.al (.cells #[.int .i64 (rpX b), .int .i64 (rpY b)] 34)).on hb4
    have hz4 := hb4.size
    rw [World.size_alloc] at hz4
    have hg4 : g < w4.heap.size := by omega
    have q0 : w4.cell? ⟨w3.heap.size, 0, none⟩ = some (.int .i64 (rpX b)) := cell_on hb4 (by simp)
    have q1 : w4.cell? ⟨w3.heap.size, 1, none⟩ = some (.int .i64 (rpY b)) := cell_on hb4 (by simp)
    have p2 := cell_on hb4 (cell_al p0)
    have p3 := cell_on hb4 (cell_al p1)
    have k4 := cell_on hb4 (cell_al k3)
    have hq4 : w3.heap.size < w4.heap.size := by omega
    have hp4 : n2 < w4.heap.size := by omega
    obtain ⟨n3, hn3⟩ : ∃ n, w3.heap.size = n := ⟨_, rfl⟩
    rw [hn3] at q0 q1 hq4
    rw [hn3]
    clear hb4 p0 p1 k2 k3 hg3 hZ3 hB3 hz4 hn3 hp3
    go_wp2_with fail
    refine (impl_NumL d hsd _ (hE.on hB4)).mono ?_
    rintro e w5 ⟨rfl, hb5⟩
    have hB5 := bnext hB4 hb5
    have hZ5 := hZ4.on hb5
    have a0 := cell_on hb5 p2
    have a1 := cell_on hb5 p3
    have a2 := cell_on hb5 q0
    have a3 := cell_on hb5 q1
    have hq5 : n3 < w5.heap.size := Nat.lt_of_lt_of_le hq4 hb5.size
    have hp5 : n2 < w5.heap.size := Nat.lt_of_lt_of_le hp4 hb5.size
    clear hb5 p2 p3 q0 q1 k4 hq4 hp4 hg4 hZ4 hB4
    go_upto_region 9 with fail
    refine wp_at ?_
    intro wx hwx
    have hZx : Z6 wx w.heap.size := by rw [hwx]; exact hZ5.al _
    have hBx : Below w.heap.size w wx := by rw [hwx]; exact hB5.alloc hB5.size _
    obtain ⟨nl, hnl⟩ : ∃ n, w5.heap.size = n := ⟨_, rfl⟩
    have l0 : wx.cell? ⟨nl, 0, none⟩ = some (.int .i64 (rpX a)) := by rw [hwx, ← hnl]; simp
    have l1 : wx.cell? ⟨nl, 1, none⟩ = some (.int .i64 (rpY a)) := by rw [hwx, ← hnl]; simp
    have l2 : wx.cell? ⟨nl, 2, none⟩ = some (.int .i64 (rpX b)) := by rw [hwx, ← hnl]; simp
    have l3 : wx.cell? ⟨nl, 3, none⟩ = some (.int .i64 (rpY b)) := by rw [hwx, ← hnl]; simp
    have l4 : wx.cell? ⟨nl, 4, none⟩ = some (.int .i64 (rdV (ba c))) := by rw [hwx, ← hnl]; simp
    have l5 : wx.cell? ⟨nl, 5, none⟩ = some (.int .i64 (rdV (ba d))) := by rw [hwx, ← hnl]; simp
    have hlx : nl < wx.heap.size := by rw [hwx, ← hnl]; simp
    rw [hnl]
    clear hwx hnl hZ5 hB5 a0 a1 a2 a3 hq5 hp5
    cases h1 : rpOk a
    · have hK : Hid (rlOk L = false) := Lib.hid (rl_impl hS'.out (fun x => by rw [h1] at x; cases x))
      have hV := Lib.hid (rl_no hK.out)
      obtain ⟨zl, ⟨z0, z1, z2, z3, z4, z5⟩, y0, y1, y2, y3, y4, y5⟩ := id hZx
      go_wp2
      refine end_at ?_
      intro wf hwf
      obtain ⟨t0, t1, t2, t3, t4, t5⟩ : wf.cell? ⟨w.heap.size, 0, none⟩ = some (.int .i64 (0)) ∧ wf.cell? ⟨w.heap.size, 1, none⟩ = some (.int .i64 (0)) ∧ wf.cell? ⟨w.heap.size, 2, none⟩ = some (.int .i64 (0)) ∧ wf.cell? ⟨w.heap.size, 3, none⟩ = some (.int .i64 (0)) ∧ wf.cell? ⟨w.heap.size, 4, none⟩ = some (.int .i64 (0)) ∧ wf.cell? ⟨w.heap.size, 5, none⟩ = some (.int .i64 (0)) := by rw [hwf]; exact z6_read hZx _ _ _ _ _ _
      have hBf : Below w.heap.size w wf := by rw [hwf]; exact six_below (Nat.le_refl w.heap.size) hBx _ _ _ _ _ _
      clear hwf
      refine bodyPost_ret (by simp [results, Tryd.results16, go_sem, t0, t1, t2, t3, t4, t5]; try rfl) rfl ?_
      exact ⟨by rw [hV.out, hV.out, hV.out, hV.out, hV.out, hV.out, hK.out] <;> rfl, hBf⟩
    cases h2 : rpOk b
    · have hK : Hid (rlOk L = false) := Lib.hid (rl_impl hS'.out (fun _ x => by rw [h2] at x; cases x))
      have hV := Lib.hid (rl_no hK.out)
      obtain ⟨zl, ⟨z0, z1, z2, z3, z4, z5⟩, y0, y1, y2, y3, y4, y5⟩ := id hZx
      go_wp2
      refine end_at ?_
      intro wf hwf
      obtain ⟨t0, t1, t2, t3, t4, t5⟩ : wf.cell? ⟨w.heap.size, 0, none⟩ = some (.int .i64 (0)) ∧ wf.cell? ⟨w.heap.size, 1, none⟩ = some (.int .i64 (0)) ∧ wf.cell? ⟨w.heap.size, 2, none⟩ = some (.int .i64 (0)) ∧ wf.cell? ⟨w.heap.size, 3, none⟩ = some (.int .i64 (0)) ∧ wf.cell? ⟨w.heap.size, 4, none⟩ = some (.int .i64 (0)) ∧ wf.cell? ⟨w.heap.size, 5, none⟩ = some (.int .i64 (0)) := by rw [hwf]; exact z6_read hZx _ _ _ _ _ _
      have hBf : Below w.heap.size w wf := by rw [hwf]; exact six_below (Nat.le_refl w.heap.size) hBx _ _ _ _ _ _
      clear hwf
      refine bodyPost_ret (by simp [results, Tryd.results16, go_sem, t0, t1, t2, t3, t4, t5]; try rfl) rfl ?_
      exact ⟨by rw [hV.out, hV.out, hV.out, hV.out, hV.out, hV.out, hK.out] <;> rfl, hBf⟩
    cases h3 : numOk c
    · have hK : Hid (rlOk L = false) := Lib.hid (rl_impl hS'.out (fun _ _ x => by rw [h3] at x; cases x))
      have hV := Lib.hid (rl_no hK.out)
      obtain ⟨zl, ⟨z0, z1, z2, z3, z4, z5⟩, y0, y1, y2, y3, y4, y5⟩ := id hZx
      go_wp2
      refine end_at ?_
      intro wf hwf
      obtain ⟨t0, t1, t2, t3, t4, t5⟩ : wf.cell? ⟨w.heap.size, 0, none⟩ = some (.int .i64 (0)) ∧ wf.cell? ⟨w.heap.size, 1, none⟩ = some (.int .i64 (0)) ∧ wf.cell? ⟨w.heap.size, 2, none⟩ = some (.int .i64 (0)) ∧ wf.cell? ⟨w.heap.size, 3, none⟩ = some (.int .i64 (0)) ∧ wf.cell? ⟨w.heap.size, 4, none⟩ = some (.int .i64 (0)) ∧ wf.cell? ⟨w.heap.size, 5, none⟩ = some (.int .i64 (0)) := by rw [hwf]; exact z6_read hZx _ _ _ _ _ _
      have hBf : Below w.heap.size w wf := by rw [hwf]; exact six_below (Nat.le_refl w.heap.size) hBx _ _ _ _ _ _
      clear hwf
      refine bodyPost_ret (by simp [results, Tryd.results16, go_sem, t0, t1, t2, t3, t4, t5]; try rfl) rfl ?_
      exact ⟨by rw [hV.out, hV.out, hV.out, hV.out, hV.out, hV.out, hK.out] <;> rfl, hBf⟩
    cases h5 : numOk d
    · have hK : Hid (rlOk L = false) := Lib.hid (rl_impl hS'.out (fun _ _ _ x => by rw [h5] at x; cases x))
      have hV := Lib.hid (rl_no hK.out)
      obtain ⟨zl, ⟨z0, z1, z2, z3, z4, z5⟩, y0, y1, y2, y3, y4, y5⟩ := id hZx
      go_wp2
      refine end_at ?_
      intro wf hwf
      obtain ⟨t0, t1, t2, t3, t4, t5⟩ : wf.cell? ⟨w.heap.size, 0, none⟩ = some (.int .i64 (0)) ∧ wf.cell? ⟨w.heap.size, 1, none⟩ = some (.int .i64 (0)) ∧ wf.cell? ⟨w.heap.size, 2, none⟩ = some (.int .i64 (0)) ∧ wf.cell? ⟨w.heap.size, 3, none⟩ = some (.int .i64 (0)) ∧ wf.cell? ⟨w.heap.size, 4, none⟩ = some (.int .i64 (0)) ∧ wf.cell? ⟨w.heap.size, 5, none⟩ = some (.int .i64 (0)) := by rw [hwf]; exact z6_read hZx _ _ _ _ _ _
      have hBf : Below w.heap.size w wf := by rw [hwf]; exact six_below (Nat.le_refl w.heap.size) hBx _ _ _ _ _ _
      clear hwf
      refine bodyPost_ret (by simp [results, Tryd.results16, go_sem, t0, t1, t2, t3, t4, t5]; try rfl) rfl ?_
      exact ⟨by rw [hV.out, hV.out, hV.out, hV.out, hV.out, hV.out, hK.out] <;> rfl, hBf⟩
    have b1 := Lib.hid (has_of (rp_zero (l := a)).1)
    have b2 := Lib.hid (has_of (rp_zero (l := a)).2)
    have b3 := Lib.hid (has_of (rp_zero (l := b)).1)
    have b4 := Lib.hid (has_of (rp_zero (l := b)).2)
    have b5 := Lib.hid (has_of (rd_zero (l := c)))
    have b6 := Lib.hid (has_of (rd_zero (l := d)))
    go_wp2_with fail
    refine (impl_LeadingText (rpX a) (rpY a) (rpX b) (rpY b) (rdV (ba c)) (rdV (ba d)) b1.out b2.out b3.out b4.out b5.out b6.out _ (hE.on hBx).tab).mono ?_
    rintro e w6 ⟨rfl, hb6⟩
    have hB6 := bnext hBx hb6
    have hZ6 := hZx.on hb6
    have m0 := cell_on hb6 l0
    have m1 := cell_on hb6 l1
    have m2 := cell_on hb6 l2
    have m3 := cell_on hb6 l3
    have m4 := cell_on hb6 l4
    have m5 := cell_on hb6 l5
    have hl6 : nl < w6.heap.size := Nat.lt_of_lt_of_le hlx hb6.size
    clear hb6 hBx hZx l0 l1 l2 l3 l4 l5 hlx b1 b2 b3 b4 b5 b6 hE
    by_cases hT : leadX (rpX a) (rpY a) (rpX b) (rpY b) (rdV (ba c)) (rdV (ba d)) = s
    · cases hv : vLead (rpX a) (rpY a) (rpX b) (rpY b) (rdV (ba c)) (rdV (ba d))
      · exfalso
        unfold leadX at hT
        rw [hv] at hT
        have : L = [] := by rw [← hL, ← hT]; rfl
        have h := hS'.out
        rw [this] at h
        cases h
      · have hT2 : (leadT (rpX a) (rpY a) (rpX b) (rpY b) (rdV (ba c)) (rdV (ba d))).data.toList = L := by rw [← hL, ← hT]; unfold leadX; rw [hv]; rfl
        obtain ⟨hk, e0, e1, e2, e3⟩ := rl_good h1 h2 h3 h5 hv hT2
        have hK := Lib.hid hk
        have hV := Lib.hid (rl_yes hk)
        have hee := Lib.hid (And.intro e0 (And.intro e1 (And.intro e2 e3)))
        have hcmp := bytes_eq hT
        clear hT hT2 hk e0 e1 e2 e3
        obtain ⟨zl, ⟨z0, z1, z2, z3, z4, z5⟩, y0, y1, y2, y3, y4, y5⟩ := id hZ6
        generalize leadX (rpX a) (rpY a) (rpX b) (rpY b) (rdV (ba c)) (rdV (ba d)) = T at hcmp ⊢
        go_wp2
        refine end_at ?_
        intro wf hwf
        obtain ⟨t0, t1, t2, t3, t4, t5⟩ : wf.cell? ⟨w.heap.size, 0, none⟩ = some (.int .i64 (rpX a)) ∧ wf.cell? ⟨w.heap.size, 1, none⟩ = some (.int .i64 (rpY a)) ∧ wf.cell? ⟨w.heap.size, 2, none⟩ = some (.int .i64 (rpX b)) ∧ wf.cell? ⟨w.heap.size, 3, none⟩ = some (.int .i64 (rpY b)) ∧ wf.cell? ⟨w.heap.size, 4, none⟩ = some (.int .i64 (rdV (ba c))) ∧ wf.cell? ⟨w.heap.size, 5, none⟩ = some (.int .i64 (rdV (ba d))) := by rw [hwf]; exact z6_read hZ6 _ _ _ _ _ _
        have hBf : Below w.heap.size w wf := by rw [hwf]; exact six_below (Nat.le_refl w.heap.size) hB6 _ _ _ _ _ _
        clear hwf
        refine bodyPost_ret (by simp [results, Tryd.results16, go_sem, t0, t1, t2, t3, t4, t5]; try rfl) rfl ?_
        exact ⟨by rw [hV.out, hV.out, hV.out, hV.out, hV.out, hV.out, hK.out, hee.out.1, hee.out.2.1, hee.out.2.2.1, hee.out.2.2.2] <;> rfl, hBf⟩
    · have hK : Hid (rlOk L = false) := Lib.hid (rl_impl hS'.out (fun _ _ _ _ hv he => hT (by unfold leadX; rw [hv]; exact (ba_ext he).trans (ba_ext hL).symm)))
      have hcmp := bytes_ne hT
      generalize leadX (rpX a) (rpY a) (rpX b) (rpY b) (rdV (ba c)) (rdV (ba d)) = T at hcmp hT ⊢
      clear hT
      have hV := Lib.hid (rl_no hK.out)
      obtain ⟨zl, ⟨z0, z1, z2, z3, z4, z5⟩, y0, y1, y2, y3, y4, y5⟩ := id hZ6
      go_wp2
      refine end_at ?_
      intro wf hwf
      obtain ⟨t0, t1, t2, t3, t4, t5⟩ : wf.cell? ⟨w.heap.size, 0, none⟩ = some (.int .i64 (0)) ∧ wf.cell? ⟨w.heap.size, 1, none⟩ = some (.int .i64 (0)) ∧ wf.cell? ⟨w.heap.size, 2, none⟩ = some (.int .i64 (0)) ∧ wf.cell? ⟨w.heap.size, 3, none⟩ = some (.int .i64 (0)) ∧ wf.cell? ⟨w.heap.size, 4, none⟩ = some (.int .i64 (0)) ∧ wf.cell? ⟨w.heap.size, 5, none⟩ = some (.int .i64 (0)) := by rw [hwf]; exact z6_read hZ6 _ _ _ _ _ _
      have hBf : Below w.heap.size w wf := by rw [hwf]; exact six_below (Nat.le_refl w.heap.size) hB6 _ _ _ _ _ _
      clear hwf
      refine bodyPost_ret (by simp [results, Tryd.results16, go_sem, t0, t1, t2, t3, t4, t5]; try rfl) rfl ?_
      exact ⟨by rw [hV.out, hV.out, hV.out, hV.out, hV.out, hV.out, hK.out] <;> rfl, hBf⟩
  · have hK : Hid (rlOk L = false) := by
      apply Lib.hid
      rw [← Bool.not_eq_true]
      intro h
      obtain ⟨hw, a, b, c, d, hS2, _⟩ := rl_words h
      rw [hw, hS2] at hS
      exact h4 (by rw [← hS]; rfl)
    have h4' : ((S.length : Int) != 4) = true := by first | (simp; done) | (simp; omega)
    rw [hL]
    clear hS hsz
    go_enter Tryd.func16, Tryd.ntmps16
    go_wp2_with fail
    refine (impl_Words s hs _ (hE.on (by go_grown))).mono ?_
    rintro e w1 ⟨A, cc, rfl, hA, hb1⟩
    rw [hL, hS'.out]
    have hB1 := bnext (w := w) (by go_grown) hb1
    have hZ1 := (Z6.new w 36).on hb1
    clear hA hb1
    have hV := Lib.hid (rl_no hK.out)
    obtain ⟨zl, ⟨z0, z1, z2, z3, z4, z5⟩, y0, y1, y2, y3, y4, y5⟩ := id hZ1
    go_wp2
    refine end_at ?_
    intro wf hwf
    obtain ⟨t0, t1, t2, t3, t4, t5⟩ : wf.cell? ⟨w.heap.size, 0, none⟩ = some (.int .i64 (0)) ∧ wf.cell? ⟨w.heap.size, 1, none⟩ = some (.int .i64 (0)) ∧ wf.cell? ⟨w.heap.size, 2, none⟩ = some (.int .i64 (0)) ∧ wf.cell? ⟨w.heap.size, 3, none⟩ = some (.int .i64 (0)) ∧ wf.cell? ⟨w.heap.size, 4, none⟩ = some (.int .i64 (0)) ∧ wf.cell? ⟨w.heap.size, 5, none⟩ = some (.int .i64 (0)) := by rw [hwf]; exact z6_read hZ1 _ _ _ _ _ _
    have hBf : Below w.heap.size w wf := by rw [hwf]; exact six_below (Nat.le_refl w.heap.size) hB1 _ _ _ _ _ _
    clear hwf
    refine bodyPost_ret (by simp [results, Tryd.results16, go_sem, t0, t1, t2, t3, t4, t5]; try rfl) rfl ?_
    exact ⟨by rw [hV.out, hV.out, hV.out, hV.out, hV.out, hV.out, hK.out] <;> rfl, hBf⟩
end Go.Proofs.YtkdfknmhijjlpaaDoor
