/-
  Contracts of leading lines read from texts: the program's and the reference's. Under the conditions that each states.
-/
import Derived.Test.YthjkkidcpidgdaaGreatDoorPtR
import Derived.Test.YthjkkidcpidgdaaGreatDoorTextL
set_option linter.unusedVariables false
set_option linter.unnecessarySimpa false
set_option maxRecDepth 100000
set_option linter.unusedSimpArgs false
namespace Go.Proofs.YthjkkidcpidgdaaGreatDoor
open Go.RowKit BigFrame

theorem cell_on {w w' : World} {b k : Nat} {v : Value} (hb : Below w.heap.size w w') (h : w.cell? ⟨b, k, none⟩ = some v) : w'.cell? ⟨b, k, none⟩ = some v := (hb.cell (p := ⟨b, k, none⟩) (cell_lt h)).trans h
theorem cell_al {w : World} {b k : Nat} {v : Value} {o : Obj} (h : w.cell? ⟨b, k, none⟩ = some v) : (w.alloc o).cell? ⟨b, k, none⟩ = some v := (alloc_cell (cell_lt h)).trans h
theorem some_set {w : World} {p q : Addr} {v : Value} (h : (w.cell? q).isSome = true) : ((w.setCell p v).cell? q).isSome = true := by
  by_cases e : p = q
  · subst e
    obtain ⟨u, hu⟩ := Option.isSome_iff_exists.1 h
    rw [World.cell?_setCell_same _ _ _ hu]; rfl
  · rw [World.cell?_setCell_other _ _ _ _ e]; exact h
def setFrom (w : World) (g o : Nat) : List Value → World
  | [] => w
  | v :: vs => setFrom (w.setCell ⟨g, o, none⟩ v) g (o + 1) vs
theorem setFrom_ahead (g : Nat) : ∀ (vs : List Value) (w : World) (o q : Nat), q < o → (setFrom w g o vs).cell? ⟨g, q, none⟩ = w.cell? ⟨g, q, none⟩
  | [], w, o, q, h => rfl
  | v :: vs, w, o, q, h => by
    have ih := setFrom_ahead g vs (w.setCell ⟨g, o, none⟩ v) (o + 1) q (by omega)
    show (setFrom (w.setCell ⟨g, o, none⟩ v) g (o + 1) vs).cell? ⟨g, q, none⟩ = _
    rw [ih, World.cell?_setCell_other _ _ _ _ (fun e => by have := congrArg Addr.off e; simp at this; omega)]
theorem setFrom_read (g : Nat) : ∀ (vs : List Value) (w : World) (o : Nat), (∀ k, k < vs.length → (w.cell? ⟨g, o + k, none⟩).isSome = true) → ∀ (k : Nat) (u : Value), vs[k]? = some u → (setFrom w g o vs).cell? ⟨g, o + k, none⟩ = some u
  | [], w, o, h, k, u, hu => by simp at hu
  | v :: vs, w, o, h, 0, u, hu => by
    obtain ⟨x, hx⟩ := Option.isSome_iff_exists.1 (h 0 (by simp))
    simp at hu
    subst hu
    show (setFrom (w.setCell ⟨g, o, none⟩ v) g (o + 1) vs).cell? ⟨g, o + 0, none⟩ = _
    rw [setFrom_ahead g vs _ _ _ (by omega)]
    exact World.cell?_setCell_same _ _ _ hx
  | v :: vs, w, o, h, k + 1, u, hu => by
    have ih := setFrom_read g vs (w.setCell ⟨g, o, none⟩ v) (o + 1) (fun j hj => some_set (by have := h (j + 1) (by simp; omega); rwa [Nat.add_assoc, Nat.add_comm 1 j])) k u (by simpa using hu)
    rw [Nat.add_assoc, Nat.add_comm 1 k] at ih
    exact ih
theorem setFrom_below {B g : Nat} (hg : B ≤ g) : ∀ (vs : List Value) {a w : World} (o : Nat), Below B a w → Below B a (setFrom w g o vs)
  | [], _, _, _, h => h
  | v :: vs, _, _, o, h => setFrom_below hg vs (o + 1) (h.setCell hg v)
theorem six_read {w : World} {g : Nat} (h : ∀ k, k < 6 → (w.cell? ⟨g, k, none⟩).isSome = true) (a b c d e f : Int) :
    (World.setCell (World.setCell (World.setCell (World.setCell (World.setCell (World.setCell w ⟨g, 0, none⟩ (.int .i64 (a))) ⟨g, 1, none⟩ (.int .i64 (b))) ⟨g, 2, none⟩ (.int .i64 (c))) ⟨g, 3, none⟩ (.int .i64 (d))) ⟨g, 4, none⟩ (.int .i64 (e))) ⟨g, 5, none⟩ (.int .i64 (f))).cell? ⟨g, 0, none⟩ = some (.int .i64 a) ∧ (World.setCell (World.setCell (World.setCell (World.setCell (World.setCell (World.setCell w ⟨g, 0, none⟩ (.int .i64 (a))) ⟨g, 1, none⟩ (.int .i64 (b))) ⟨g, 2, none⟩ (.int .i64 (c))) ⟨g, 3, none⟩ (.int .i64 (d))) ⟨g, 4, none⟩ (.int .i64 (e))) ⟨g, 5, none⟩ (.int .i64 (f))).cell? ⟨g, 1, none⟩ = some (.int .i64 b) ∧ (World.setCell (World.setCell (World.setCell (World.setCell (World.setCell (World.setCell w ⟨g, 0, none⟩ (.int .i64 (a))) ⟨g, 1, none⟩ (.int .i64 (b))) ⟨g, 2, none⟩ (.int .i64 (c))) ⟨g, 3, none⟩ (.int .i64 (d))) ⟨g, 4, none⟩ (.int .i64 (e))) ⟨g, 5, none⟩ (.int .i64 (f))).cell? ⟨g, 2, none⟩ = some (.int .i64 c) ∧ (World.setCell (World.setCell (World.setCell (World.setCell (World.setCell (World.setCell w ⟨g, 0, none⟩ (.int .i64 (a))) ⟨g, 1, none⟩ (.int .i64 (b))) ⟨g, 2, none⟩ (.int .i64 (c))) ⟨g, 3, none⟩ (.int .i64 (d))) ⟨g, 4, none⟩ (.int .i64 (e))) ⟨g, 5, none⟩ (.int .i64 (f))).cell? ⟨g, 3, none⟩ = some (.int .i64 d) ∧ (World.setCell (World.setCell (World.setCell (World.setCell (World.setCell (World.setCell w ⟨g, 0, none⟩ (.int .i64 (a))) ⟨g, 1, none⟩ (.int .i64 (b))) ⟨g, 2, none⟩ (.int .i64 (c))) ⟨g, 3, none⟩ (.int .i64 (d))) ⟨g, 4, none⟩ (.int .i64 (e))) ⟨g, 5, none⟩ (.int .i64 (f))).cell? ⟨g, 4, none⟩ = some (.int .i64 e) ∧ (World.setCell (World.setCell (World.setCell (World.setCell (World.setCell (World.setCell w ⟨g, 0, none⟩ (.int .i64 (a))) ⟨g, 1, none⟩ (.int .i64 (b))) ⟨g, 2, none⟩ (.int .i64 (c))) ⟨g, 3, none⟩ (.int .i64 (d))) ⟨g, 4, none⟩ (.int .i64 (e))) ⟨g, 5, none⟩ (.int .i64 (f))).cell? ⟨g, 5, none⟩ = some (.int .i64 f) := by
  have r := setFrom_read g [.int .i64 a, .int .i64 b, .int .i64 c, .int .i64 d, .int .i64 e, .int .i64 f] w 0 (fun k hk => by rw [Nat.zero_add]; exact h k (by simpa using hk))
  exact ⟨r 0 _ rfl, r 1 _ rfl, r 2 _ rfl, r 3 _ rfl, r 4 _ rfl, r 5 _ rfl⟩
theorem six_below {B g : Nat} {a w : World} (hg : B ≤ g) (h : Below B a w) (x y z u v t : Int) : Below B a (World.setCell (World.setCell (World.setCell (World.setCell (World.setCell (World.setCell w ⟨g, 0, none⟩ (.int .i64 (x))) ⟨g, 1, none⟩ (.int .i64 (y))) ⟨g, 2, none⟩ (.int .i64 (z))) ⟨g, 3, none⟩ (.int .i64 (u))) ⟨g, 4, none⟩ (.int .i64 (v))) ⟨g, 5, none⟩ (.int .i64 (t))) :=
  setFrom_below hg [.int .i64 x, .int .i64 y, .int .i64 z, .int .i64 u, .int .i64 v, .int .i64 t] 0 h
/-- Six zeros, to be written. -/
def Z6 (w : World) (g : Nat) : Prop := g < w.heap.size ∧ (w.cell? ⟨g, 0, none⟩ = some (.int .i64 0) ∧ w.cell? ⟨g, 1, none⟩ = some (.int .i64 0) ∧ w.cell? ⟨g, 2, none⟩ = some (.int .i64 0) ∧ w.cell? ⟨g, 3, none⟩ = some (.int .i64 0) ∧ w.cell? ⟨g, 4, none⟩ = some (.int .i64 0) ∧ w.cell? ⟨g, 5, none⟩ = some (.int .i64 0)) ∧ w.frozen? ⟨g, 0, none⟩ = false ∧ w.frozen? ⟨g, 1, none⟩ = false ∧ w.frozen? ⟨g, 2, none⟩ = false ∧ w.frozen? ⟨g, 3, none⟩ = false ∧ w.frozen? ⟨g, 4, none⟩ = false ∧ w.frozen? ⟨g, 5, none⟩ = false
theorem Z6.on {w w' : World} {g : Nat} (h : Z6 w g) (hb : Below w.heap.size w w') : Z6 w' g := by
  obtain ⟨h1, ⟨c0, c1, c2, c3, c4, c5⟩, f0, f1, f2, f3, f4, f5⟩ := h
  obtain ⟨hc, hf⟩ := bcell hb
  exact ⟨Nat.lt_of_lt_of_le h1 hb.size, ⟨(hc _ _ h1).trans c0, (hc _ _ h1).trans c1, (hc _ _ h1).trans c2, (hc _ _ h1).trans c3, (hc _ _ h1).trans c4, (hc _ _ h1).trans c5⟩, (hf _ _ h1).trans f0, (hf _ _ h1).trans f1, (hf _ _ h1).trans f2, (hf _ _ h1).trans f3, (hf _ _ h1).trans f4, (hf _ _ h1).trans f5⟩
theorem Z6.new (w : World) (t : TypeId) : Z6 (w.alloc (.cells #[.int .i64 0, .int .i64 0, .int .i64 0, .int .i64 0, .int .i64 0, .int .i64 0] t)) w.heap.size := by
  refine ⟨by simp, ⟨by simp, by simp, by simp, by simp, by simp, by simp⟩, by simp, by simp, by simp, by simp, by simp, by simp⟩
theorem Z6.al {w : World} {g : Nat} (h : Z6 w g) (o : Obj) : Z6 (w.alloc o) g := h.on ((Below.refl _ _).alloc (Nat.le_refl _) _)
theorem z6_read {w : World} {g : Nat} (h : Z6 w g) (a b c d e f : Int) :
    (World.setCell (World.setCell (World.setCell (World.setCell (World.setCell (World.setCell w ⟨g, 0, none⟩ (.int .i64 (a))) ⟨g, 1, none⟩ (.int .i64 (b))) ⟨g, 2, none⟩ (.int .i64 (c))) ⟨g, 3, none⟩ (.int .i64 (d))) ⟨g, 4, none⟩ (.int .i64 (e))) ⟨g, 5, none⟩ (.int .i64 (f))).cell? ⟨g, 0, none⟩ = some (.int .i64 a) ∧ (World.setCell (World.setCell (World.setCell (World.setCell (World.setCell (World.setCell w ⟨g, 0, none⟩ (.int .i64 (a))) ⟨g, 1, none⟩ (.int .i64 (b))) ⟨g, 2, none⟩ (.int .i64 (c))) ⟨g, 3, none⟩ (.int .i64 (d))) ⟨g, 4, none⟩ (.int .i64 (e))) ⟨g, 5, none⟩ (.int .i64 (f))).cell? ⟨g, 1, none⟩ = some (.int .i64 b) ∧ (World.setCell (World.setCell (World.setCell (World.setCell (World.setCell (World.setCell w ⟨g, 0, none⟩ (.int .i64 (a))) ⟨g, 1, none⟩ (.int .i64 (b))) ⟨g, 2, none⟩ (.int .i64 (c))) ⟨g, 3, none⟩ (.int .i64 (d))) ⟨g, 4, none⟩ (.int .i64 (e))) ⟨g, 5, none⟩ (.int .i64 (f))).cell? ⟨g, 2, none⟩ = some (.int .i64 c) ∧ (World.setCell (World.setCell (World.setCell (World.setCell (World.setCell (World.setCell w ⟨g, 0, none⟩ (.int .i64 (a))) ⟨g, 1, none⟩ (.int .i64 (b))) ⟨g, 2, none⟩ (.int .i64 (c))) ⟨g, 3, none⟩ (.int .i64 (d))) ⟨g, 4, none⟩ (.int .i64 (e))) ⟨g, 5, none⟩ (.int .i64 (f))).cell? ⟨g, 3, none⟩ = some (.int .i64 d) ∧ (World.setCell (World.setCell (World.setCell (World.setCell (World.setCell (World.setCell w ⟨g, 0, none⟩ (.int .i64 (a))) ⟨g, 1, none⟩ (.int .i64 (b))) ⟨g, 2, none⟩ (.int .i64 (c))) ⟨g, 3, none⟩ (.int .i64 (d))) ⟨g, 4, none⟩ (.int .i64 (e))) ⟨g, 5, none⟩ (.int .i64 (f))).cell? ⟨g, 4, none⟩ = some (.int .i64 e) ∧ (World.setCell (World.setCell (World.setCell (World.setCell (World.setCell (World.setCell w ⟨g, 0, none⟩ (.int .i64 (a))) ⟨g, 1, none⟩ (.int .i64 (b))) ⟨g, 2, none⟩ (.int .i64 (c))) ⟨g, 3, none⟩ (.int .i64 (d))) ⟨g, 4, none⟩ (.int .i64 (e))) ⟨g, 5, none⟩ (.int .i64 (f))).cell? ⟨g, 5, none⟩ = some (.int .i64 f) := by
  obtain ⟨_, ⟨c0, c1, c2, c3, c4, c5⟩, _⟩ := h
  refine six_read (fun k hk => ?_) a b c d e f
  match k, hk with
  | 0, _ => rw [c0]; rfl
  | 1, _ => rw [c1]; rfl
  | 2, _ => rw [c2]; rfl
  | 3, _ => rw [c3]; rfl
  | 4, _ => rw [c4]; rfl
  | 5, _ => rw [c5]; rfl
theorem z6_lt {w : World} {g : Nat} (h : Z6 w g) (a b c d e f : Int) : g < (World.setCell (World.setCell (World.setCell (World.setCell (World.setCell (World.setCell w ⟨g, 0, none⟩ (.int .i64 (a))) ⟨g, 1, none⟩ (.int .i64 (b))) ⟨g, 2, none⟩ (.int .i64 (c))) ⟨g, 3, none⟩ (.int .i64 (d))) ⟨g, 4, none⟩ (.int .i64 (e))) ⟨g, 5, none⟩ (.int .i64 (f))).heap.size := by simpa using h.1
/-- What a text of a leading line gives. -/
def rlA (l : List UInt8) (k : Nat) : List UInt8 := (splitL 32 l).getD k []
def rlOk (l : List UInt8) : Bool := decide ((splitL 32 l).length = 4) && (rpOk (rlA l 0) && (rpOk (rlA l 1) && (numOk (rlA l 2) && (numOk (rlA l 3) && vLead (rpX (rlA l 0)) (rpY (rlA l 0)) (rpX (rlA l 1)) (rpY (rlA l 1)) (rdV (ba (rlA l 2))) (rdV (ba (rlA l 3)))))))
def rl (l : List UInt8) (v : Int) : Int := if rlOk l then v else 0
theorem rl_no {l : List UInt8} (h : rlOk l = false) : ∀ v, rl l v = 0 := fun v => by unfold rl; rw [h]; rfl
theorem rl_yes {l : List UInt8} (h : rlOk l = true) : ∀ v, rl l v = v := fun v => by unfold rl; rw [h]; rfl
theorem four_of {S : List (List UInt8)} (h : S.length = 4) : ∃ a b c d, S = [a, b, c, d] := by
  rcases S with _ | ⟨a, _ | ⟨b, _ | ⟨c, _ | ⟨d, _ | ⟨e, t⟩⟩⟩⟩⟩ <;> simp at h
  exact ⟨a, b, c, d, rfl⟩
theorem rl_four {l a b c d : List UInt8} (h : splitL 32 l = [a, b, c, d]) : rlA l 0 = a ∧ rlA l 1 = b ∧ rlA l 2 = c ∧ rlA l 3 = d := by
  unfold rlA
  rw [h]
  exact ⟨rfl, rfl, rfl, rfl⟩
theorem wp_at {P : Program} {c : Code} {Q : Exit → Act → World → Prop} {a : Act} {W : World} (h : ∀ wf, wf = W → Code.wp P c Q a wf) : Code.wp P c Q a W := h W rfl
theorem impl_RPtL (l : List UInt8) (hs : l.length ≤ 1048576) (w : World) (hE : Env w) : Calls Tryz.prog 45 #[.string (ba l)] w fun e w' => e = .returned (.tuple #[.agg #[.int .i64 (rpX (l)), .int .i64 (rpY (l))], .bool (rpOk (l))]) ∧ Below w.heap.size w w' := impl_RPt (ba l) (by rw [ba_size]; exact hs) w hE
theorem impl_NumL (l : List UInt8) (hs : l.length ≤ 1048576) (w : World) (hE : Env w) : Calls Tryz.prog 46 #[.string (ba l)] w fun e w' => e = .returned (.tuple #[.int .i64 (rdV (ba l)), .bool (numOk l)]) ∧ Below w.heap.size w w' := impl_RDec (ba l) (by rw [ba_size]; omega) w hE
theorem mem_full {S : List (List UInt8)} {p : List UInt8} (h : p ∈ S.filter full) : p ∈ S := (List.mem_filter.1 h).1
theorem ptT_of {l : List UInt8} (h : rpOk l = true) : ptT (rpX l) (rpY l) = ba l := by
  have h' := h
  unfold rpOk at h'
  rw [Bool.and_eq_true, Bool.and_eq_true] at h'
  have e1 : rpX l = numV (cutA l) := by unfold rpX; rw [h]; rfl
  have e2 : rpY l = numV (cutB l) := by unfold rpY; rw [h]; rfl
  rw [e1, e2]
  have n1 := num_itoa h'.1
  have n2 := num_itoa h'.2.1
  apply ByteArray.ext
  apply Array.toList_inj.1
  unfold ptT decT
  rw [n1, n2]
  simp only [ByteArray.data_append, Array.toList_append]
  show cutA l ++ [44] ++ cutB l = l
  rcases cut_one l with ⟨_, _, h3⟩ | ⟨i, hi, hl, h2, h3⟩
  · rw [h3] at h'; cases h'.2.1
  · rw [h2, h3]
    have hg : l[i] = 44 := by
      have := split_some hi
      have hj := split_join 44 l
      rw [this, Lib.join_cons] at hj
      cases hq : splitL 44 (l.drop (i + 1)) with
      | nil => exact absurd hq (split_ne _ _)
      | cons x t =>
        rw [hq] at hj
        simp only [Lib.joinTail, List.map_cons, List.flatten_cons] at hj
        have h5 := congrArg (fun z => z[i]?) hj
        rw [List.getElem?_append_right (by rw [List.length_take]; omega), List.length_take, Nat.min_eq_left (by omega), Nat.sub_self, List.getElem?_eq_getElem hl] at h5
        simpa using h5.symm
    conv => rhs; rw [← List.take_append_drop i l, List.drop_eq_getElem_cons hl, hg]
    simp
theorem decT_of {l : List UInt8} (h : numOk l = true) : decT (rdV (ba l)) = ba l := by
  have e1 : rdV (ba l) = numV l := by unfold rdV; rw [ba_list, h]; rfl
  rw [e1]
  unfold decT
  rw [num_itoa h]
  rfl
theorem rp_free {l : List UInt8} (h : rpOk l = true) : (32 : UInt8) ∉ l ∧ l ≠ [] := by
  have h' := h
  unfold rpOk at h'
  rw [Bool.and_eq_true, Bool.and_eq_true] at h'
  have f1 := num_free h'.1 32 (by decide) (by decide)
  have f2 := num_free h'.2.1 32 (by decide) (by decide)
  have e := congrArg (fun z => z.data.toList) (ptT_of h)
  have e1 : rpX l = numV (cutA l) := by unfold rpX; rw [h]; rfl
  have e2 : rpY l = numV (cutB l) := by unfold rpY; rw [h]; rfl
  rw [e1, e2] at e
  have e3 : l = cutA l ++ [44] ++ cutB l := by
    have n1 := num_itoa h'.1
    have n2 := num_itoa h'.2.1
    unfold ptT decT at e
    rw [n1, n2] at e
    simp only [ByteArray.data_append, Array.toList_append] at e
    exact e.symm
  constructor
  · rw [e3]
    simp only [List.mem_append, List.mem_singleton]
    rintro ((h | h) | h)
    · exact f1 h
    · cases h
    · exact f2 h
  · intro e4; rw [e4] at e3; simp at e3
theorem num_free2 {l : List UInt8} (h : numOk l = true) : (32 : UInt8) ∉ l ∧ l ≠ [] := by
  refine ⟨num_free h 32 (by decide) (by decide), ?_⟩
  rintro rfl
  cases h
theorem leadT_of {a b c d : List UInt8} (h1 : rpOk a = true) (h2 : rpOk b = true) (h3 : numOk c = true) (h4 : numOk d = true) : (leadT (rpX a) (rpY a) (rpX b) (rpY b) (rdV (ba c)) (rdV (ba d))).data.toList = a ++ 32 :: (b ++ 32 :: (c ++ 32 :: d)) := by
  unfold leadT
  rw [ptT_of h1, ptT_of h2, decT_of h3, decT_of h4]
  simp only [ByteArray.data_append, Array.toList_append]
  show (((((a ++ [32]) ++ b) ++ [32]) ++ c) ++ [32]) ++ d = _
  simp
theorem split_four {a b c d : List UInt8} (h1 : (32 : UInt8) ∉ a) (h2 : (32 : UInt8) ∉ b) (h3 : (32 : UInt8) ∉ c) (h4 : (32 : UInt8) ∉ d) : splitL 32 (a ++ 32 :: (b ++ 32 :: (c ++ 32 :: d))) = [a, b, c, d] := by
  rw [split_app _ h1, split_app _ h2, split_app _ h3, split_free h4]
/-- The words are the parts, where the reference reads. -/
theorem rl_words {L : List UInt8} (h : rlOk L = true) : wordsL L = splitL 32 L ∧ ∃ a b c d, splitL 32 L = [a, b, c, d] ∧ rpOk a = true ∧ rpOk b = true ∧ numOk c = true ∧ numOk d = true ∧ vLead (rpX a) (rpY a) (rpX b) (rpY b) (rdV (ba c)) (rdV (ba d)) = true := by
  have h' := h
  unfold rlOk at h'
  rw [Bool.and_eq_true] at h'
  obtain ⟨h4, h'⟩ := h'
  obtain ⟨a, b, c, d, hS⟩ := four_of (of_decide_eq_true h4)
  obtain ⟨e0, e1, e2, e3⟩ := rl_four hS
  rw [e0, e1, e2, e3] at h'
  simp only [Bool.and_eq_true] at h'
  obtain ⟨k1, k2, k3, k4, k5⟩ := h'
  refine ⟨words_all ?_, a, b, c, d, hS, k1, k2, k3, k4, k5⟩
  rw [hS]
  intro p hp
  simp only [List.mem_cons, List.not_mem_nil, or_false] at hp
  rcases hp with rfl | rfl | rfl | rfl
  · exact (rp_free k1).2
  · exact (rp_free k2).2
  · exact (num_free2 k3).2
  · exact (num_free2 k4).2
/-- What the program reads of its four words. -/
theorem rl_impl {L a b c d : List UInt8} (hW : wordsL L = [a, b, c, d]) (hn : rpOk a = true → rpOk b = true → numOk c = true → numOk d = true → vLead (rpX a) (rpY a) (rpX b) (rpY b) (rdV (ba c)) (rdV (ba d)) = true → (leadT (rpX a) (rpY a) (rpX b) (rpY b) (rdV (ba c)) (rdV (ba d))).data.toList ≠ L) : rlOk L = false := by
  rw [← Bool.not_eq_true]
  intro h
  obtain ⟨hw, a', b', c', d', hS, k1, k2, k3, k4, k5⟩ := rl_words h
  rw [hw, hS] at hW
  injection hW with x1 hW
  injection hW with x2 hW
  injection hW with x3 hW
  injection hW with x4 _
  subst x1 x2 x3 x4
  refine hn k1 k2 k3 k4 k5 ?_
  rw [leadT_of k1 k2 k3 k4]
  have hj := split_join 32 L
  rw [hS, Lib.join_cons] at hj
  rw [← hj]
  simp [Lib.joinTail]
theorem rl_good {L a b c d : List UInt8} (k1 : rpOk a = true) (k2 : rpOk b = true) (k3 : numOk c = true) (k4 : numOk d = true) (k5 : vLead (rpX a) (rpY a) (rpX b) (rpY b) (rdV (ba c)) (rdV (ba d)) = true) (hL : (leadT (rpX a) (rpY a) (rpX b) (rpY b) (rdV (ba c)) (rdV (ba d))).data.toList = L) : rlOk L = true ∧ rlA L 0 = a ∧ rlA L 1 = b ∧ rlA L 2 = c ∧ rlA L 3 = d := by
  rw [leadT_of k1 k2 k3 k4] at hL
  have hS := split_four (rp_free k1).1 (rp_free k2).1 (num_free2 k3).1 (num_free2 k4).1
  rw [hL] at hS
  obtain ⟨e0, e1, e2, e3⟩ := rl_four hS
  refine ⟨?_, e0, e1, e2, e3⟩
  unfold rlOk
  rw [hS, e0, e1, e2, e3, k1, k2, k3, k4, k5]
  rfl
theorem rp_zero {l : List UInt8} : (-1000000000000000000 < rpX l ∧ rpX l < 1000000000000000000) ∧ -1000000000000000000 < rpY l ∧ rpY l < 1000000000000000000 := by
  cases h : rpOk l
  · have hx : rpX l = 0 := by unfold rpX; rw [h]; rfl
    have hy : rpY l = 0 := by unfold rpY; rw [h]; rfl
    rw [hx, hy]
    omega
  · have h' := h
    unfold rpOk at h'
    rw [Bool.and_eq_true, Bool.and_eq_true] at h'
    have e1 : rpX l = numV (cutA l) := by unfold rpX; rw [h]; rfl
    have e2 : rpY l = numV (cutB l) := by unfold rpY; rw [h]; rfl
    rw [e1, e2]
    exact ⟨numV_small h'.1, numV_small h'.2.1⟩
theorem rd_zero {l : List UInt8} : -1000000000000000000 < rdV (ba l) ∧ rdV (ba l) < 1000000000000000000 := by
  unfold rdV
  rw [ba_list]
  split
  · rename_i h
    exact numV_small h
  · omega
theorem has_of {n : Int} (h : -1000000000000000000 < n ∧ n < 1000000000000000000) : IntKind.i64.has n := by
  simp [IntKind.has, IntKind.min, IntKind.max, IntKind.signed, IntKind.bits]
  omega
end Go.Proofs.YthjkkidcpidgdaaGreatDoor
