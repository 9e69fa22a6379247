/-
  Contracts of points read from texts: the program's and the reference's. Under the conditions that each states.
-/
import Derived.Test.YthjkkidcpidgdaaGreatDoorSplit
import Derived.Lib.CutLaws
set_option linter.unusedVariables false
set_option linter.unnecessarySimpa false
set_option maxRecDepth 100000
set_option linter.unusedSimpArgs false
namespace Go.Proofs.YthjkkidcpidgdaaGreatDoor
open Go.RowKit BigFrame

theorem part_len (c : UInt8) : ∀ (l : List UInt8), ∀ p ∈ splitL c l, p.length ≤ l.length
  | [], p, hp => by simp [splitL] at hp; subst hp; exact Nat.le_refl _
  | b :: l, p, hp => by
    by_cases hb : b = c
    · subst hb
      rw [split_hit] at hp
      rcases List.mem_cons.1 hp with rfl | hp
      · exact Nat.zero_le _
      · have := part_len b l p hp; simp; omega
    · rw [split_miss hb] at hp
      cases hq : splitL c l with
      | nil => exact absurd hq (split_ne c l)
      | cons h t =>
        rw [hq] at hp
        rcases List.mem_cons.1 (show p ∈ (([b] ++ h) :: t) from hp) with rfl | hp
        · have := part_len c l h (by rw [hq]; simp); simp; omega
        · have := part_len c l p (by rw [hq]; simp [hp]); simp; omega
def cutA (l : List UInt8) : List UInt8 := (Lib.cut l [44]).1
def cutB (l : List UInt8) : List UInt8 := (Lib.cut l [44]).2.1
theorem cut_one (l : List UInt8) : (Lib.indexByte l 44 = -1 ∧ cutA l = l ∧ cutB l = []) ∨ ∃ i : Nat, Lib.indexByte l 44 = i ∧ i < l.length ∧ cutA l = l.take i ∧ cutB l = l.drop (i + 1) := by
  have e1 : Lib.index l [44] = Lib.indexByte l 44 := Lib.index_one l 44
  have hc := Lib.indexB_cases ⟨l.toArray⟩ ⟨#[44]⟩
  have e2 : Lib.indexB ⟨l.toArray⟩ ⟨#[44]⟩ = Lib.index l [44] := rfl
  rw [e2, e1] at hc
  unfold cutA cutB Lib.cut
  rw [e1]
  rcases hc with h | ⟨i, h, hi⟩
  · rw [h]
    exact .inl ⟨rfl, by rw [if_neg (by omega)], by rw [if_neg (by omega)]⟩
  · have hi2 : i + 1 ≤ l.length := by simpa [ByteArray.size] using hi
    rw [h]
    refine .inr ⟨i, rfl, by omega, ?_, ?_⟩
    · rw [if_pos (by omega)]; simp
    · rw [if_pos (by omega)]; simp
def rpOk (l : List UInt8) : Bool := numOk (cutA l) && (numOk (cutB l) && vPoint (numV (cutA l)) (numV (cutB l)))
def rpX (l : List UInt8) : Int := if rpOk l then numV (cutA l) else 0
def rpY (l : List UInt8) : Int := if rpOk l then numV (cutB l) else 0
theorem num_free {l : List UInt8} (h : numOk l = true) (c : UInt8) (hc : isD c = false) (h45 : c ≠ 45) : c ∉ l := by
  intro hm
  have h4 := (numOk_yes h).2.2.2
  unfold trimL at h4
  split at h4
  · cases l with
    | nil => cases hm
    | cons a r =>
      rename_i hh
      have ha : a = 45 := by simpa using hh
      rcases List.mem_cons.1 hm with rfl | hm
      · exact h45 ha
      · have := h4 c hm; rw [hc] at this; cases this
  · have := h4 c hm; rw [hc] at this; cases this
theorem rp_two {l a b : List UInt8} (h : splitL 44 l = [a, b]) : cutA l = a ∧ cutB l = b := by
  rcases cut_one l with ⟨h1, _, _⟩ | ⟨i, h1, _, h2, h3⟩
  · rw [split_none h1] at h; cases h
  · rw [split_some h1] at h
    injection h with e1 e2
    refine ⟨by rw [h2, e1], ?_⟩
    have := split_join 44 (l.drop (i + 1))
    rw [e2, Lib.join_one] at this
    rw [h3, ← this]
theorem rp_not {l : List UInt8} (h : (splitL 44 l).length ≠ 2) : rpOk l = false := by
  rw [← Bool.not_eq_true]
  intro hk
  unfold rpOk at hk
  rw [Bool.and_eq_true, Bool.and_eq_true] at hk
  obtain ⟨_, hb, _⟩ := hk
  rcases cut_one l with ⟨h1, _, h3⟩ | ⟨i, h1, _, h2, h3⟩
  · rw [h3] at hb; cases hb
  · rw [split_some h1] at h
    have hf := num_free hb 44 (by decide) (by decide)
    rw [h3] at hf
    rw [split_free hf] at h
    exact h rfl
theorem end_at {P : Program} {f : Func} {post : Ending → World → Prop} {e : Exit} {a : Act} {W : World} (h : ∀ wf, wf = W → bodyPost P f post e a wf) : bodyPost P f post e a W := h W rfl
theorem two_read {w : World} {g : Nat} {u v : Value} (h0 : w.cell? ⟨g, 0, none⟩ = some u) (h1 : w.cell? ⟨g, 1, none⟩ = some v) (a b : Int) :
    (World.setCell (World.setCell w ⟨g, 0, none⟩ (.int .i64 (a))) ⟨g, 1, none⟩ (.int .i64 (b))).cell? ⟨g, 0, none⟩ = some (.int .i64 a) ∧ (World.setCell (World.setCell w ⟨g, 0, none⟩ (.int .i64 (a))) ⟨g, 1, none⟩ (.int .i64 (b))).cell? ⟨g, 1, none⟩ = some (.int .i64 b) := by
  constructor
  · rw [World.cell?_setCell_other _ _ _ _ (fun e => by simp at e), World.cell?_setCell_same _ _ _ h0]
  · rw [World.cell?_setCell_same _ _ _ (by rw [World.cell?_setCell_other _ _ _ _ (fun e => by simp at e)]; exact h1)]
theorem rp_no {l : List UInt8} (h : rpOk l = false) : Hid (rpX l = 0 ∧ rpY l = 0 ∧ rpOk l = false) := Lib.hid ⟨by unfold rpX; rw [h]; rfl, by unfold rpY; rw [h]; rfl, h⟩
theorem rp_yes {l : List UInt8} (h : rpOk l = true) : Hid (rpX l = rdV (ba (cutA l)) ∧ rpY l = rdV (ba (cutB l)) ∧ rpOk l = true) := by
  have h' := h
  unfold rpOk at h'
  rw [Bool.and_eq_true, Bool.and_eq_true] at h'
  refine Lib.hid ⟨?_, ?_, h⟩
  · unfold rpX rdV; rw [h, ba_list, h'.1]
  · unfold rpY rdV; rw [h, ba_list, h'.2.1]
theorem rdV_ok {l : List UInt8} (h : rdOk (ba l) = true) : rdV (ba l) = numV l := by
  have h : numOk l = true := h
  unfold rdV
  rw [ba_list, h]
  rfl
theorem two_below {B g : Nat} {a w : World} (hg : B ≤ g) (h : Below B a w) (x y : Int) : Below B a (World.setCell (World.setCell w ⟨g, 0, none⟩ (.int .i64 (x))) ⟨g, 1, none⟩ (.int .i64 (y))) := (h.setCell hg _).setCell hg _
theorem alloc_cell {w : World} {b k : Nat} {o : Obj} (h : b < w.heap.size) : (w.alloc o).cell? ⟨b, k, none⟩ = w.cell? ⟨b, k, none⟩ := ((Below.refl w.heap.size w).alloc (Nat.le_refl _) o).cell (p := ⟨b, k, none⟩) h
/-- Two zeros, to be written. -/
def Zp (w : World) (g : Nat) : Prop := g < w.heap.size ∧ w.cell? ⟨g, 0, none⟩ = some (.int .i64 0) ∧ w.cell? ⟨g, 1, none⟩ = some (.int .i64 0) ∧ w.frozen? ⟨g, 0, none⟩ = false ∧ w.frozen? ⟨g, 1, none⟩ = false
theorem Zp.on {w w' : World} {g : Nat} (h : Zp w g) (hb : Below w.heap.size w w') : Zp w' g := by
  obtain ⟨h1, h2, h3, h4, h5⟩ := h
  obtain ⟨hc, hf⟩ := bcell hb
  exact ⟨Nat.lt_of_lt_of_le h1 hb.size, (hc _ _ h1).trans h2, (hc _ _ h1).trans h3, (hf _ _ h1).trans h4, (hf _ _ h1).trans h5⟩
theorem Zp.new (w : World) (t : TypeId) : Zp (w.alloc (.cells #[.int .i64 0, .int .i64 0] t)) w.heap.size := by
  refine ⟨by simp, by simp, by simp, by simp, by simp⟩
theorem Zp.drewN {w : World} {g : Nat} (h : Zp w g) (n : Nat) : Zp (w.drewN n) g := h.on (below_drewN (Below.refl _ _) n)
set_option maxHeartbeats 1600000 in
theorem impl_RPt (s : ByteArray) (hs : s.size ≤ 1048576) (w : World) (hE : Env w) : Calls Tryz.prog 45 #[.string s] w fun e w' => e = .returned (.tuple #[.agg #[.int .i64 (rpX (s.data.toList)), .int .i64 (rpY (s.data.toList))], .bool (rpOk (s.data.toList))]) ∧ Below w.heap.size w w' := by
  obtain ⟨L, hL⟩ : ∃ L, s.data.toList = L := ⟨_, rfl⟩
  have hsz : s.size = L.length := by rw [← hL]; exact (Array.length_toList).symm
  have hla : (cutA L).length ≤ L.length := by rcases cut_one L with ⟨_, h, _⟩ | ⟨i, _, _, h, _⟩ <;> rw [h] <;> (try rw [List.length_take]) <;> omega
  have hlb : (cutB L).length ≤ L.length := by rcases cut_one L with ⟨_, _, h⟩ | ⟨i, _, _, _, h⟩ <;> rw [h] <;> simp
  obtain ⟨a, ha⟩ : ∃ a, cutA L = a := ⟨_, rfl⟩
  obtain ⟨b, hb⟩ : ∃ b, cutB L = b := ⟨_, rfl⟩
  have hA : Hid ((⟨(Lib.cut s.data.toList (⟨#[44]⟩ : ByteArray).data.toList).1.toArray⟩ : ByteArray) = ba a) := Lib.hid (by rw [hL, ← ha]; rfl)
  have hB : Hid ((⟨(Lib.cut s.data.toList (⟨#[44]⟩ : ByteArray).data.toList).2.1.toArray⟩ : ByteArray) = ba b) := Lib.hid (by rw [hL, ← hb]; rfl)
  have hbs : (ba a).size ≤ 281474976710656 := by rw [ba_size, ← ha]; omega
  have hbs2 : (ba b).size ≤ 281474976710656 := by rw [ba_size, ← hb]; omega
  have hrp : Hid (rpOk L = (rdOk (ba a) && (rdOk (ba b) && vPoint (numV a) (numV b)))) := Lib.hid (by unfold rpOk; rw [ha, hb]; rfl)
  have hab' : Hid (cutA L = a ∧ cutB L = b) := Lib.hid ⟨ha, hb⟩
  clear ha hb hla hlb hsz
  rw [hL]
  go_enter Tryz.func45, Tryz.ntmps45
  go_wp2_with fail
  obtain ⟨m, hm⟩ := (hE.on (show Below w.heap.size w (w.alloc (.cells #[.int .i64 0, .int .i64 0] 34)) by go_grown)).big
  cases h1 : rdOk (ba a)
  · have hV := rp_no (l := L) (by rw [hrp.out, h1]; rfl)
    go_wp2_with first
      | (go_at_call 81; refine (sr_strings_Cut s ⟨#[44]⟩ m _ (by omega) hm).mono ?_; rintro e w1 ⟨rfl, n1, hw1⟩; have hB0 : Below w.heap.size w w1 := (by rw [hw1]; exact below_drewN (by go_grown) n1); have hZ0 : Zp w1 w.heap.size := (by rw [hw1]; exact (Zp.new _ _).drewN n1); rw [hA.out, hB.out]; clear hw1)
      | (go_at_call 46; refine (impl_RDec (ba b) hbs2 _ (hE.on hB1)).mono ?_; rintro e w3 ⟨rfl, hb3⟩; have hB3 := bnext hB1 hb3; obtain ⟨z3, e0, e1, e2, e3⟩ := hZ1.on hb3; clear hb3)
      | (go_at_call 46; refine (impl_RDec (ba a) hbs _ (hE.on hB0)).mono ?_; rintro e w2 ⟨rfl, hb2⟩; have hB1 := bnext hB0 hb2; have hZ1 := hZ0.on hb2; clear hb2)
      | (go_at_call 50; refine (impl_ValidPoint _ _ _).mono ?_; rintro e w1 ⟨rfl, hb1⟩; have hB1 := bnext (w := w) (by go_grown) hb1; have hS1 := hB1.size; (skip); obtain ⟨hc1, hf1⟩ := bcell hb1; clear hb1)
    refine end_at ?_
    intro wf hwf
    have y0 : World.cell? w3 ⟨w.heap.size, 0, none⟩ = some (.int .i64 0) := by first | exact e0 | (rw [hc1 _ _ (by simp; omega)]; exact (alloc_cell (by omega)).trans e0)
    have y1 : World.cell? w3 ⟨w.heap.size, 1, none⟩ = some (.int .i64 0) := by first | exact e1 | (rw [hc1 _ _ (by simp; omega)]; exact (alloc_cell (by omega)).trans e1)
    have t0 : wf.cell? ⟨w.heap.size, 0, none⟩ = some (.int .i64 (0)) := by rw [hwf]; first | exact (two_read y0 y1 _ _).1 | exact (alloc_cell (by simp; omega)).trans (two_read y0 y1 _ _).1
    have t1 : wf.cell? ⟨w.heap.size, 1, none⟩ = some (.int .i64 (0)) := by rw [hwf]; first | exact (two_read y0 y1 _ _).2 | exact (alloc_cell (by simp; omega)).trans (two_read y0 y1 _ _).2
    have hBf : Below w.heap.size w wf := by rw [hwf]; first | exact two_below (Nat.le_refl _) hB3 _ _ | exact (two_below (Nat.le_refl _) hB3 _ _).alloc (by simp; omega) _
    clear hwf
    refine bodyPost_ret (by simp [results, Tryz.results45, go_sem, t0, t1]; try rfl) rfl ?_
    exact ⟨by rw [hV.out.1, hV.out.2.1, hV.out.2.2], hBf⟩
  · cases h2 : rdOk (ba b)
    · have hV := rp_no (l := L) (by rw [hrp.out, h1, h2]; rfl)
      go_wp2_with first
        | (go_at_call 81; refine (sr_strings_Cut s ⟨#[44]⟩ m _ (by omega) hm).mono ?_; rintro e w1 ⟨rfl, n1, hw1⟩; have hB0 : Below w.heap.size w w1 := (by rw [hw1]; exact below_drewN (by go_grown) n1); have hZ0 : Zp w1 w.heap.size := (by rw [hw1]; exact (Zp.new _ _).drewN n1); rw [hA.out, hB.out]; clear hw1)
        | (go_at_call 46; refine (impl_RDec (ba b) hbs2 _ (hE.on hB1)).mono ?_; rintro e w3 ⟨rfl, hb3⟩; have hB3 := bnext hB1 hb3; obtain ⟨z3, e0, e1, e2, e3⟩ := hZ1.on hb3; clear hb3)
        | (go_at_call 46; refine (impl_RDec (ba a) hbs _ (hE.on hB0)).mono ?_; rintro e w2 ⟨rfl, hb2⟩; have hB1 := bnext hB0 hb2; have hZ1 := hZ0.on hb2; clear hb2)
        | (go_at_call 50; refine (impl_ValidPoint _ _ _).mono ?_; rintro e w1 ⟨rfl, hb1⟩; have hB1 := bnext (w := w) (by go_grown) hb1; have hS1 := hB1.size; (skip); obtain ⟨hc1, hf1⟩ := bcell hb1; clear hb1)
      refine end_at ?_
      intro wf hwf
      have y0 : World.cell? w3 ⟨w.heap.size, 0, none⟩ = some (.int .i64 0) := by first | exact e0 | (rw [hc1 _ _ (by simp; omega)]; exact (alloc_cell (by omega)).trans e0)
      have y1 : World.cell? w3 ⟨w.heap.size, 1, none⟩ = some (.int .i64 0) := by first | exact e1 | (rw [hc1 _ _ (by simp; omega)]; exact (alloc_cell (by omega)).trans e1)
      have t0 : wf.cell? ⟨w.heap.size, 0, none⟩ = some (.int .i64 (0)) := by rw [hwf]; first | exact (two_read y0 y1 _ _).1 | exact (alloc_cell (by simp; omega)).trans (two_read y0 y1 _ _).1
      have t1 : wf.cell? ⟨w.heap.size, 1, none⟩ = some (.int .i64 (0)) := by rw [hwf]; first | exact (two_read y0 y1 _ _).2 | exact (alloc_cell (by simp; omega)).trans (two_read y0 y1 _ _).2
      have hBf : Below w.heap.size w wf := by rw [hwf]; first | exact two_below (Nat.le_refl _) hB3 _ _ | exact (two_below (Nat.le_refl _) hB3 _ _).alloc (by simp; omega) _
      clear hwf
      refine bodyPost_ret (by simp [results, Tryz.results45, go_sem, t0, t1]; try rfl) rfl ?_
      exact ⟨by rw [hV.out.1, hV.out.2.1, hV.out.2.2], hBf⟩
    · have e1 := rdV_ok h1
      have e2 := rdV_ok h2
      cases h3 : vPoint (rdV (ba a)) (rdV (ba b))
      · have hV := rp_no (l := L) (by rw [hrp.out, h1, h2, ← e1, ← e2, h3]; rfl)
        clear e1 e2
        go_wp2_with first
          | (go_at_call 81; refine (sr_strings_Cut s ⟨#[44]⟩ m _ (by omega) hm).mono ?_; rintro e w1 ⟨rfl, n1, hw1⟩; have hB0 : Below w.heap.size w w1 := (by rw [hw1]; exact below_drewN (by go_grown) n1); have hZ0 : Zp w1 w.heap.size := (by rw [hw1]; exact (Zp.new _ _).drewN n1); rw [hA.out, hB.out]; clear hw1)
          | (go_at_call 46; refine (impl_RDec (ba b) hbs2 _ (hE.on hB1)).mono ?_; rintro e w3 ⟨rfl, hb3⟩; have hB3 := bnext hB1 hb3; obtain ⟨z3, e0, e1, e2, e3⟩ := hZ1.on hb3; clear hb3)
          | (go_at_call 46; refine (impl_RDec (ba a) hbs _ (hE.on hB0)).mono ?_; rintro e w2 ⟨rfl, hb2⟩; have hB1 := bnext hB0 hb2; have hZ1 := hZ0.on hb2; clear hb2)
          | (go_at_call 50; refine (impl_ValidPoint _ _ _).mono ?_; rintro e w1 ⟨rfl, hb1⟩; have hB1 := bnext (w := w) (by go_grown) hb1; have hS1 := hB1.size; (skip); obtain ⟨hc1, hf1⟩ := bcell hb1; clear hb1)
        refine end_at ?_
        intro wf hwf
        have y0 : World.cell? w1 ⟨w.heap.size, 0, none⟩ = some (.int .i64 0) := by first | exact e0 | (rw [hc1 _ _ (by simp; omega)]; exact (alloc_cell (by omega)).trans e0)
        have y1 : World.cell? w1 ⟨w.heap.size, 1, none⟩ = some (.int .i64 0) := by first | exact e1 | (rw [hc1 _ _ (by simp; omega)]; exact (alloc_cell (by omega)).trans e1)
        have t0 : wf.cell? ⟨w.heap.size, 0, none⟩ = some (.int .i64 (0)) := by rw [hwf]; first | exact (two_read y0 y1 _ _).1 | exact (alloc_cell (by simp; omega)).trans (two_read y0 y1 _ _).1
        have t1 : wf.cell? ⟨w.heap.size, 1, none⟩ = some (.int .i64 (0)) := by rw [hwf]; first | exact (two_read y0 y1 _ _).2 | exact (alloc_cell (by simp; omega)).trans (two_read y0 y1 _ _).2
        have hBf : Below w.heap.size w wf := by rw [hwf]; first | exact two_below (Nat.le_refl _) hB1 _ _ | exact (two_below (Nat.le_refl _) hB1 _ _).alloc (by simp; omega) _
        clear hwf
        refine bodyPost_ret (by simp [results, Tryz.results45, go_sem, t0, t1]; try rfl) rfl ?_
        exact ⟨by rw [hV.out.1, hV.out.2.1, hV.out.2.2], hBf⟩
      · have hV := rp_yes (l := L) (by rw [hrp.out, h1, h2, ← e1, ← e2, h3]; rfl)
        rw [hab'.out.1, hab'.out.2] at hV
        clear e1 e2
        go_wp2_with first
          | (go_at_call 81; refine (sr_strings_Cut s ⟨#[44]⟩ m _ (by omega) hm).mono ?_; rintro e w1 ⟨rfl, n1, hw1⟩; have hB0 : Below w.heap.size w w1 := (by rw [hw1]; exact below_drewN (by go_grown) n1); have hZ0 : Zp w1 w.heap.size := (by rw [hw1]; exact (Zp.new _ _).drewN n1); rw [hA.out, hB.out]; clear hw1)
          | (go_at_call 46; refine (impl_RDec (ba b) hbs2 _ (hE.on hB1)).mono ?_; rintro e w3 ⟨rfl, hb3⟩; have hB3 := bnext hB1 hb3; obtain ⟨z3, e0, e1, e2, e3⟩ := hZ1.on hb3; clear hb3)
          | (go_at_call 46; refine (impl_RDec (ba a) hbs _ (hE.on hB0)).mono ?_; rintro e w2 ⟨rfl, hb2⟩; have hB1 := bnext hB0 hb2; have hZ1 := hZ0.on hb2; clear hb2)
          | (go_at_call 50; refine (impl_ValidPoint _ _ _).mono ?_; rintro e w1 ⟨rfl, hb1⟩; have hB1 := bnext (w := w) (by go_grown) hb1; have hS1 := hB1.size; (skip); obtain ⟨hc1, hf1⟩ := bcell hb1; clear hb1)
        refine end_at ?_
        intro wf hwf
        have y0 : World.cell? w1 ⟨w.heap.size, 0, none⟩ = some (.int .i64 0) := by first | exact e0 | (rw [hc1 _ _ (by simp; omega)]; exact (alloc_cell (by omega)).trans e0)
        have y1 : World.cell? w1 ⟨w.heap.size, 1, none⟩ = some (.int .i64 0) := by first | exact e1 | (rw [hc1 _ _ (by simp; omega)]; exact (alloc_cell (by omega)).trans e1)
        have t0 : wf.cell? ⟨w.heap.size, 0, none⟩ = some (.int .i64 (rdV (ba a))) := by rw [hwf]; first | exact (two_read y0 y1 _ _).1 | exact (alloc_cell (by simp; omega)).trans (two_read y0 y1 _ _).1
        have t1 : wf.cell? ⟨w.heap.size, 1, none⟩ = some (.int .i64 (rdV (ba b))) := by rw [hwf]; first | exact (two_read y0 y1 _ _).2 | exact (alloc_cell (by simp; omega)).trans (two_read y0 y1 _ _).2
        have hBf : Below w.heap.size w wf := by rw [hwf]; first | exact two_below (Nat.le_refl _) hB1 _ _ | exact (two_below (Nat.le_refl _) hB1 _ _).alloc (by simp; omega) _
        clear hwf
        refine bodyPost_ret (by simp [results, Tryz.results45, go_sem, t0, t1]; try rfl) rfl ?_
        exact ⟨by rw [hV.out.1, hV.out.2.1, hV.out.2.2], hBf⟩
end Go.Proofs.YthjkkidcpidgdaaGreatDoor
