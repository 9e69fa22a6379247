/-
  Contracts of a danger added to a list: the program's and the reference's. Each under the conditions that it states.
-/
import Derived.Test.YtlolkngklfabfaaRowOps
import Derived.Test.YtlolkngklfabfaaDangL
import Derived.Lib.AppendZerosOnto
import Derived.Laws.CopyRow
import Derived.Lib.JoinLaws
import Derived.Shelf.Spec.SlicesInsert
import Derived.Deep.RegionHeld3
set_option linter.unusedVariables false
set_option linter.unnecessarySimpa false
set_option maxRecDepth 100000
set_option linter.unusedSimpArgs false
namespace Go.Proofs.Ytlolkngklfabfaa
open Go.RowKit BigFrame

theorem RDanger.one (a : RDanger) : ∀ u ∈ a.cells, u.oneCell' = true := by
  intro u hu
  simp [RDanger.cells] at hu
  rcases hu with rfl | rfl | rfl | rfl <;> rfl

/-- Whether a danger's name is ahead of a text. -/
def lessD (s : ByteArray) (a : RDanger) : Bool := ltS a.f0 s
/-- The number of the first that is not ahead of it. -/
def addAt (s : ByteArray) (L : List RDanger) : Nat := (L.takeWhile (lessD s)).length
theorem addAt_le (s : ByteArray) (L : List RDanger) : addAt s L ≤ L.length := by
  unfold addAt
  exact (List.takeWhile_sublist _).length_le
theorem addAt_stop (s : ByteArray) : ∀ (L : List RDanger) (h : addAt s L < L.length), lessD s L[addAt s L] = false
  | [], h => by simp at h
  | a :: L, h => by
    cases ha : lessD s a
    · have e : addAt s (a :: L) = 0 := by simp [addAt, List.takeWhile_cons, ha]
      simp only [e, List.getElem_cons_zero]
      exact ha
    · have e : addAt s (a :: L) = addAt s L + 1 := by simp [addAt, List.takeWhile_cons, ha]
      simp only [e, List.getElem_cons_succ]
      exact addAt_stop s L (by rw [e] at h; simpa using h)
theorem addAt_go (s : ByteArray) : ∀ (L : List RDanger) (k : Nat) (hk : k < L.length), k < addAt s L → lessD s L[k] = true
  | [], k, hk, _ => by simp at hk
  | a :: L, k, hk, h => by
    cases ha : lessD s a
    · have e : addAt s (a :: L) = 0 := by simp [addAt, List.takeWhile_cons, ha]
      omega
    · have e : addAt s (a :: L) = addAt s L + 1 := by simp [addAt, List.takeWhile_cons, ha]
      cases k with
      | zero => exact ha
      | succ k => exact addAt_go s L k (by simpa using hk) (by omega)
theorem addAt_step {s : ByteArray} {L : List RDanger} {k : Nat} {a : RDanger} (hk : k < L.length) (ha : L[k] = a) (h : k ≤ addAt s L) (hl : ltS a.f0 s = true) : k + 1 ≤ addAt s L := by
  rcases Nat.lt_or_ge k (addAt s L) with h1 | h1
  · exact h1
  · exfalso
    have e : addAt s L = k := by omega
    have := addAt_stop s L (by omega)
    simp only [e, ha] at this
    unfold lessD at this
    rw [hl] at this; cases this
theorem addAt_at {s : ByteArray} {L : List RDanger} {k : Nat} {a : RDanger} (hk : k < L.length) (ha : L[k] = a) (h : k ≤ addAt s L) (hl : ltS a.f0 s = false) : addAt s L = k := by
  rcases Nat.lt_or_ge k (addAt s L) with h1 | h1
  · have := addAt_go s L k hk h1
    rw [ha] at this
    unfold lessD at this
    rw [hl] at this; cases this
  · omega
/-- The code of adding, and the list that comes of it. -/
def addC (L : List RDanger) (d : RDanger) : Int :=
  if (vDangsM L && d.v) = false then 1 else if decide (addAt d.f0 L < L.length) && decide ((L.getD (addAt d.f0 L) default).f0 = d.f0) then 4 else if L.length = 24 then 5 else 0
def addL (L : List RDanger) (d : RDanger) : List RDanger := if addC L d = 0 then L.take (addAt d.f0 L) ++ d :: L.drop (addAt d.f0 L) else []
theorem addC_bad {L : List RDanger} {d : RDanger} (h : (vDangsM L && d.v) = false) : addC L d = 1 ∧ addL L d = [] := by
  have e : addC L d = 1 := by unfold addC; rw [if_pos h]
  exact ⟨e, by unfold addL; rw [e]; rfl⟩
theorem addC_is {L : List RDanger} {d a : RDanger} {k : Nat} (h : vDangsM L = true) (hd : d.v = true) (hk : k < L.length) (ha : L[k] = a) (hat : addAt d.f0 L = k) (he : a.f0 = d.f0) : addC L d = 4 ∧ addL L d = [] := by
  have e : addC L d = 4 := by
    unfold addC
    rw [h, hd, if_neg (by simp), hat, getD_at hk, ha, decide_eq_true hk, decide_eq_true he]; rfl
  exact ⟨e, by unfold addL; rw [e]; rfl⟩
theorem addC_go {L : List RDanger} {d : RDanger} {k : Nat} (h : vDangsM L = true) (hd : d.v = true) (hat : addAt d.f0 L = k) (hno : ∀ hk : k < L.length, ¬ L[k].f0 = d.f0) : addC L d = (if L.length = 24 then 5 else 0) := by
  unfold addC
  rw [h, hd, if_neg (by simp), hat]
  by_cases hk : k < L.length
  · rw [getD_at hk, decide_eq_false (hno hk), Bool.and_false, if_neg (by simp)]
  · rw [decide_eq_false hk, Bool.false_and, if_neg (by simp)]
theorem addC_full {L : List RDanger} {d : RDanger} {k : Nat} (h : vDangsM L = true) (hd : d.v = true) (hat : addAt d.f0 L = k) (hno : ∀ hk : k < L.length, ¬ L[k].f0 = d.f0) (h24 : L.length = 24) : addC L d = 5 ∧ addL L d = [] := by
  have e : addC L d = 5 := by rw [addC_go h hd hat hno, if_pos h24]
  exact ⟨e, by unfold addL; rw [e]; rfl⟩
theorem addC_ok {L : List RDanger} {d : RDanger} {k : Nat} (h : vDangsM L = true) (hd : d.v = true) (hat : addAt d.f0 L = k) (hno : ∀ hk : k < L.length, ¬ L[k].f0 = d.f0) (h24 : ¬ L.length = 24) : addC L d = 0 ∧ addL L d = L.take k ++ d :: L.drop k := by
  have e : addC L d = 0 := by rw [addC_go h hd hat hno, if_neg h24]
  exact ⟨e, by unfold addL; rw [if_pos e, hat]⟩
theorem addL_le (L : List RDanger) (d : RDanger) : (addL L d).length ≤ L.length + 1 := by
  unfold addL
  split
  · simp; omega
  · simp
theorem addL_max (L : List RDanger) (d : RDanger) : (addL L d).length ≤ 25 := by
  by_cases h : addC L d = 0
  · have hv : vDangsM L = true := by
      cases hv : vDangsM L
      · unfold addC at h
        rw [hv, Bool.false_and, if_pos rfl] at h
        omega
      · rfl
    unfold vDangsM at hv
    rw [Bool.and_eq_true] at hv
    have h24 := of_decide_eq_true hv.2
    have := addL_le L d
    omega
  · unfold addL; rw [if_neg h]; simp
/-- What adding leaves. -/
def AddPost (L : List RDanger) (d : RDanger) (w : World) (e : Ending) (w' : World) : Prop := ∃ v, e = .returned (.tuple #[v, .int .i64 (addC L d)]) ∧ Below w.heap.size w w' ∧ Rs w' w.heap.size 44 4 v (addL L d).length (flat RDanger.cells (addL L d))
theorem AddPost.nil {L : List RDanger} {d : RDanger} {w w' : World} {c : Int} (h : addC L d = c ∧ addL L d = []) (hb : Below w.heap.size w w') : AddPost L d w (.returned (.tuple #[.slice none 0 0, .int .i64 c])) w' :=
  ⟨_, by rw [h.1], hb, by rw [h.2]; exact Rs.nil _ _ _ _⟩

/-- A record's cells in a block of its own. -/
def Dz (w : World) (g : Nat) (d : RDanger) : Prop := g < w.heap.size ∧ w.cell? ⟨g, 0, none⟩ = some (.string d.f0) ∧ w.cell? ⟨g, 1, none⟩ = some (.int .i64 d.f1) ∧ w.cell? ⟨g, 2, none⟩ = some (.int .i64 d.f2) ∧ w.cell? ⟨g, 3, none⟩ = some (.int .i64 d.f3)
theorem Dz.on {w w' : World} {g : Nat} {d : RDanger} (h : Dz w g d) (hb : Below w.heap.size w w') : Dz w' g d := by
  obtain ⟨hg, c0, c1, c2, c3⟩ := h
  obtain ⟨hc, _⟩ := bcell hb
  exact ⟨Nat.lt_of_lt_of_le hg hb.size, (hc _ _ hg).trans c0, (hc _ _ hg).trans c1, (hc _ _ hg).trans c2, (hc _ _ hg).trans c3⟩
theorem Dz.far {w w' : World} {g : Nat} {d : RDanger} {row : Option Nat} (h : Dz w g d) (hg : w.grownBy w' row) (hne : ∀ k, row = some k → g ≠ k) : Dz w' g d := by
  have hb : w'.heap[g]? = w.heap[g]? := hg.block g h.1 (fun e => hne g e.symm rfl)
  obtain ⟨hl, c0, c1, c2, c3⟩ := h
  exact ⟨Nat.lt_of_lt_of_le hl hg.size, by rw [World.cell?_of_block (a := ⟨g, 0, none⟩) hb]; exact c0, by rw [World.cell?_of_block (a := ⟨g, 1, none⟩) hb]; exact c1, by rw [World.cell?_of_block (a := ⟨g, 2, none⟩) hb]; exact c2, by rw [World.cell?_of_block (a := ⟨g, 3, none⟩) hb]; exact c3⟩

theorem infoDang : (Try.prog.info? 44).map (fun i => (i.zero, i.size, i.bytes)) = some (some (.agg #[.string ⟨#[]⟩, .int .i64 0, .int .i64 0, .int .i64 0]), 4, 40) := by kernel_rfl
theorem spec_Add_bad (L : List RDanger) (A : Option Addr) (c B : Nat) (d : RDanger) (w : World) (hs : Sl w B A (flat RDanger.cells L)) (hB : B ≤ w.heap.size) (hok : ∀ a ∈ L, a.ok) (hl : L.length ≤ 1048576) (hds : d.f0.size ≤ maxLen) (hv : (vDangsM L && d.v) = false) :
    Calls Try.prog 20 #[.slice A L.length c, .agg #[.string d.f0, .int .i64 d.f1, .int .i64 d.f2, .int .i64 d.f3]] w (AddPost L d w) := by
  have hs' := Lib.hid hs
  have hok' := Lib.hid hok
  have H := Lib.hid (addC_bad hv)
  have hz : Hid (Dz ((w.alloc (.cells #[.string d.f0, .int .i64 d.f1, .int .i64 d.f2, .int .i64 d.f3] 44))) w.heap.size d) := Lib.hid ⟨by simp, by simp [go_sem], by simp [go_sem], by simp [go_sem], by simp [go_sem]⟩
  clear hs hok
  rcases (by
    cases h1 : vDangsM L
    · exact Or.inl rfl
    · rw [h1] at hv; exact Or.inr ⟨rfl, hv⟩ : vDangsM L = false ∨ (vDangsM L = true ∧ d.v = false)) with h | ⟨h, h2⟩
  · clear hv
    go_enter Try.func20, Try.ntmps20
    go_wp2_with ((go_at_call 82; refine (spec_l14Ok L _ _ B _ (hs'.out.below ((show Below w.heap.size w _ by go_grown).mono hB)) (by simp; omega) hok'.out hl).mono ?_; rintro e w1 ⟨rfl, hb1⟩; have hB1 := bnext (w := w) (by go_grown) hb1; have hS1 := hB1.size; ((have hz1 : w.heap.size < w1.heap.size := by have := hb1.size; (try simp only [World.size_alloc, World.size_setCell, World.size_drew] at this); omega)); obtain ⟨hc1, hf1⟩ := bcell hb1; clear hb1))
    go_ret2
    exact AddPost.nil H.out (by go_grown)
  · have h2 : vDanger d.f0 d.f1 d.f2 d.f3 = false := h2
    clear hv
    go_enter Try.func20, Try.ntmps20
    go_wp2_with fail
    refine (spec_l14Ok L _ _ B _ (hs'.out.below ((show Below w.heap.size w _ by go_grown).mono hB)) (by simp; omega) hok'.out hl).mono ?_
    rintro e w1 ⟨rfl, hb1⟩
    have hB1 := bnext (show Below w.heap.size w ((w.alloc (.cells #[.string d.f0, .int .i64 d.f1, .int .i64 d.f2, .int .i64 d.f3] 44))) by go_grown) hb1
    have hD := hz.out.on hb1
    obtain ⟨hzl, z0, z1, z2, z3⟩ := hD
    clear hb1
    go_wp2_with fail
    refine (spec_l14One d.f0 hds d.f1 d.f2 d.f3 w.heap.size 0 _ ⟨hzl, z0, z1, z2, z3⟩).mono ?_
    rintro e w2 ⟨rfl, hb2⟩
    have hB2 := bnext hB1 hb2
    go_wp2
    go_ret2
    exact AddPost.nil H.out hB2
end Go.Proofs.Ytlolkngklfabfaa
