/-
  Plain words for slices of records: a list of records as a row of cells; a slice argument opened to such a list; a row that the call fills. Under the conditions that each states.
-/
import Derived.Test.YtpnffdkkmibchaaGreatDoorKit
set_option linter.unusedVariables false
set_option maxRecDepth 100000
set_option linter.unusedSimpArgs false
namespace Go.Proofs.YtpnffdkkmibchaaGreatDoor
open Go.RowKit Go.Deep

/-- The cells of a list of records, n cells each. -/
def flat {α : Type} (f : α → List Value) (L : List α) : List Value := L.flatMap f
theorem flat_nil {α : Type} (f : α → List Value) : flat f [] = [] := rfl
theorem flat_cons {α : Type} (f : α → List Value) (a : α) (L : List α) : flat f (a :: L) = f a ++ flat f L := rfl
theorem flat_snoc {α : Type} (f : α → List Value) (a : α) (L : List α) : flat f (L ++ [a]) = flat f L ++ f a := by simp [flat]
theorem flat_append {α : Type} (f : α → List Value) (L M : List α) : flat f (L ++ M) = flat f L ++ flat f M := by simp [flat]
theorem flat_len {α : Type} {f : α → List Value} {n : Nat} (hf : ∀ a, (f a).length = n) (L : List α) : (flat f L).length = L.length * n := by
  induction L with
  | nil => simp [flat]
  | cons a L ih => rw [flat_cons, List.length_append, hf, ih, List.length_cons, Nat.add_mul]; omega
theorem flat_get {α : Type} {f : α → List Value} {n : Nat} (hf : ∀ a, (f a).length = n) : ∀ (L : List α) (k : Nat) (hk : k < L.length) (j : Nat), j < n → (flat f L)[k * n + j]? = (f L[k])[j]?
  | [], k, hk, j, hj => by simp at hk
  | a :: L, 0, hk, j, hj => by
    rw [flat_cons, Nat.zero_mul, Nat.zero_add, List.getElem?_append_left (by rw [hf]; exact hj)]
    rfl
  | a :: L, k + 1, hk, j, hj => by
    have ih := flat_get hf L k (by simpa using hk) j hj
    rw [flat_cons, List.getElem?_append_right (by rw [hf, Nat.add_mul]; omega), hf]
    have e : (k + 1) * n + j - n = k * n + j := by rw [Nat.add_mul]; omega
    rw [e, ih]
    rfl
theorem flat_inv {α : Type} {f : α → List Value} {n : Nat} (hf : ∀ a, (f a).length = n) : ∀ (L : List α) (j : Nat) (u : Value), (flat f L)[j]? = some u → ∃ k r, ∃ hk : k < L.length, j = k * n + r ∧ r < n ∧ (f L[k])[r]? = some u
  | [], j, u, h => by simp [flat] at h
  | a :: L, j, u, h => by
    rw [flat_cons] at h
    rcases (by omega : j < n ∨ n ≤ j) with hj | hj
    · rw [List.getElem?_append_left (by rw [hf]; exact hj)] at h
      exact ⟨0, j, by simp, by omega, hj, h⟩
    · rw [List.getElem?_append_right (by rw [hf]; exact hj), hf] at h
      obtain ⟨k, r, hk, e, hr, hu⟩ := flat_inv hf L (j - n) u h
      exact ⟨k + 1, r, by simpa using hk, by rw [Nat.add_mul]; omega, hr, by simpa using hu⟩
theorem Sl.elem {α : Type} {f : α → List Value} {n : Nat} (hf : ∀ a, (f a).length = n) (hn : 0 < n) {w : World} {B : Nat} {A : Option Addr} {L : List α} (h : Sl w B A (flat f L)) {k : Nat} (hk : k < L.length) :
    ∃ b o : Nat, A = some ⟨b, o, none⟩ ∧ b < B ∧ ∀ (j : Nat) (u : Value), (f L[k])[j]? = some u → w.cell? ⟨b, o + (k * n + j), none⟩ = some u := by
  have hne : flat f L ≠ [] := by
    intro e
    have := flat_len hf L
    rw [e] at this
    have := Nat.mul_pos (show 0 < L.length by omega) hn
    simp at *
    omega
  obtain ⟨b, o, e, hb, hc⟩ := h hne
  refine ⟨b, o, e, hb, fun j u hu => hc _ _ ?_⟩
  have hj : j < n := by have := (List.getElem?_eq_some_iff.1 hu).1; rwa [hf] at this
  rw [flat_get hf L k hk j hj]
  exact hu
theorem Sl.nil (w : World) (B : Nat) (A : Option Addr) : Sl w B A [] := fun h => absurd rfl h

section
variable {H : Type} {enc : TypeId × Value → H} {P : Program} {w : World} {spare : Nat → Bool} {held : Bool}
/-- A slice that came in, its elements of one make. -/
theorem open_flat {α : Type} [Inhabited α] (f : α → List Value) (ok : α → Prop) {n : Nat} (hf : ∀ a, (f a).length = n) (hn : 0 < n) {t e : TypeId} {fuel : Nat} {cs : List Value} {x : DataW H × List MemPlace} (ht : P.underlying t = some (.slice e)) (hC : P.cellsOf e = n)
    (hone : ∀ (m : Nat) (c : List Value) (y : DataW H × List MemPlace), DataW.trod enc P w 0 spare held m e c = some y → ∃ a, c = f a ∧ ok a) (h : DataW.trod enc P w 0 spare held fuel t cs = some x) :
    ∃ (A : Option Addr) (c : Nat) (L : List α), cs = [.slice A L.length c] ∧ Sl w w.heap.size A (flat f L) ∧ (∀ a ∈ L, ok a) ∧ L.length ≤ maxLen := by
  rcases open_slice ht h with ⟨rfl, _⟩ | ⟨a, len, cap, m, n', D, Pl, rfl, _, hl, hm, hmm, _, hi⟩
  · exact ⟨none, 0, [], rfl, Sl.nil _ _ _, (by intro a ha; cases ha), Nat.zero_le _⟩
  · have hlm : len ≤ m := by rw [hmm]; split <;> omega
    have hex : ∀ i, i < len → ∃ y : α, ok y ∧ ∀ (j : Nat) (u : Value), (f y)[j]? = some u → w.cell? ((a.add (i * n)).add j) = some u := fun i hil => by
      obtain ⟨cs', hc, ht'⟩ := hi i (by omega)
      obtain ⟨y, rfl, hok⟩ := hone _ _ _ ht'
      rw [hC] at hc
      obtain ⟨_, _, hat⟩ := World.cells?_some hc
      refine ⟨y, hok, fun j u hu => ?_⟩
      have hj : j < n := by have := (List.getElem?_eq_some_iff.1 hu).1; rwa [hf] at this
      rw [hat j hj]; exact hu
    obtain ⟨V, hV⟩ := choose_lt hex
    refine ⟨some a, cap, (List.range len).map V, by simp, fun hne => ?_, fun y hy => ?_, by simp; omega⟩
    · have hpos : 0 < len := by
        rcases Nat.eq_zero_or_pos len with h0 | h0
        · subst h0; simp [flat] at hne
        · exact h0
      have h00 : ∃ u, (f (V 0))[0]? = some u := ⟨(f (V 0))[0]'(by rw [hf]; exact hn), List.getElem?_eq_getElem _⟩
      obtain ⟨u0, hu0⟩ := h00
      have hc0 := (hV 0 hpos).2 0 u0 hu0
      rw [Nat.zero_mul] at hc0
      obtain ⟨b, o, spot⟩ := a
      have hspot : spot = none := by simpa [Addr.add] using World.cell?_spot hc0
      subst hspot
      refine ⟨b, o, rfl, ?_, fun j u hu => ?_⟩
      · have := World.block_lt_of_cell? w _ hc0; simpa [Addr.add] using this
      · obtain ⟨k, r, hk, rfl, hr, hur⟩ := flat_inv hf _ j u hu
        have hk' : k < len := by simpa using hk
        have hcell := (hV k hk').2 r u (by simpa using hur)
        rw [Go.WideShapes.add_plain, Go.WideShapes.add_plain, Nat.add_assoc] at hcell
        exact hcell
    · obtain ⟨i, hi', rfl⟩ := List.mem_map.1 hy
      exact (hV i (by simpa using hi')).1
end

/-! ### A row that the call fills: a whole block of its own, its first cells known -/
def Own (w : World) (g : Nat) (t : TypeId) (N : Nat) (xs : List Value) : Prop := ∃ cur : Array Value, w.heap[g]? = some (.cells cur t (0, 0)) ∧ cur.size = N ∧ xs.length ≤ N ∧ ∀ (j : Nat) (u : Value), xs[j]? = some u → cur[j]? = some u
section
variable {w w' : World} {g : Nat} {t : TypeId} {N : Nat} {xs : List Value}
theorem Own.lt (h : Own w g t N xs) : g < w.heap.size := by
  obtain ⟨cur, hh, _⟩ := h
  exact (Array.getElem?_eq_some_iff.1 hh).1
theorem Own.cell (h : Own w g t N xs) {i : Nat} (hi : i < N) : ∃ v, w.cell? ⟨g, i, none⟩ = some v := by
  obtain ⟨cur, hh, hs, _⟩ := h
  exact ⟨cur[i]'(by omega), by simp [World.cell?, hh, hs, hi]⟩
theorem Own.frozen (h : Own w g t N xs) (i : Nat) : w.frozen? ⟨g, i, none⟩ = false := by
  obtain ⟨cur, hh, _⟩ := h
  simp [World.frozen?, hh]
theorem Own.sl (h : Own w g t N xs) : Sl w (g + 1) (some ⟨g, 0, none⟩) xs := fun _ => by
  obtain ⟨cur, hh, hs, _, hc⟩ := h
  refine ⟨g, 0, rfl, by omega, fun j u hu => ?_⟩
  rw [Nat.zero_add]
  simp [World.cell?, hh, hc j u hu]
theorem Own.below {B : Nat} (h : Own w g t N xs) (hg : g < B) (hb : Below B w w') : Own w' g t N xs := by
  obtain ⟨cur, hh, hr⟩ := h
  exact ⟨cur, (hb.block g hg).trans hh, hr⟩
theorem Own.on (h : Own w g t N xs) (hb : Below w.heap.size w w') : Own w' g t N xs := h.below h.lt hb
theorem Own.alloc (h : Own w g t N xs) (o : Obj) : Own (w.alloc o) g t N xs := h.on ((Below.refl _ _).alloc (Nat.le_refl _) o)
theorem Own.set (h : Own w g t N xs) {i : Nat} (hi : i = xs.length) (hN : i < N) (u : Value) : Own (w.setCell ⟨g, i, none⟩ u) g t N (xs ++ [u]) := by
  obtain ⟨cur, hh, hs, hl, hc⟩ := h
  subst hi
  refine ⟨cur.setIfInBounds xs.length u, by simp [World.setCell, Array.getElem?_modify, hh], by simp [hs], by simp; omega, fun j v hv => ?_⟩
  rcases (by omega : j < xs.length ∨ j = xs.length ∨ xs.length < j) with h1 | h1 | h1
  · rw [List.getElem?_append_left h1] at hv
    rw [Array.getElem?_setIfInBounds_ne (by omega)]
    exact hc j v hv
  · subst h1
    rw [List.getElem?_append_right (Nat.le_refl _), Nat.sub_self] at hv
    rw [Array.getElem?_setIfInBounds_self_of_lt (by omega)]
    simpa using hv
  · rw [List.getElem?_append_right (by omega)] at hv
    rw [List.getElem?_eq_none (by simp; omega)] at hv
    cases hv
theorem Own.made {e : TypeId} (w : World) (cur : Array Value) : Own (w.alloc (.cells cur e)) w.heap.size e cur.size [] :=
  ⟨cur, heap_alloc_new w _, rfl, by simp, fun j u hu => by simp at hu⟩
end
end Go.Proofs.YtpnffdkkmibchaaGreatDoor
