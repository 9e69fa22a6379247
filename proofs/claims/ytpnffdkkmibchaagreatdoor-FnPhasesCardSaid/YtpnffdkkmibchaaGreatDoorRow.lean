/-
  Plain words for the rows that the laws copy: what the copy is, a made row, sizes. Under the conditions that each states.
-/
import Derived.Test.YtpnffdkkmibchaaGreatDoorFlat
import Derived.Laws.MakeOwn
set_option linter.unusedVariables false
set_option linter.unnecessarySimpa false
set_option maxRecDepth 100000
set_option linter.unusedSimpArgs false
namespace Go.Proofs.YtpnffdkkmibchaaGreatDoor
open Go.RowKit BigFrame

def ToPost (xs : List Value) (n : Nat) (w : World) (e : Ending) (w' : World) : Prop := e = .returned (.slice (some ⟨w.heap.size, 0, none⟩) n n) ∧ Below w.heap.size w w' ∧ w.heap.size < w'.heap.size ∧ Sl w' (w.heap.size + 1) (some ⟨w.heap.size, 0, none⟩) xs
theorem made_row {P : Program} (w : World) {t e : TypeId} {z : Array Value} {s by_ : Nat} (ht : P.underlying t = some (.slice e)) (hi : (P.info? e).map (fun i => (i.zero.map Value.cells, i.size)) = some (some z, s)) (hb : (P.info? e).map (fun i => i.bytes) = some by_) (n : Nat) (hn : by_ * n ≤ 281474976710656) (h2 : n ≤ 9223372036854775807) :
    (Instr.makeSlice t (.int .i64 n) (.int .i64 n)).run P w = .ok (.slice (some ⟨w.heap.size, 0, none⟩) n n) (w.alloc (.cells (madeCells z (n * s)) e)) := by
  obtain ⟨i, h1, h3⟩ := Option.map_eq_some_iff.1 hi
  simp only [Prod.mk.injEq] at h3
  obtain ⟨h3, rfl⟩ := h3
  obtain ⟨zv, hz, rfl⟩ := Option.map_eq_some_iff.1 h3
  rw [h1] at hb
  simp only [Option.map_some, Option.some.injEq] at hb
  subst hb
  have := run_make w t e i zv ht h1 hz .i64 .i64 n n (by omega) (Int.le_refl _) (by omega) (by omega)
  simpa using this
theorem own_made {e : TypeId} (w : World) (z : Array Value) (m : Nat) {α : Type} (f : α → List Value) (L : List α) : Own (w.alloc (.cells (madeCells z m) e)) w.heap.size e m (flat f (L.take 0)) := by
  have := Own.made (e := e) w (madeCells z m)
  rw [size_madeCells] at this
  exact this
def szR (left : Int) (n : Nat) : Int := if left - n < 0 then -1 else left - n
theorem szR_lt {l : Int} {n : Nat} (h : szR l n < 0) : l - n < 0 ∧ szR l n = -1 := by
  unfold szR at *
  split at h
  · rename_i h1; exact ⟨h1, if_pos h1⟩
  · omega
theorem szR_ge {l : Int} {n : Nat} (h : ¬ szR l n < 0) : ¬ l - n < 0 ∧ szR l n = l - n := by
  unfold szR at *
  split at h
  · omega
  · rename_i h1; exact ⟨h1, if_neg h1⟩
def szAll {α : Type} (f : α → Nat) : Int → List α → Int
  | l, [] => l
  | l, a :: r => if l - f a < 0 then -1 else szAll f (l - f a) r
def szS {α : Type} (f : α → Nat) (l : Int) (L : List α) : Int := if l - L.length < 0 then -1 else szAll f (l - L.length) L
theorem szAll_at {α : Type} {f : α → Nat} {l : Int} {L : List α} {k : Nat} (h : k < L.length) : szAll f l (L.drop k) = if l - f L[k] < 0 then -1 else szAll f (l - f L[k]) (L.drop (k + 1)) := by
  rw [List.drop_eq_getElem_cons h]; rfl
theorem szAll_le {α : Type} {f : α → Nat} : ∀ (L : List α) (l : Int), -1 ≤ l → szAll f l L ≤ l
  | [], l, _ => Int.le_refl _
  | a :: L, l, h => by
    simp only [szAll]
    split
    · exact h
    · have := szAll_le (f := f) L (l - f a) (by omega); omega
theorem szS_ge {α : Type} {f : α → Nat} {l : Int} {L : List α} (h : ¬ szS f l L < 0) : (L.length : Int) ≤ l ∧ szS f l L ≤ l := by
  unfold szS at *
  split at h
  · omega
  · rename_i h1
    rw [if_neg h1]
    have := szAll_le (f := f) L (l - L.length) (by omega)
    omega

theorem getD_at {α : Type} [Inhabited α] {L : List α} {k : Nat} (h : k < L.length) : L.getD k default = L[k] := by
  rw [List.getD_eq_getElem?_getD, List.getElem?_eq_getElem h]; rfl
end Go.Proofs.YtpnffdkkmibchaaGreatDoor
