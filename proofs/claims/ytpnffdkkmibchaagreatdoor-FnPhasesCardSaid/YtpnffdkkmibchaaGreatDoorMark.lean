/-
  Marks: the text that bears a number, rows of a call's own that are written over with marks. Under the conditions that each states.
-/
import Derived.Test.YtpnffdkkmibchaaGreatDoorBase
import Derived.Test.YtpnffdkkmibchaaGreatDoorFlat
import Derived.Lib.BufferOwn
set_option linter.unusedVariables false
set_option linter.unnecessarySimpa false
set_option maxRecDepth 100000
set_option linter.unusedSimpArgs false
namespace Go.Proofs.YtpnffdkkmibchaaGreatDoor
open Go.RowKit BigFrame Go.Deep

def digC (d : Nat) : ByteArray := ⟨#[UInt8.ofNat (48 + d)]⟩
def mkD (k : Nat) (out : ByteArray) : ByteArray := if k = 0 then out else mkD (k / 10) (digC (k % 10) ++ out)
termination_by k
decreasing_by omega
theorem mkD_zero (out : ByteArray) : mkD 0 out = out := by unfold mkD; rfl
theorem mkD_pos {k : Nat} (h : k ≠ 0) (out : ByteArray) : mkD k out = mkD (k / 10) (digC (k % 10) ++ out) := by rw [mkD, if_neg h]
def mkT (k : Int) : ByteArray := if k ≤ 0 then ⟨#[109, 48]⟩ else ⟨#[109]⟩ ++ mkD k.toNat ⟨#[]⟩

/-- The mark of cell j: a text or a number. -/
def mv (ss : Nat → Bool) (k0 : Int) (j : Nat) : Value := if ss j then .string (mkT (k0 + j)) else .int .i64 (k0 + j)
def marks (ss : Nat → Bool) (k0 : Int) (m : Nat) : List Value := (List.range m).map (mv ss k0)
theorem marks_len (ss : Nat → Bool) (k0 : Int) (m : Nat) : (marks ss k0 m).length = m := by simp [marks]
theorem marks_succ (ss : Nat → Bool) (k0 : Int) (m : Nat) : marks ss k0 (m + 1) = marks ss k0 m ++ [mv ss k0 m] := by simp [marks, List.range_succ]
theorem marks_get {ss : Nat → Bool} {k0 : Int} {m j : Nat} (h : j < m) : (marks ss k0 m)[j]? = some (mv ss k0 j) := by simp [marks, h]
theorem mv_str {ss : Nat → Bool} {k0 k : Int} {j : Nat} (h : ss j = true) (e : k0 + j = k) : mv ss k0 j = .string (mkT k) := by unfold mv; rw [if_pos h, e]
theorem mv_int {ss : Nat → Bool} {k0 k : Int} {j : Nat} (h : ss j = false) (e : k0 + j = k) : mv ss k0 j = .int .i64 k := by unfold mv; rw [if_neg (by simp [h]), e]

section
variable {w w' : World} {g : Nat} {t : TypeId} {N : Nat} {xs : List Value}
theorem Own.start (h : Own w g t N xs) : Own w g t N [] := by
  obtain ⟨cur, hh, hs, _⟩ := h
  exact ⟨cur, hh, hs, by simp, fun j u hu => by simp at hu⟩
theorem Own.get (h : Own w g t N xs) {j : Nat} {u : Value} (hu : xs[j]? = some u) : w.cell? ⟨g, j, none⟩ = some u := by
  obtain ⟨cur, hh, _, _, hc⟩ := h
  simp [World.cell?, hh, hc j u hu]
theorem Own.far {k : Nat} (h : Own w g t N xs) (hg : w.grownBy w' (some k)) (hne : g ≠ k) : Own w' g t N xs := by
  have hl := h.lt
  obtain ⟨cur, hh, hr⟩ := h
  exact ⟨cur, (hg.block g hl (fun e => hne (Option.some.inj e))).trans hh, hr⟩
theorem Own.sl' (h : Own w g t N xs) : Sl w w.heap.size (some ⟨g, 0, none⟩) xs := h.sl.more h.lt
theorem Own.mark {ss : Nat → Bool} {k0 : Int} {m : Nat} (h : Own w g t N (marks ss k0 m)) (hN : m < N) {i : Nat} (hi : i = m) {u : Value} (hu : mv ss k0 m = u) : Own (w.setCell ⟨g, i, none⟩ u) g t N (marks ss k0 (m + 1)) := by
  subst hu
  rw [marks_succ]
  exact Own.set h (by rw [marks_len]; exact hi) (by omega) _
end

/-- A slice that a call has made: nil, or a row of its own whose first cells are xs. -/
def Rs (w : World) (B : Nat) (e : TypeId) (sz : Nat) (v : Value) (n : Nat) (xs : List Value) : Prop :=
  xs.length = n * sz ∧ ((v = .slice none 0 0 ∧ n = 0) ∨ ∃ g c N, v = .slice (some ⟨g, 0, none⟩) n c ∧ B ≤ g ∧ Own w g e N xs)
theorem Rs.nil (w : World) (B : Nat) (e : TypeId) (sz : Nat) : Rs w B e sz (.slice none 0 0) 0 [] := ⟨by simp, .inl ⟨rfl, rfl⟩⟩
theorem Rs.of_owns {w : World} {B : Nat} {e : TypeId} {sz : Nat} {v : Value} {n : Nat} {xs : List Value} (h : w.ownsRow B e sz v n xs) : Rs w B e sz v n xs := by
  obtain ⟨hl, h | ⟨g, cap, cur, rfl, hb, hh, hn, hm, hs, ht⟩⟩ := h
  · exact ⟨hl, .inl h⟩
  · refine ⟨hl, .inr ⟨g, cap, cap * sz, rfl, hb, cur, hh, hs, ?_, fun j u hu => ?_⟩⟩
    · rw [hl]; exact Nat.mul_le_mul_right _ hn
    · rw [← ht, List.getElem?_take] at hu
      split at hu
      · simpa using hu
      · cases hu
theorem Rs.on {w w' : World} {B : Nat} {e : TypeId} {sz : Nat} {v : Value} {n : Nat} {xs : List Value} (h : Rs w B e sz v n xs) (hb : Below w.heap.size w w') : Rs w' B e sz v n xs := by
  obtain ⟨hl, h | ⟨g, c, N, rfl, hB, hO⟩⟩ := h
  · exact ⟨hl, .inl h⟩
  · exact ⟨hl, .inr ⟨g, c, N, rfl, hB, hO.on hb⟩⟩
theorem Rs.far {w w' : World} {B : Nat} {e : TypeId} {sz : Nat} {v : Value} {n : Nat} {xs : List Value} {row : Option Nat} (h : Rs w B e sz v n xs) (hg : w.grownBy w' row) (hne : ∀ k, row = some k → v.ownBlock ≠ some k) : Rs w' B e sz v n xs := by
  obtain ⟨hl, h | ⟨g, c, N, rfl, hB, hO⟩⟩ := h
  · exact ⟨hl, .inl h⟩
  · refine ⟨hl, .inr ⟨g, c, N, rfl, hB, ?_⟩⟩
    have hlt := hO.lt
    obtain ⟨cur, hh, hr⟩ := hO
    exact ⟨cur, (hg.block g hlt (fun e => hne g e.symm rfl)).trans hh, hr⟩
theorem Rs.more {w : World} {B B' : Nat} {e : TypeId} {sz : Nat} {v : Value} {n : Nat} {xs : List Value} (h : Rs w B e sz v n xs) (hB : B' ≤ B) : Rs w B' e sz v n xs := by
  obtain ⟨hl, h | ⟨g, c, N, rfl, hg, hO⟩⟩ := h
  · exact ⟨hl, .inl h⟩
  · exact ⟨hl, .inr ⟨g, c, N, rfl, Nat.le_trans hB hg, hO⟩⟩
/-- What such a slice reads as. -/
theorem Rs.sl {w : World} {B : Nat} {e : TypeId} {sz : Nat} {v : Value} {n : Nat} {xs : List Value} (h : Rs w B e sz v n xs) : ∃ A c, v = .slice A n c ∧ Sl w w.heap.size A xs := by
  obtain ⟨hl, ⟨rfl, rfl⟩ | ⟨g, c, N, rfl, hB, hO⟩⟩ := h
  · refine ⟨none, 0, rfl, ?_⟩
    have : xs = [] := List.eq_nil_of_length_eq_zero (by simpa using hl)
    subst this
    exact fun h => absurd rfl h
  · exact ⟨_, c, rfl, hO.sl'⟩
/-- Its block lies among the call's own. -/
theorem Rs.block {w : World} {B : Nat} {e : TypeId} {sz : Nat} {v : Value} {n : Nat} {xs : List Value} (h : Rs w B e sz v n xs) : ∀ k, v.ownBlock = some k → B ≤ k ∧ k < w.heap.size := by
  intro k hk
  obtain ⟨hl, ⟨rfl, rfl⟩ | ⟨g, c, N, rfl, hB, hO⟩⟩ := h
  · cases hk
  · cases hk
    exact ⟨hB, hO.lt⟩

end Go.Proofs.YtpnffdkkmibchaaGreatDoor
