/-
  Contracts of dangers: what makes one valid, the copy that the laws make, its length: the program's and the reference's. Each under the conditions that it states.
-/
import Derived.Test.YthjkkidcpidgdaaGreatDoorText1
set_option linter.unusedVariables false
set_option maxRecDepth 100000
set_option linter.unusedSimpArgs false
namespace Go.Proofs.YthjkkidcpidgdaaGreatDoor
open Go.RowKit BigFrame

def vDanger (s : ByteArray) (x y r : Int) : Bool := nameM s && (vPoint x y && inB r 1 20000)

theorem impl_ValidDanger (s : ByteArray) (hs : s.size ≤ maxLen) (x y r : Int) (w : World) :
    Calls Tryz.prog 40 #[.agg #[.string s, .int .i64 x, .int .i64 y, .int .i64 r]] w fun e w' => e = .returned (.bool (vDanger s x y r)) ∧ Below w.heap.size w w' := by
  unfold vDanger
  go_enter Tryz.func40, Tryz.ntmps40
  go_wp2_with (first | (go_at_call 77; refine (impl_IsName _ hs _).mono ?_; rintro e w' ⟨rfl, rfl⟩) | (go_at_call 50; refine (impl_ValidPoint _ _ _).mono ?_; rintro e w1 ⟨rfl, hb1⟩; have hB1 := bnext (w := w) (by go_grown) hb1; have hS1 := hB1.size; ((have hz1 : w.heap.size < w1.heap.size := by have := hb1.size; (try simp only [World.size_alloc, World.size_setCell, World.size_drew] at this); omega)); obtain ⟨hc1, hf1⟩ := bcell hb1; clear hb1) | (go_at_call 74; refine (within_any _ _ _ _).mono ?_; rintro e w' ⟨rfl, rfl⟩))
  all_goals (go_ret; exact ⟨ret_bool (by simp [*]), by go_grown⟩)

/-- A danger in memory, at number o of block g. -/
def Dn (w : World) (g o : Nat) (s : ByteArray) (x y r : Int) : Prop := g < w.heap.size ∧ w.cell? ⟨g, o, none⟩ = some (.string s) ∧ w.cell? ⟨g, o + 1, none⟩ = some (.int .i64 x) ∧ w.cell? ⟨g, o + 2, none⟩ = some (.int .i64 y) ∧ w.cell? ⟨g, o + 3, none⟩ = some (.int .i64 r)
theorem Dn.on {w w' : World} {g o : Nat} {s : ByteArray} {x y r : Int} (h : Dn w g o s x y r) (hb : Below w.heap.size w w') : Dn w' g o s x y r := by
  obtain ⟨hg, c0, c1, c2, c3⟩ := h
  obtain ⟨hc, _⟩ := bcell hb
  exact ⟨Nat.lt_of_lt_of_le hg hb.size, (hc _ _ hg).trans c0, (hc _ _ hg).trans c1, (hc _ _ hg).trans c2, (hc _ _ hg).trans c3⟩
theorem spec_l14One (s : ByteArray) (hs : s.size ≤ maxLen) (x y r : Int) (g o : Nat) (w : World) (hd : Dn w g o s x y r) :
    Calls Tryz.prog 49 #[.pointer (some ⟨g, o, none⟩)] w fun e w' => e = .returned (.bool (vDanger s x y r)) ∧ Below w.heap.size w w' := by
  obtain ⟨hg, h0, h1, h2, h3⟩ := hd
  unfold vDanger
  go_enter Tryz.func49, Tryz.ntmps49
  go_wp2_with (first | (go_at_call 85; refine (spec_Name _ hs _).mono ?_; rintro e w' ⟨rfl, rfl⟩) | (go_at_call 86; refine (spec_l02Ok _ _ _).mono ?_; rintro e w1 ⟨rfl, hb1⟩; have hB1 := bnext (w := w) (by go_grown) hb1; have hS1 := hB1.size; (skip); obtain ⟨hc1, hf1⟩ := bcell hb1; clear hb1) | (go_at_call 87; refine (in_any _ _ _ _).mono ?_; rintro e w' ⟨rfl, rfl⟩))
  all_goals (go_ret; exact ⟨ret_bool (by simp [*]), by go_grown⟩)

theorem spec_ValidDanger (s : ByteArray) (hs : s.size ≤ maxLen) (x y r : Int) (w : World) :
    Calls Tryz.prog 12 #[.agg #[.string s, .int .i64 x, .int .i64 y, .int .i64 r]] w fun e w' => e = .returned (.bool (vDanger s x y r)) ∧ Below w.heap.size w w' := by
  go_enter Tryz.func12, Tryz.ntmps12
  go_wp2_with (go_at_call 49; refine (spec_l14One s hs x y r _ 0 _ ⟨by simp, by simp [go_sem], by simp [go_sem], by simp [go_sem], by simp [go_sem]⟩).mono ?_; rintro e w1 ⟨rfl, hb1⟩; have hB1 := bnext (w := w) (by go_grown) hb1; have hS1 := hB1.size; (skip); obtain ⟨hc1, hf1⟩ := bcell hb1; clear hb1)
  go_ret
  exact ⟨rfl, by go_grown⟩

end Go.Proofs.YthjkkidcpidgdaaGreatDoor
