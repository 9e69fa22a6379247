/-
  Contracts of lists of dangers: the copies that the laws make, their equality, their size: the program's and the reference's. Each under the conditions that it states.
-/
import Derived.Test.YthjkkidcpidgdaaGreatDoorText1
import Derived.Test.YthjkkidcpidgdaaGreatDoorRow
import Derived.Test.YthjkkidcpidgdaaGreatDoorDanger
set_option linter.unusedVariables false
set_option linter.unnecessarySimpa false
set_option maxRecDepth 100000
set_option linter.unusedSimpArgs false
namespace Go.Proofs.YthjkkidcpidgdaaGreatDoor
open Go.RowKit BigFrame

structure RDanger where
  f0 : ByteArray
  f1 : Int
  f2 : Int
  f3 : Int
instance : Inhabited RDanger := ⟨⟨⟨#[]⟩, 0, 0, 0⟩⟩
def RDanger.cells (a : RDanger) : List Value := [.string a.f0, .int .i64 a.f1, .int .i64 a.f2, .int .i64 a.f3]
theorem RDanger.len (a : RDanger) : a.cells.length = 4 := rfl
def RDanger.ok (a : RDanger) : Prop := a.f0.size ≤ maxLen ∧ IntKind.i64.has a.f1 ∧ IntKind.i64.has a.f2 ∧ IntKind.i64.has a.f3
def RDanger.same (a b : RDanger) : Bool := decide (a.f0 = b.f0) && (decide (a.f1 = b.f1) && (decide (a.f2 = b.f2) && (decide (a.f3 = b.f3))))
def sameDangerM (L M : List RDanger) : Bool := decide (L.length = M.length) && allTo (fun k => (L.getD k default).same (M.getD k default)) L.length
theorem RDanger.diff {a b : RDanger} (h : ¬ a = b) : (¬ a.f0 = b.f0) ∨ (a.f0 = b.f0 ∧ ¬ a.f1 = b.f1) ∨ (a.f0 = b.f0 ∧ a.f1 = b.f1 ∧ ¬ a.f2 = b.f2) ∨ (a.f0 = b.f0 ∧ a.f1 = b.f1 ∧ a.f2 = b.f2 ∧ ¬ a.f3 = b.f3) := by
  rcases a with ⟨a0, a1, a2, a3⟩
  rcases b with ⟨b0, b1, b2, b3⟩
  simp only [RDanger.mk.injEq] at h
  dsimp only
  by_cases h0 : a0 = b0
  rotate_left
  · exact Or.inl h0
  by_cases h1 : a1 = b1
  rotate_left
  · exact Or.inr (Or.inl ⟨h0, h1⟩)
  by_cases h2 : a2 = b2
  rotate_left
  · exact Or.inr (Or.inr (Or.inl ⟨h0, h1, h2⟩))
  exact Or.inr (Or.inr (Or.inr (⟨h0, h1, h2, fun e => h ⟨h0, h1, h2, e⟩⟩)))
theorem RDanger.same_yes (a : RDanger) : a.same a = true := by simp [RDanger.same]
theorem RDanger.same_no {a b : RDanger} (h : ¬ a = b) : a.same b = false := by
  rcases RDanger.diff h with h | h | h | h
  all_goals simp [RDanger.same, h]
end Go.Proofs.YthjkkidcpidgdaaGreatDoor
