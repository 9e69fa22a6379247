/-
  Contracts of channels: what makes one valid, and whether two are equal: the program's and the reference's. Each under the conditions that it states.
-/
import Derived.Test.YthjkkidcpidgdaaGreatDoorText1
import Derived.Test.YthjkkidcpidgdaaGreatDoorRow
import Derived.Test.YthjkkidcpidgdaaGreatDoorPoints
import Derived.Test.YthjkkidcpidgdaaGreatDoorMark
set_option linter.unusedVariables false
set_option linter.unnecessarySimpa false
set_option maxRecDepth 100000
set_option linter.unusedSimpArgs false
namespace Go.Proofs.YthjkkidcpidgdaaGreatDoor
open Go.RowKit BigFrame

def szN (left : Int) (n : Nat) : Int := if left - n < 0 then -1 else left - n
structure RPoint where
  f0 : Int
  f1 : Int
instance : Inhabited RPoint := ⟨⟨0, 0⟩⟩
def RPoint.cells (a : RPoint) : List Value := [.int .i64 a.f0, .int .i64 a.f1]
theorem RPoint.len (a : RPoint) : a.cells.length = 2 := rfl
def RPoint.ok (a : RPoint) : Prop := IntKind.i64.has a.f0 ∧ IntKind.i64.has a.f1
def RPoint.same (a b : RPoint) : Bool := decide (a.f0 = b.f0) && (decide (a.f1 = b.f1))

def ssPoint (j : Nat) : Bool := decide (j < 0)
/-- Number k of a line is valid, and another than the one ahead of it. -/
def okPt (P : List RPoint) (k : Nat) : Bool := vPoint (P.getD k default).f0 (P.getD k default).f1 && (decide (k = 0) || !((P.getD (k - 1) default).f0 == (P.getD k default).f0 && (P.getD (k - 1) default).f1 == (P.getD k default).f1))
def vLine (P : List RPoint) : Bool := allTo (okPt P) P.length
def vChan (s : ByteArray) (P : List RPoint) (wd : Int) : Bool := vLine P && (nameM s && (inB P.length 2 12 && inB wd 10 5000))
theorem okPt_bad {P : List RPoint} {k : Nat} {a : RPoint} (hg : P.getD k default = a) (h : vPoint a.f0 a.f1 = false) : okPt P k = false := by
  unfold okPt; rw [hg, h]; rfl
theorem okPt_zero {P : List RPoint} {a : RPoint} (hg : P.getD 0 default = a) (h : vPoint a.f0 a.f1 = true) : okPt P 0 = true := by
  unfold okPt; rw [hg, h]; rfl
theorem okPt_step {P : List RPoint} {m : Nat} {a p : RPoint} (hg : P.getD (m + 1) default = a) (hp : P.getD m default = p) (h : vPoint a.f0 a.f1 = true) : okPt P (m + 1) = !(p.f0 == a.f0 && p.f1 == a.f1) := by
  unfold okPt; rw [hg, Nat.add_sub_cancel, hp, h]; simp
theorem okPt_step2 {P : List RPoint} {m : Nat} {a p : RPoint} (hg : P.getD (m + 1) default = a) (hp : P.getD m default = p) (h : vPoint a.f0 a.f1 = true) : okPt P (m + 1) = !(a.f0 == p.f0 && a.f1 == p.f1) := by
  rw [okPt_step hg hp h, Bool.beq_comm (a := p.f0), Bool.beq_comm (a := p.f1)]
theorem vChan_hit {s : ByteArray} {P : List RPoint} {wd : Int} {k : Nat} (hk : k < P.length) (h : okPt P k = false) : vChan s P wd = false := by
  unfold vChan vLine; rw [allTo_hit hk h]; rfl
/-- A channel in memory, at the head of block g. -/
def Cz (w : World) (g : Nat) (s : ByteArray) (A : Option Addr) (n c : Nat) (wd : Int) : Prop := g < w.heap.size ∧ w.cell? ⟨g, 0, none⟩ = some (.string s) ∧ w.cell? ⟨g, 1, none⟩ = some (.slice A n c) ∧ w.cell? ⟨g, 2, none⟩ = some (.int .i64 wd)
theorem Cz.on {w w' : World} {g : Nat} {s : ByteArray} {A : Option Addr} {n c : Nat} {wd : Int} (h : Cz w g s A n c wd) (hb : Below w.heap.size w w') : Cz w' g s A n c wd := by
  obtain ⟨hg, c0, c1, c2⟩ := h
  obtain ⟨hc, _⟩ := bcell hb
  exact ⟨Nat.lt_of_lt_of_le hg hb.size, (hc _ _ hg).trans c0, (hc _ _ hg).trans c1, (hc _ _ hg).trans c2⟩
theorem Cz.new (w : World) (s : ByteArray) (A : Option Addr) (n c : Nat) (wd : Int) (t : TypeId) : Cz (w.alloc (.cells #[.string s, .slice A n c, .int .i64 wd] t)) w.heap.size s A n c wd := ⟨by simp, by simp, by simp, by simp⟩
end Go.Proofs.YthjkkidcpidgdaaGreatDoor
