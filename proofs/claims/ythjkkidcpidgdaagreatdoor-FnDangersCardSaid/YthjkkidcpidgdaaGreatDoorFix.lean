/-
  Contracts of fixes by two bearings: the program's and the reference's; the law FixBy. Each under the conditions that it states.
-/
import Derived.Test.YthjkkidcpidgdaaGreatDoorLead2
import Derived.Test.YthjkkidcpidgdaaGreatDoorBear
import Derived.Deep.RegionHeld3
import Derived.IntWalk
set_option linter.unusedVariables false
set_option linter.unnecessarySimpa false
set_option maxRecDepth 100000
set_option linter.unusedSimpArgs false
namespace Go.Proofs.YthjkkidcpidgdaaGreatDoor
open Go.RowKit BigFrame

theorem then_at2 {K : Act → World → Prop} {Q : Exit → Act → World → Prop} {a : Act} {W : World} (h : ∀ wf, wf = W → Exit.then K Q .normal a wf) : Exit.then K Q .normal a W := h W rfl
theorem some_is {w : World} {b o : Nat} (h : (w.cell? ⟨b, o, none⟩).isSome = true) : ∃ u, w.cell? ⟨b, o, none⟩ = some u := Option.isSome_iff_exists.1 h
/-- Two numbers stored in a variable. -/
theorem end_at {P : Program} {f : Func} {post : Ending → World → Prop} {e : Exit} {a : Act} {W : World} (h : ∀ wf, wf = W → bodyPost P f post e a wf) : bodyPost P f post e a W := h W rfl
theorem two_read {w : World} {g : Nat} {u v : Value} (h0 : w.cell? ⟨g, 0, none⟩ = some u) (h1 : w.cell? ⟨g, 1, none⟩ = some v) (a b : Int) :
    (World.setCell (World.setCell w ⟨g, 0, none⟩ (.int .i64 (a))) ⟨g, 1, none⟩ (.int .i64 (b))).cell? ⟨g, 0, none⟩ = some (.int .i64 a) ∧ (World.setCell (World.setCell w ⟨g, 0, none⟩ (.int .i64 (a))) ⟨g, 1, none⟩ (.int .i64 (b))).cell? ⟨g, 1, none⟩ = some (.int .i64 b) := by
  constructor
  · rw [World.cell?_setCell_other _ _ _ _ (fun e => by simp at e), World.cell?_setCell_same _ _ _ h0]
  · rw [World.cell?_setCell_same _ _ _ (by rw [World.cell?_setCell_other _ _ _ _ (fun e => by simp at e)]; exact h1)]
theorem two_below {B g : Nat} {a w : World} (hg : B ≤ g) (h : Below B a w) (x y : Int) : Below B a (World.setCell (World.setCell w ⟨g, 0, none⟩ (.int .i64 (x))) ⟨g, 1, none⟩ (.int .i64 (y))) := (h.setCell hg _).setCell hg _
theorem two_read_a {w : World} {g : Nat} {u v : Value} (hg : g < w.heap.size) (h0 : w.cell? ⟨g, 0, none⟩ = some u) (h1 : w.cell? ⟨g, 1, none⟩ = some v) (o : Obj) (a b : Int) :
    (World.alloc (World.setCell (World.setCell w ⟨g, 0, none⟩ (.int .i64 (a))) ⟨g, 1, none⟩ (.int .i64 (b))) o).cell? ⟨g, 0, none⟩ = some (.int .i64 a) ∧ (World.alloc (World.setCell (World.setCell w ⟨g, 0, none⟩ (.int .i64 (a))) ⟨g, 1, none⟩ (.int .i64 (b))) o).cell? ⟨g, 1, none⟩ = some (.int .i64 b) := by
  have B := (Below.refl (World.setCell (World.setCell w ⟨g, 0, none⟩ (.int .i64 (a))) ⟨g, 1, none⟩ (.int .i64 (b))).heap.size (World.setCell (World.setCell w ⟨g, 0, none⟩ (.int .i64 (a))) ⟨g, 1, none⟩ (.int .i64 (b)))).alloc (Nat.le_refl _) o
  have t := two_read h0 h1 a b
  exact ⟨(B.cell (p := ⟨g, 0, none⟩) (by simpa using hg)).trans t.1, (B.cell (p := ⟨g, 1, none⟩) (by simpa using hg)).trans t.2⟩
theorem keep2 {w1 w' : World} {g : Nat} {u v : Value} (hg : g < w1.heap.size) (q0 : w1.cell? ⟨g, 0, none⟩ = some u) (q1 : w1.cell? ⟨g, 1, none⟩ = some v) (hB : Below w1.heap.size w1 w') :
    Below w1.heap.size w1 w' ∧ w'.cell? ⟨g, 0, none⟩ = some u ∧ w'.cell? ⟨g, 1, none⟩ = some v := ⟨hB, (hB.cell (p := ⟨g, 0, none⟩) hg).trans q0, (hB.cell (p := ⟨g, 1, none⟩) hg).trans q1⟩

theorem divR_opp (a b : Int) (hb : b < 0) : divR (-a) (-b) = divR a b := by
  unfold divR
  rw [if_neg (show ¬ -b < 0 by omega), if_pos hb]
theorem divR_bd2 {a b A : Int} (hb : b ≠ 0) (h1 : -A ≤ a) (h2 : a ≤ A) : -A - 1 ≤ divR a b ∧ divR a b ≤ A + 1 := by
  rcases (by omega : b < 0 ∨ 0 < b) with h | h
  · rw [← divR_opp a b h]; exact divR_bd (by omega) (by omega) (by omega)
  · exact divR_bd (by omega) h1 h2

def sgnM (a b : Int) : Bool := decide (0 < a) && decide (0 < b) || decide (a < 0) && decide (b < 0)
theorem sgnM_yes {a b : Int} (h : sgnM a b = true) : (0 < a ∧ 0 < b) ∨ (a < 0 ∧ b < 0) := by simpa [sgnM] using h
def fixD (x y : Int) : Int := sinM x * cosM y - cosM x * sinM y
def fixN (ax ay bx by_ y : Int) : Int := (ax - bx) * cosM y - (ay - by_) * sinM y
def fixM (ax ay bx by_ x : Int) : Int := (ax - bx) * cosM x - (ay - by_) * sinM x
def fixOn (ax ay x bx by_ y : Int) : Bool := sgnM (fixN ax ay bx by_ y) (fixD x y) && sgnM (fixM ax ay bx by_ x) (fixD x y)
def fixX (ax ay x bx by_ y : Int) : Int := ax - divR (fixN ax ay bx by_ y * sinM x) (fixD x y)
def fixY (ax ay x bx by_ y : Int) : Int := ay - divR (fixN ax ay bx by_ y * cosM x) (fixD x y)
def fixC (ax ay x bx by_ y : Int) : Int := if vPoint2 ax ay bx by_ then (if fixOn ax ay x bx by_ y && vPoint (fixX ax ay x bx by_ y) (fixY ax ay x bx by_ y) then 0 else 6) else 1
def fixV (ax ay x bx by_ y n : Int) : Int := if fixC ax ay x bx by_ y = 0 then n else 0

theorem Pt.setne {w : World} {g r k : Nat} {a b : Int} {v : Value} (h : Pt w g a b) (hne : r ≠ g) : Pt (w.setCell ⟨r, k, none⟩ v) g a b := by
  obtain ⟨h1, h2, h3⟩ := h
  have hn : ∀ o, (⟨r, k, none⟩ : Addr) ≠ ⟨g, o, none⟩ := fun o e => hne (congrArg Addr.block e)
  exact ⟨by simpa using h1, by rw [World.cell?_setCell_other _ _ _ _ (hn 0)]; exact h2, by rw [World.cell?_setCell_other _ _ _ _ (hn 1)]; exact h3⟩
theorem Pt.drew {w : World} {g : Nat} {a b : Int} (h : Pt w g a b) : Pt w.drew g a b := h.on ((Below.refl _ _).drew)
theorem Pt.s {w : World} {g : Nat} {a b : Int} (h : Pt w g a b) : Pt w g a b ∧ w.cell? ⟨g, 0, none⟩ = some (.int .i64 a) ∧ w.cell? ⟨g, 1, none⟩ = some (.int .i64 b) := ⟨h, h.2⟩
end Go.Proofs.YthjkkidcpidgdaaGreatDoor
