/-
  Contracts of dangers read from texts: the program's and the reference's. Under the conditions that each states.
-/
import Derived.Test.YtbikppndhidbpaaDoorRdL
import Derived.RegionTactic
import Derived.BigRegion
set_option linter.unusedVariables false
set_option linter.unnecessarySimpa false
set_option maxRecDepth 100000
set_option linter.unusedSimpArgs false
namespace Go.Proofs.YtbikppndhidbpaaDoor
open Go.RowKit BigFrame

/-- An empty text and three zeros, to be written. -/
def Z4 (w : World) (g : Nat) : Prop := g < w.heap.size ∧ (w.cell? ⟨g, 0, none⟩ = some (.string ⟨#[]⟩) ∧ w.cell? ⟨g, 1, none⟩ = some (.int .i64 0) ∧ w.cell? ⟨g, 2, none⟩ = some (.int .i64 0) ∧ w.cell? ⟨g, 3, none⟩ = some (.int .i64 0)) ∧ w.frozen? ⟨g, 0, none⟩ = false ∧ w.frozen? ⟨g, 1, none⟩ = false ∧ w.frozen? ⟨g, 2, none⟩ = false ∧ w.frozen? ⟨g, 3, none⟩ = false
theorem Z4.on {w w' : World} {g : Nat} (h : Z4 w g) (hb : Below w.heap.size w w') : Z4 w' g := by
  obtain ⟨h1, ⟨c0, c1, c2, c3⟩, f0, f1, f2, f3⟩ := h
  obtain ⟨hc, hf⟩ := bcell hb
  exact ⟨Nat.lt_of_lt_of_le h1 hb.size, ⟨(hc _ _ h1).trans c0, (hc _ _ h1).trans c1, (hc _ _ h1).trans c2, (hc _ _ h1).trans c3⟩, (hf _ _ h1).trans f0, (hf _ _ h1).trans f1, (hf _ _ h1).trans f2, (hf _ _ h1).trans f3⟩
theorem Z4.new (w : World) (t : TypeId) : Z4 (w.alloc (.cells #[.string ⟨#[]⟩, .int .i64 0, .int .i64 0, .int .i64 0] t)) w.heap.size := by
  refine ⟨by simp, ⟨by simp, by simp, by simp, by simp⟩, by simp, by simp, by simp, by simp⟩
theorem Z4.al {w : World} {g : Nat} (h : Z4 w g) (o : Obj) : Z4 (w.alloc o) g := h.on ((Below.refl _ _).alloc (Nat.le_refl _) _)
theorem z4_read {w : World} {g : Nat} (h : Z4 w g) (a : ByteArray) (b c d : Int) :
    (World.setCell (World.setCell (World.setCell (World.setCell w ⟨g, 0, none⟩ (.string (a))) ⟨g, 1, none⟩ (.int .i64 (b))) ⟨g, 2, none⟩ (.int .i64 (c))) ⟨g, 3, none⟩ (.int .i64 (d))).cell? ⟨g, 0, none⟩ = some (.string a) ∧ (World.setCell (World.setCell (World.setCell (World.setCell w ⟨g, 0, none⟩ (.string (a))) ⟨g, 1, none⟩ (.int .i64 (b))) ⟨g, 2, none⟩ (.int .i64 (c))) ⟨g, 3, none⟩ (.int .i64 (d))).cell? ⟨g, 1, none⟩ = some (.int .i64 b) ∧ (World.setCell (World.setCell (World.setCell (World.setCell w ⟨g, 0, none⟩ (.string (a))) ⟨g, 1, none⟩ (.int .i64 (b))) ⟨g, 2, none⟩ (.int .i64 (c))) ⟨g, 3, none⟩ (.int .i64 (d))).cell? ⟨g, 2, none⟩ = some (.int .i64 c) ∧ (World.setCell (World.setCell (World.setCell (World.setCell w ⟨g, 0, none⟩ (.string (a))) ⟨g, 1, none⟩ (.int .i64 (b))) ⟨g, 2, none⟩ (.int .i64 (c))) ⟨g, 3, none⟩ (.int .i64 (d))).cell? ⟨g, 3, none⟩ = some (.int .i64 d) := by
  obtain ⟨_, ⟨c0, c1, c2, c3⟩, _⟩ := h
  have r := setFrom_read g [.string a, .int .i64 b, .int .i64 c, .int .i64 d] w 0 (fun k hk => by
    rw [Nat.zero_add]
    match k, hk with
    | 0, _ => rw [c0]; rfl
    | 1, _ => rw [c1]; rfl
    | 2, _ => rw [c2]; rfl
    | 3, _ => rw [c3]; rfl)
  exact ⟨r 0 _ rfl, r 1 _ rfl, r 2 _ rfl, r 3 _ rfl⟩
theorem four_below {B g : Nat} {a w : World} (hg : B ≤ g) (h : Below B a w) (s : ByteArray) (x y z : Int) : Below B a (World.setCell (World.setCell (World.setCell (World.setCell w ⟨g, 0, none⟩ (.string (s))) ⟨g, 1, none⟩ (.int .i64 (x))) ⟨g, 2, none⟩ (.int .i64 (y))) ⟨g, 3, none⟩ (.int .i64 (z))) :=
  setFrom_below hg [.string s, .int .i64 x, .int .i64 y, .int .i64 z] 0 h
def dgOk (l : List UInt8) : Bool := decide ((splitL 32 l).length = 3) && (rpOk (rlA l 1) && (numOk (rlA l 2) && vDanger (ba (rlA l 0)) (rpX (rlA l 1)) (rpY (rlA l 1)) (rdV (ba (rlA l 2)))))
def dg (l : List UInt8) (v : Int) : Int := if dgOk l then v else 0
def dgS (l : List UInt8) (s : ByteArray) : ByteArray := if dgOk l then s else ⟨#[]⟩
theorem dg_no {l : List UInt8} (h : dgOk l = false) : (∀ v, dg l v = 0) ∧ ∀ s, dgS l s = ⟨#[]⟩ := ⟨fun v => by unfold dg; rw [h]; rfl, fun v => by unfold dgS; rw [h]; rfl⟩
theorem dg_yes {l : List UInt8} (h : dgOk l = true) : (∀ v, dg l v = v) ∧ ∀ s, dgS l s = s := ⟨fun v => by unfold dg; rw [h]; rfl, fun v => by unfold dgS; rw [h]; rfl⟩
theorem three_of {S : List (List UInt8)} (h : S.length = 3) : ∃ a b c, S = [a, b, c] := by
  rcases S with _ | ⟨a, _ | ⟨b, _ | ⟨c, _ | ⟨d, t⟩⟩⟩⟩ <;> simp at h
  exact ⟨a, b, c, rfl⟩
theorem rl_three {l a b c : List UInt8} (h : splitL 32 l = [a, b, c]) : rlA l 0 = a ∧ rlA l 1 = b ∧ rlA l 2 = c := by
  unfold rlA
  rw [h]
  exact ⟨rfl, rfl, rfl⟩
theorem then_at2 {K : Act → World → Prop} {Q : Exit → Act → World → Prop} {a : Act} {W : World} (h : ∀ wf, wf = W → Exit.then K Q .normal a wf) : Exit.then K Q .normal a W := h W rfl
theorem below_drew {B : Nat} {a w : World} (h : Below B a w) : Below B a w.drew := h.trans ⟨rfl, rfl, rfl, Nat.le_refl _, fun _ _ => rfl⟩
theorem ba_max {l : List UInt8} (h : l.length ≤ 1048576) : (ba l).size ≤ maxLen := by
  rw [ba_size]
  have : maxLen = 9223372036854775807 := rfl
  omega
end Go.Proofs.YtbikppndhidbpaaDoor
