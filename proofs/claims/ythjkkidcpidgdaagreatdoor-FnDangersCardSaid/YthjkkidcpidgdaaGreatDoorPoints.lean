/-
  Contracts of lists of points: the program's and the reference's. Each under the conditions that it states.
-/
import Derived.Test.YthjkkidcpidgdaaGreatDoorPlaces
set_option linter.unusedVariables false
set_option maxRecDepth 100000
set_option linter.unusedSimpArgs false
namespace Go.Proofs.YthjkkidcpidgdaaGreatDoor
open Go.RowKit BigFrame

/-- The cells of a list of points. -/
def pcells (L : List (Int × Int)) : List Value := L.flatMap fun p => [.int .i64 p.1, .int .i64 p.2]
theorem pcells_get : ∀ (L : List (Int × Int)) (k : Nat) (h : k < L.length), (pcells L)[k * 2]? = some (.int .i64 L[k].1) ∧ (pcells L)[k * 2 + 1]? = some (.int .i64 L[k].2)
  | [], k, h => by simp at h
  | p :: L, 0, h => by simp [pcells]
  | p :: L, k + 1, h => by
    have ih := pcells_get L k (by simpa using h)
    have e : (k + 1) * 2 = k * 2 + 1 + 1 := by omega
    have c : pcells (p :: L) = .int .i64 p.1 :: .int .i64 p.2 :: pcells L := rfl
    rw [c, e]
    simpa using ih
theorem Sl.point {w : World} {B : Nat} {A : Option Addr} {L : List (Int × Int)} (h : Sl w B A (pcells L)) {k : Nat} (hk : k < L.length) :
    ∃ b o : Nat, A = some ⟨b, o, none⟩ ∧ b < B ∧ w.cell? ⟨b, o + k * 2, none⟩ = some (.int .i64 L[k].1) ∧ w.cell? ⟨b, o + k * 2 + 1, none⟩ = some (.int .i64 L[k].2) := by
  obtain ⟨g1, g2⟩ := pcells_get L k hk
  obtain ⟨b, o, e, hb, hc⟩ := h (by intro e; rw [e] at g1; simp at g1)
  exact ⟨b, o, e, hb, hc _ _ g1, hc _ _ g2⟩
def vPoints (L : List (Int × Int)) : Bool := L.all fun p => vPoint p.1 p.2
theorem vPoints_take {L : List (Int × Int)} {k : Nat} (hk : k < L.length) (h : vPoints (L.take k) = true) (hv : vPoint L[k].1 L[k].2 = true) : vPoints (L.take (k + 1)) = true := by
  unfold vPoints at *
  rw [List.take_succ_eq_append_getElem hk, List.all_append, h]
  simp [hv]
theorem vPoints_no {L : List (Int × Int)} {k : Nat} (hk : k < L.length) (hv : vPoint L[k].1 L[k].2 = false) : vPoints L = false := by
  unfold vPoints
  rw [List.all_eq_false]
  exact ⟨L[k], List.getElem_mem hk, by simp [hv]⟩

def vPoint2 (x1 y1 x2 y2 : Int) : Bool := vPoint x1 y1 && vPoint x2 y2

theorem arePoints_any (L : List (Int × Int)) (A : Option Addr) (c B : Nat) (w : World) (hs : Sl w B A (pcells L)) (hB : B ≤ w.heap.size) (hl : L.length ≤ 1099511627776) :
    Calls Tryz.prog 75 #[.slice A L.length c] w fun e w' => e = .returned (.bool (vPoints L)) ∧ Below w.heap.size w w' := by
  have hs' := Lib.hid hs
  clear hs
  go_enter Tryz.func75, Tryz.ntmps75
  go_wp2
  go_loopw [7] (fun i wr => ∃ k : Nat, i = .int .i64 k ∧ k ≤ L.length ∧ vPoints (L.take k) = true ∧ Below w.heap.size w wr) (fun i _ => L.length - (intOf i).toNat)
  case atStart => exact ⟨0, rfl, Nat.zero_le _, rfl, Below.refl _ _⟩
  case round =>
    obtain ⟨k, rfl, hk, hv, hB1⟩ := hrel
    have hS1 := hB1.size
    have hv' := Lib.hid hv
    clear hv
    by_cases hlt : k < L.length
    · obtain ⟨b, o, rfl, hb, c1, c2⟩ := Sl.point (hs'.out.below (hB1.mono hB)) hlt
      cases hp : vPoint L[k].1 L[k].2
      · have hf := Lib.hid (vPoints_no hlt hp)
        go_wp2_with (go_at_call 50; refine (impl_ValidPoint _ _ _).mono ?_; rintro e w1 ⟨rfl, hb1⟩; have hB1 := bnext (w := w) (by go_grown) hb1; have hS1 := hB1.size; (skip); obtain ⟨hc1, hf1⟩ := bcell hb1; clear hb1)
        go_ret
        exact ⟨ret_bool hf.out.symm, by go_grown⟩
      · have hf := Lib.hid (vPoints_take hlt hv'.out hp)
        go_wp2_with (go_at_call 50; refine (impl_ValidPoint _ _ _).mono ?_; rintro e w1 ⟨rfl, hb1⟩; have hB1 := bnext (w := w) (by go_grown) hb1; have hS1 := hB1.size; (skip); obtain ⟨hc1, hf1⟩ := bcell hb1; clear hb1)
        go_roundw
        case rel => exact ⟨k + 1, by go_num, by omega, hf.out, by go_grown⟩
        case measure => simp [intOf]; omega
    · obtain rfl : k = L.length := by omega
      have hf : Hid (vPoints L = true) := by have := hv'.out; rw [List.take_length] at this; exact this
      go_wp2
      go_ret
      exact ⟨ret_bool hf.out.symm, by go_grown⟩

theorem arePoints_two (x1 y1 x2 y2 : Int) (g : Nat) (w : World) (hg : g < w.heap.size) (c0 : w.cell? ⟨g, 0, none⟩ = some (.int .i64 x1)) (c1 : w.cell? ⟨g, 1, none⟩ = some (.int .i64 y1)) (c2 : w.cell? ⟨g, 2, none⟩ = some (.int .i64 x2)) (c3 : w.cell? ⟨g, 3, none⟩ = some (.int .i64 y2)) :
    Calls Tryz.prog 75 #[.slice (some ⟨g, 0, none⟩) 2 2] w fun e w' => e = .returned (.bool (vPoint2 x1 y1 x2 y2)) ∧ Below w.heap.size w w' := by
  have hs : Sl w w.heap.size (some ⟨g, 0, none⟩) (pcells [(x1, y1), (x2, y2)]) := fun _ => ⟨g, 0, rfl, hg, fun j u hu => by
    rw [Nat.zero_add]
    match j, hu with
    | 0, hu => simp [pcells] at hu; rw [c0, hu]
    | 1, hu => simp [pcells] at hu; rw [c1, hu]
    | 2, hu => simp [pcells] at hu; rw [c2, hu]
    | 3, hu => simp [pcells] at hu; rw [c3, hu]
    | j + 4, hu => simp [pcells] at hu⟩
  have h := arePoints_any [(x1, y1), (x2, y2)] _ 2 _ w hs (Nat.le_refl _) (by simp)
  have e : vPoints [(x1, y1), (x2, y2)] = vPoint2 x1 y1 x2 y2 := by simp [vPoints, vPoint2]
  rw [e] at h
  exact h

end Go.Proofs.YthjkkidcpidgdaaGreatDoor
