/-
  Contracts of sines and bearings: the program's and the reference's. Each under the conditions that it states.
-/
import Derived.Test.YthjkkidcpidgdaaGreatDoorLeading
import Derived.Test.YthjkkidcpidgdaaGreatDoorAngle
import Derived.Test.YthjkkidcpidgdaaGreatDoorSine
set_option linter.unusedVariables false
set_option maxRecDepth 100000
set_option linter.unusedSimpArgs false
namespace Go.Proofs.YthjkkidcpidgdaaGreatDoor
open Go.RowKit BigFrame

def tabArr : Array Value := (tabM.map (Value.int .i64)).toArray
theorem tabArr_get {k : Nat} (hk : k < 91) : tabArr[k]? = some (.int .i64 (tq k)) := by
  have h : (tabM.map (Value.int .i64))[k]? = some (.int .i64 (tq k)) := by
    rw [List.getElem?_map, List.getElem?_eq_getElem (by rw [tabM_len]; exact hk)]
    simp [tq, List.getD, List.getElem?_eq_getElem (show k < tabM.length by rw [tabM_len]; exact hk)]
  simpa [tabArr] using h

def TabAt (w : World) (g : Nat) : Prop := g < w.heap.size ∧ ∀ k, k < 91 → w.cell? ⟨g, k, none⟩ = some (.int .i64 (tq k))
theorem TabAt.below {w w' : World} {g B : Nat} (h : TabAt w g) (hg : g < B) (hb : Below B w w') : TabAt w' g :=
  ⟨Nat.lt_of_lt_of_le h.1 hb.size, fun k hk => (hb.cell (p := ⟨g, k, none⟩) hg).trans (h.2 k hk)⟩
theorem TabAt.grew {w : World} {g : Nat} (h : TabAt w g) (p : Grew w) : TabAt p.world g := h.below h.1 p.below
def TabPost (w : World) (e : Ending) (w' : World) : Prop := e = .returned (.slice (some ⟨w.heap.size, 0, none⟩) 91 91) ∧ Below w.heap.size w w' ∧ TabAt w' w.heap.size
theorem table_any (w : World) : Calls Tryz.prog 127 #[] w (TabPost w) := by
  go_enter Tryz.func127, Tryz.ntmps127
  go_wp2_with (refine wpList_slit 65 rfl rfl (.slice (some ⟨w.heap.size, 0, none⟩) 91 91) (w.alloc (.cells tabArr 2)) (by kernel_rfl) ?_)
  go_ret
  refine ⟨rfl, by go_grown, by simp, fun k hk => ?_⟩
  rw [World.cell?_alloc_new]
  exact tabArr_get hk

theorem sineIn_any (a : Int) (g : Nat) (w : World) (ht : TabAt w g) :
    Calls Tryz.prog 126 #[.slice (some ⟨g, 0, none⟩) 91 91, .int .i64 a] w fun e w' => e = .returned (.int .i64 (sinM a)) ∧ w = w' := by
  obtain ⟨hg, hc⟩ := ht
  have hC := Lib.hid hc
  clear hc
  obtain ⟨r, hr⟩ := Int.eq_ofNat_of_zero_le (show 0 ≤ a % 360 by omega)
  have hR : r < 360 := by omega
  have hA := Lib.hid hr
  clear hr
  by_cases h1 : 180 ≤ r
  · by_cases h2 : 90 < r - 180
    · have hb := tq_bd (show 180 - (r - 180) < 91 by omega)
      have hs := Lib.hid (sinM_4 hA.out (by omega) hR)
      have hx := hC.out (180 - (r - 180)) (by omega)
      go_enter Tryz.func126, Tryz.ntmps126
      go_wp2_with (go_at_call 128; refine (angle_is a r hA.out _).mono ?_; rintro e w' ⟨rfl, rfl⟩)
      go_ret
      exact ⟨ret_int hs.out.symm, rfl⟩
    · have hb := tq_bd (show r - 180 < 91 by omega)
      have hs := Lib.hid (sinM_3 hA.out h1 (by omega))
      have hx := hC.out (r - 180) (by omega)
      go_enter Tryz.func126, Tryz.ntmps126
      go_wp2_with (go_at_call 128; refine (angle_is a r hA.out _).mono ?_; rintro e w' ⟨rfl, rfl⟩)
      go_ret
      exact ⟨ret_int hs.out.symm, rfl⟩
  · by_cases h2 : 90 < r
    · have hb := tq_bd (show 180 - r < 91 by omega)
      have hs := Lib.hid (sinM_2 hA.out h2 (by omega))
      have hx := hC.out (180 - r) (by omega)
      go_enter Tryz.func126, Tryz.ntmps126
      go_wp2_with (go_at_call 128; refine (angle_is a r hA.out _).mono ?_; rintro e w' ⟨rfl, rfl⟩)
      go_ret
      exact ⟨ret_int hs.out.symm, rfl⟩
    · have hb := tq_bd (show r < 91 by omega)
      have hs := Lib.hid (sinM_1 hA.out (by omega))
      have hx := hC.out (r) (by omega)
      go_enter Tryz.func126, Tryz.ntmps126
      go_wp2_with (go_at_call 128; refine (angle_is a r hA.out _).mono ?_; rintro e w' ⟨rfl, rfl⟩)
      go_ret
      exact ⟨ret_int hs.out.symm, rfl⟩

theorem spec_Sine (a : Int) (w : World) :
    Calls Tryz.prog 105 #[.int .i64 a] w fun e w' => e = .returned (.int .i64 (sinM a)) ∧ Below w.heap.size w w' := by
  go_enter Tryz.func105, Tryz.ntmps105
  go_wp2_with (first | (go_at_call 127; refine (table_any _).mono ?_; rintro e w1 ⟨rfl, hb1, ht1⟩) | (go_at_call 126; refine (sineIn_any _ _ _ ht1).mono ?_; rintro e w' ⟨rfl, rfl⟩))
  go_ret
  exact ⟨rfl, by go_grown⟩

theorem spec_Cosine (a : Int) (w : World) :
    Calls Tryz.prog 106 #[.int .i64 a] w fun e w' => e = .returned (.int .i64 (cosM a)) ∧ Below w.heap.size w w' := by
  go_enter Tryz.func106, Tryz.ntmps106
  go_wp2_with (first | (go_at_call 128; refine (angle_any _ _).mono ?_; rintro e w' ⟨rfl, rfl⟩) | (go_at_call 105; refine (spec_Sine _ _).mono ?_; rintro e w1 ⟨rfl, hb1⟩; have hB1 := bnext (w := w) (by go_grown) hb1; have hS1 := hB1.size; (skip); obtain ⟨hc1, hf1⟩ := bcell hb1; clear hb1))
  go_ret
  exact ⟨rfl, by go_grown⟩

/-- A point in a variable. -/
def Pt (w : World) (g : Nat) (x y : Int) : Prop := g < w.heap.size ∧ w.cell? ⟨g, 0, none⟩ = some (.int .i64 x) ∧ w.cell? ⟨g, 1, none⟩ = some (.int .i64 y)
theorem Pt.below {w w' : World} {g B : Nat} {x y : Int} (h : Pt w g x y) (hg : g < B) (hb : Below B w w') : Pt w' g x y :=
  ⟨Nat.lt_of_lt_of_le h.1 hb.size, (hb.cell (p := ⟨g, 0, none⟩) hg).trans h.2.1, (hb.cell (p := ⟨g, 1, none⟩) hg).trans h.2.2⟩
theorem Pt.on {w w' : World} {g : Nat} {x y : Int} (h : Pt w g x y) (hb : Below w.heap.size w w') : Pt w' g x y := h.below h.1 hb
end Go.Proofs.YthjkkidcpidgdaaGreatDoor
