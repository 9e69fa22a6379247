/-
  Contracts of leading lines, on: the band in which the lights are in line: the program's and the reference's. Each under the conditions that it states.
-/
import Derived.Test.YtnikdafbnkedkaaLead3
set_option linter.unusedVariables false
set_option maxRecDepth 100000
set_option linter.unusedSimpArgs false
namespace Go.Proofs.Ytnikdafbnkedkaa
open Go.RowKit BigFrame

def nearM (d v : Int) : Int := rootM (d * d + v * v)
def fitsM (n d v lim : Int) : Bool := decide (1000000 * v * n ≤ lim * nearM d v * nearM (d + n) v)
theorem nearM_bd {d v : Int} (h1 : 0 ≤ d) (h2 : d ≤ 400000) (h3 : 0 ≤ v) (h4 : v ≤ 5001) : 0 ≤ nearM d v ∧ nearM d v ≤ 400100 := by
  have a := mul_bd (x := d) (y := d) (B := 400000) (C := 400000) (by omega) (by omega) (by omega) (by omega)
  have b := mul_bd (x := v) (y := v) (B := 5001) (C := 5001) (by omega) (by omega) (by omega) (by omega)
  exact ⟨rootM_nonneg _, rootM_bd (by omega) (by omega)⟩
theorem band_bd {n d v lim : Int} (h1 : 0 ≤ n ∧ n ≤ 282842) (h2 : 1 ≤ d ∧ d ≤ 100000) (h3 : 1 ≤ v ∧ v ≤ 5001) (h4 : 0 ≤ lim ∧ lim ≤ 100000) :
    (-25010001 ≤ v * v ∧ v * v ≤ 25010001) ∧ (-10000000000 ≤ d * d ∧ d * d ≤ 10000000000) ∧ (-160000000000 ≤ (d + n) * (d + n) ∧ (d + n) * (d + n) ≤ 160000000000) ∧ (-5001000000 * 282842 ≤ 1000000 * v * n ∧ 1000000 * v * n ≤ 5001000000 * 282842) ∧ (-100000 * 400100 ≤ lim * nearM d v ∧ lim * nearM d v ≤ 100000 * 400100) ∧ (-40010000000 * 400100 ≤ lim * nearM d v * nearM (d + n) v ∧ lim * nearM d v * nearM (d + n) v ≤ 40010000000 * 400100) := by
  have n1 := nearM_bd (d := d) (v := v) (by omega) (by omega) (by omega) (by omega)
  have n2 := nearM_bd (d := d + n) (v := v) (by omega) (by omega) (by omega) (by omega)
  have a := mul_bd (x := v) (y := v) (B := 5001) (C := 5001) (by omega) (by omega) (by omega) (by omega)
  have b := mul_bd (x := d) (y := d) (B := 100000) (C := 100000) (by omega) (by omega) (by omega) (by omega)
  have c := mul_bd (x := d + n) (y := d + n) (B := 400000) (C := 400000) (by omega) (by omega) (by omega) (by omega)
  have e := mul_bd (x := 1000000 * v) (y := n) (B := 5001000000) (C := 282842) (by omega) (by omega) (by omega) (by omega)
  have f := mul_bd (x := lim) (y := nearM d v) (B := 100000) (C := 400100) (by omega) (by omega) (by omega) (by omega)
  have g := mul_bd (x := lim * nearM d v) (y := nearM (d + n) v) (B := 40010000000) (C := 400100) (by omega) (by omega) (by omega) (by omega)
  omega
def bandF (n d lim : Int) (k : Nat) : Bool := !fitsM n d (k + 1) lim
def bandOk (x1 y1 x2 y2 lo hi d lim : Int) : Int := if vLead x1 y1 x2 y2 lo hi then (if inB d 1 100000 && inB lim 0 100000 then 0 else 2) else 1
def bandV (x1 y1 x2 y2 lo hi d lim : Int) : Int := if bandOk x1 y1 x2 y2 lo hi d lim = 0 then (seek (bandF (distM x1 y1 x2 y2) d lim) 5000 0 : Nat) else 0

set_option maxHeartbeats 800000 in
theorem impl_BandAt (x1 y1 x2 y2 lo hi d lim : Int) (w : World) :
    Calls Try.prog 68 #[.agg #[.int .i64 x1, .int .i64 y1, .int .i64 x2, .int .i64 y2, .int .i64 lo, .int .i64 hi], .int .i64 d, .int .i64 lim] w fun e w' => e = .returned (.tuple #[.int .i64 (bandV x1 y1 x2 y2 lo hi d lim), .int .i64 (bandOk x1 y1 x2 y2 lo hi d lim)]) ∧ Below w.heap.size w w' := by
  cases hv : vLead x1 y1 x2 y2 lo hi
  · have hc : Hid (bandOk x1 y1 x2 y2 lo hi d lim = 1) := by apply Lib.hid; unfold bandOk; simp [*]
    have hv' : Hid (bandV x1 y1 x2 y2 lo hi d lim = 0) := by apply Lib.hid; unfold bandV; rw [if_neg (by rw [hc.out]; omega)]
    go_enter Try.func68, Try.ntmps68
    go_wp2_with (go_at_call 125; refine (impl_ValidLeading _ _ _ _ _ _ _).mono ?_; rintro e w1 ⟨rfl, hb1⟩; have hB1 := bnext (w := w) (by go_grown) hb1; have hS1 := hB1.size; ((have hz1 : w.heap.size < w1.heap.size := by have := hb1.size; (try simp only [World.size_alloc, World.size_setCell, World.size_drew] at this); omega)); obtain ⟨hc1, hf1⟩ := bcell hb1; clear hb1)
    go_ret2
    exact ⟨ret_ii hv'.out.symm hc.out.symm, by go_grown⟩
  cases hd : inB d 1 100000
  · have hc : Hid (bandOk x1 y1 x2 y2 lo hi d lim = 2) := by apply Lib.hid; unfold bandOk; simp [*]
    have hv' : Hid (bandV x1 y1 x2 y2 lo hi d lim = 0) := by apply Lib.hid; unfold bandV; rw [if_neg (by rw [hc.out]; omega)]
    go_enter Try.func68, Try.ntmps68
    go_wp2_with (first | (go_at_call 125; refine (impl_ValidLeading _ _ _ _ _ _ _).mono ?_; rintro e w1 ⟨rfl, hb1⟩; have hB1 := bnext (w := w) (by go_grown) hb1; have hS1 := hB1.size; ((have hz1 : w.heap.size < w1.heap.size := by have := hb1.size; (try simp only [World.size_alloc, World.size_setCell, World.size_drew] at this); omega)); obtain ⟨hc1, hf1⟩ := bcell hb1; clear hb1) | (go_at_call 131; refine (impl_isRange _ _).mono ?_; rintro e w' ⟨rfl, rfl⟩) | (go_at_call 129; refine (impl_isOpen _ _).mono ?_; rintro e w' ⟨rfl, rfl⟩))
    go_ret2
    exact ⟨ret_ii hv'.out.symm hc.out.symm, by go_grown⟩
  cases hl : inB lim 0 100000
  · have hc : Hid (bandOk x1 y1 x2 y2 lo hi d lim = 2) := by apply Lib.hid; unfold bandOk; simp [*]
    have hv' : Hid (bandV x1 y1 x2 y2 lo hi d lim = 0) := by apply Lib.hid; unfold bandV; rw [if_neg (by rw [hc.out]; omega)]
    go_enter Try.func68, Try.ntmps68
    go_wp2_with (first | (go_at_call 125; refine (impl_ValidLeading _ _ _ _ _ _ _).mono ?_; rintro e w1 ⟨rfl, hb1⟩; have hB1 := bnext (w := w) (by go_grown) hb1; have hS1 := hB1.size; ((have hz1 : w.heap.size < w1.heap.size := by have := hb1.size; (try simp only [World.size_alloc, World.size_setCell, World.size_drew] at this); omega)); obtain ⟨hc1, hf1⟩ := bcell hb1; clear hb1) | (go_at_call 131; refine (impl_isRange _ _).mono ?_; rintro e w' ⟨rfl, rfl⟩) | (go_at_call 129; refine (impl_isOpen _ _).mono ?_; rintro e w' ⟨rfl, rfl⟩))
    go_ret2
    exact ⟨ret_ii hv'.out.symm hc.out.symm, by go_grown⟩
  have hc : Hid (bandOk x1 y1 x2 y2 lo hi d lim = 0) := by apply Lib.hid; unfold bandOk; simp [*]
  have hv' : Hid (bandV x1 y1 x2 y2 lo hi d lim = (seek (bandF (distM x1 y1 x2 y2) d lim) 5000 0 : Nat)) := by apply Lib.hid; unfold bandV; rw [if_pos hc.out]
  obtain ⟨b1, b2, b3, b4, bn, _, _, _⟩ := vLead_yes hv
  have hD := inB_yes.1 hd
  have hL := inB_yes.1 hl
  have hn := distM_bd b1 b2 b3 b4
  generalize hN : distM x1 y1 x2 y2 = n at hn hv'
  have hN' := Lib.hid hN
  have hdist : ∀ w, Calls Try.prog 109 #[.agg #[.int .i64 x1, .int .i64 y1], .agg #[.int .i64 x2, .int .i64 y2]] w fun e w' => e = .returned (.int .i64 n) ∧ Below w.heap.size w w' := fun w => by
    have := impl_Distance x1 y1 x2 y2 w b1 b2 b3 b4
    rw [hN] at this; exact this
  clear hN bn
  go_enter Try.func68, Try.ntmps68
  go_wp2_with (first | (go_at_call 125; refine (impl_ValidLeading _ _ _ _ _ _ _).mono ?_; rintro e w1 ⟨rfl, hb1⟩; have hB1 := bnext (w := w) (by go_grown) hb1; have hS1 := hB1.size; ((have hz1 : w.heap.size < w1.heap.size := by have := hb1.size; (try simp only [World.size_alloc, World.size_setCell, World.size_drew] at this); omega)); obtain ⟨hc1, hf1⟩ := bcell hb1; clear hb1) | (go_at_call 131; refine (impl_isRange _ _).mono ?_; rintro e w' ⟨rfl, rfl⟩) | (go_at_call 129; refine (impl_isOpen _ _).mono ?_; rintro e w' ⟨rfl, rfl⟩) | (go_at_call 109; refine (hdist _).mono ?_; rintro e w1 ⟨rfl, hb1⟩; have hB1 := bnext (w := w) (by go_grown) hb1; have hS1 := hB1.size; ((have hz1 : w.heap.size < w1.heap.size := by have := hb1.size; (try simp only [World.size_alloc, World.size_setCell, World.size_drew] at this); omega)); obtain ⟨hc1, hf1⟩ := bcell hb1; clear hb1))
  have hB9 := hB1
  clear hS1 hc1 hf1 hz1 hB1 hdist
  go_loopw [10] (fun v wr => ∃ k : Nat, v = .int .i64 (k + 1) ∧ k ≤ 5000 ∧ seek (bandF n d lim) 5000 0 = seek (bandF n d lim) (5000 - k) k ∧ Below w.heap.size w wr) (fun v _ => 6000 - (intOf v).toNat)
  case atStart => exact ⟨0, by simp, by omega, rfl, hB9⟩
  case round =>
    clear hB9
    obtain ⟨k, rfl, hk, hs, hB9⟩ := hrel
    have hs' := Lib.hid hs
    clear hs
    by_cases hlt : k < 5000
    · obtain ⟨a, b, c, e, f, g⟩ := band_bd (v := k + 1) hn hD (by omega) hL
      have hr1 : Hid (rootM (d * d + ((k : Int) + 1) * (k + 1)) = nearM d (k + 1)) := Lib.hid rfl
      have hr2 : Hid (rootM ((d + n) * (d + n) + ((k : Int) + 1) * (k + 1)) = nearM (d + n) (k + 1)) := Lib.hid rfl
      by_cases hf : lim * nearM d (k + 1) * nearM (d + n) (k + 1) < 1000000 * ((k : Int) + 1) * n
      · have hs2 := Lib.hid (hs'.out.trans (seek_hit hlt (show bandF n d lim k = true by unfold bandF fitsM; rw [decide_eq_false (by omega)]; rfl)))
        go_wp2_with (go_at_call 132; refine (impl_RootOf _ _ (by omega)).mono ?_; rintro e w' ⟨rfl, rfl⟩; (try rw [hr1.out]); (try rw [hr2.out]))
        go_ret2
        exact ⟨ret_ii (by rw [hv'.out, hs2.out] <;> omega) hc.out.symm, hB9⟩
      · have hs2 := Lib.hid (hs'.out.trans (seek_miss hlt (show bandF n d lim k = false by unfold bandF fitsM; rw [decide_eq_true (by omega)]; rfl)))
        go_wp2_with (go_at_call 132; refine (impl_RootOf _ _ (by omega)).mono ?_; rintro e w' ⟨rfl, rfl⟩; (try rw [hr1.out]); (try rw [hr2.out]))
        go_roundw
        case rel => exact ⟨k + 1, congrArg (Value.int .i64) (by omega), by omega, hs2.out, hB9⟩
        case measure => simp [intOf]; omega
    · obtain rfl : k = 5000 := by omega
      have hs2 := Lib.hid (hs'.out.trans (seek_end _))
      go_wp2
      go_ret2
      exact ⟨ret_ii (by rw [hv'.out, hs2.out] <;> rfl) hc.out.symm, hB9⟩

end Go.Proofs.Ytnikdafbnkedkaa
