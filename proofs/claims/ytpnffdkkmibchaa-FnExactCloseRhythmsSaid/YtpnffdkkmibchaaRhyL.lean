/-
  Contracts of the least rotation: the reference's index of it. Each under the conditions that it states.
-/
import Derived.Test.YtpnffdkkmibchaaRhyQ
set_option linter.unusedVariables false
set_option linter.unnecessarySimpa false
set_option maxRecDepth 100000
set_option linter.unusedSimpArgs false
namespace Go.Proofs.Ytpnffdkkmibchaa
open Go.RowKit BigFrame Go.Deep

theorem ltF_asym {n : Nat} {u v : Nat → Nat} (h : ltF n u v) : ¬ ltF n v u := fun h2 => ltF_irr (ltF_trans h h2)
/-- None of the first i rotations is less than number b. -/
def bestTo (f : Nat → Nat) (n i b : Nat) : Prop := ∀ j, j < i → ¬ ltF n (rt f j) (rt f b)
theorem best_keep {f : Nat → Nat} {n i b : Nat} (h : bestTo f n i b) (h2 : ¬ ltF n (rt f i) (rt f b)) : bestTo f n (i + 1) b := fun j hj => by
  rcases (by omega : j < i ∨ j = i) with h3 | rfl
  · exact h j h3
  · exact h2
theorem best_new {f : Nat → Nat} {n i b : Nat} (h : bestTo f n i b) (h2 : ltF n (rt f i) (rt f b)) : bestTo f n (i + 1) i := fun j hj h4 => by
  rcases (by omega : j < i ∨ j = i) with h3 | rfl
  · exact h j h3 (ltF_trans h4 h2)
  · exact ltF_irr h4
def agree (f : Nat → Nat) (i b k : Nat) : Prop := ∀ j, j < k → rt f i j = rt f b j
theorem agree_step {f : Nat → Nat} {i b k : Nat} (h : agree f i b k) (e : f (i + k) = f (b + k)) : agree f i b (k + 1) := fun j hj => by
  rcases (by omega : j < k ∨ j = k) with h3 | rfl
  · exact h j h3
  · exact e
theorem agree_all {f : Nat → Nat} {n i b : Nat} (h : agree f i b n) : ¬ ltF n (rt f i) (rt f b) := fun ⟨k, h1, _, h3⟩ => by
  rw [h k h1] at h3; exact Nat.lt_irrefl _ h3
theorem agree_lt {f : Nat → Nat} {n i b k : Nat} (h : agree f i b k) (hk : k < n) (e : f (i + k) < f (b + k)) : ltF n (rt f i) (rt f b) := ⟨k, hk, h, e⟩
theorem agree_gt {f : Nat → Nat} {n i b k : Nat} (h : agree f i b k) (hk : k < n) (e : f (b + k) < f (i + k)) : ¬ ltF n (rt f i) (rt f b) := ltF_asym ⟨k, hk, fun j hj => (h j hj).symm, e⟩
set_option maxHeartbeats 1600000 in
theorem spec_Least (W : List Nat) (A : Option Addr) (c B : Nat) (w : World) (hs : Sl w B A (bts W)) (hB : B ≤ w.heap.size) (hW : 0 < W.length) (hl : W.length ≤ 1000) : Calls Try.prog 31 #[.slice A W.length c] w fun e w' => ∃ i : Nat, (i < W.length ∧ isMin (cyc W) W.length i) ∧ e = .returned (.int .i64 i) ∧ Below w.heap.size w w' := by
  obtain ⟨b, o, rfl, hb, he⟩ := bts_w hs hB hW
  have he' := Lib.hid he
  clear hs he
  go_enter Try.func31, Try.ntmps31
  go_wp2
  go_loopw [3, 4] (fun s i wr => ∃ (m i' : Nat), s = .int .i64 m ∧ i = .int .i64 i' ∧ m < W.length ∧ (1 ≤ i' ∧ i' ≤ W.length) ∧ Hid (bestTo (cyc W) W.length i' m) ∧ Below w.heap.size w wr) (fun _ i _ => W.length - (intOf i).toNat)
  case atStart => exact ⟨0, 1, rfl, rfl, hW, ⟨Nat.le_refl _, hW⟩, Lib.hid (fun j hj => by rw [show j = 0 by omega]; exact ltF_irr), by go_grown⟩
  case round =>
    obtain ⟨m, i, rfl, rfl, hm, ⟨hi1, hi2⟩, hbest, hB1⟩ := hrel
    by_cases hlt : i < W.length
    · go_wp2_with fail
      go_loopw [3, 5] (fun s q wr => ∃ k : Nat, s = .int .i64 m ∧ q = .int .i64 k ∧ k ≤ W.length ∧ Hid (agree (cyc W) i m k) ∧ Below w.heap.size w wr) (fun _ q _ => W.length - (intOf q).toNat)
      case atStart => exact ⟨0, rfl, rfl, Nat.zero_le _, Lib.hid (fun j hj => absurd hj (Nat.not_lt_zero _)), hB1⟩
      case round =>
        clear hB1
        obtain ⟨k, rfl, rfl, hk, hag, hB1⟩ := hrel
        have hS1 := hB1.size
        by_cases hkn : k < W.length
        · obtain ⟨r, hr⟩ : ∃ r, (i + k) % W.length = r := ⟨_, rfl⟩
          obtain ⟨q, hq⟩ : ∃ q, (m + k) % W.length = q := ⟨_, rfl⟩
          have hrl : r < W.length := by rw [← hr]; exact Nat.mod_lt _ hW
          have hql : q < W.length := by rw [← hq]; exact Nat.mod_lt _ hW
          have m1 : ((i : Int) + (k : Int)).tmod (W.length : Int) = (r : Int) := tmod_nat (a := i + k) hr
          have m2 : ((m : Int) + (k : Int)).tmod (W.length : Int) = (q : Int) := tmod_nat (a := m + k) hq
          have m3 : ((i : Int) + (k : Int)) % (W.length : Int) = (r : Int) := by rw [← hr]; simp
          have m4 : ((m : Int) + (k : Int)) % (W.length : Int) = (q : Int) := by rw [← hq]; simp
          have dp := he'.out wr hB1 r hrl
          have dq := he'.out wr hB1 q hql
          rw [show cyc W r = cyc W (i + k) by rw [← hr, cyc_mod]] at dp
          rw [show cyc W q = cyc W (m + k) by rw [← hq, cyc_mod]] at dq
          have hbw : b < wr.heap.size := by omega
          clear hr hq
          rcases Nat.lt_trichotomy (cyc W (i + k)) (cyc W (m + k)) with hc | hc | hc
          · have hnew := Lib.hid (best_new hbest.out (agree_lt hag.out hkn hc))
            have hx : ((cyc W (i + k) : Int) == (cyc W (m + k) : Int)) = false := beq_eq_false_iff_ne.2 (by omega)
            have hx2 : (cyc W (i + k) : Int) < (cyc W (m + k) : Int) := by omega
            obtain ⟨x, hx3⟩ : ∃ x, cyc W (i + k) = x := ⟨_, rfl⟩
            obtain ⟨y, hy3⟩ : ∃ y, cyc W (m + k) = y := ⟨_, rfl⟩
            rw [hx3] at dp hx hx2
            rw [hy3] at dq hx hx2
            clear hc hx3 hy3
            go_wp2
            go_roundw
            case rel => exact ⟨i, i + 1, rfl, by go_num, hlt, ⟨by omega, by omega⟩, hnew, hB1⟩
            case measure => simp [intOf]; omega
          · have hst := Lib.hid (agree_step hag.out hc)
            rw [hc] at dp
            obtain ⟨x, hx3⟩ : ∃ x, cyc W (m + k) = x := ⟨_, rfl⟩
            rw [hx3] at dp dq
            clear hc hx3
            go_wp2
            go_roundw
            case rel => exact ⟨k + 1, rfl, by go_num, by omega, hst, hB1⟩
            case measure => simp [intOf]; omega
          · have hkeep := Lib.hid (best_keep hbest.out (agree_gt hag.out hkn hc))
            have hx : ((cyc W (i + k) : Int) == (cyc W (m + k) : Int)) = false := beq_eq_false_iff_ne.2 (by omega)
            have hx2 : ¬ (cyc W (i + k) : Int) < (cyc W (m + k) : Int) := by omega
            obtain ⟨x, hx3⟩ : ∃ x, cyc W (i + k) = x := ⟨_, rfl⟩
            obtain ⟨y, hy3⟩ : ∃ y, cyc W (m + k) = y := ⟨_, rfl⟩
            rw [hx3] at dp hx hx2
            rw [hy3] at dq hx hx2
            clear hc hx3 hy3
            go_wp2
            go_roundw
            case rel => exact ⟨m, i + 1, rfl, by go_num, hm, ⟨by omega, by omega⟩, hkeep, hB1⟩
            case measure => simp [intOf]; omega
        · obtain rfl : k = W.length := by omega
          have hkeep := Lib.hid (best_keep hbest.out (agree_all hag.out))
          go_wp2
          go_roundw
          case rel => exact ⟨m, i + 1, rfl, by go_num, hm, ⟨by omega, by omega⟩, hkeep, hB1⟩
          case measure => simp [intOf]; omega
    · obtain rfl : i = W.length := by omega
      go_wp2
      go_ret
      exact ⟨m, ⟨hm, hbest.out⟩, rfl, hB1⟩
theorem spec_Name0 (w : World) : Calls Try.prog 40 #[.int .u8 0] w fun e w' => e = .returned (.string ⟨#[]⟩) ∧ Below w.heap.size w w' := by
  go_enter Try.func40, Try.ntmps40
  go_wp2
  go_ret
  exact ⟨rfl, by go_grown⟩
end Go.Proofs.Ytpnffdkkmibchaa
