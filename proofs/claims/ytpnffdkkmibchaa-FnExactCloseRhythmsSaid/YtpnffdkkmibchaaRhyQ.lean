/-
  Contracts of the least period of a light: the reference's. Each under the conditions that it states.
-/
import Derived.Test.YtpnffdkkmibchaaRhyR
set_option linter.unusedVariables false
set_option linter.unnecessarySimpa false
set_option maxRecDepth 100000
set_option linter.unusedSimpArgs false
namespace Go.Proofs.Ytpnffdkkmibchaa
open Go.RowKit BigFrame Go.Deep

def noPer (W : List Nat) (n : Nat) : Prop := ∀ m, 1 ≤ m → m < n → ¬ (W.length % m = 0 ∧ shiftOk W m)
theorem noPer_step {W : List Nat} {n : Nat} (h : noPer W n) (h2 : ¬ (W.length % n = 0 ∧ shiftOk W n)) : noPer W (n + 1) := fun m h1 hm => by
  rcases (by omega : m < n ∨ m = n) with h3 | rfl
  · exact h m h1 h3
  · exact h2
def shTo (W : List Nat) (n i : Nat) : Prop := ∀ j, j < i → j + n < W.length → cyc W j = cyc W (j + n)
theorem shTo_step {W : List Nat} {n i : Nat} (h : shTo W n i) (e : cyc W i = cyc W (i + n)) : shTo W n (i + 1) := fun j hj h2 => by
  rcases (by omega : j < i ∨ j = i) with h3 | rfl
  · exact h j h3 h2
  · exact e
set_option maxHeartbeats 1600000 in
theorem spec_Per (W : List Nat) (A : Option Addr) (c B : Nat) (w : World) (hs : Sl w B A (bts W)) (hB : B ≤ w.heap.size) (hc : codes W) (hW : 0 < W.length) (hl : W.length ≤ 1000) : Calls Try.prog 39 #[.slice A W.length c] w fun e w' => ∃ n : Nat, PerL W n ∧ e = .returned (.int .i64 n) ∧ Below w.heap.size w w' := by
  obtain ⟨b, o, rfl, hb, he⟩ := bts_w hs hB hW
  have he' := Lib.hid he
  clear hs he hc
  go_enter Try.func39, Try.ntmps39
  go_wp2
  go_loopw [3] (fun i wr => ∃ n : Nat, i = .int .i64 n ∧ (1 ≤ n ∧ n ≤ W.length) ∧ Hid (noPer W n) ∧ Below w.heap.size w wr) (fun i _ => W.length - (intOf i).toNat)
  case atStart => exact ⟨1, rfl, ⟨Nat.le_refl _, hW⟩, Lib.hid (fun m h1 h2 => by omega), by go_grown⟩
  case round =>
    obtain ⟨n, rfl, ⟨hn1, hn2⟩, hno, hB1⟩ := hrel
    by_cases hlt : n < W.length
    · obtain ⟨r, hr⟩ : ∃ r, W.length % n = r := ⟨_, rfl⟩
      have hr' := Lib.hid hr
      have hm : ((W.length : Int)).tmod (n : Int) = (r : Int) := tmod_nat hr
      have hm2 : ((W.length : Int)) % (n : Int) = (r : Int) := by rw [← hr]; simp
      clear hr
      by_cases hr0 : r = 0
      · subst hr0
        go_wp2_with fail
        go_loopw [4, 5] (fun s i wr => ∃ (k : Nat) (t : Bool), s = .bool t ∧ i = .int .i64 k ∧ k ≤ W.length ∧ Hid ((t = true → shTo W n k) ∧ (t = false → ¬ shiftOk W n)) ∧ Below w.heap.size w wr) (fun _ i _ => W.length - (intOf i).toNat)
        case atStart => exact ⟨0, true, rfl, rfl, Nat.zero_le _, Lib.hid ⟨fun _ j hj => absurd hj (Nat.not_lt_zero _), fun h => by cases h⟩, hB1⟩
        case round =>
          clear hB1
          obtain ⟨k, t, rfl, rfl, hk, hv, hB1⟩ := hrel
          have hS1 := hB1.size
          cases t
          · have hno2 := Lib.hid (noPer_step hno.out (fun h => hv.out.2 rfl h.2))
            clear hno
            by_cases hkn : (k : Int) + (n : Int) < (W.length : Int)
            · go_wp2
              go_roundw
              case rel => exact ⟨n + 1, by go_num, ⟨by omega, by omega⟩, hno2, hB1⟩
              case measure => simp [intOf]; omega
            · go_wp2
              go_roundw
              case rel => exact ⟨n + 1, by go_num, ⟨by omega, by omega⟩, hno2, hB1⟩
              case measure => simp [intOf]; omega
          · by_cases hkn : k + n < W.length
            · have dp := he'.out wr hB1 k (by omega)
              have dq := he'.out wr hB1 (k + n) hkn
              have dq2 : wr.cell? ⟨b, o + k + n, none⟩ = some (.int .u8 (cyc W (k + n) : Int)) := by rw [Nat.add_assoc]; exact dq
              have hkni : (k : Int) + (n : Int) < (W.length : Int) := by omega
              have hnum : ((k : Int) + (n : Int)) = ((k + n : Nat) : Int) := by omega
              have hbw : b < wr.heap.size := by omega
              by_cases hab : cyc W k = cyc W (k + n)
              · have hst := Lib.hid (shTo_step (hv.out.1 rfl) hab)
                rw [← hab] at dq dq2
                obtain ⟨x, hx⟩ : ∃ x, cyc W k = x := ⟨_, rfl⟩
                rw [hx] at dp dq dq2
                clear hab hx hnum
                go_wp2_with fail
                refine wp_region_grew (by kernel_rfl) (by kernel_rfl) ?_
                repeat (first | (go_big_quiet_step (fail)) | (quiet_step (fail)))
                refine wpQuiet_nil ?_
                rintro _ ⟨⟨w9, hb9⟩, rfl⟩
                try dsimp only
                obtain ⟨hc9, hf9⟩ := bcell hb9
                go_wp2
                go_roundw
                case rel => exact ⟨k + 1, true, rfl, by go_num, by omega, Lib.hid ⟨fun _ => hst.out, (fun h => by cases h)⟩, bnext hB1 hb9⟩
                case measure => simp [intOf]; omega
              · have hf := Lib.hid (show ¬ shiftOk W n from fun h => hab (h k hkn))
                have hx1 : ((cyc W k : Int) == (cyc W (k + n) : Int)) = false := beq_eq_false_iff_ne.2 (by omega)
                obtain ⟨x, hx⟩ : ∃ x, cyc W k = x := ⟨_, rfl⟩
                obtain ⟨y, hy⟩ : ∃ y, cyc W (k + n) = y := ⟨_, rfl⟩
                rw [hx] at dp hx1
                rw [hy] at dq dq2 hx1
                clear hab hx hy hnum
                go_wp2_with fail
                refine wp_region_grew (by kernel_rfl) (by kernel_rfl) ?_
                repeat (first | (go_big_quiet_step (fail)) | (quiet_step (fail)))
                refine wpQuiet_nil ?_
                rintro _ ⟨⟨w9, hb9⟩, rfl⟩
                try dsimp only
                obtain ⟨hc9, hf9⟩ := bcell hb9
                go_wp2
                go_roundw
                case rel => exact ⟨k + 1, false, rfl, by go_num, by omega, Lib.hid ⟨(fun h => by cases h), fun _ => hf.out⟩, bnext hB1 hb9⟩
                case measure => simp [intOf]; omega
            · have hP := Lib.hid (PerL.spec hW hn1 hr'.out (fun j hj => hv.out.1 rfl j (by omega) hj) hno.out)
              have hkni : ¬ (k : Int) + (n : Int) < (W.length : Int) := by omega
              go_wp2
              go_ret
              exact ⟨n, hP.out, rfl, hB1⟩
      · have hno2 := Lib.hid (noPer_step hno.out (fun h => hr0 (by rw [← hr'.out]; exact h.1)))
        have hne : ((r : Int) == 0) = false := beq_eq_false_iff_ne.2 (by omega)
        clear hno hr0
        go_wp2
        go_roundw
        case rel => exact ⟨n + 1, by go_num, ⟨by omega, by omega⟩, hno2, hB1⟩
        case measure => simp [intOf]; omega
    · obtain rfl : n = W.length := by omega
      have hP := Lib.hid (PerL.spec hW hn1 (Nat.mod_self _) (fun j hj => by omega) hno.out)
      go_wp2
      go_ret
      exact ⟨W.length, hP.out, rfl, hB1⟩
set_option maxHeartbeats 1600000 in
theorem spec_Once (P : List RPhase) (A : Option Addr) (c B : Nat) (w : World) (hs : Sl w B A (flat RPhase.cells P)) (hB : B ≤ w.heap.size) (hv : vPhases P = true) : Calls Try.prog 29 #[.slice A P.length c] w fun e w' => ∃ n, PerL (tns P) n ∧ ∃ A2 c2, e = .returned (.slice A2 n c2) ∧ n ≤ c2 ∧ Below w.heap.size w w' ∧ Sl w' w'.heap.size A2 (bts ((tns P).take n)) := by
  obtain ⟨hW, hl⟩ := tns_pos hv
  have hc : codes (tns P) := codes_tn _
  obtain ⟨W, hWe⟩ : ∃ W, tns P = W := ⟨_, rfl⟩
  have hWe' := Lib.hid hWe
  have hv' := Lib.hid hv
  have hs' := Lib.hid hs
  rw [hWe] at hW hl hc
  have hc' := Lib.hid hc
  clear hv hs hc
  go_enter Try.func29, Try.ntmps29
  go_wp2_with fail
  refine (spec_Tn P A c B _ hs'.out hB hv'.out).mono ?_
  rintro e w1 ⟨v, rfl, hb1, hown⟩
  rw [hWe'.out] at hown
  clear hWe
  obtain ⟨hll, ⟨rfl, h0⟩ | ⟨g, cap, cur, rfl, hgb, hh, hcs, hcm, hsz, hat⟩⟩ := id hown
  · rw [bts_len] at hll; omega
  obtain ⟨A7, c7, e7, hsl⟩ := (Rs.of_owns hown).sl
  injection e7 with e8 e9 e10
  subst e8 e10
  have hsl' := Lib.hid hsl
  have hcap : W.length ≤ cap := by omega
  clear hown hll hh hcs hcm hsz hat hsl e9
  go_wp2_with fail
  refine (spec_Per W _ _ w1.heap.size _ hsl'.out (Nat.le_refl _) hc'.out hW (by omega)).mono ?_
  rintro e w2 ⟨n, hP, rfl, hb2⟩
  have hn := hP.le hW
  have hP' := Lib.hid hP
  have hncap : (n : Int) ≤ (cap : Int) := by omega
  have hB2 := bnext hb1 hb2
  clear hP
  go_wp2_with fail
  go_ret
  exact ⟨n, by rw [hWe'.out]; exact hP'.out, _, _, rfl, by omega, hB2, by rw [hWe'.out, bts_take]; exact ((hsl'.out.below hb2).more hb2.size).take n⟩
end Go.Proofs.Ytpnffdkkmibchaa
