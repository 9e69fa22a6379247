/-
  Contracts of the normal form of a light: the program's. Each under the conditions that it states.
-/
import Derived.Test.YtpnffdkkmibchaaGreatDoorRhyZ
set_option linter.unusedVariables false
set_option linter.unnecessarySimpa false
set_option maxRecDepth 100000
set_option linter.unusedSimpArgs false
namespace Go.Proofs.YtpnffdkkmibchaaGreatDoor
open Go.RowKit BigFrame Go.Deep

def cand (f : Nat → Nat) (n k m : Nat) : Prop := ¬ ltF n (rt f 0) (rt f m) ∧ ∀ j, j < k → f j ≠ f (j + n - 1) → ¬ ltF n (rt f j) (rt f m)
theorem cand_skip {f : Nat → Nat} {n k m : Nat} (h : cand f n k m) (e : f k = f (k + n - 1)) : cand f n (k + 1) m := ⟨h.1, fun j hj hne => by
  rcases (by omega : j < k ∨ j = k) with h3 | rfl
  · exact h.2 j h3 hne
  · exact absurd e hne⟩
theorem cand_keep {f : Nat → Nat} {n k m : Nat} (h : cand f n k m) (e : ¬ ltF n (rt f k) (rt f m)) : cand f n (k + 1) m := ⟨h.1, fun j hj hne => by
  rcases (by omega : j < k ∨ j = k) with h3 | rfl
  · exact h.2 j h3 hne
  · exact e⟩
theorem cand_new {f : Nat → Nat} {n k m : Nat} (h : cand f n k m) (e : ltF n (rt f k) (rt f m)) : cand f n (k + 1) k := ⟨fun h2 => h.1 (ltF_trans h2 e), fun j hj hne h4 => by
  rcases (by omega : j < k ∨ j = k) with h3 | rfl
  · exact h.2 j h3 hne (ltF_trans h4 e)
  · exact ltF_irr h4⟩
theorem cand_min {f : Nat → Nat} {n m : Nat} (hp : per f n) (hm : m < n) (h : cand f n n m) : isMin f n m :=
  min_skip hp hm fun j hj hc => by
    rcases hc with rfl | hne
    · exact h.1
    · exact h.2 j hj hne
set_option maxHeartbeats 3200000 in
theorem impl_Normal (P : List RPhase) (A : Option Addr) (c B : Nat) (w : World) (hs : Sl w B A (flat RPhase.cells P)) (hB : B ≤ w.heap.size) (hv : vPhases P = true) : Calls Tryz.prog 31 #[.slice A P.length c] w fun e w' => ∃ M, (MinW (tns P) M ∧ codes M ∧ 0 < M.length ∧ M.length ≤ 600) ∧ ∃ A2 c2, e = .returned (.slice A2 M.length c2) ∧ Below w.heap.size w w' ∧ Sl w' w'.heap.size A2 (cls M) := by
  obtain ⟨hW, hl⟩ := tns_pos hv
  have hs' := Lib.hid hs
  have hv' := Lib.hid hv
  clear hs hv
  go_enter Tryz.func31, Tryz.ntmps31
  go_wp2_with fail
  refine (impl_Once P A c B _ hs'.out hB hv'.out).mono ?_
  rintro e w1 ⟨n, hP, A1, c1, rfl, hnc, hb1, hsl⟩
  have hn := hP.le hW
  have hn1 := hP.1
  have hVl : ((tns P).take n).length = n := by rw [List.length_take]; omega
  have hof := Lib.hid (fun m (hm : m < n) (hq : isMin (cyc ((tns P).take n)) n m) => show MinW (tns P) ((List.range n).map (rt (cyc ((tns P).take n)) m)) by
    rw [cyc_take hW hP] at hq ⊢
    exact ⟨n, m, hP, hm, hq, rfl⟩)
  have hcd2 := Lib.hid (codes_take (show codes (tns P) from codes_tn P.length) n)
  obtain ⟨V, hV⟩ : ∃ V, (tns P).take n = V := ⟨_, rfl⟩
  rw [hV] at hsl hVl hof hcd2
  have hsl' := Lib.hid hsl
  subst hVl
  clear hsl hV hP
  have hl6 : V.length ≤ 600 := by omega
  clear hn hl hW
  have hz1 := hb1.size
  go_wp2_with fail
  go_loopw [4, 12] (fun s t wr => ∃ (k m : Nat) (A' : Option Addr) (c' : Nat), s = .slice A' V.length c' ∧ t = .int .i64 k ∧ (k ≤ V.length ∧ m < V.length) ∧ Hid (cand (cyc V) V.length k m) ∧ Hid (Sl wr wr.heap.size A' (cls (rotL V m))) ∧ Below w1.heap.size w1 wr) (fun _ t _ => V.length - (intOf t).toNat)
  case atStart => exact ⟨0, 0, _, _, rfl, rfl, ⟨Nat.zero_le _, by omega⟩, Lib.hid ⟨ltF_irr, fun j hj => absurd hj (Nat.not_lt_zero _)⟩, Lib.hid (by rw [rotL_zero]; exact hsl'.out), Below.refl _ _⟩
  case round =>
    obtain ⟨k, m, A', c', rfl, rfl, ⟨hk, hm⟩, hcn, hslb, hB1⟩ := hrel
    have hS1 := hB1.size
    by_cases hlt : k < V.length
    · obtain ⟨b, o, rfl, hb, he⟩ := cls_w hsl'.out (Nat.le_refl _) (by omega)
      obtain ⟨r, hr⟩ : ∃ r, (k + V.length - 1) % V.length = r := ⟨_, rfl⟩
      have hrl : r < V.length := by rw [← hr]; exact Nat.mod_lt _ (by omega)
      have hcast : ((k + V.length - 1 : Nat) : Int) = (k : Int) + (V.length : Int) - 1 := by omega
      have m1 : ((k : Int) + (V.length : Int) - 1).tmod (V.length : Int) = (r : Int) := by rw [← hcast]; exact tmod_nat hr
      have m2 : ((k : Int) + (V.length : Int) - 1) % (V.length : Int) = (r : Int) := by rw [← hcast, ← hr]; rfl
      have dp := he wr hB1 k hlt
      have dq := he wr hB1 r hrl
      rw [show cyc V r = cyc V (k + V.length - 1) by rw [← hr, cyc_mod]] at dq
      have q1 := codes_cyc hcd2.out k
      have q2 := codes_cyc hcd2.out (k + V.length - 1)
      have hbw : b < wr.heap.size := by omega
      clear hr hcast he
      by_cases hab : cyc V k = cyc V (k + V.length - 1)
      · have hst := Lib.hid (cand_skip hcn.out hab)
        rw [← hab] at dq
        obtain ⟨x, hx⟩ : ∃ x, nm (cyc V k) = x := ⟨_, rfl⟩
        rw [hx] at dp dq
        clear hab hx q1 q2
        go_wp2_with fail
        refine wp_region_grew (by kernel_rfl) (by kernel_rfl) ?_
        repeat (first | (go_big_quiet_step (fail)) | (quiet_step (fail)))
        refine wpQuiet_nil ?_
        rintro _ ⟨⟨w9, hb9⟩, rfl⟩
        try dsimp only
        obtain ⟨hc9, hf9⟩ := bcell hb9
        have hsl9 := Lib.hid ((hslb.out.below hb9).more hb9.size)
        go_wp2
        go_roundw
        case rel => exact ⟨k + 1, m, _, _, rfl, by go_num, ⟨by omega, hm⟩, hst, hsl9, bnext hB1 hb9⟩
        case measure => simp [intOf]; omega
      · have hx := bytes_ne (fun e => hab (nm_inj q1 q2 e))
        obtain ⟨x, hx1⟩ : ∃ x, nm (cyc V k) = x := ⟨_, rfl⟩
        obtain ⟨y, hx2⟩ : ∃ y, nm (cyc V (k + V.length - 1)) = y := ⟨_, rfl⟩
        rw [hx1] at dp hx
        rw [hx2] at dq hx
        clear hab hx1 hx2 q1 q2
        go_wp2_with fail
        refine wp_region_grew (by kernel_rfl) (by kernel_rfl) ?_
        repeat (first | (go_big_quiet_step (fail)) | (quiet_step (fail)))
        refine wpQuiet_nil ?_
        rintro _ ⟨⟨w9, hb9⟩, rfl⟩
        try dsimp only
        obtain ⟨hc9, hf9⟩ := bcell hb9
        have hB9 := bnext hB1 hb9
        have hsl9 := Lib.hid ((hslb.out.below hb9).more hb9.size)
        clear dp dq hc9 hf9 hx m1 m2
        go_wp2_with fail
        refine (impl_Rot V _ c1 w1.heap.size k _ (hsl'.out.below hB9) hB9.size (by omega) (by omega) hlt hnc).mono ?_
        rintro e w3 ⟨A7, c7, rfl, hb3, hs7⟩
        have hB3 := bnext hB9 hb3
        have hs7' := Lib.hid hs7
        have hs8 := Lib.hid ((hsl9.out.below hb3).more hb3.size)
        clear hs7 hsl9
        go_wp2_with fail
        refine (lib_Compare (rotL V k) (rotL V m) _ _ _ _ w3.heap.size V.length _ hs7'.out hs8.out (Nat.le_refl _) (rotL_len _ _) (rotL_len _ _) (by omega) (by omega) (rotL_codes hcd2.out _) (rotL_codes hcd2.out _)).mono ?_
        rintro e w4 ⟨z, hz, rfl, hb4⟩
        rw [ltF_rot] at hz
        have hB4 := bnext hB3 hb4
        have hz' := Lib.hid hz
        clear hz
        by_cases hneg : z < 0
        · have hnew := Lib.hid (cand_new hcn.out (hz'.out.1 hneg))
          have hs9 := Lib.hid ((hs7'.out.below hb4).more hb4.size)
          go_wp2_with fail
          go_roundw
          case rel => exact ⟨k + 1, k, _, _, rfl, by go_num, ⟨by omega, hlt⟩, hnew, hs9, hB4⟩
          case measure => simp [intOf]; omega
        · have hkeep := Lib.hid (cand_keep hcn.out (fun h => hneg (hz'.out.2 h)))
          have hs9 := Lib.hid ((hs8.out.below hb4).more hb4.size)
          go_wp2_with fail
          go_roundw
          case rel => exact ⟨k + 1, m, _, _, rfl, by go_num, ⟨by omega, hm⟩, hkeep, hs9, hB4⟩
          case measure => simp [intOf]; omega
    · obtain rfl : k = V.length := by omega
      have hM := Lib.hid (hof.out m hm (cand_min (cyc_per V) hm hcn.out))
      have hBf := bnext hb1 hB1
      go_wp2
      go_ret
      exact ⟨rotL V m, ⟨hM.out, rotL_codes hcd2.out _, by rw [rotL_len]; omega, by rw [rotL_len]; exact hl6⟩, A', c', by rw [rotL_len]; rfl, hBf, hslb.out⟩
end Go.Proofs.YtpnffdkkmibchaaGreatDoor
