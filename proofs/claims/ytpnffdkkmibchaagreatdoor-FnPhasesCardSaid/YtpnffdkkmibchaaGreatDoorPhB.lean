/-
  Contracts of what is counted in a period of a light, and of lights that are the same: the program's. Each under the conditions that it states.
-/
import Derived.Test.YtpnffdkkmibchaaGreatDoorPhA
import Derived.StillTailTactics
set_option linter.unusedVariables false
set_option linter.unnecessarySimpa false
set_option maxRecDepth 100000
set_option linter.unusedSimpArgs false
namespace Go.Proofs.YtpnffdkkmibchaaGreatDoor
open Go.RowKit BigFrame Go.Deep

theorem nm_empty {a : Nat} (ha : a < 256) : (nm a).toList.isEmpty = decide (a = 0) := by
  by_cases h : a = 0
  · subst h; rw [decide_eq_true rfl]; exact by rw [nm_list0]; rfl
  · rw [decide_eq_false h, nm_list h]; rfl
set_option maxHeartbeats 800000 in
theorem impl_flash (W : List Nat) (A : Option Addr) (c B : Nat) (w : World) (hs : Sl w B A (cls W)) (hB : B ≤ w.heap.size) (hcd : codes W) (hW : 0 < W.length) (hl : W.length ≤ 600) : Calls Tryz.prog 37 #[.slice A W.length c] w fun e w' => ∃ r : Nat, r ≤ 600 ∧ e = .returned (.int .i64 r) ∧ Below w.heap.size w w' := by
  obtain ⟨b, o, rfl, hb, he⟩ := cls_w hs hB hW
  have he' := Lib.hid he
  have hcd' := Lib.hid hcd
  clear hs he hcd
  go_enter Tryz.func37, Tryz.ntmps37
  go_wp2
  go_loopw [3, 8] (fun v i wr => ∃ k r : Nat, v = .int .i64 r ∧ i = .int .i64 k ∧ k ≤ W.length ∧ r ≤ k ∧ Below w.heap.size w wr) (fun _ i _ => W.length - (intOf i).toNat)
  case atStart => exact ⟨0, 0, rfl, rfl, Nat.zero_le _, Nat.le_refl _, Below.refl _ _⟩
  case round =>
    obtain ⟨k, r, rfl, rfl, hk, hr, hB1⟩ := hrel
    have hS1 := hB1.size
    by_cases hlt : k < W.length
    · obtain ⟨q, hq⟩ : ∃ q, (k + W.length - 1) % W.length = q := ⟨_, rfl⟩
      have hql : q < W.length := by rw [← hq]; exact Nat.mod_lt _ (by omega)
      have hcast : ((k + W.length - 1 : Nat) : Int) = (k : Int) + (W.length : Int) - 1 := by omega
      have m1 : ((k : Int) + (W.length : Int) - 1).tmod (W.length : Int) = (q : Int) := by rw [← hcast]; exact tmod_nat hq
      have m2 : ((k : Int) + (W.length : Int) - 1) % (W.length : Int) = (q : Int) := by rw [← hcast, ← hq]; rfl
      have dp := he'.out wr hB1 k hlt
      have dq := he'.out wr hB1 q hql
      have hbw : b < wr.heap.size := by omega
      have e1 := nm_empty (codes_cyc hcd'.out k)
      have e2 := nm_empty (codes_cyc hcd'.out q)
      obtain ⟨x, hx⟩ : ∃ x, nm (cyc W k) = x := ⟨_, rfl⟩
      obtain ⟨y, hy⟩ : ∃ y, nm (cyc W q) = y := ⟨_, rfl⟩
      rw [hx] at dp e1
      rw [hy] at dq e2
      clear hx hy hq hcast
      cases z1 : decide (cyc W k = 0)
      · rw [z1] at e1
        cases z2 : decide (cyc W q = 0)
        · rw [z2] at e2
          clear z1 z2
          go_wp2_with fail
          go_roundw
          case rel => exact ⟨k + 1, r, rfl, by go_num, by omega, by omega, hB1⟩
          case measure => simp [intOf]; omega
        · rw [z2] at e2
          clear z1 z2
          go_wp2_with fail
          go_roundw
          case rel => exact ⟨k + 1, r + 1, by go_num, by go_num, by omega, by omega, hB1⟩
          case measure => simp [intOf]; omega
      · rw [z1] at e1
        clear z1
        go_wp2_with fail
        go_roundw
        case rel => exact ⟨k + 1, r, rfl, by go_num, by omega, by omega, hB1⟩
        case measure => simp [intOf]; omega
    · obtain rfl : k = W.length := by omega
      go_wp2
      go_ret
      exact ⟨r, by omega, rfl, hB1⟩
theorem impl_FlIn (P : List RPhase) (A : Option Addr) (c B : Nat) (w : World) (hs : Sl w B A (flat RPhase.cells P)) (hB : B ≤ w.heap.size) (hok : ∀ a ∈ P, a.ok) (hl : P.length ≤ 1048576) (hv : vPhases P = true) : Calls Tryz.prog 16 #[.slice A P.length c] w fun e w' => ∃ r : Nat, r ≤ 600 ∧ e = .returned (.tuple #[.int .i64 r, .int .i64 0]) ∧ Below w.heap.size w w' := by
  have hcd := Lib.hid (show codes (tns P) from codes_tn P.length)
  have hV := Lib.hid (fun w (h1 : Sl w B A (flat RPhase.cells P)) (h2 : B ≤ w.heap.size) => show Calls Tryz.prog 22 #[.slice A P.length c] w fun e w' => e = .returned (.bool true) ∧ Below w.heap.size w w' by have h := impl_PhOk P A c B w h1 h2 hok hl; rwa [hv] at h)
  obtain ⟨hW, hN⟩ := tns_pos hv
  have hs' := Lib.hid hs
  have hv' := Lib.hid hv
  clear hs hv hok
  go_enter Tryz.func16, Tryz.ntmps16
  go_wp2_with fail
  refine (hV.out _ hs'.out hB).mono ?_
  rintro e w1 ⟨rfl, hb1⟩
  go_wp2_with fail
  refine (impl_Once P A c B _ (hs'.out.below (hb1.mono hB)) (Nat.le_trans hB hb1.size) hv'.out).mono ?_
  rintro e w2 ⟨n, hP, A2, c2, rfl, -, hb2, hsl⟩
  have hn := hP.le hW
  have hn1 := hP.1
  have hVl : ((tns P).take n).length = n := by rw [List.length_take]; omega
  have hcd2 := Lib.hid (codes_take hcd.out n)
  have hB2 := bnext hb1 hb2
  obtain ⟨V, hVe⟩ : ∃ V, (tns P).take n = V := ⟨_, rfl⟩
  rw [hVe] at hsl hVl hcd2
  have hsl' := Lib.hid hsl
  subst hVl
  clear hsl hVe hP hb1 hb2
  go_wp2_with fail
  refine (impl_flash V A2 c2 w2.heap.size _ hsl'.out (Nat.le_refl _) hcd2.out (by omega) (by omega)).mono ?_
  rintro e w3 ⟨r, hr, rfl, hb3⟩
  go_wp2_with fail
  go_ret2
  exact ⟨r, hr, rfl, bnext hB2 hb3⟩
/-- How many of the first tenths are lit. -/
def litTo (W : List Nat) : Nat → Nat
  | 0 => 0
  | k + 1 => litTo W k + (if cyc W k = 0 then 0 else 1)
theorem litTo_le (W : List Nat) : ∀ k, litTo W k ≤ k
  | 0 => Nat.le_refl _
  | k + 1 => by have := litTo_le W k; unfold litTo; split <;> omega
set_option maxHeartbeats 800000 in
theorem impl_lit (W : List Nat) (A : Option Addr) (c B : Nat) (w : World) (hs : Sl w B A (cls W)) (hB : B ≤ w.heap.size) (hcd : codes W) (hW : 0 < W.length) (hl : W.length ≤ 600) : Calls Tryz.prog 38 #[.slice A W.length c] w fun e w' => e = .returned (.int .i64 (litTo W W.length)) ∧ Below w.heap.size w w' := by
  obtain ⟨b, o, rfl, hb, he⟩ := cls_w hs hB hW
  have he' := Lib.hid he
  have hcd' := Lib.hid hcd
  clear hs he hcd
  go_enter Tryz.func38, Tryz.ntmps38
  go_wp2
  go_loopw [3, 8] (fun v i wr => ∃ k : Nat, v = .int .i64 (litTo W k) ∧ i = .int .i64 k ∧ k ≤ W.length ∧ Below w.heap.size w wr) (fun _ i _ => W.length - (intOf i).toNat)
  case atStart => exact ⟨0, rfl, rfl, Nat.zero_le _, Below.refl _ _⟩
  case round =>
    obtain ⟨k, rfl, rfl, hk, hB1⟩ := hrel
    have hS1 := hB1.size
    by_cases hlt : k < W.length
    · have dp := he'.out wr hB1 k hlt
      have hbw : b < wr.heap.size := by omega
      have e1 := nm_empty (codes_cyc hcd'.out k)
      have hle := litTo_le W k
      have hst : Hid (litTo W (k + 1) = litTo W k + (if cyc W k = 0 then 0 else 1)) := Lib.hid rfl
      obtain ⟨r, hr⟩ : ∃ r, litTo W k = r := ⟨_, rfl⟩
      rw [hr] at hle hst ⊢
      obtain ⟨x, hx⟩ : ∃ x, nm (cyc W k) = x := ⟨_, rfl⟩
      rw [hx] at dp e1
      clear hx hr
      by_cases h0 : cyc W k = 0
      · rw [decide_eq_true h0] at e1
        rw [if_pos h0] at hst
        clear h0
        go_wp2_with fail
        go_roundw
        case rel => exact ⟨k + 1, by rw [hst.out]; rfl, by go_num, by omega, hB1⟩
        case measure => simp [intOf]; omega
      · rw [decide_eq_false h0] at e1
        rw [if_neg h0] at hst
        clear h0
        go_wp2_with fail
        go_roundw
        case rel => exact ⟨k + 1, by rw [hst.out]; go_num, by go_num, by omega, hB1⟩
        case measure => simp [intOf]; omega
    · obtain rfl : k = W.length := by omega
      go_wp2
      go_ret
      exact ⟨rfl, hB1⟩
theorem impl_Duty (P : List RPhase) (A : Option Addr) (c B : Nat) (w : World) (hs : Sl w B A (flat RPhase.cells P)) (hB : B ≤ w.heap.size) (hok : ∀ a ∈ P, a.ok) (hl : P.length ≤ 1048576) (hv : vPhases P = true) : Calls Tryz.prog 17 #[.slice A P.length c] w fun e w' => ∃ n : Nat, PerL (tns P) n ∧ e = .returned (.tuple #[.int .i64 ((litTo ((tns P).take n) n * 1000000 / n : Nat) : Int), .int .i64 0]) ∧ Below w.heap.size w w' := by
  have hcd := Lib.hid (show codes (tns P) from codes_tn P.length)
  have hV := Lib.hid (fun w (h1 : Sl w B A (flat RPhase.cells P)) (h2 : B ≤ w.heap.size) => show Calls Tryz.prog 22 #[.slice A P.length c] w fun e w' => e = .returned (.bool true) ∧ Below w.heap.size w w' by have h := impl_PhOk P A c B w h1 h2 hok hl; rwa [hv] at h)
  obtain ⟨hW, hN⟩ := tns_pos hv
  have hs' := Lib.hid hs
  have hv' := Lib.hid hv
  clear hs hv hok
  go_enter Tryz.func17, Tryz.ntmps17
  go_wp2_with fail
  refine (hV.out _ hs'.out hB).mono ?_
  rintro e w1 ⟨rfl, hb1⟩
  go_wp2_with fail
  refine (impl_Once P A c B _ (hs'.out.below (hb1.mono hB)) (Nat.le_trans hB hb1.size) hv'.out).mono ?_
  rintro e w2 ⟨n, hP, A2, c2, rfl, -, hb2, hsl⟩
  have hn := hP.le hW
  have hn1 := hP.1
  have hVl : ((tns P).take n).length = n := by rw [List.length_take]; omega
  have hcd2 := Lib.hid (codes_take hcd.out n)
  have hB2 := bnext hb1 hb2
  have hP' := Lib.hid hP
  obtain ⟨V, hVe⟩ : ∃ V, (tns P).take n = V := ⟨_, rfl⟩
  have hVh := Lib.hid hVe
  rw [hVe] at hsl hVl hcd2
  have hsl' := Lib.hid hsl
  subst hVl
  have hle := litTo_le V V.length
  clear hsl hVe hP hb1 hb2
  obtain ⟨L, hL⟩ : ∃ L, litTo V V.length = L := ⟨_, rfl⟩
  have hLh := Lib.hid hL
  rw [hL] at hle
  have hd : L * 1000000 / V.length ≤ 1000000 := Nat.div_le_of_le_mul (Nat.mul_le_mul_right 1000000 hle)
  have hq : (L : Int) * 1000000 / (V.length : Int) = ((L * 1000000 / V.length : Nat) : Int) := by simp
  have hq2 : ((L : Int) * 1000000).tdiv (V.length : Int) = ((L * 1000000 / V.length : Nat) : Int) := (Int.tdiv_eq_ediv_of_nonneg (by omega)).trans hq
  obtain ⟨z, hz⟩ : ∃ z, L * 1000000 / V.length = z := ⟨_, rfl⟩
  have hzh := Lib.hid hz
  rw [hz] at hd hq hq2
  clear hz
  have hn0 : ((V.length : Int) == 0) = false := beq_eq_false_iff_ne.2 (by omega)
  have hn3 : ¬ (V.length : Int) = 0 := by omega
  have hn4 : 0 < (V.length : Int) := by omega
  go_wp2_with fail
  refine (impl_lit V A2 c2 w2.heap.size _ hsl'.out (Nat.le_refl _) hcd2.out (by omega) (by omega)).mono ?_
  rintro e w3 ⟨rfl, hb3⟩
  rw [hL]
  clear hL
  have hB3 := bnext hB2 hb3
  go_wp2_with fail
  all_goals try (exfalso; omega)
  go_ret2
  exact ⟨V.length, hP'.out, by rw [hVh.out, hLh.out, hzh.out]; rfl, hB3⟩
set_option maxHeartbeats 800000 in
theorem lib_Equal (U : List Nat) (A A2 : Option Addr) (c c2 B : Nat) (w : World) (hs : Sl w B A (cls U)) (hs2 : Sl w B A2 (cls U)) (hB : B ≤ w.heap.size) (hU : 0 < U.length) (hl : U.length ≤ 1000) : Calls Tryz.prog 56 #[.slice A U.length c, .slice A2 U.length c2] w fun e w' => e = .returned (.bool true) ∧ Below w.heap.size w w' := by
  obtain ⟨b, o, rfl, hb, he⟩ := cls_w hs hB hU
  obtain ⟨d, q, rfl, hd, hf⟩ := cls_w hs2 hB hU
  have he' := Lib.hid he
  have hf' := Lib.hid hf
  clear hs hs2 he hf
  go_enter Tryz.func56, Tryz.ntmps56
  go_wp2
  go_loopw [13] (fun i wr => ∃ k : Nat, i = .int .i64 k ∧ k ≤ U.length ∧ Below w.heap.size w wr) (fun i _ => U.length - (intOf i).toNat)
  case atStart => exact ⟨0, rfl, Nat.zero_le _, by go_grown⟩
  case round =>
    obtain ⟨k, rfl, hk, hB1⟩ := hrel
    have hS1 := hB1.size
    by_cases hlt : k < U.length
    · have dp := he'.out wr hB1 k hlt
      have dq := hf'.out wr hB1 k hlt
      have hbw : b < wr.heap.size := by omega
      have hdw : d < wr.heap.size := by omega
      obtain ⟨x, hx⟩ : ∃ x, nm (cyc U k) = x := ⟨_, rfl⟩
      rw [hx] at dp dq
      clear hx
      go_wp2_with fail
      refine wp_region_grew (by kernel_rfl) (by kernel_rfl) ?_
      repeat (first | (go_big_quiet_step (fail)) | (quiet_step (fail)))
      refine wpQuiet_nil ?_
      rintro _ ⟨⟨w9, hb9⟩, rfl⟩
      try dsimp only
      obtain ⟨hc9, hf9⟩ := bcell hb9
      go_wp2
      go_roundw
      case rel => exact ⟨k + 1, by go_num, by omega, bnext hB1 hb9⟩
      case measure => simp [intOf]; omega
    · obtain rfl : k = U.length := by omega
      go_wp2
      go_ret
      exact ⟨rfl, hB1⟩
theorem impl_sPat (P Q : List RPhase) (A A2 : Option Addr) (c c2 B : Nat) (w : World) (hs : Sl w B A (flat RPhase.cells P)) (hs2 : Sl w B A2 (flat RPhase.cells Q)) (hB : B ≤ w.heap.size) (hv : vPhases P = true) (hv2 : vPhases Q = true) (hE : ∀ M N, MinW (tns P) M → MinW (tns Q) N → M = N) : Calls Tryz.prog 35 #[.slice A P.length c, .slice A2 Q.length c2] w fun e w' => e = .returned (.bool true) ∧ Below w.heap.size w w' := by
  have hs' := Lib.hid hs
  have hs2' := Lib.hid hs2
  have hv' := Lib.hid hv
  have hv2' := Lib.hid hv2
  have hE' := Lib.hid hE
  clear hs hs2 hv hv2 hE
  go_enter Tryz.func35, Tryz.ntmps35
  go_wp2_with fail
  refine (impl_Normal P A c B _ hs'.out hB hv'.out).mono ?_
  rintro e w1 ⟨M, ⟨hM, hMc, hM0, hMl⟩, A3, c3, rfl, hb1, hsl1⟩
  have hMh := Lib.hid hM
  have hsl1' := Lib.hid hsl1
  have hs3 := Lib.hid (hs2'.out.below (hb1.mono hB))
  have hz1 := hb1.size
  clear hM hMc hsl1 hs'
  go_wp2_with fail
  refine (impl_Normal Q A2 c2 B _ hs3.out (Nat.le_trans hB hz1) hv2'.out).mono ?_
  rintro e w2 ⟨N, ⟨hN, hNc, hN0, hNl⟩, A4, c4, rfl, hb2, hsl2⟩
  obtain rfl : M = N := hE'.out M N hMh.out hN
  have hB2 := bnext hb1 hb2
  have hsl1 := Lib.hid ((hsl1'.out.below hb2).more hb2.size)
  have hsl2' := Lib.hid hsl2
  clear hsl2 hN hNc hb1 hb2 hE' hMh hs2'
  go_wp2_with fail
  refine (lib_Equal M A3 A4 c3 c4 w2.heap.size _ hsl1.out hsl2'.out (Nat.le_refl _) hM0 (by omega)).mono ?_
  rintro e w3 ⟨rfl, hb3⟩
  go_wp2_with fail
  go_ret
  exact ⟨rfl, bnext hB2 hb3⟩
theorem impl_SPat (P Q : List RPhase) (A A2 : Option Addr) (c c2 B : Nat) (w : World) (hs : Sl w B A (flat RPhase.cells P)) (hs2 : Sl w B A2 (flat RPhase.cells Q)) (hB : B ≤ w.heap.size) (hok : ∀ a ∈ P, a.ok) (hok2 : ∀ a ∈ Q, a.ok) (hl : P.length ≤ 1048576) (hl2 : Q.length ≤ 1048576) (hv : vPhases P = true) (hv2 : vPhases Q = true) (hE : ∀ M N, MinW (tns P) M → MinW (tns Q) N → M = N) : Calls Tryz.prog 13 #[.slice A P.length c, .slice A2 Q.length c2] w fun e w' => e = .returned (.bool true) ∧ Below w.heap.size w w' := by
  have hV := Lib.hid (fun w (h1 : Sl w B A (flat RPhase.cells P)) (h2 : B ≤ w.heap.size) => show Calls Tryz.prog 22 #[.slice A P.length c] w fun e w' => e = .returned (.bool true) ∧ Below w.heap.size w w' by have h := impl_PhOk P A c B w h1 h2 hok hl; rwa [hv] at h)
  have hV2 := Lib.hid (fun w (h1 : Sl w B A2 (flat RPhase.cells Q)) (h2 : B ≤ w.heap.size) => show Calls Tryz.prog 22 #[.slice A2 Q.length c2] w fun e w' => e = .returned (.bool true) ∧ Below w.heap.size w w' by have h := impl_PhOk Q A2 c2 B w h1 h2 hok2 hl2; rwa [hv2] at h)
  have hS := Lib.hid (fun w h1 h2 h3 => impl_sPat P Q A A2 c c2 B w h1 h2 h3 hv hv2 hE)
  have hs' := Lib.hid hs
  have hs2' := Lib.hid hs2
  clear hs hs2 hok hok2 hv hv2 hE
  go_enter Tryz.func13, Tryz.ntmps13
  go_wp2_with fail
  refine (hV.out _ hs'.out hB).mono ?_
  rintro e w1 ⟨rfl, hb1⟩
  go_wp2_with fail
  refine (hV2.out _ (hs2'.out.below (hb1.mono hB)) (Nat.le_trans hB hb1.size)).mono ?_
  rintro e w2 ⟨rfl, hb2⟩
  have hB2 := bnext hb1 hb2
  go_wp2_with fail
  refine (hS.out _ (hs'.out.below (hB2.mono hB)) (hs2'.out.below (hB2.mono hB)) (Nat.le_trans hB hB2.size)).mono ?_
  rintro e w3 ⟨rfl, hb3⟩
  go_wp2_with fail
  go_ret
  exact ⟨rfl, bnext hB2 hb3⟩
def samePhaseM (L M : List RPhase) : Bool := decide (L.length = M.length) && allTo (fun k => (L.getD k default).same (M.getD k default)) L.length
theorem RPhase.diff {a b : RPhase} (h : ¬ a = b) : (¬ a.f0 = b.f0) ∨ (a.f0 = b.f0 ∧ ¬ a.f1 = b.f1) := by
  rcases a with ⟨a0, a1⟩
  rcases b with ⟨b0, b1⟩
  simp only [RPhase.mk.injEq] at h
  dsimp only
  by_cases h0 : a0 = b0
  rotate_left
  · exact Or.inl h0
  exact Or.inr (⟨h0, fun e => h ⟨h0, e⟩⟩)
theorem RPhase.same_yes (a : RPhase) : a.same a = true := by simp [RPhase.same]
theorem RPhase.same_no {a b : RPhase} (h : ¬ a = b) : a.same b = false := by
  rcases RPhase.diff h with h | h
  all_goals simp [RPhase.same, h]
set_option maxHeartbeats 1600000 in
theorem impl_samePhase (L M : List RPhase) (A A2 : Option Addr) (c c2 B : Nat) (w : World) (hs : Sl w B A (flat RPhase.cells L)) (hs2 : Sl w B A2 (flat RPhase.cells M)) (hB : B ≤ w.heap.size) (hl : L.length ≤ 1048576) (hl2 : M.length ≤ 1048576) : Calls Tryz.prog 34 #[.slice A L.length c, .slice A2 M.length c2] w fun e w' => e = .returned (.bool (samePhaseM L M)) ∧ Below w.heap.size w w' := by
  have hs' := Lib.hid hs
  have hs2' := Lib.hid hs2
  clear hs hs2
  by_cases hlen : L.length = M.length
  rotate_left
  · have hm : Hid (samePhaseM L M = false) := by apply Lib.hid; unfold samePhaseM; rw [decide_eq_false hlen]; rfl
    have hne : ((L.length : Int) == (M.length : Int)) = false := beq_eq_false_iff_ne.2 (by omega)
    clear hlen
    go_enter Tryz.func34, Tryz.ntmps34
    go_wp2
    go_ret
    exact ⟨ret_bool hm.out.symm, by go_grown⟩
  have hm : Hid (samePhaseM L M = allTo (fun k => (L.getD k default).same (M.getD k default)) L.length) := by apply Lib.hid; unfold samePhaseM; rw [decide_eq_true hlen]; rfl
  have hlen' := Lib.hid hlen
  rw [← hlen]
  clear hlen
  go_enter Tryz.func34, Tryz.ntmps34
  go_wp2
  go_loopw [13] (fun i wr => ∃ k : Nat, i = .int .i64 k ∧ k ≤ L.length ∧ allTo (fun k => (L.getD k default).same (M.getD k default)) k = true ∧ Below w.heap.size w wr) (fun i _ => L.length - (intOf i).toNat)
  case atStart => exact ⟨0, rfl, Nat.zero_le _, rfl, by go_grown⟩
  case round =>
    obtain ⟨k, rfl, hk, hv, hB1⟩ := hrel
    have hv' := Lib.hid hv
    clear hv
    by_cases hlt : k < L.length
    · have hltM : k < M.length := by have := hlen'.out; omega
      obtain ⟨bp, op, rfl, hbp, hep⟩ := Sl.elem RPhase.len (by decide) (hs'.out.below (hB1.mono hB)) hlt
      obtain ⟨bq, oq, rfl, hbq, heq⟩ := Sl.elem RPhase.len (by decide) (hs2'.out.below (hB1.mono hB)) hltM
      have hg : Hid ((L.getD k default).same (M.getD k default) = (L[k]).same (M[k])) := by apply Lib.hid; rw [List.getD_eq_getElem?_getD, List.getD_eq_getElem?_getD, List.getElem?_eq_getElem hlt, List.getElem?_eq_getElem hltM]; rfl
      obtain ⟨a, ha⟩ : ∃ a, L[k] = a := ⟨_, rfl⟩
      obtain ⟨b, hb⟩ : ∃ b, M[k] = b := ⟨_, rfl⟩
      rw [ha, hb] at hg
      rw [ha] at hep
      rw [hb] at heq
      clear ha hb
      by_cases hab : a = b
      · obtain rfl := hab
        have hf2 := Lib.hid (allTo_step (f := fun k => (L.getD k default).same (M.getD k default)) hv'.out (show (L.getD k default).same (M.getD k default) = true by rw [hg.out]; exact RPhase.same_yes _))
        have dp0 : wr.cell? ⟨bp, op + k * 2, none⟩ = some (.string a.f0) := by have := hep 0 _ rfl; simpa [Nat.add_assoc, *] using this
        have dp1 : wr.cell? ⟨bp, op + k * 2 + 1, none⟩ = some (.int .i64 a.f1) := by have := hep 1 _ rfl; simpa [Nat.add_assoc, *] using this
        have dq0 : wr.cell? ⟨bq, oq + k * 2, none⟩ = some (.string a.f0) := by have := heq 0 _ rfl; simpa [Nat.add_assoc, *] using this
        have dq1 : wr.cell? ⟨bq, oq + k * 2 + 1, none⟩ = some (.int .i64 a.f1) := by have := heq 1 _ rfl; simpa [Nat.add_assoc, *] using this
        clear hep heq
        have hwp : bp < wr.heap.size := by have := hB1.size; omega
        have hwq : bq < wr.heap.size := by have := hB1.size; omega
        go_wp2_with fail
        refine wp_region_grew (by kernel_rfl) (by kernel_rfl) ?_
        repeat (first | (go_big_quiet_step (fail)) | (quiet_step (fail)))
        refine wpQuiet_nil ?_
        rintro _ ⟨⟨w9, hb9⟩, rfl⟩
        try dsimp only
        go_wp2
        go_roundw
        case rel => exact ⟨k + 1, by go_num, by omega, hf2.out, bnext hB1 hb9⟩
        case measure => simp [intOf]; omega
      · have hf2 := Lib.hid (allTo_hit (f := fun k => (L.getD k default).same (M.getD k default)) hlt (show (L.getD k default).same (M.getD k default) = false by rw [hg.out]; exact RPhase.same_no hab))
        rcases RPhase.diff hab with h0 | ⟨h0, h1⟩
        · have hx := bytes_ne h0
          have dp0 : wr.cell? ⟨bp, op + k * 2, none⟩ = some (.string a.f0) := by have := hep 0 _ rfl; simpa [Nat.add_assoc, *] using this
          have dp1 : wr.cell? ⟨bp, op + k * 2 + 1, none⟩ = some (.int .i64 a.f1) := by have := hep 1 _ rfl; simpa [Nat.add_assoc, *] using this
          have dq0 : wr.cell? ⟨bq, oq + k * 2, none⟩ = some (.string b.f0) := by have := heq 0 _ rfl; simpa [Nat.add_assoc, *] using this
          have dq1 : wr.cell? ⟨bq, oq + k * 2 + 1, none⟩ = some (.int .i64 b.f1) := by have := heq 1 _ rfl; simpa [Nat.add_assoc, *] using this
          clear hep heq h0 hab
          have hwp : bp < wr.heap.size := by have := hB1.size; omega
          have hwq : bq < wr.heap.size := by have := hB1.size; omega
          go_wp2_with fail
          refine wp_region_grew (by kernel_rfl) (by kernel_rfl) ?_
          repeat (first | (go_big_quiet_step (fail)) | (quiet_step (fail)))
          refine wpQuiet_nil ?_
          rintro _ ⟨⟨w9, hb9⟩, rfl⟩
          try dsimp only
          go_wp2
          go_ret
          exact ⟨ret_bool (hm.out.trans hf2.out).symm, bnext hB1 hb9⟩
        · have hx : (a.f1 == b.f1) = false := beq_eq_false_iff_ne.2 h1
          have dp0 : wr.cell? ⟨bp, op + k * 2, none⟩ = some (.string b.f0) := by have := hep 0 _ rfl; simpa [Nat.add_assoc, *] using this
          have dp1 : wr.cell? ⟨bp, op + k * 2 + 1, none⟩ = some (.int .i64 a.f1) := by have := hep 1 _ rfl; simpa [Nat.add_assoc, *] using this
          have dq0 : wr.cell? ⟨bq, oq + k * 2, none⟩ = some (.string b.f0) := by have := heq 0 _ rfl; simpa [Nat.add_assoc, *] using this
          have dq1 : wr.cell? ⟨bq, oq + k * 2 + 1, none⟩ = some (.int .i64 b.f1) := by have := heq 1 _ rfl; simpa [Nat.add_assoc, *] using this
          clear hep heq h0 h1 hab
          have hwp : bp < wr.heap.size := by have := hB1.size; omega
          have hwq : bq < wr.heap.size := by have := hB1.size; omega
          go_wp2_with fail
          refine wp_region_grew (by kernel_rfl) (by kernel_rfl) ?_
          repeat (first | (go_big_quiet_step (fail)) | (quiet_step (fail)))
          refine wpQuiet_nil ?_
          rintro _ ⟨⟨w9, hb9⟩, rfl⟩
          try dsimp only
          go_wp2
          go_ret
          exact ⟨ret_bool (hm.out.trans hf2.out).symm, bnext hB1 hb9⟩
    · obtain rfl : k = L.length := by omega
      go_wp2
      go_ret
      exact ⟨ret_bool (hm.out.trans hv'.out).symm, by go_grown⟩
theorem impl_SamePhases (L M : List RPhase) (A A2 : Option Addr) (c c2 B : Nat) (w : World) (hs : Sl w B A (flat RPhase.cells L)) (hs2 : Sl w B A2 (flat RPhase.cells M)) (hB : B ≤ w.heap.size) (hl : L.length ≤ 1048576) (hl2 : M.length ≤ 1048576) : Calls Tryz.prog 12 #[.slice A L.length c, .slice A2 M.length c2] w fun e w' => e = .returned (.bool (samePhaseM L M)) ∧ Below w.heap.size w w' := by
  go_enter Tryz.func12, Tryz.ntmps12
  go_wp2_with (go_at_call 34; refine (impl_samePhase L M _ _ _ _ B _ hs hs2 hB hl hl2).mono ?_; rintro e w1 ⟨rfl, hb1⟩)
  go_ret
  exact ⟨rfl, hb1⟩
theorem samePhase_self (P : List RPhase) : samePhaseM P P = true := by
  unfold samePhaseM
  rw [decide_eq_true rfl, Bool.true_and, allTo_all]
  intro k _
  exact RPhase.same_yes _
theorem impl_SPh (P : List RPhase) (A A2 : Option Addr) (c c2 B : Nat) (w : World) (hs : Sl w B A (flat RPhase.cells P)) (hs2 : Sl w B A2 (flat RPhase.cells P)) (hB : B ≤ w.heap.size) (hl : P.length ≤ 1048576) : Calls Tryz.prog 12 #[.slice A P.length c, .slice A2 P.length c2] w fun e w' => e = .returned (.bool true) ∧ Below w.heap.size w w' := by
  have h := fun w h1 h2 h3 => impl_samePhase P P A A2 c c2 B w h1 h2 h3 hl hl
  rw [samePhase_self] at h
  have h' := Lib.hid h
  have hs' := Lib.hid hs
  have hs2' := Lib.hid hs2
  clear h hs hs2
  go_enter Tryz.func12, Tryz.ntmps12
  go_wp2_with fail
  refine (h'.out _ hs'.out hs2'.out hB).mono ?_
  rintro e w1 ⟨rfl, hb1⟩
  go_wp2_with fail
  go_ret
  exact ⟨rfl, hb1⟩
end Go.Proofs.YtpnffdkkmibchaaGreatDoor
