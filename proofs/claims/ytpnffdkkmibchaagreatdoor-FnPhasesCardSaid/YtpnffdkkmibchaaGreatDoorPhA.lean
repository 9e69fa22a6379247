/-
  Contracts of patterns of light: their length, period, normal form, the light at a time, the shifted phases: the program's. Each under the conditions that it states.
-/
import Derived.Test.YtpnffdkkmibchaaGreatDoorRhyW
set_option linter.unusedVariables false
set_option linter.unnecessarySimpa false
set_option maxRecDepth 100000
set_option linter.unusedSimpArgs false
namespace Go.Proofs.YtpnffdkkmibchaaGreatDoor
open Go.RowKit BigFrame Go.Deep

theorem owns_slc2 {w : World} {B : Nat} {e : TypeId} {sz : Nat} {v : Value} {n : Nat} {xs : List Value} (h : w.ownsRow B e sz v n xs) : ∃ A c, v = .slice A n c ∧ n ≤ c ∧ Sl w w.heap.size A xs := by
  obtain ⟨A, c, rfl, hsl⟩ := (Rs.of_owns h).sl
  refine ⟨A, c, rfl, ?_, hsl⟩
  obtain ⟨hl, ⟨h1, h2⟩ | ⟨g, cap, cur, h1, hb, hh, hcs, hcm, hsz, hat⟩⟩ := h
  · injection h1; omega
  · injection h1; omega
theorem tmod_twice (t : Int) (n : Nat) (hn : 1 ≤ n) : (t.tmod n + n) % (n : Int) = t % (n : Int) := by
  have hn0 : (0 : Int) < n := by omega
  have h1 : -(n : Int) < t.tmod n := Int.lt_tmod_of_pos t hn0
  have h2 : t.tmod n < n := Int.tmod_lt_of_pos t hn0
  rw [Int.add_emod_right]
  have h3 := Int.mul_tdiv_add_tmod t n
  conv => rhs; rw [← h3]
  rw [Int.mul_add_emod_self_left]
set_option maxHeartbeats 400000 in
theorem impl_mod (t : Int) (n : Nat) (hn : 1 ≤ n) (hn2 : n ≤ 1000) (w : World) : Calls Tryz.prog 26 #[.int .i64 t, .int .i64 n] w fun e w' => e = .returned (.int .i64 (t % (n : Int))) ∧ w = w' := by
  have hm := Lib.hid (tmod_twice t n hn)
  have h1 : -(n : Int) < t.tmod n := Int.lt_tmod_of_pos t (by omega)
  have h2 : t.tmod n < n := Int.tmod_lt_of_pos t (by omega)
  have hn0 : ((n : Int) == 0) = false := beq_eq_false_iff_ne.2 (by omega)
  have hn3 : ¬ (n : Int) = 0 := by omega
  obtain ⟨r, hr⟩ : ∃ r, t.tmod n = r := ⟨_, rfl⟩
  rw [hr] at hm h1 h2
  go_enter Tryz.func26, Tryz.ntmps26
  go_wp2
  go_ret
  exact ⟨by rw [← hm.out]; rfl, rfl⟩
theorem impl_PLen (P : List RPhase) (A : Option Addr) (c B : Nat) (w : World) (hs : Sl w B A (flat RPhase.cells P)) (hB : B ≤ w.heap.size) (hok : ∀ a ∈ P, a.ok) (hl : P.length ≤ 1048576) (hv : vPhases P = true) : Calls Tryz.prog 8 #[.slice A P.length c] w fun e w' => e = .returned (.tuple #[.int .i64 (tns P).length, .int .i64 0]) ∧ Below w.heap.size w w' := by
  have hV := Lib.hid (fun w (h1 : Sl w B A (flat RPhase.cells P)) (h2 : B ≤ w.heap.size) => show Calls Tryz.prog 22 #[.slice A P.length c] w fun e w' => e = .returned (.bool true) ∧ Below w.heap.size w w' by have h := impl_PhOk P A c B w h1 h2 hok hl; rwa [hv] at h)
  obtain ⟨hW, hN⟩ := tns_pos hv
  have hs' := Lib.hid hs
  have hv' := Lib.hid hv
  clear hs hv hok
  go_enter Tryz.func8, Tryz.ntmps8
  go_wp2_with fail
  refine (hV.out _ hs'.out hB).mono ?_
  rintro e w1 ⟨rfl, hb1⟩
  go_wp2_with fail
  refine (impl_Tn P A c B _ (hs'.out.below (hb1.mono hB)) (Nat.le_trans hB hb1.size) hv'.out).mono ?_
  rintro e w2 ⟨v, rfl, hb2, hown⟩
  obtain ⟨A2, c2, rfl, -, -⟩ := owns_slc2 hown
  go_wp2_with fail
  go_ret2
  exact ⟨rfl, bnext hb1 hb2⟩
theorem impl_PPer (P : List RPhase) (A : Option Addr) (c B : Nat) (w : World) (hs : Sl w B A (flat RPhase.cells P)) (hB : B ≤ w.heap.size) (hok : ∀ a ∈ P, a.ok) (hl : P.length ≤ 1048576) (hv : vPhases P = true) : Calls Tryz.prog 9 #[.slice A P.length c] w fun e w' => ∃ n : Nat, PerL (tns P) n ∧ e = .returned (.tuple #[.int .i64 n, .int .i64 0]) ∧ Below w.heap.size w w' := by
  have hV := Lib.hid (fun w (h1 : Sl w B A (flat RPhase.cells P)) (h2 : B ≤ w.heap.size) => show Calls Tryz.prog 22 #[.slice A P.length c] w fun e w' => e = .returned (.bool true) ∧ Below w.heap.size w w' by have h := impl_PhOk P A c B w h1 h2 hok hl; rwa [hv] at h)
  obtain ⟨hW, hN⟩ := tns_pos hv
  have hs' := Lib.hid hs
  have hv' := Lib.hid hv
  clear hs hv hok
  go_enter Tryz.func9, Tryz.ntmps9
  go_wp2_with fail
  refine (hV.out _ hs'.out hB).mono ?_
  rintro e w1 ⟨rfl, hb1⟩
  go_wp2_with fail
  refine (impl_Once P A c B _ (hs'.out.below (hb1.mono hB)) (Nat.le_trans hB hb1.size) hv'.out).mono ?_
  rintro e w2 ⟨n, hP, A2, c2, rfl, -, hb2, -⟩
  have hn := hP.le hW
  have hP' := Lib.hid hP
  clear hP
  go_wp2_with fail
  go_ret2
  exact ⟨n, hP'.out, rfl, bnext hb1 hb2⟩
theorem runs_zero (M : List Nat) : runs (cyc M) 0 M.length = joinM M := by
  have e : (List.range M.length).map (rt (cyc M) 0) = M := rotL_zero M
  unfold runs
  rw [e]
theorem impl_NPat (P : List RPhase) (A : Option Addr) (c B : Nat) (w : World) (hs : Sl w B A (flat RPhase.cells P)) (hB : B ≤ w.heap.size) (hok : ∀ a ∈ P, a.ok) (hl : P.length ≤ 1048576) (hv : vPhases P = true) : Calls Tryz.prog 10 #[.slice A P.length c] w fun e w' => ∃ M, (MinW (tns P) M ∧ codes M) ∧ ∃ v, e = .returned (.tuple #[v, .int .i64 0]) ∧ Below w.heap.size w w' ∧ w'.ownsRow w.heap.size 51 2 v (joinM M).length (jc (joinM M)) := by
  have hV := Lib.hid (fun w (h1 : Sl w B A (flat RPhase.cells P)) (h2 : B ≤ w.heap.size) => show Calls Tryz.prog 22 #[.slice A P.length c] w fun e w' => e = .returned (.bool true) ∧ Below w.heap.size w w' by have h := impl_PhOk P A c B w h1 h2 hok hl; rwa [hv] at h)
  obtain ⟨hW, hN⟩ := tns_pos hv
  have hs' := Lib.hid hs
  have hv' := Lib.hid hv
  clear hs hv hok
  go_enter Tryz.func10, Tryz.ntmps10
  go_wp2_with fail
  refine (hV.out _ hs'.out hB).mono ?_
  rintro e w1 ⟨rfl, hb1⟩
  go_wp2_with fail
  refine (impl_Normal P A c B _ (hs'.out.below (hb1.mono hB)) (Nat.le_trans hB hb1.size) hv'.out).mono ?_
  rintro e w2 ⟨M, ⟨hM, hMc, hM0, hMl⟩, A3, c3, rfl, hb2, hsl2⟩
  have hB2 := bnext hb1 hb2
  have hMh := Lib.hid (And.intro hM hMc)
  have hsl' := Lib.hid hsl2
  have hz2 := hB2.size
  have hru := Lib.hid (runs_zero M)
  clear hM hMc hsl2 hb1 hb2
  go_wp2_with fail
  refine (impl_Join M A3 c3 w2.heap.size _ hsl'.out (Nat.le_refl _) hMh.out.2 hM0 (by omega)).mono ?_
  rintro e w3 ⟨v, rfl, hb3, hown⟩
  rw [hru.out] at hown
  have hown' : w3.ownsRow w.heap.size 51 2 v (joinM M).length (jc (joinM M)) := by
    obtain ⟨hl, h | ⟨g, cap, cur, e, hb, r⟩⟩ := hown
    · exact ⟨hl, .inl h⟩
    · exact ⟨hl, .inr ⟨g, cap, cur, e, Nat.le_trans hz2 hb, r⟩⟩
  clear hown
  go_wp2_with fail
  go_ret2
  exact ⟨M, hMh.out, v, rfl, bnext hB2 hb3, hown'⟩
/-- The place in a light's tenths at a time. -/
def placeT (N : Nat) (t : Int) : Nat := (t % (N : Int)).toNat
theorem place_lt {N : Nat} (h : 1 ≤ N) (t : Int) : placeT N t < N ∧ t % (N : Int) = (placeT N t : Int) := by
  have h1 := Int.emod_nonneg t (show (N : Int) ≠ 0 by omega)
  have h2 := Int.emod_lt_of_pos t (show (0 : Int) < N by omega)
  unfold placeT
  omega
set_option maxHeartbeats 800000 in
theorem impl_LAt (P : List RPhase) (A : Option Addr) (c B : Nat) (t : Int) (w : World) (hs : Sl w B A (flat RPhase.cells P)) (hB : B ≤ w.heap.size) (hok : ∀ a ∈ P, a.ok) (hl : P.length ≤ 1048576) (hv : vPhases P = true) : Calls Tryz.prog 15 #[.slice A P.length c, .int .i64 t] w fun e w' => e = .returned (.tuple #[.string (nm (cyc (tns P) (placeT (tns P).length t))), .int .i64 0]) ∧ Below w.heap.size w w' := by
  have hV := Lib.hid (fun w (h1 : Sl w B A (flat RPhase.cells P)) (h2 : B ≤ w.heap.size) => show Calls Tryz.prog 22 #[.slice A P.length c] w fun e w' => e = .returned (.bool true) ∧ Below w.heap.size w w' by have h := impl_PhOk P A c B w h1 h2 hok hl; rwa [hv] at h)
  obtain ⟨hW, hN⟩ := tns_pos hv
  have hs' := Lib.hid hs
  have hv' := Lib.hid hv
  clear hs hv hok
  obtain ⟨hp1, hp2⟩ := place_lt hW t
  have hm := fun w => impl_mod t (tns P).length hW (by omega) w
  rw [hp2] at hm
  obtain ⟨q, hq⟩ : ∃ q, placeT (tns P).length t = q := ⟨_, rfl⟩
  rw [hq] at hp1 hm ⊢
  clear hq hp2
  obtain ⟨s, hs1⟩ : ∃ s, nm (cyc (tns P) q) = s := ⟨_, rfl⟩
  have hsh := Lib.hid hs1
  rw [hs1]
  clear hs1
  go_enter Tryz.func15, Tryz.ntmps15
  go_wp2_with fail
  refine (hV.out _ hs'.out hB).mono ?_
  rintro e w1 ⟨rfl, hb1⟩
  go_wp2_with fail
  refine (impl_Tn P A c B _ (hs'.out.below (hb1.mono hB)) (Nat.le_trans hB hb1.size) hv'.out).mono ?_
  rintro e w2 ⟨v, rfl, hb2, hown⟩
  obtain ⟨A2, c2, rfl, -, hsl⟩ := owns_slc2 hown
  obtain ⟨b, o, rfl, hb, he⟩ := cls_w hsl (Nat.le_refl _) hW
  have d0 := he w2 (Below.refl _ _) q hp1
  have hqI : (q : Int) < ((tns P).length : Int) := by omega
  rw [hsh.out] at d0
  clear he hown hsl
  go_wp2_with (go_at_call 26; refine (hm _).mono ?_; rintro e w' ⟨rfl, rfl⟩)
  go_ret2
  exact ⟨rfl, bnext hb1 hb2⟩
set_option maxHeartbeats 1600000 in
theorem impl_Shift (P : List RPhase) (A : Option Addr) (c B : Nat) (t : Int) (w : World) (hs : Sl w B A (flat RPhase.cells P)) (hB : B ≤ w.heap.size) (hok : ∀ a ∈ P, a.ok) (hl : P.length ≤ 1048576) (hv : vPhases P = true) :
    Calls Tryz.prog 6 #[.slice A P.length c, .int .i64 t] w fun e w' => ∃ J, J = joinM (rotL (tns P) (placeT (tns P).length t)) ∧ Below w.heap.size w w' ∧ ((J.length ≤ 40 ∧ ∃ v, e = .returned (.tuple #[v, .int .i64 0]) ∧ w'.ownsRow w.heap.size 51 2 v J.length (jc J)) ∨ (40 < J.length ∧ e = .returned (.tuple #[.slice none 0 0, .int .i64 5]))) := by
  have hcd := Lib.hid (show codes (tns P) from codes_tn P.length)
  have hV := Lib.hid (fun w (h1 : Sl w B A (flat RPhase.cells P)) (h2 : B ≤ w.heap.size) => show Calls Tryz.prog 22 #[.slice A P.length c] w fun e w' => e = .returned (.bool true) ∧ Below w.heap.size w w' by have h := impl_PhOk P A c B w h1 h2 hok hl; rwa [hv] at h)
  obtain ⟨hW, hN⟩ := tns_pos hv
  have hs' := Lib.hid hs
  have hv' := Lib.hid hv
  clear hs hv hok
  obtain ⟨hp1, hp2⟩ := place_lt hW t
  have hm := fun w => impl_mod t (tns P).length hW (by omega) w
  rw [hp2] at hm
  obtain ⟨q, hq⟩ : ∃ q, placeT (tns P).length t = q := ⟨_, rfl⟩
  rw [hq] at hp1 hm ⊢
  clear hq hp2
  have hTn := Lib.hid (fun w h1 h2 => impl_Tn P A c B w h1 h2 hv'.out)
  obtain ⟨W, hWe⟩ : ∃ W, tns P = W := ⟨_, rfl⟩
  rw [hWe] at hTn hW hN hp1 hm hcd ⊢
  clear hWe
  go_enter Tryz.func6, Tryz.ntmps6
  go_wp2_with fail
  refine (hV.out _ hs'.out hB).mono ?_
  rintro e w1 ⟨rfl, hb1⟩
  go_wp2_with fail
  refine (hTn.out _ (hs'.out.below (hb1.mono hB)) (Nat.le_trans hB hb1.size)).mono ?_
  rintro e w2 ⟨v, rfl, hb2, hown⟩
  obtain ⟨A2, c2, rfl, hc2, hsl⟩ := owns_slc2 hown
  have hB2 := bnext hb1 hb2
  have hsl' := Lib.hid hsl
  clear hown hsl hb1 hb2 hTn hV
  go_wp2_with (go_at_call 26; refine (hm _).mono ?_; rintro e w' ⟨rfl, rfl⟩)
  refine (impl_Rot W A2 c2 w2.heap.size q _ hsl'.out (Nat.le_refl _) hW (by omega) hp1 hc2).mono ?_
  rintro e w3 ⟨A7, c7, rfl, hb3, hs7⟩
  have hB3 := bnext hB2 hb3
  have hrl := rotL_len W q
  have hrc := Lib.hid (rotL_codes hcd.out q)
  obtain ⟨R, hR⟩ : ∃ R, rotL W q = R := ⟨_, rfl⟩
  have hRh := Lib.hid hR
  rw [hR] at hs7 hrl hrc
  have hs7' := Lib.hid hs7
  rw [← hrl]
  have hR6 : R.length ≤ 600 := by omega
  have hR0 : 0 < R.length := by omega
  have hru := Lib.hid (runs_zero R)
  have hz3 := hB3.size
  clear hs7 hb3 hsl' hR hrl hW hN hp1 hm
  go_wp2_with fail
  refine (impl_Join R A7 c7 w3.heap.size _ hs7'.out (Nat.le_refl _) hrc.out hR0 (by omega)).mono ?_
  rintro e w4 ⟨v, rfl, hb4, hown⟩
  rw [hru.out] at hown
  have hB4 := bnext hB3 hb4
  have hJl := join_len R
  have hown' : w4.ownsRow w.heap.size 51 2 v (joinM R).length (jc (joinM R)) := by
    obtain ⟨hl, h | ⟨g, cap, cur, e, hb, r⟩⟩ := hown
    · exact ⟨hl, .inl h⟩
    · exact ⟨hl, .inr ⟨g, cap, cur, e, Nat.le_trans hz3 hb, r⟩⟩
  obtain ⟨A8, c8, rfl, -, -⟩ := owns_slc2 hown
  obtain ⟨J, hJ⟩ : ∃ J, joinM R = J := ⟨_, rfl⟩
  have hJh : Hid (J = joinM (rotL W q)) := Lib.hid (by rw [hRh.out, hJ])
  rw [hJ] at hown' hJl ⊢
  have hown9 := Lib.hid hown'
  clear hown hown' hru hJ hb4 hs7'
  by_cases h4 : J.length ≤ 40
  · have hd : decide ((J.length : Int) ≤ 40) = true := decide_eq_true (by omega)
    go_wp2_with (go_at_call 27; refine (impl_few _ _ _).mono ?_; rintro e w' ⟨rfl, rfl⟩)
    go_ret2
    exact ⟨J, hJh.out, hB4, Or.inl ⟨h4, _, rfl, hown9.out⟩⟩
  · have hd : decide ((J.length : Int) ≤ 40) = false := decide_eq_false (by omega)
    go_wp2_with (go_at_call 27; refine (impl_few _ _ _).mono ?_; rintro e w' ⟨rfl, rfl⟩)
    go_ret2
    exact ⟨J, hJh.out, hB4, Or.inr ⟨by omega, rfl⟩⟩
end Go.Proofs.YtpnffdkkmibchaaGreatDoor
