/-
  FnPhases: shifting a light keeps its pattern, colors are those of the time that is shifted, the normal form is one of the pattern, and phases are restored from their text. Under no condition; the library's variables are tied to the program's text.
-/
import Derived.Test.YtpnffdkkmibchaaGreatDoorPhI
import Derived.Test.YtpnffdkkmibchaaGreatDoorPhM
import Derived.Test.YtpnffdkkmibchaaGreatDoorPhB
import Derived.Test.YtpnffdkkmibchaaGreatDoorPhC
import Derived.Test.YtpnffdkkmibchaaGreatDoorPhT
import Derived.Test.YtpnffdkkmibchaaGreatDoorEnv
import Derived.Test.YtpnffdkkmibchaaGreatDoorB10
import Derived.Test.YtpnffdkkmibchaaGreatDoorRow8
set_option linter.unusedVariables false
set_option linter.unnecessarySimpa false
set_option maxRecDepth 100000
set_option linter.unusedSimpArgs false
namespace Go.Proofs.YtpnffdkkmibchaaGreatDoor
open Go.RowKit BigFrame Go.Deep
theorem dr_ok {P : List RPhase} (h : drP P) : ∀ a ∈ P, a.ok := fun a ha => by
  have := h.2 a ha
  exact ⟨Nat.le_trans this.1 (by decide), i64_hasP ⟨by omega, by omega⟩⟩
theorem rot_okL {W : List Nat} {i : Nat} (hi : i < W.length) (h : ∀ c ∈ W, okL c) : ∀ c ∈ rotL W i, okL c := fun c hc => by
  rw [rotL_split hi] at hc
  rcases List.mem_append.1 hc with h1 | h1
  · exact h c (List.mem_of_mem_drop h1)
  · exact h c (List.mem_of_mem_take h1)
theorem norm_okL {W M : List Nat} (hW : 0 < W.length) (hM : MinW W M) (h : ∀ c ∈ W, okL c) : ∀ c ∈ M, okL c := fun c hc => by
  obtain ⟨n, i, p, hi, hm, rfl⟩ := hM
  obtain ⟨k, hk, rfl⟩ := List.mem_map.1 hc
  show okL (cyc W (i + k))
  rw [← cyc_mod, cyc_at (Nat.mod_lt _ hW)]
  exact h _ (List.getElem_mem _)
set_option maxHeartbeats 400000 in
theorem fnPhases.env_of {W : World} (hsh : W.ShapedOpen Tryz.prog) (h : laidMetH Tryz.prog Rows.fnPhasesRow.laid W) : Env W := by
  rw [MakeChecks.laidMetH_plain _ _ _ (by kernel_rfl)] at h
  have hT : Tab W := Lib.tabIs_of_head tabVar (by kernel_rfl) Tryz.underlying129 Tryz.underlying59 (by kernel_rfl) (by kernel_rfl) h.tail.tail
  obtain ⟨a0, s0, hv0, -, -, -⟩ := laid_sentinel h.tail.tail.tail.tail ranVar (by kernel_rfl) Tryz.underlying75 rowErr Tryz.underlying146 Tryz.underlying148 rfl rfl Tryz.underlying9 (by kernel_rfl) (by kernel_rfl)
  obtain ⟨a1, s1, hv1, -, -, -⟩ := laid_sentinel h.tail.tail.tail.tail.tail synVar (by kernel_rfl) Tryz.underlying75 rowErr Tryz.underlying146 Tryz.underlying148 rfl rfl Tryz.underlying9 (by kernel_rfl) (by kernel_rfl)
  exact ⟨hT, ⟨_, _, hv1⟩, ⟨_, _, hv0⟩, cell_of_shapedOpen_int (zero := #[.int .i64 0]) (t := 3) hsh (of_decide_eq_true (by kernel_rfl)) (by kernel_rfl) rfl (by kernel_rfl) (by kernel_rfl) Tryz.underlying3⟩
namespace fnPhases
open Go.ChangeShapes Go.WideShapes Go.ChangeAt Go.RowKit
set_option linter.unusedVariables false
set_option maxHeartbeats 6400000 in
theorem walk (W : World) (A0 : Option Addr) (c0 : Nat) (L0 : List Int) (s0 : Sl W W.heap.size A0 (bytesL L0)) (b0 : ∀ z ∈ L0, IntKind.u8.has z) (m0 : L0.length ≤ maxLen) (A1 : Option Addr) (c1 : Nat) (L1 : List Int) (s1 : Sl W W.heap.size A1 (bytesL L1)) (b1 : ∀ z ∈ L1, IntKind.u8.has z) (m1 : L1.length ≤ maxLen) (hE : Env W) :
    Calls Tryz.prog 3 #[.slice A0 L0.length c0, .slice A1 L1.length c1] W fun e w' => e = .returned (.bool true) ∧ Below W.heap.size W w' := by
  by_cases hl0 : 1048576 < L0.length
  · go_enter Tryz.func3, Tryz.ntmps3
    go_wp2_with (first | (go_at_call 4; refine (b10Long_any _ _ _ _ (by assumption)).mono ?_; rintro e w' ⟨rfl, rfl⟩))
    go_ret
    exact ⟨rfl, Below.refl _ _⟩
  by_cases hl1 : 1048576 < L1.length
  · go_enter Tryz.func3, Tryz.ntmps3
    go_wp2_with (first | (go_at_call 4; refine (b10Long_any _ _ _ _ (by assumption)).mono ?_; rintro e w' ⟨rfl, rfl⟩))
    go_ret
    exact ⟨rfl, Below.refl _ _⟩
  have S0 := Lib.hid s0
  have S1 := Lib.hid s1
  have U0 := Lib.hid b0
  have U1 := Lib.hid b1
  have hE' := Lib.hid hE
  clear s0 s1 b0 b1 hE
  go_enter Tryz.func3, Tryz.ntmps3
  go_wp2_with (go_at_call 4; refine (b10Long_any _ _ _ _ (by assumption)).mono ?_; rintro e w' ⟨rfl, rfl⟩)
  refine (draw_shift L0 _ _ W.heap.size _ S0.out (Nat.le_refl _) U0.out (by omega)).mono ?_
  rintro e w1 ⟨P, t, ⟨hdr, htb⟩, v, rfl, hB1, hown⟩
  obtain ⟨A, c, rfl, -, hsl⟩ := owns_slc2 hown
  have hok := Lib.hid (dr_ok hdr)
  have hPl : P.length ≤ 1048576 := by have := hdr.1; omega
  have hs1 := Lib.hid hsl
  clear hown hdr hsl
  by_cases hv : vPhases P = true
  rotate_left
  · have hv' : vPhases P = false := by simpa using hv
    go_wp2_with fail
    refine (impl_Shift0 P A c w1.heap.size t w1 hs1.out (Nat.le_refl _) hok.out hPl hv').mono ?_
    rintro e w2 ⟨rfl, hb2⟩
    have hB2 := bnext hB1 hb2
    have hs2 := hs1.out.below hb2
    go_wp2_with fail
    refine (impl_PhT0 P A c w1.heap.size w2 hs2 hb2.size hok.out hPl hv').mono ?_
    rintro e w3 ⟨rfl, hb3⟩
    go_wp2_with fail
    go_ret
    exact ⟨rfl, bnext hB2 hb3⟩
  · have hy := vPhases_yes hv
    have hP1 := hy.1
    have hP40 := hy.2.1
    have hW := tns_pos hv
    have hpl := (place_lt (N := (tns P).length) hW.1 t).1
    have hrj := rot_join hpl
    go_wp2_with fail
    refine (impl_Shift P A c w1.heap.size t w1 hs1.out (Nat.le_refl _) hok.out hPl hv).mono ?_
    rintro e w2 ⟨J, hJ, hb2, ⟨hJ40, v, rfl, hownJ⟩ | ⟨hJ41, rfl⟩⟩
    rotate_left
    · have hP : P.length = 40 := by rw [← hJ] at hrj; omega
      have hPI : (P.length : Int) = 40 := by omega
      go_wp2_with fail
      go_ret
      exact ⟨rfl, bnext hB1 hb2⟩
    · obtain ⟨s, hs⟩ : ∃ s, placeT (tns P).length t = s := ⟨_, rfl⟩
      have hLok := okL_of hv
      have hJv := phs_valid (V := rotL (tns P) s) (by rw [rotL_len]; exact ⟨hW.1, hW.2⟩) (rot_okL (by rw [← hs]; exact hpl) hLok) (by rw [← hs, ← hJ]; exact hJ40)
      rw [hs] at hJ
      rw [← hJ] at hJv
      obtain ⟨hJ1, hJ2, hJ3⟩ := hJv
      obtain ⟨Aq, cq, rfl, -, hslq⟩ := owns_slc2 hownJ
      rw [← phs_flat] at hslq
      have hJl := phs_len J
      have hq2 := Lib.hid hslq
      have hB2 := bnext hB1 hb2
      have hs2 := Lib.hid ((hs1.out.below hb2).more hb2.size)
      clear hownJ hslq hb2 hB1 hs1 hpl hrj hJ
      go_wp2_with fail
      refine (impl_PLen P A c w2.heap.size w2 hs2.out (Nat.le_refl _) hok.out hPl hv).mono ?_
      rintro e w3 ⟨rfl, hb3⟩
      have hB3 := bnext hB2 hb3
      have hs3 := Lib.hid ((hs2.out.below hb3).more hb3.size)
      have hq3 := Lib.hid ((hq2.out.below hb3).more hb3.size)
      clear hb3 hB2 hs2 hq2
      go_wp2_with fail
      refine (impl_PPer P A c w3.heap.size w3 hs3.out (Nat.le_refl _) hok.out hPl hv).mono ?_
      rintro e w4 ⟨n, hper, rfl, hb4⟩
      have hB4 := bnext hB3 hb4
      have hs4 := Lib.hid ((hs3.out.below hb4).more hb4.size)
      have hq4 := Lib.hid ((hq3.out.below hb4).more hb4.size)
      clear hb4 hB3 hs3 hq3
      go_wp2_with fail
      refine (impl_NPat P A c w4.heap.size w4 hs4.out (Nat.le_refl _) hok.out hPl hv).mono ?_
      rintro e w5 ⟨M, ⟨hM, hMc⟩, v, rfl, hb5, hownM⟩
      have hM40 : (joinM M).length ≤ 40 := Nat.le_trans (norm_join_le hW.1 hM) (Nat.le_trans tns_join hP40)
      have hMl := norm_len hW.1 hM
      obtain ⟨hM1, hM2, hM3⟩ := phs_valid (V := M) ⟨hMl.2, by omega⟩ (norm_okL hW.1 hM hLok) hM40
      obtain ⟨Am, cm, rfl, -, hslm⟩ := owns_slc2 hownM
      rw [← phs_flat] at hslm
      have hKl := phs_len (joinM M)
      have hm5 := Lib.hid hslm
      have hB5 := bnext hB4 hb5
      have hs5 := Lib.hid ((hs4.out.below hb5).more hb5.size)
      have hq5 := Lib.hid ((hq4.out.below hb5).more hb5.size)
      have hE5 := Lib.hid (hE'.out.on hB5)
      clear hb5 hB4 hs4 hq4 hownM hslm
      go_wp2_with fail
      refine (impl_PhT P A c w5.heap.size w5 hs5.out (Nat.le_refl _) hok.out hPl hv hE5.out.1).mono ?_
      rintro e w6 ⟨rfl, hb6⟩
      have hB6 := bnext hB5 hb6
      have hs6 := Lib.hid ((hs5.out.below hb6).more hb6.size)
      have hq6 := Lib.hid ((hq5.out.below hb6).more hb6.size)
      have hm6 := Lib.hid ((hm5.out.below hb6).more hb6.size)
      have hE6 := Lib.hid (hE5.out.on hb6)
      clear hb6 hB5 hs5 hq5 hm5 hE5
      go_wp2_with fail
      refine (impl_RPh P w6 hok.out hv hE6.out).mono ?_
      rintro e w7 ⟨v, rfl, hb7, hownR⟩
      have hB7 := bnext hB6 hb7
      obtain ⟨Ar, cr, rfl, -, hslr⟩ := owns_slc2 hownR
      have hr7 := Lib.hid hslr
      have hs7 := Lib.hid ((hs6.out.below hb7).more hb7.size)
      have hq7 := Lib.hid ((hq6.out.below hb7).more hb7.size)
      have hm7 := Lib.hid ((hm6.out.below hb7).more hb7.size)
      clear hb7 hB6 hs6 hq6 hm6 hE6 hownR hslr
      have hg1 : (1 : Int) ≤ ((tns P).length : Int) := by have := hW.1; omega
      have hg2 : (1 : Int) ≤ (n : Int) := by have := hper.1; omega
      have hg3 : ((tns P).length : Int) % (n : Int) = 0 := by rw [← Int.natCast_emod, hper.dvd hW.1]; rfl
      have hg4 : ((tns P).length : Int).tmod (n : Int) = 0 := by rw [Int.tmod_eq_emod_of_nonneg (by omega)]; exact hg3
      have hSP := Lib.hid (fun w h1 h2 h3 => impl_SPh P Ar A cr c w.heap.size w h1 h2 h3 hPl)
      go_wp2_with fail
      refine (hSP.out _ hr7.out hs7.out (Nat.le_refl _)).mono ?_
      rintro e w8 ⟨rfl, hb8⟩
      have hB8 := bnext hB7 hb8
      have hs8 := Lib.hid ((hs7.out.below hb8).more hb8.size)
      have hq8 := Lib.hid ((hq7.out.below hb8).more hb8.size)
      have hm8 := Lib.hid ((hm7.out.below hb8).more hb8.size)
      clear hb8 hB7 hs7 hq7 hm7 hr7 hSP
      have hEm := Lib.hid (show ∀ M1 N1, MinW (tns P) M1 → MinW (tns (phs (joinM M))) N1 → M1 = N1 from fun M1 N1 h1 h2 => by
        rw [hM2] at h2
        obtain ⟨n9, i9, -, -, hsh⟩ := norm_shift hM
        exact MinW.shift hW.1 hsh h1 h2)
      have hSM := Lib.hid (fun w h1 h2 h3 => impl_SPat P (phs (joinM M)) A Am c cm w.heap.size w h1 h2 h3 hok.out hM3 hPl (by rw [hKl]; omega) hv hM1 hEm.out)
      rw [hKl] at hSM
      go_wp2_with fail
      refine (hSM.out _ hs8.out hm8.out (Nat.le_refl _)).mono ?_
      rintro e w9 ⟨rfl, hb9⟩
      have hB9 := bnext hB8 hb9
      have hs9 := Lib.hid ((hs8.out.below hb9).more hb9.size)
      have hq9 := Lib.hid ((hq8.out.below hb9).more hb9.size)
      have hm9 := Lib.hid ((hm8.out.below hb9).more hb9.size)
      clear hb9 hB8 hs8 hq8 hm8 hSM hEm
      clear hg1 hg2 hg3 hg4
      go_wp2_with fail
      refine (b10Wide_any L1 A1 c1 W.heap.size 0 1200 w9 (S1.out.below hB9) U1.out (by omega) (by omega) (by omega) (by omega)).mono ?_
      rintro e w' ⟨r, hr, rfl, rfl⟩
      have hn6 := hper.le hW.1
      have hLt := Lib.hid (fun (u : Int) w h1 h2 => impl_LAt P A c w.heap.size u w h1 h2 hok.out hPl hv)
      have hwr : Hid (wrap64 (r - 600) = r - 600) := Lib.hid (by unfold wrap64; omega)
      go_wp2_with fail
      try rw [hwr.out]
      clear hwr
      obtain ⟨x, hx⟩ : ∃ x, r - 600 = x := ⟨_, rfl⟩
      have hxb : -600 ≤ x ∧ x < 600 := by omega
      rw [hx]
      clear hx hr
      refine (hLt.out x _ hs9.out (Nat.le_refl _)).mono ?_
      rintro e w10 ⟨rfl, hb10⟩
      have hB10 := bnext hB9 hb10
      have hs10 := Lib.hid ((hs9.out.below hb10).more hb10.size)
      have hq10 := Lib.hid ((hq9.out.below hb10).more hb10.size)
      have hm10 := Lib.hid ((hm9.out.below hb10).more hb10.size)
      clear hb10 hB9 hs9 hq9 hm9
      have hlp := Lib.hid (light_per hW.1 hper.2.1 x)
      obtain ⟨ya, hya⟩ : ∃ ya, nm (cyc (tns P) (placeT (tns P).length x)) = ya := ⟨_, rfl⟩
      rw [hya]
      have hwn : Hid (wrap64 (x + (n : Int)) = x + (n : Int)) := Lib.hid (by unfold wrap64; omega)
      go_wp2_with fail
      try rw [hwn.out]
      clear hwn
      refine (hLt.out (x + (n : Int)) _ hs10.out (Nat.le_refl _)).mono ?_
      rintro e w11 ⟨rfl, hb11⟩
      have hB11 := bnext hB10 hb11
      have hs11 := Lib.hid ((hs10.out.below hb11).more hb11.size)
      have hq11 := Lib.hid ((hq10.out.below hb11).more hb11.size)
      have hm11 := Lib.hid ((hm10.out.below hb11).more hb11.size)
      clear hb11 hB10 hs10 hq10 hm10
      rw [hlp.out, hya]
      clear hlp hya
      have hg2 : (1 : Int) ≤ (n : Int) := by have := hper.1; omega
      have hMn : M.length = n := by
        obtain ⟨n9, i9, p9, h9, -⟩ := norm_shift hM
        rw [h9]; exact p9.uniq hper
      have hlq : (tns (phs J)).length = (tns P).length := by rw [hJ2, rotL_len]
      have hlm : (tns (phs (joinM M))).length = n := by rw [hM2, hMn]
      have hls := Lib.hid (show nm (cyc (tns (phs J)) (placeT (tns (phs J)).length x)) = nm (cyc (tns P) (placeT (tns P).length (x + t))) by rw [hJ2, ← hs, light_shift hW.1 x t])
      have hLq := Lib.hid (fun w h1 h2 => impl_LAt (phs J) Aq cq w.heap.size x w h1 h2 hJ3 (by rw [hJl]; omega) hJ1)
      rw [hJl, hls.out] at hLq
      obtain ⟨yc, hyc⟩ : ∃ yc, nm (cyc (tns P) (placeT (tns P).length (x + t))) = yc := ⟨_, rfl⟩
      have hLd := Lib.hid (fun w h1 h2 => impl_LAt P A c w.heap.size (x + t) w h1 h2 hok.out hPl hv)
      rw [hyc] at hLq hLd
      clear hyc hls hLt
      have hPLq := Lib.hid (fun w h1 h2 => impl_PLen (phs J) Aq cq w.heap.size w h1 h2 hJ3 (by rw [hJl]; omega) hJ1)
      rw [hJl, hlq] at hPLq
      have hPLm := Lib.hid (fun w h1 h2 => impl_PLen (phs (joinM M)) Am cm w.heap.size w h1 h2 hM3 (by rw [hKl]; omega) hM1)
      rw [hKl, hlm] at hPLm
      have hEq := Lib.hid (show ∀ M1 N1, MinW (tns P) M1 → MinW (tns (phs J)) N1 → M1 = N1 from fun M1 N1 h1 h2 => by
        rw [hJ2] at h2
        exact MinW.shift hW.1 (rotL_shift hW.1 s) h1 h2)
      have hSQ := Lib.hid (fun w h1 h2 h3 => impl_SPat P (phs J) A Aq c cq w.heap.size w h1 h2 h3 hok.out hJ3 hPl (by rw [hJl]; omega) hv hJ1 hEq.out)
      rw [hJl] at hSQ
      have hDL := Lib.hid (dark_law (V := (tns P).take n) (n := n) (by simp; omega) hper.1 (by omega))
      clear hEq hlq hlm hMn hJ2 hM2 hs hJl hKl
      by_cases ht1 : -1000000 < t
      rotate_left
      · go_wp2_with fail
        clear hLq hLd
        refine (hPLq.out _ hq11.out (Nat.le_refl _)).mono ?_
        rintro e wa ⟨rfl, hba⟩
        have hBa := bnext hB11 hba
        have hsa := Lib.hid ((hs11.out.below hba).more hba.size)
        have hqa := Lib.hid ((hq11.out.below hba).more hba.size)
        have hma := Lib.hid ((hm11.out.below hba).more hba.size)
        clear hba hB11 hs11 hq11 hm11 hPLq
        go_wp2_with fail
        refine (hPLm.out _ hma.out (Nat.le_refl _)).mono ?_
        rintro e wb ⟨rfl, hbb⟩
        have hBb := bnext hBa hbb
        have hsb := Lib.hid ((hsa.out.below hbb).more hbb.size)
        have hqb := Lib.hid ((hqa.out.below hbb).more hbb.size)
        clear hbb hBa hsa hqa hma hPLm
        go_wp2_with fail
        refine (impl_FlIn P A c wb.heap.size wb hsb.out (Nat.le_refl _) hok.out hPl hv).mono ?_
        rintro e wc ⟨fl, hfl, rfl, hbc⟩
        have hBc := bnext hBb hbc
        have hsc := Lib.hid ((hsb.out.below hbc).more hbc.size)
        have hqc := Lib.hid ((hqb.out.below hbc).more hbc.size)
        clear hbc hBb hsb hqb
        go_wp2_with fail
        refine (impl_Duty P A c wc.heap.size wc hsc.out (Nat.le_refl _) hok.out hPl hv).mono ?_
        rintro e wd ⟨n2, hp2, rfl, hbd⟩
        obtain rfl := hper.uniq hp2
        have hBd := bnext hBc hbd
        have hsd := Lib.hid ((hsc.out.below hbd).more hbd.size)
        have hqd := Lib.hid ((hqc.out.below hbd).more hbd.size)
        clear hbd hBc hsc hqc hp2
        obtain ⟨D, hD⟩ : ∃ D, litTo ((tns P).take n) n * 1000000 / n = D := ⟨_, rfl⟩
        rw [hD] at hDL ⊢
        clear hD
        go_wp2_with fail
        refine (impl_Dark P A c wd.heap.size wd hsd.out (Nat.le_refl _) hok.out hPl hv).mono ?_
        rintro e we ⟨n2, hp2, rfl, hbe⟩
        obtain rfl := hper.uniq hp2
        have hBe := bnext hBd hbe
        have hse := Lib.hid ((hsd.out.below hbe).more hbe.size)
        have hqe := Lib.hid ((hqd.out.below hbe).more hbe.size)
        clear hbe hBd hsd hqd hp2
        obtain ⟨K, hK⟩ : ∃ K, min (darkTo (cyc ((tns P).take n ++ (tns P).take n)) (n + n)).2 n = K := ⟨_, rfl⟩
        rw [hK] at hDL ⊢
        clear hK
        go_wp2_with fail
        refine (hSQ.out _ hse.out hqe.out (Nat.le_refl _)).mono ?_
        rintro e wf ⟨rfl, hbf⟩
        have hBf := bnext hBe hbf
        clear hbf hBe hse hqe hSQ
        obtain ⟨hd1, hd2, hd3⟩ := hDL.out
        clear hDL
        have hk0 : (D : Int) ≤ 1000000 := by omega
        have e1 : ((D : Int) == 1000000) = decide (D = 1000000) := by rw [Bool.eq_iff_iff]; simp <;> omega
        have e2 : ((K : Int) == 0) = decide (D = 1000000) := by rw [Bool.eq_iff_iff]; simp <;> omega
        have e3 : ((D : Int) == 0) = decide (D = 0) := by rw [Bool.eq_iff_iff]; simp <;> omega
        have e4 : ((K : Int) == (n : Int)) = decide (D = 0) := by rw [Bool.eq_iff_iff]; simp <;> omega
        clear hd1 hd2 hd3
        obtain ⟨b1, h1⟩ : ∃ b, decide (D = 1000000) = b := ⟨_, rfl⟩
        obtain ⟨b2, h2⟩ : ∃ b, decide (D = 0) = b := ⟨_, rfl⟩
        rw [h1] at e1 e2
        rw [h2] at e3 e4
        clear h1 h2
        cases b1 <;> cases b2
        all_goals
          go_wp2_with fail
          go_ret
          exact ⟨rfl, hBf⟩
      by_cases ht2 : t < 1000000
      rotate_left
      · go_wp2_with fail
        clear hLq hLd
        refine (hPLq.out _ hq11.out (Nat.le_refl _)).mono ?_
        rintro e wa ⟨rfl, hba⟩
        have hBa := bnext hB11 hba
        have hsa := Lib.hid ((hs11.out.below hba).more hba.size)
        have hqa := Lib.hid ((hq11.out.below hba).more hba.size)
        have hma := Lib.hid ((hm11.out.below hba).more hba.size)
        clear hba hB11 hs11 hq11 hm11 hPLq
        go_wp2_with fail
        refine (hPLm.out _ hma.out (Nat.le_refl _)).mono ?_
        rintro e wb ⟨rfl, hbb⟩
        have hBb := bnext hBa hbb
        have hsb := Lib.hid ((hsa.out.below hbb).more hbb.size)
        have hqb := Lib.hid ((hqa.out.below hbb).more hbb.size)
        clear hbb hBa hsa hqa hma hPLm
        go_wp2_with fail
        refine (impl_FlIn P A c wb.heap.size wb hsb.out (Nat.le_refl _) hok.out hPl hv).mono ?_
        rintro e wc ⟨fl, hfl, rfl, hbc⟩
        have hBc := bnext hBb hbc
        have hsc := Lib.hid ((hsb.out.below hbc).more hbc.size)
        have hqc := Lib.hid ((hqb.out.below hbc).more hbc.size)
        clear hbc hBb hsb hqb
        go_wp2_with fail
        refine (impl_Duty P A c wc.heap.size wc hsc.out (Nat.le_refl _) hok.out hPl hv).mono ?_
        rintro e wd ⟨n2, hp2, rfl, hbd⟩
        obtain rfl := hper.uniq hp2
        have hBd := bnext hBc hbd
        have hsd := Lib.hid ((hsc.out.below hbd).more hbd.size)
        have hqd := Lib.hid ((hqc.out.below hbd).more hbd.size)
        clear hbd hBc hsc hqc hp2
        obtain ⟨D, hD⟩ : ∃ D, litTo ((tns P).take n) n * 1000000 / n = D := ⟨_, rfl⟩
        rw [hD] at hDL ⊢
        clear hD
        go_wp2_with fail
        refine (impl_Dark P A c wd.heap.size wd hsd.out (Nat.le_refl _) hok.out hPl hv).mono ?_
        rintro e we ⟨n2, hp2, rfl, hbe⟩
        obtain rfl := hper.uniq hp2
        have hBe := bnext hBd hbe
        have hse := Lib.hid ((hsd.out.below hbe).more hbe.size)
        have hqe := Lib.hid ((hqd.out.below hbe).more hbe.size)
        clear hbe hBd hsd hqd hp2
        obtain ⟨K, hK⟩ : ∃ K, min (darkTo (cyc ((tns P).take n ++ (tns P).take n)) (n + n)).2 n = K := ⟨_, rfl⟩
        rw [hK] at hDL ⊢
        clear hK
        go_wp2_with fail
        refine (hSQ.out _ hse.out hqe.out (Nat.le_refl _)).mono ?_
        rintro e wf ⟨rfl, hbf⟩
        have hBf := bnext hBe hbf
        clear hbf hBe hse hqe hSQ
        obtain ⟨hd1, hd2, hd3⟩ := hDL.out
        clear hDL
        have hk0 : (D : Int) ≤ 1000000 := by omega
        have e1 : ((D : Int) == 1000000) = decide (D = 1000000) := by rw [Bool.eq_iff_iff]; simp <;> omega
        have e2 : ((K : Int) == 0) = decide (D = 1000000) := by rw [Bool.eq_iff_iff]; simp <;> omega
        have e3 : ((D : Int) == 0) = decide (D = 0) := by rw [Bool.eq_iff_iff]; simp <;> omega
        have e4 : ((K : Int) == (n : Int)) = decide (D = 0) := by rw [Bool.eq_iff_iff]; simp <;> omega
        clear hd1 hd2 hd3
        obtain ⟨b1, h1⟩ : ∃ b, decide (D = 1000000) = b := ⟨_, rfl⟩
        obtain ⟨b2, h2⟩ : ∃ b, decide (D = 0) = b := ⟨_, rfl⟩
        rw [h1] at e1 e2
        rw [h2] at e3 e4
        clear h1 h2
        cases b1 <;> cases b2
        all_goals
          go_wp2_with fail
          go_ret
          exact ⟨rfl, hBf⟩
      have hwn : Hid (wrap64 (x + t) = x + t) := Lib.hid (by unfold wrap64; omega)
      go_wp2_with fail
      refine (hLq.out _ hq11.out (Nat.le_refl _)).mono ?_
      rintro e w12 ⟨rfl, hb12⟩
      have hB12 := bnext hB11 hb12
      have hs12 := Lib.hid ((hs11.out.below hb12).more hb12.size)
      have hq12 := Lib.hid ((hq11.out.below hb12).more hb12.size)
      have hm12 := Lib.hid ((hm11.out.below hb12).more hb12.size)
      clear hb12 hB11 hs11 hq11 hm11
      go_wp2_with fail
      try rw [hwn.out]
      clear hwn
      refine (hLd.out _ hs12.out (Nat.le_refl _)).mono ?_
      rintro e w13 ⟨rfl, hb13⟩
      have hB13 := bnext hB12 hb13
      have hs13 := Lib.hid ((hs12.out.below hb13).more hb13.size)
      have hq13 := Lib.hid ((hq12.out.below hb13).more hb13.size)
      have hm13 := Lib.hid ((hm12.out.below hb13).more hb13.size)
      clear hb13 hB12 hs12 hq12 hm12
      go_wp2_with fail
      clear hLq hLd
      refine (hPLq.out _ hq13.out (Nat.le_refl _)).mono ?_
      rintro e wa ⟨rfl, hba⟩
      have hBa := bnext hB13 hba
      have hsa := Lib.hid ((hs13.out.below hba).more hba.size)
      have hqa := Lib.hid ((hq13.out.below hba).more hba.size)
      have hma := Lib.hid ((hm13.out.below hba).more hba.size)
      clear hba hB13 hs13 hq13 hm13 hPLq
      go_wp2_with fail
      refine (hPLm.out _ hma.out (Nat.le_refl _)).mono ?_
      rintro e wb ⟨rfl, hbb⟩
      have hBb := bnext hBa hbb
      have hsb := Lib.hid ((hsa.out.below hbb).more hbb.size)
      have hqb := Lib.hid ((hqa.out.below hbb).more hbb.size)
      clear hbb hBa hsa hqa hma hPLm
      go_wp2_with fail
      refine (impl_FlIn P A c wb.heap.size wb hsb.out (Nat.le_refl _) hok.out hPl hv).mono ?_
      rintro e wc ⟨fl, hfl, rfl, hbc⟩
      have hBc := bnext hBb hbc
      have hsc := Lib.hid ((hsb.out.below hbc).more hbc.size)
      have hqc := Lib.hid ((hqb.out.below hbc).more hbc.size)
      clear hbc hBb hsb hqb
      go_wp2_with fail
      refine (impl_Duty P A c wc.heap.size wc hsc.out (Nat.le_refl _) hok.out hPl hv).mono ?_
      rintro e wd ⟨n2, hp2, rfl, hbd⟩
      obtain rfl := hper.uniq hp2
      have hBd := bnext hBc hbd
      have hsd := Lib.hid ((hsc.out.below hbd).more hbd.size)
      have hqd := Lib.hid ((hqc.out.below hbd).more hbd.size)
      clear hbd hBc hsc hqc hp2
      obtain ⟨D, hD⟩ : ∃ D, litTo ((tns P).take n) n * 1000000 / n = D := ⟨_, rfl⟩
      rw [hD] at hDL ⊢
      clear hD
      go_wp2_with fail
      refine (impl_Dark P A c wd.heap.size wd hsd.out (Nat.le_refl _) hok.out hPl hv).mono ?_
      rintro e we ⟨n2, hp2, rfl, hbe⟩
      obtain rfl := hper.uniq hp2
      have hBe := bnext hBd hbe
      have hse := Lib.hid ((hsd.out.below hbe).more hbe.size)
      have hqe := Lib.hid ((hqd.out.below hbe).more hbe.size)
      clear hbe hBd hsd hqd hp2
      obtain ⟨K, hK⟩ : ∃ K, min (darkTo (cyc ((tns P).take n ++ (tns P).take n)) (n + n)).2 n = K := ⟨_, rfl⟩
      rw [hK] at hDL ⊢
      clear hK
      go_wp2_with fail
      refine (hSQ.out _ hse.out hqe.out (Nat.le_refl _)).mono ?_
      rintro e wf ⟨rfl, hbf⟩
      have hBf := bnext hBe hbf
      clear hbf hBe hse hqe hSQ
      obtain ⟨hd1, hd2, hd3⟩ := hDL.out
      clear hDL
      have hk0 : (D : Int) ≤ 1000000 := by omega
      have e1 : ((D : Int) == 1000000) = decide (D = 1000000) := by rw [Bool.eq_iff_iff]; simp <;> omega
      have e2 : ((K : Int) == 0) = decide (D = 1000000) := by rw [Bool.eq_iff_iff]; simp <;> omega
      have e3 : ((D : Int) == 0) = decide (D = 0) := by rw [Bool.eq_iff_iff]; simp <;> omega
      have e4 : ((K : Int) == (n : Int)) = decide (D = 0) := by rw [Bool.eq_iff_iff]; simp <;> omega
      clear hd1 hd2 hd3
      obtain ⟨b1, h1⟩ : ∃ b, decide (D = 1000000) = b := ⟨_, rfl⟩
      obtain ⟨b2, h2⟩ : ∃ b, decide (D = 0) = b := ⟨_, rfl⟩
      rw [h1] at e1 e2
      rw [h2] at e3 e4
      clear h1 h2
      cases b1 <;> cases b2
      all_goals
        go_wp2_with fail
        go_ret
        exact ⟨rfl, hBf⟩

theorem lifted (os : Os) (started : os.Started) (H : Type) (enc : TypeId × Value → H) :
    ReturnsInHanded {} Tryz.checked os 3 .any (fun w args => (Rows.fnPhasesSpec.pre enc Tryz.prog Tryz.f3 Rows.fnPhasesRow.domain false w args ∧ laidMetH Tryz.prog Rows.fnPhasesRow.laid w) ∧ sizedMet enc Tryz.prog Tryz.f3 (OpenSpec.ofChange Rows.fnPhasesSpec) false w args) (Rows.fnPhasesSpec.post enc Tryz.prog Tryz.f3 false true false false) := by
  refine change_sh (C := Tryz.checked) (X := fun w _ => laidMetH Tryz.prog Rows.fnPhasesRow.laid w) (fun _ _ _ hh h => h.of_heap hh) own started (by kernel_rfl) Tryz.func3
    (ChangeSpec.witness_shaped (enc := enc) (C := Tryz.checked) (os := os) (X := fun w _ => laidMetH Tryz.prog Rows.fnPhasesRow.laid w) false (World.laidAll Tryz.prog os Rows.fnPhasesRow.laid) #[.slice none 0 0, .slice none 0 0] 8 (World.laidAll_os _ _ _)
      (World.shaped_of_ZipB (by kernel_rfl) (by kernel_rfl)) (by kernel_rfl) (by kernel_rfl) (by kernel_rfl)
      (by rw [MakeChecks.laidMetH_plain _ _ _ (by kernel_rfl)]; exact laidMet_laidAll _ (by kernel_rfl) (by kernel_rfl))) ?_
  intro W base args ds gs before hval0 hW hcnd _ hsh hL _
  have hval : ∀ (j : Nat) t v, Tryz.f3.params[j]? = some t → args[j]? = some v → Value.okWide Tryz.prog W .any base t v := hval0
  have hW' := hW
  obtain ⟨p, q, hA0, hV, rfl, hfz, hnd⟩ := hW
  have hA : DataW.TrodAll enc Tryz.prog W 0 (fun _ => true) true Tryz.f3.params.toList args.toList ds p := hA0
  rw [Tryz.params3] at hA hval
  obtain ⟨v0, vs0, d0, ds0, p0, q0, hargs, rfl, rfl, h0, r0⟩ := trodAll_cons hA
  obtain ⟨v1, vs1, d1, ds1, p1, q1, rfl, rfl, rfl, h1, r1⟩ := trodAll_cons r0
  obtain ⟨rfl, rfl, rfl⟩ := trodAll_nil r1
  obtain rfl : args = #[v0, v1] := by cases args; simp_all
  have g0 := h0
  have g1 := h1
  obtain ⟨rfl, rfl⟩ := trodVars_none hV
  clear hA0 hval0
  simp only [List.append_nil] at hW'
  have hlt : ∀ x ∈ p0 ++ (p1), x.block < W.heap.size := fun x hx => by simpa using hW'.lt x (by simpa using hx)
  obtain ⟨fu0, hf0⟩ := h0
  obtain ⟨A0, c0, L0, hv0, s0, b0, m0⟩ := open_row8 Tryz.underlying22 Tryz.underlying5 (by kernel_rfl) hf0
  obtain ⟨va0, vl0, vc0, rfl⟩ := Go.WideShapes.okWide_slice Tryz.underlying22 (hval 0 22 _ rfl rfl)
  obtain ⟨rfl, rfl, rfl⟩ : A0 = va0 ∧ L0.length = vl0 ∧ c0 = vc0 := by have := hv0; simp [Value.cells] at this; exact ⟨this.1.symm, this.2.1.symm, this.2.2.symm⟩
  obtain ⟨fu1, hf1⟩ := h1
  obtain ⟨A1, c1, L1, hv1, s1, b1, m1⟩ := open_row8 Tryz.underlying22 Tryz.underlying5 (by kernel_rfl) hf1
  obtain ⟨va1, vl1, vc1, rfl⟩ := Go.WideShapes.okWide_slice Tryz.underlying22 (hval 1 22 _ rfl rfl)
  obtain ⟨rfl, rfl, rfl⟩ : A1 = va1 ∧ L1.length = vl1 ∧ c1 = vc1 := by have := hv1; simp [Value.cells] at this; exact ⟨this.1.symm, this.2.1.symm, this.2.2.symm⟩
  refine (walk W A0 c0 L0 s0 b0 m0 A1 c1 L1 s1 b1 m1 (env_of hsh hL)).mono fun e W' ⟨he, hg⟩ => ?_
  subst he
  exact ⟨_, rfl, post_below (pa := _) hW' (trodAll_cons_mk (shut_bool Tryz.underlying4 _) trodAll_mk0) (trodAll_cons_mk (Below.trod laidOut (by kernel_rfl) (of_decide_eq_true (by kernel_rfl)) g0 hg (fun x hx => hlt x (by simp [hx]))) (trodAll_cons_mk (Below.trod laidOut (by kernel_rfl) (of_decide_eq_true (by kernel_rfl)) g1 hg (fun x hx => hlt x (by simp [hx]))) trodAll_mk0)) rfl (by simp) hg⟩

theorem over : Rows.fnPhasesRow.holds Tryz.pinned (OpenSpec.ofChange Rows.fnPhasesSpec) :=
  OpenClaim.holds_of_wide 3 Tryz.f3 rfl rfl rfl rfl rfl rfl rfl ⟨rfl, rfl, rfl, rfl, rfl⟩ rfl rfl rfl rfl rfl (by kernel_rfl) Tryz.func3 (by kernel_rfl)
    (of_decide_eq_true (by kernel_rfl)) (by unfold Func.isWrapper; first | (rw [if_pos (by decide +kernel)]; kernel_rfl) | (rw [if_neg (by decide +kernel)]; exact ⟨rfl, rfl⟩))
    (fun os started H enc _ => lifted os started H enc)

theorem proved : Rows.FnPhasesCardSaid :=
  Claim7.holds_tied_plain_at .later [] [.data, .data, .data, .data, .sentinel, .sentinel, .pinned] true (true, "d2d01d0b68fb398f74a9b5eb5ce5d9889b11bc7e5c4d4e4e9d4bfbecc577d967") true over (fun _ h => by cases h) (by kernel_rfl) (fun _ h => by cases h) fnPhases_row_tie rfl ⟨rfl, rfl⟩ (by kernel_rfl) rfl
    (fun f fn hf hfn => by
      obtain rfl : f = 3 := Option.some.inj ((show Tryz.prog.funcNamed "loop.example/g00953/laws.FnPhases" = some 3 by kernel_rfl).symm.trans hf) |>.symm
      obtain rfl : fn = Tryz.f3 := (Option.some.inj (Tryz.func3.symm.trans hfn)).symm
      exact ⟨by kernel_rfl, fun j t ht => by
        rw [Tryz.params3] at ht
        have hm : t ∈ [22, 22] := by simpa using Array.mem_of_getElem? ht
        have hall : ([22, 22].all fun u => !Tryz.prog.wantsStandIn u) = true := by kernel_rfl
        exact (show Tryz.prog.wantsStandIn t = false by simpa using List.all_eq_true.1 hall t hm)⟩)
    (by kernel_rfl)
#print axioms proved
end fnPhases

end Go.Proofs.YtpnffdkkmibchaaGreatDoor
