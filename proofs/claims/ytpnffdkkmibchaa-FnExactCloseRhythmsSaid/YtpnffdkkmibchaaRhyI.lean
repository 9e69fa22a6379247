/-
  Contracts of rhythms that are alike: the reference's. Each under the conditions that it states.
-/
import Derived.Test.YtpnffdkkmibchaaRhyK
set_option linter.unusedVariables false
set_option linter.unnecessarySimpa false
set_option maxRecDepth 100000
set_option linter.unusedSimpArgs false
namespace Go.Proofs.Ytpnffdkkmibchaa
open Go.RowKit BigFrame Go.Deep

theorem jc_at : ∀ (J : List (Nat × Nat)) (k : Nat) (h : k < J.length), (jc J)[k * 2]? = some (.string (nm (J.getD k (0, 0)).1)) ∧ (jc J)[k * 2 + 1]? = some (.int .i64 ((J.getD k (0, 0)).2 : Int))
  | [], k, h => by simp at h
  | p :: J, 0, h => ⟨rfl, rfl⟩
  | p :: J, k + 1, h => by
    have ih := jc_at J k (by simpa using h)
    have e : (k + 1) * 2 = k * 2 + 1 + 1 := by omega
    have c : jc (p :: J) = .string (nm p.1) :: .int .i64 (p.2 : Int) :: jc J := rfl
    rw [c, e]
    simpa using ih
theorem jc_w {w : World} {B : Nat} {A : Option Addr} {J : List (Nat × Nat)} (hs : Sl w B A (jc J)) (hB : B ≤ w.heap.size) (hJ : 0 < J.length) : ∃ b o : Nat, A = some ⟨b, o, none⟩ ∧ b < w.heap.size ∧ ∀ wx, Below w.heap.size w wx → ∀ k, k < J.length → wx.cell? ⟨b, o + k * 2, none⟩ = some (.string (nm (J.getD k (0, 0)).1)) ∧ wx.cell? ⟨b, o + k * 2 + 1, none⟩ = some (.int .i64 ((J.getD k (0, 0)).2 : Int)) := by
  obtain ⟨b, o, rfl, hb, he⟩ := hs (by intro e; have := jc_len J; rw [e] at this; simp at this; omega)
  refine ⟨b, o, rfl, by omega, fun wx hx k hk => ?_⟩
  obtain ⟨hc, _⟩ := bcell hx
  obtain ⟨h1, h2⟩ := jc_at J k hk
  exact ⟨(hc _ _ (by omega)).trans (he _ _ h1), (hc _ _ (by omega)).trans (by have := he _ _ h2; rwa [← Nat.add_assoc] at this)⟩
/-- A row of phases as its numbers: colors are bytes, lengths are small. -/
def goodJ (J : List (Nat × Nat)) : Prop := ∀ p ∈ J, p.1 < 256 ∧ p.2 ≤ 600
theorem goodJ_at {J : List (Nat × Nat)} (h : goodJ J) (k : Nat) : (J.getD k (0, 0)).1 < 256 ∧ (J.getD k (0, 0)).2 ≤ 600 := by
  rw [List.getD_eq_getElem?_getD]
  cases hq : J[k]? with
  | none => exact ⟨by decide, by decide⟩
  | some p => exact h p (List.mem_of_getElem? hq)
theorem NormR.good {P : List RPhase} {J : List (Nat × Nat)} (hv : vPhases P = true) (h : NormR P J) : goodJ J ∧ J.length ≤ 600 := by
  obtain ⟨M, ⟨n, i, hP, hi, _, rfl⟩, rfl⟩ := h
  obtain ⟨hW, hl⟩ := tns_pos hv
  have hn := hP.le hW
  have hlen : ((List.range n).map (rt (cyc (tns P)) i)).length = n := by simp
  refine ⟨fun p hp => ⟨join_codes (fun c hc => ?_) p hp, ?_⟩, ?_⟩
  · obtain ⟨k, _, rfl⟩ := List.mem_map.1 hc
    exact codes_cyc (codes_tn P.length) _
  · have := join_cnt _ p hp; omega
  · have := join_len ((List.range n).map (rt (cyc (tns P)) i)); omega
def cf (tol : Int) (J K : List (Nat × Nat)) (i k : Nat) : Bool := closeP tol (J.getD k (0, 0)) (K.getD ((i + k) % K.length) (0, 0))
set_option maxHeartbeats 3200000 in
theorem spec_Close (P Q : List RPhase) (A A2 : Option Addr) (c c2 B : Nat) (tol : Int) (w : World) (hs : Sl w B A (flat RPhase.cells P)) (hs2 : Sl w B A2 (flat RPhase.cells Q)) (hB : B ≤ w.heap.size) (hv : vPhases P = true) (hv2 : vPhases Q = true) (ht : 0 ≤ tol ∧ tol ≤ 20) : Calls Try.prog 12 #[.slice A P.length c, .slice A2 Q.length c2, .int .i64 tol] w fun e w' => ∃ J K, (NormR P J ∧ NormR Q K) ∧ e = .returned (.bool (closeM tol J K)) ∧ Below w.heap.size w w' := by
  have hs' := Lib.hid hs
  have hs2' := Lib.hid hs2
  have hv' := Lib.hid hv
  have hv2' := Lib.hid hv2
  clear hs hs2 hv hv2
  go_enter Try.func12, Try.ntmps12
  go_wp2_with fail
  refine (spec_Normal P A c B _ hs'.out hB hv'.out).mono ?_
  rintro e w1 ⟨J, hJ, v, rfl, hb1, hownJ⟩
  go_wp2_with fail
  refine (spec_Normal Q A2 c2 B _ (hs2'.out.below (hb1.mono hB)) (Nat.le_trans hB hb1.size) hv2'.out).mono ?_
  rintro e w2 ⟨K, hK, v2, rfl, hb2, hownK⟩
  obtain ⟨AJ, cJ, rfl, hslJ⟩ := (Rs.of_owns (owns_onR hownJ hb2)).sl
  obtain ⟨AK, cK, rfl, hslK⟩ := (Rs.of_owns hownK).sl
  have hB2 := bnext hb1 hb2
  have gJ := hJ.good hv'.out
  have gK := hK.good hv2'.out
  have hlJ := gJ.2
  have hlK := gK.2
  have gJ' := Lib.hid gJ.1
  have gK' := Lib.hid gK.1
  have hJ' := Lib.hid hJ
  have hK' := Lib.hid hK
  have hslJ' := Lib.hid hslJ
  have hslK' := Lib.hid hslK
  have hS2 := hB2.size
  clear hownJ hownK hslJ hslK gJ gK hJ hK hb1 hb2
  by_cases hlen : J.length = K.length
  rotate_left
  · have hm := Lib.hid (closeM_len (tol := tol) hlen)
    have hne : ((J.length : Int) == (K.length : Int)) = false := beq_eq_false_iff_ne.2 (by omega)
    clear hlen
    go_wp2_with fail
    go_ret
    exact ⟨J, K, ⟨hJ'.out, hK'.out⟩, ret_bool hm.out.symm, hB2⟩
  have hlen' := Lib.hid hlen
  rw [hlen]
  clear hlen hlJ
  go_wp2_with fail
  go_loopw [6, 9] (fun rv i wr => rv = .bool false ∧ ∃ q : Nat, i = .int .i64 q ∧ q ≤ K.length ∧ Hid (allTo (fun i => !closeAt tol J K i) q = true) ∧ Below w2.heap.size w2 wr) (fun _ i _ => K.length - (intOf i).toNat)
  case atStart => exact ⟨rfl, 0, rfl, Nat.zero_le _, Lib.hid rfl, Below.refl _ _⟩
  case round =>
    obtain ⟨rfl, q, rfl, hq, hall, hB3⟩ := hrel
    by_cases hlt : q < K.length
    · obtain ⟨bj, oj, rfl, hbj, hej⟩ := jc_w hslJ'.out (Nat.le_refl _) (by have := hlen'.out; omega)
      obtain ⟨bk, ok, rfl, hbk, hek⟩ := jc_w hslK'.out (Nat.le_refl _) (by omega)
      have hej' := Lib.hid hej
      have hek' := Lib.hid hek
      clear hej hek
      go_wp2_with fail
      go_loopw [10, 11] (fun s i wr => ∃ (k : Nat) (t : Bool), s = .bool t ∧ i = .int .i64 k ∧ k ≤ K.length ∧ Hid ((t = true → allTo (cf tol J K q) k = true) ∧ (t = false → closeAt tol J K q = false)) ∧ Below w2.heap.size w2 wr) (fun _ i _ => K.length - (intOf i).toNat)
      case atStart => exact ⟨0, true, rfl, rfl, Nat.zero_le _, Lib.hid ⟨fun _ => rfl, fun h => by cases h⟩, hB3⟩
      case round =>
        clear hB3
        obtain ⟨k, t, rfl, rfl, hk, hv, hB3⟩ := hrel
        have hS3 := hB3.size
        cases t
        · have hno := hv.out.2 rfl
          have hall2 := Lib.hid (allTo_step (f := fun i => !closeAt tol J K i) hall.out (by rw [hno]; rfl))
          clear hno
          by_cases hkn : (k : Int) < (K.length : Int)
          · go_wp2
            go_roundw
            case rel => exact ⟨rfl, q + 1, by go_num, by omega, hall2, hB3⟩
            case measure => simp [intOf]; omega
          · go_wp2
            go_roundw
            case rel => exact ⟨rfl, q + 1, by go_num, by omega, hall2, hB3⟩
            case measure => simp [intOf]; omega
        · by_cases hkn : k < K.length
          · obtain ⟨r, hr⟩ : ∃ r, (q + k) % K.length = r := ⟨_, rfl⟩
            have hrl : r < K.length := by rw [← hr]; exact Nat.mod_lt _ (by omega)
            have m1 : ((q : Int) + (k : Int)).tmod (K.length : Int) = (r : Int) := tmod_nat (a := q + k) hr
            have m2 : ((q : Int) + (k : Int)) % (K.length : Int) = (r : Int) := by rw [← hr]; simp
            have hkJ : k < J.length := by have := hlen'.out; omega
            obtain ⟨p0, p1⟩ := hej'.out wr hB3 k hkJ
            obtain ⟨q0, q1⟩ := hek'.out wr hB3 r hrl
            obtain ⟨g1, g2⟩ := goodJ_at gJ'.out k
            obtain ⟨g3, g4⟩ := goodJ_at gK'.out r
            have hcf := Lib.hid (show cf tol J K q k = closeP tol (J.getD k (0, 0)) (K.getD r (0, 0)) by unfold cf; rw [hr])
            have hkJ' := Lib.hid hkJ
            have hkI : (k : Int) < (K.length : Int) := by omega
            have hbjw : bj < wr.heap.size := by omega
            have hbkw : bk < wr.heap.size := by omega
            clear hr hkJ
            obtain ⟨⟨x, m⟩, hx⟩ : ∃ z, J.getD k (0, 0) = z := ⟨_, rfl⟩
            obtain ⟨⟨y, n⟩, hy⟩ : ∃ z, K.getD r (0, 0) = z := ⟨_, rfl⟩
            rw [hx] at p0 p1 g1 g2 hcf
            rw [hy] at q0 q1 g3 g4 hcf
            dsimp only at p0 p1 q0 q1 g1 g2 g3 g4
            clear hx hy
            by_cases hxy : x = y
            · subst hxy
              have hin : Hid (closeP tol (x, m) (x, n) = inB ((m : Int) - (n : Int)) (-tol) tol) := Lib.hid (by unfold closeP; simp)
              obtain ⟨s, hs1⟩ : ∃ s, nm x = s := ⟨_, rfl⟩
              rw [hs1] at p0 q0
              clear hs1 g3
              cases hi : inB ((m : Int) - (n : Int)) (-tol) tol
              · have hno := Lib.hid (show closeAt tol J K q = false from allTo_hit (f := cf tol J K q) hkJ'.out (by rw [hcf.out, hin.out, hi]))
                go_wp2_with fail
                refine wp_region_grew (by kernel_rfl) (by kernel_rfl) ?_
                repeat (first | (go_big_quiet_step ((first | (go_at_call 18; exact grew_same (in_any _ _ _ _))))) | (quiet_step ((first | (go_at_call 18; exact grew_same (in_any _ _ _ _))))))
                refine wpQuiet_nil ?_
                rintro _ ⟨⟨w9, hb9⟩, rfl⟩
                try dsimp only
                obtain ⟨hc9, hf9⟩ := bcell hb9
                go_wp2
                go_roundw
                case rel => exact ⟨k + 1, false, rfl, by go_num, by omega, Lib.hid ⟨(fun h => by cases h), fun _ => hno.out⟩, bnext (bnext hB3 (by go_grown)) hb9⟩
                case measure => simp [intOf]; omega
              · have hst := Lib.hid (allTo_step (f := cf tol J K q) (hv.out.1 rfl) (by rw [hcf.out, hin.out, hi]))
                go_wp2_with fail
                refine wp_region_grew (by kernel_rfl) (by kernel_rfl) ?_
                repeat (first | (go_big_quiet_step ((first | (go_at_call 18; exact grew_same (in_any _ _ _ _))))) | (quiet_step ((first | (go_at_call 18; exact grew_same (in_any _ _ _ _))))))
                refine wpQuiet_nil ?_
                rintro _ ⟨⟨w9, hb9⟩, rfl⟩
                try dsimp only
                obtain ⟨hc9, hf9⟩ := bcell hb9
                go_wp2
                go_roundw
                case rel => exact ⟨k + 1, true, rfl, by go_num, by omega, Lib.hid ⟨fun _ => hst.out, (fun h => by cases h)⟩, bnext (bnext hB3 (by go_grown)) hb9⟩
                case measure => simp [intOf]; omega
            · have hno := Lib.hid (show closeAt tol J K q = false from allTo_hit (f := cf tol J K q) hkJ'.out (by rw [hcf.out]; unfold closeP; rw [decide_eq_false hxy]; rfl))
              have hne := bytes_ne (fun e => hxy (nm_inj g1 g3 e))
              obtain ⟨s, hs1⟩ : ∃ s, nm x = s := ⟨_, rfl⟩
              obtain ⟨u, hu1⟩ : ∃ u, nm y = u := ⟨_, rfl⟩
              rw [hs1] at p0 hne
              rw [hu1] at q0 hne
              clear hs1 hu1 hxy
              go_wp2_with fail
              refine wp_region_grew (by kernel_rfl) (by kernel_rfl) ?_
              repeat (first | (go_big_quiet_step (fail)) | (quiet_step (fail)))
              refine wpQuiet_nil ?_
              rintro _ ⟨⟨w9, hb9⟩, rfl⟩
              try dsimp only
              obtain ⟨hc9, hf9⟩ := bcell hb9
              go_wp2
              go_roundw
              case rel => exact ⟨k + 1, false, rfl, by go_num, by omega, Lib.hid ⟨(fun h => by cases h), fun _ => hno.out⟩, bnext (bnext hB3 (by go_grown)) hb9⟩
              case measure => simp [intOf]; omega
          · obtain rfl : k = K.length := by omega
            have hm := Lib.hid (closeM_hit (tol := tol) hlen'.out hlt (show closeAt tol J K q = true from by
              show allTo (cf tol J K q) J.length = true
              rw [hlen'.out]; exact hv.out.1 rfl))
            have hBf := bnext hB2 hB3
            go_wp2
            go_ret
            exact ⟨J, K, ⟨hJ'.out, hK'.out⟩, ret_bool hm.out.symm, hBf⟩
    · obtain rfl : q = K.length := by omega
      have hm := Lib.hid (closeM_none (tol := tol) (J := J) (K := K) hall.out)
      have hBf := bnext hB2 hB3
      go_wp2
      go_ret
      exact ⟨J, K, ⟨hJ'.out, hK'.out⟩, ret_bool hm.out.symm, hBf⟩
end Go.Proofs.Ytpnffdkkmibchaa
