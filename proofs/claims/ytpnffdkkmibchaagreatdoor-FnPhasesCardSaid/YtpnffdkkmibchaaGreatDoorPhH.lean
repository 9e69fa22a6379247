/-
  Contracts of the tenths and of the joining for phases that are drawn, valid or not: the reference's. Each under the conditions that it states.
-/
import Derived.Test.YtpnffdkkmibchaaGreatDoorPhA
set_option linter.unusedVariables false
set_option linter.unnecessarySimpa false
set_option maxRecDepth 100000
set_option linter.unusedSimpArgs false
namespace Go.Proofs.YtpnffdkkmibchaaGreatDoor
open Go.RowKit BigFrame Go.Deep

/-- Phases with one letter or none, not too long. -/
def leanP (P : List RPhase) : Prop := P.length ≤ 70 ∧ ∀ a ∈ P, (a.f0 = ⟨#[]⟩ ∨ ∃ c : UInt8, a.f0 = ⟨#[c]⟩) ∧ a.f1 ≤ 700
theorem tn_lenL {P : List RPhase} (h : leanP P) : ∀ k, k ≤ P.length → (tnTo P k).length ≤ 700 * k := fun k => by
  induction k with
  | zero => intro _; exact Nat.le_refl _
  | succ k ih =>
    intro hk
    have h1 := ih (by omega)
    rw [tn_step (by omega), List.length_append, List.length_replicate]
    have := (h.2 P[k] (List.getElem_mem (by omega))).2
    omega
set_option maxHeartbeats 1600000 in
theorem spec_TnL (P : List RPhase) (A : Option Addr) (c B : Nat) (w : World) (hs : Sl w B A (flat RPhase.cells P)) (hB : B ≤ w.heap.size) (hv : leanP P) : Calls Tryz.prog 60 #[.slice A P.length c] w fun e w' => ∃ v, e = .returned v ∧ Below w.heap.size w w' ∧ w'.ownsRow w.heap.size 5 1 v (tns P).length (bts (tns P)) := by
  have h70 := hv.1
  have hv' := Lib.hid hv.2
  have hs' := Lib.hid hs
  have hlen := Lib.hid (tn_lenL hv)
  obtain ⟨i0, hi, ie0, ie1, ie2⟩ := info_parts infoU8
  clear hs hv
  go_enter Tryz.func60, Tryz.ntmps60
  go_wp2
  have hO0 : (w.alloc (.cells #[] 5)).ownsRow w.heap.size 5 1 (.slice (some ⟨w.heap.size, 0, none⟩) 0 0) (tnTo P 0).length (bts (tnTo P 0)) := World.ownsRow_made w #[] 0 (Nat.le_refl _) (Nat.zero_le _) rfl
  have hBa : Below w.heap.size w (w.alloc (.cells #[] 5)) := by go_grown
  go_loopw [3, 4] (fun v i wr => ∃ k : Nat, i = .int .i64 k ∧ k ≤ P.length ∧ Below w.heap.size w wr ∧ wr.ownsRow w.heap.size 5 1 v (tnTo P k).length (bts (tnTo P k))) (fun _ i _ => P.length - (intOf i).toNat)
  case atStart => exact ⟨0, rfl, Nat.zero_le _, hBa, hO0⟩
  case round =>
    clear hBa hO0
    obtain ⟨k, rfl, hk, hB1, hown⟩ := hrel
    have hS1 := hB1.size
    by_cases hlt : k < P.length
    · have hT := hlen.out k hk
      have hst0 := Lib.hid (tn_step hlt)
      obtain ⟨b, o, rfl, hb, he⟩ := elem_w hs'.out hB hlt
      have hphc := hv'.out _ (List.getElem_mem hlt)
      obtain ⟨a, ha⟩ : ∃ a, P[k] = a := ⟨_, rfl⟩
      rw [ha] at he hst0 hphc
      clear ha
      obtain ⟨hcol, hf2⟩ := hphc
      have hst1 := hst0.out
      obtain ⟨f, hf⟩ : ∃ f, a.f1 = f := ⟨_, rfl⟩
      rw [hf] at he hst1 hf2
      have hN : (tnTo P k).length + f.toNat ≤ 49000 := by omega
      have hbw : b < wr.heap.size := by omega
      clear hst0 hf hT
      rcases hcol with hc0 | ⟨c, hc1⟩
      · rw [hc0] at he hst1
        rw [cd_nil] at hst1
        have hfin := Lib.hid hst1
        have hel := Lib.hid he
        obtain ⟨d0, d1⟩ := he wr hB1
        clear he hst1 hc0
        go_wp2_with fail
        go_loopw [3, 6] (fun v i wr => ∃ j : Nat, i = .int .i64 j ∧ j ≤ f.toNat ∧ Below w.heap.size w wr ∧ wr.ownsRow w.heap.size 5 1 v (tnTo P k ++ List.replicate j (0)).length (bts (tnTo P k ++ List.replicate j (0)))) (fun _ i _ => f.toNat - (intOf i).toNat)
        case atStart => exact ⟨0, rfl, Nat.zero_le _, hB1, by simpa using hown⟩
        case round =>
          clear hB1 hown d0 d1 hS1
          obtain ⟨j, rfl, hj, hB1, hown⟩ := hrel
          have hS1 := hB1.size
          obtain ⟨d0, d1⟩ := hel.out wr hB1
          by_cases hjm : (j : Int) < f
          · have hst := Lib.hid (bts_snoc (tnTo P k ++ List.replicate j (0)) (0))
            have hrs := Lib.hid (rep_snoc (tnTo P k) j (0))
            have hlj : (tnTo P k ++ List.replicate j (0)).length ≤ 49000 := by rw [List.length_append, List.length_replicate]; omega
            obtain ⟨X, hX⟩ : ∃ X, tnTo P k ++ List.replicate j (0) = X := ⟨_, rfl⟩
            rw [hX] at hown hst hlj hrs
            obtain ⟨q, hq⟩ : ∃ q, X.length = q := ⟨_, rfl⟩
            have hq' := Lib.hid hq
            rw [hq] at hown hlj
            have hj1 : j + 1 ≤ f.toNat := by omega
            clear hX hq
            go_wp2_with (at_builtin; refine wpList_append_own _ rfl _ _ 22 rfl (w.heap.size) 5 i0 (.int .u8 0) 1 1 Tryz.underlying22 hi ie0 ie1 ie2 rfl (by decide) _ _ _ rfl (hown.alloc _) ⟨wr.heap.size, 0, none⟩ 1 1 [.int .u8 (0)] rfl rfl ?pc1 ?pc2 ?pc3 ?pc4 ?pc5 ?_)
            case pc1 =>
              intro j u hj
              match j, hj with
              | 0, hj => obtain rfl := Option.some.inj hj; simp [Addr.add, go_sem]; try rfl
            case pc2 => intro u hu; obtain rfl := List.mem_singleton.1 hu; rfl
            case pc3 => unfold maxLen; omega
            case pc4 => omega
            case pc5 => first | omega | (simp; omega)
            intro v' wn hown' hgrow _
            have hBn := (show Below w.heap.size w (wr.alloc (.cells #[.int .u8 (0)] 5)) by go_grown).grown hgrow (by simp; omega) (fun q e => by have := (hown.lt q e).1; omega)
            clear hown hgrow d0 d1
            go_wp2
            go_roundw
            case rel => exact ⟨j + 1, by go_num, hj1, hBn, by rw [hrs.out, hst.out, List.length_append, hq'.out]; exact hown'⟩
            case measure => simp [intOf]; omega
          · obtain rfl : j = f.toNat := by omega
            clear d0
            have hjm' : f ≤ (f.toNat : Int) := by omega
            go_wp2
            go_roundw
            case rel => exact ⟨k + 1, by go_num, by omega, hB1, by rw [hfin.out]; exact hown⟩
            case measure => simp [intOf]; omega
      · rw [hc1] at he hst1
        rw [cd_one] at hst1
        have hfin := Lib.hid hst1
        have hel := Lib.hid he
        obtain ⟨d0, d1⟩ := he wr hB1
        have hne : (⟨#[c]⟩ : ByteArray).toList.isEmpty = false := by rw [ByteArray.toList_eq]; rfl
        clear he hst1 hc1
        go_wp2_with fail
        go_loopw [3, 6] (fun v i wr => ∃ j : Nat, i = .int .i64 j ∧ j ≤ f.toNat ∧ Below w.heap.size w wr ∧ wr.ownsRow w.heap.size 5 1 v (tnTo P k ++ List.replicate j (c.toNat)).length (bts (tnTo P k ++ List.replicate j (c.toNat)))) (fun _ i _ => f.toNat - (intOf i).toNat)
        case atStart => exact ⟨0, rfl, Nat.zero_le _, hB1, by simpa using hown⟩
        case round =>
          clear hB1 hown d0 d1 hS1
          obtain ⟨j, rfl, hj, hB1, hown⟩ := hrel
          have hS1 := hB1.size
          obtain ⟨d0, d1⟩ := hel.out wr hB1
          by_cases hjm : (j : Int) < f
          · have hst := Lib.hid (bts_snoc (tnTo P k ++ List.replicate j (c.toNat)) (c.toNat))
            have hrs := Lib.hid (rep_snoc (tnTo P k) j (c.toNat))
            have hlj : (tnTo P k ++ List.replicate j (c.toNat)).length ≤ 49000 := by rw [List.length_append, List.length_replicate]; omega
            obtain ⟨X, hX⟩ : ∃ X, tnTo P k ++ List.replicate j (c.toNat) = X := ⟨_, rfl⟩
            rw [hX] at hown hst hlj hrs
            obtain ⟨q, hq⟩ : ∃ q, X.length = q := ⟨_, rfl⟩
            have hq' := Lib.hid hq
            rw [hq] at hown hlj
            have hj1 : j + 1 ≤ f.toNat := by omega
            clear hX hq
            go_wp2_with (at_builtin; refine wpList_append_own _ rfl _ _ 22 rfl (w.heap.size) 5 i0 (.int .u8 0) 1 1 Tryz.underlying22 hi ie0 ie1 ie2 rfl (by decide) _ _ _ rfl (hown.alloc _) ⟨wr.heap.size, 0, none⟩ 1 1 [.int .u8 ((c.toNat : Int))] rfl rfl ?pc1 ?pc2 ?pc3 ?pc4 ?pc5 ?_)
            case pc1 =>
              intro j u hj
              match j, hj with
              | 0, hj => obtain rfl := Option.some.inj hj; simp [Addr.add, go_sem]; try rfl
            case pc2 => intro u hu; obtain rfl := List.mem_singleton.1 hu; rfl
            case pc3 => unfold maxLen; omega
            case pc4 => omega
            case pc5 => first | omega | (simp; omega)
            intro v' wn hown' hgrow _
            have hBn := (show Below w.heap.size w (wr.alloc (.cells #[.int .u8 ((c.toNat : Int))] 5)) by go_grown).grown hgrow (by simp; omega) (fun q e => by have := (hown.lt q e).1; omega)
            clear hown hgrow d0 d1
            go_wp2
            go_roundw
            case rel => exact ⟨j + 1, by go_num, hj1, hBn, by rw [hrs.out, hst.out, List.length_append, hq'.out]; exact hown'⟩
            case measure => simp [intOf]; omega
          · obtain rfl : j = f.toNat := by omega
            clear d0
            have hjm' : f ≤ (f.toNat : Int) := by omega
            go_wp2
            go_roundw
            case rel => exact ⟨k + 1, by go_num, by omega, hB1, by rw [hfin.out]; exact hown⟩
            case measure => simp [intOf]; omega
    · obtain rfl : k = P.length := by omega
      go_wp2
      go_ret
      exact ⟨_, rfl, hB1, hown⟩
set_option maxHeartbeats 3200000 in
theorem spec_JoinL (W : List Nat) (A : Option Addr) (c B i : Nat) (w : World) (hs : Sl w B A (bts W)) (hB : B ≤ w.heap.size) (hcd : codes W) (hW : 0 < W.length) (hl : W.length ≤ 100000) (hi' : i ≤ 100000) : Calls Tryz.prog 61 #[.slice A W.length c, .int .i64 i] w fun e w' => ∃ v, e = .returned v ∧ Below w.heap.size w w' ∧ w'.ownsRow w.heap.size 51 2 v (runs (cyc W) i W.length).length (jc (runs (cyc W) i W.length)) := by
  obtain ⟨b, o, rfl, hb, he⟩ := bts_w hs hB hW
  have he' := Lib.hid he
  have hcd' := Lib.hid hcd
  obtain ⟨i0, hi, ie0, ie1, ie2⟩ := info_parts infoPh
  clear hs he hcd
  go_enter Tryz.func61, Tryz.ntmps61
  go_wp2
  have hO0 : (w.alloc (.cells #[] 51)).ownsRow w.heap.size 51 2 (.slice (some ⟨w.heap.size, 0, none⟩) 0 0) (runs (cyc W) i 0).length (jc (runs (cyc W) i 0)) := World.ownsRow_made w #[] 0 (Nat.le_refl _) (Nat.zero_le _) rfl
  have hBa : Below w.heap.size w (w.alloc (.cells #[] 51)) := by go_grown
  go_loopw [5, 6] (fun v q wr => ∃ j : Nat, q = .int .i64 j ∧ j ≤ W.length ∧ Below w.heap.size w wr ∧ wr.ownsRow w.heap.size 51 2 v (runs (cyc W) i j).length (jc (runs (cyc W) i j))) (fun _ q _ => W.length - (intOf q).toNat)
  case atStart => exact ⟨0, rfl, Nat.zero_le _, hBa, hO0⟩
  case round =>
    clear hBa hO0
    obtain ⟨j, rfl, hj, hB1, hown⟩ := hrel
    by_cases hlt : j < W.length
    · obtain ⟨r, hr⟩ : ∃ r, (i + j) % W.length = r := ⟨_, rfl⟩
      have hrl : r < W.length := by rw [← hr]; exact Nat.mod_lt _ hW
      have m1 : ((i : Int) + (j : Int)).tmod (W.length : Int) = (r : Int) := tmod_nat (a := i + j) hr
      have m3 : ((i : Int) + (j : Int)) % (W.length : Int) = (r : Int) := by rw [← hr]; simp
      have dp := he'.out wr hB1 r hrl
      rw [show cyc W r = cyc W (i + j) by rw [← hr, cyc_mod]] at dp
      have hc6 := codes_cyc hcd'.out (i + j)
      have hst := Lib.hid (runs_step (cyc W) i j)
      have hjl := runs_len (cyc W) i j
      have hjcd := Lib.hid (runs_codes hcd'.out i j)
      have hjcnt := Lib.hid (runs_cnt (cyc W) i j)
      obtain ⟨x, hx⟩ : ∃ x, cyc W (i + j) = x := ⟨_, rfl⟩
      obtain ⟨J, hJ⟩ : ∃ J, runs (cyc W) i j = J := ⟨_, rfl⟩
      rw [hx] at dp hc6 hst
      rw [hJ] at hown hst hjl hjcd hjcnt
      clear hr hx hJ
      go_wp2_with fail
      refine (spec_Name x hc6 _).mono ?_
      rintro e w1 ⟨rfl, hb1⟩
      have hB2 := bnext hB1 hb1
      replace hown := owns_onR hown hb1
      clear dp hb1 hB1 m1 m3
      rcases step_cases J x with ⟨P, m, rfl, e2⟩ | ⟨hno, e2⟩
      · have hjl2 : P.length + 1 ≤ j := by simpa using hjl
        clear hjl
        have hmc : m ≤ j := hjcnt.out (x, m) (by simp)
        have hlen : (P ++ [(x, m)]).length = P.length + 1 := by simp
        have hlast := jc_last P (x) m
        rw [hlen] at hown
        obtain ⟨hll, ⟨rfl, h0⟩ | ⟨g, cap, cur, rfl, hgb, hh, hcs, hcm, hsz, hat⟩⟩ := id hown
        · omega
        clear hll hh hcs hcm hsz hat
        have z0 := hown.cellAt (P.length * 2) (by omega)
        have z1 := hown.cellAt (P.length * 2 + 1) (by omega)
        rw [hlast.1] at z0
        rw [hlast.2] at z1
        have z2 := hown.frozenAt (P.length * 2 + 1)
        have hgl := (hown.lt g rfl).2
        clear hlast hlen
        have hset := Lib.hid (jc_set P x m)
        have hJ2 := Lib.hid e2
        obtain ⟨q, hq⟩ : ∃ q, P.length = q := ⟨_, rfl⟩
        have hq' := Lib.hid hq
        rw [hq] at hown z0 z1 z2 hjl2 hset ⊢
        obtain ⟨s, hs1⟩ : ∃ s, nm x = s := ⟨_, rfl⟩
        rw [hs1] at z0 ⊢
        clear hq hs1 e2
        have hown := Lib.hid hown
        go_wp2_with fail
        go_roundw
        case rel =>
          have hstd := hown.out.stored (q * 2 + 1) (.int .i64 ((m + 1 : Nat) : Int))
          have hnum : ((m : Int) + 1) = ((m + 1 : Nat) : Int) := by omega
          refine ⟨j + 1, by go_num, by omega, ?_, ?_⟩
          · first | exact hB2.setCell hgb _ | go_grown
          · rw [hst.out, hJ2.out, List.length_append, hq'.out, ← hset.out]
            exact hstd.1
        case measure => simp [intOf]; omega
      · have hS2 := hB2.size
        have hJ2 := Lib.hid e2
        clear e2
        rcases List.eq_nil_or_concat J with rfl | ⟨P, ⟨d, m⟩, rfl⟩
        · clear hno
          obtain ⟨A9, c9, e9, -⟩ := (Rs.of_owns hown).sl
          subst e9
          go_wp2_with (at_builtin; refine wpList_append_own _ rfl _ _ 24 rfl (w.heap.size) 51 i0 (.agg #[.string ⟨#[]⟩, .int .i64 0]) 2 24 Tryz.underlying24 hi ie0 ie1 ie2 rfl (by decide) _ _ _ rfl (hown.alloc _) ⟨w1.heap.size, 0, none⟩ 1 1 [.string (nm x), .int .i64 1] rfl rfl ?pc1 ?pc2 ?pc3 ?pc4 ?pc5 ?_)
          case pc1 =>
            intro j u hj
            match j, hj with
            | 0, hj => obtain rfl := Option.some.inj hj; simp [Addr.add, go_sem]
            | 1, hj => obtain rfl := Option.some.inj hj; simp [Addr.add, go_sem]
          case pc2 => intro u hu; simp at hu; rcases hu with rfl | rfl <;> rfl
          case pc3 => unfold maxLen; omega
          case pc4 => omega
          case pc5 => first | omega | (simp; omega)
          intro v' wn hown' hgrow _
          have hBn := (show Below w.heap.size w (w1.alloc (.cells #[.string (nm x), .int .i64 1] 51)) by go_grown).grown hgrow (by simp; omega) (fun q e => by have := (hown.lt q e).1; omega)
          clear hown hgrow
          go_wp2
          go_roundw
          case rel => exact ⟨j + 1, by go_num, by omega, hBn, by rw [hst.out, hJ2.out, List.length_append, jc_snoc]; exact hown'⟩
          case measure => simp [intOf]; omega
        · rw [List.concat_eq_append] at hown hJ2 hjcd hjl hno hst hjcnt
          have hdx := hno P d m rfl
          have hd6 : d < 256 := hjcd.out (d, m) (by simp)
          have hx1 := bytes_ne (fun e => hdx (nm_inj hd6 hc6 e))
          have hown0 := Lib.hid hown
          have hlen : (P ++ [(d, m)]).length = P.length + 1 := by simp
          have hlast := jc_last P (d) m
          rw [hlen] at hown
          obtain ⟨hll, ⟨rfl, h0⟩ | ⟨g, cap, cur, rfl, hgb, hh, hcs, hcm, hsz, hat⟩⟩ := id hown
          · omega
          clear hll hh hcs hcm hsz hat
          have z0 := hown.cellAt (P.length * 2) (by omega)
          have z1 := hown.cellAt (P.length * 2 + 1) (by omega)
          rw [hlast.1] at z0
          rw [hlast.2] at z1
          have z2 := hown.frozenAt (P.length * 2 + 1)
          have hgl := (hown.lt g rfl).2
          clear hlast hlen
          have hjl3 : P.length + 1 ≤ j := by simpa using hjl
          have hq' : Hid ((P ++ [(d, m)]).length = P.length + 1) := Lib.hid (by simp)
          obtain ⟨s, hs1⟩ : ∃ s, nm d = s := ⟨_, rfl⟩
          rw [hs1] at z0 hx1
          clear hs1 hno hjl
          go_wp2_with (at_builtin; refine wpList_append_own _ rfl _ _ 24 rfl (w.heap.size) 51 i0 (.agg #[.string ⟨#[]⟩, .int .i64 0]) 2 24 Tryz.underlying24 hi ie0 ie1 ie2 rfl (by decide) _ _ _ rfl (hown.alloc _) ⟨w1.heap.size, 0, none⟩ 1 1 [.string (nm x), .int .i64 1] rfl rfl ?qc1 ?qc2 ?qc3 ?qc4 ?qc5 ?_)
          case qc1 =>
            intro j u hj
            match j, hj with
            | 0, hj => obtain rfl := Option.some.inj hj; simp [Addr.add, go_sem]
            | 1, hj => obtain rfl := Option.some.inj hj; simp [Addr.add, go_sem]
          case qc2 => intro u hu; simp at hu; rcases hu with rfl | rfl <;> rfl
          case qc3 => unfold maxLen; omega
          case qc4 => omega
          case qc5 => first | omega | (simp; omega)
          intro v' wn hown' hgrow _
          have hBn := (show Below w.heap.size w (w1.alloc (.cells #[.string (nm x), .int .i64 1] 51)) by go_grown).grown hgrow (by simp; omega) (fun q e => by have := (hown.lt q e).1; omega)
          clear hown hgrow z0 z1 z2
          go_wp2
          go_roundw
          case rel => exact ⟨j + 1, by go_num, by omega, hBn, by rw [hst.out, hJ2.out, List.length_append, hq'.out, jc_snoc]; exact hown'⟩
          case measure => simp [intOf]; omega
    · obtain rfl : j = W.length := by omega
      go_wp2
      go_ret
      exact ⟨_, rfl, hB1, hown⟩
end Go.Proofs.YtpnffdkkmibchaaGreatDoor
