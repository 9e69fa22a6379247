/-
  Contracts of the tenths of phases, of repeating and of the least period: the program's. Each under the conditions that it states.
-/
import Derived.Test.YtpnffdkkmibchaaGreatDoorRhyT
set_option linter.unusedVariables false
set_option linter.unnecessarySimpa false
set_option maxRecDepth 100000
set_option linter.unusedSimpArgs false
namespace Go.Proofs.YtpnffdkkmibchaaGreatDoor
open Go.RowKit BigFrame Go.Deep

theorem wp_atR {P : Program} {c : Code} {Q : Exit → Act → World → Prop} {a : Act} {W : World} (h : ∀ wf, wf = W → Code.wp P c Q a wf) : Code.wp P c Q a W := h W rfl
theorem owns_typeR {w : World} {B sz m g : Nat} {e t : TypeId} {v : Value} {xs ys : List Value} {N : Nat} (h : w.ownsRow B e sz v m xs) (hO : Own w g t N ys) (hne : t ≠ e) : v.ownBlock ≠ some g := by
  obtain ⟨_, ⟨rfl, _⟩ | ⟨k, cap, cur, rfl, hb, hh, _⟩⟩ := h
  · intro e; cases e
  · intro e
    have e' : k = g := Option.some.inj e
    subst e'
    obtain ⟨c2, hc2, _⟩ := hO
    rw [hh] at hc2
    simp at hc2
    exact hne hc2.2.symm
theorem Own.farG {w w' : World} {g : Nat} {t : TypeId} {N : Nat} {xs : List Value} {row : Option Nat} (h : Own w g t N xs) (hg : w.grownBy w' row) (hne : row ≠ some g) : Own w' g t N xs := by
  obtain ⟨cur, hh, hr⟩ := id h
  exact ⟨cur, (hg.block g h.lt (fun e => hne e.symm)).trans hh, hr⟩
theorem owns_onR {w w' : World} {B : Nat} {e : TypeId} {sz : Nat} {v : Value} {n : Nat} {xs : List Value} (h : w.ownsRow B e sz v n xs) (hb : Below w.heap.size w w') : w'.ownsRow B e sz v n xs := by
  refine World.ownsRow.kept (row := none) h ⟨hb.os, hb.tape, hb.output, hb.size, fun k hk _ => hb.block k hk⟩ ?_
  cases v.ownBlock
  · exact .inl rfl
  · exact .inr (by simp)
theorem infoTx : (Tryz.prog.info? 9).map (fun i => (i.zero, i.size, i.bytes)) = some (some (.string ⟨#[]⟩), 1, 16) := by kernel_rfl
set_option maxHeartbeats 1600000 in
theorem impl_Tn (P : List RPhase) (A : Option Addr) (c B : Nat) (w : World) (hs : Sl w B A (flat RPhase.cells P)) (hB : B ≤ w.heap.size) (hv : vPhases P = true) : Calls Tryz.prog 23 #[.slice A P.length c] w fun e w' => ∃ v, e = .returned v ∧ Below w.heap.size w w' ∧ w'.ownsRow w.heap.size 9 1 v (tns P).length (cls (tns P)) := by
  obtain ⟨h1, h40, hall, hsum⟩ := vPhases_yes hv
  have hs' := Lib.hid hs
  have hlen := Lib.hid (tn_len hall)
  have hall' := Lib.hid hall
  obtain ⟨i0, hi, ie0, ie1, ie2⟩ := info_parts infoTx
  clear hs hall
  go_enter Tryz.func23, Tryz.ntmps23
  go_wp2
  have hO0 : (w.alloc (.cells #[] 9)).ownsRow w.heap.size 9 1 (.slice (some ⟨w.heap.size, 0, none⟩) 0 0) (tnTo P 0).length (cls (tnTo P 0)) := World.ownsRow_made w #[] 0 (Nat.le_refl _) (Nat.zero_le _) rfl
  have hBa : Below w.heap.size w (w.alloc (.cells #[] 9)) := by go_grown
  go_loopw [3, 9] (fun v i wr => ∃ k : Nat, i = .int .i64 k ∧ k ≤ P.length ∧ Below w.heap.size w wr ∧ wr.ownsRow w.heap.size 9 1 v (tnTo P k).length (cls (tnTo P k))) (fun _ i _ => P.length - (intOf i).toNat)
  case atStart => exact ⟨0, rfl, Nat.zero_le _, hBa, hO0⟩
  case round =>
    clear hBa hO0
    obtain ⟨k, rfl, hk, hB1, hown⟩ := hrel
    have hS1 := hB1.size
    by_cases hlt : k < P.length
    · have hT := hlen.out (k + 1) hlt
      have hT' := hlen.out k hk
      have hst0 := Lib.hid (tn_step hlt)
      have hsm := sum_step hlt
      obtain ⟨b, o, rfl, hb, he⟩ := elem_w hs'.out hB hlt
      have hphc := ph_cases (ok_at hall'.out hlt)
      obtain ⟨a, ha⟩ : ∃ a, P[k] = a := ⟨_, rfl⟩
      rw [ha] at he hst0 hphc hsm
      clear ha
      obtain ⟨⟨hf1, hf2⟩, hcol⟩ := hphc
      have hN : ((tnTo P k).length : Int) + a.f1 ≤ 600 := by omega
      clear hT hT' hsm
      obtain ⟨m, hm⟩ : ∃ m : Nat, a.f1 = m := ⟨a.f1.toNat, by omega⟩
      have hm2 : a.f1.toNat = m := by omega
      have hst1 := hst0.out
      rw [hm2] at hst1
      rw [hm] at he hN
      have hbw : b < wr.heap.size := by omega
      have hnm : nm (cdM a.f0) = a.f0 := by
        rcases hcol with h | ⟨c, h0, h⟩
        · rw [h]; rfl
        · rw [h, cd_one, nm_one h0]
      have hfin := Lib.hid hst1
      have hnm' := Lib.hid hnm
      obtain ⟨d0, d1⟩ := he wr hB1
      clear hst0 hm2 hm hf1 hf2 hst1 hcol hnm he
      obtain ⟨q, hcd⟩ : ∃ q, cdM a.f0 = q := ⟨_, rfl⟩
      rw [hcd] at hfin hnm'
      obtain ⟨s, hs0⟩ : ∃ s, a.f0 = s := ⟨_, rfl⟩
      rw [hs0] at hnm' d0
      clear hcd hs0
      go_upto_region 5 with fail
      refine wp_atR ?_
      intro wx hwx
      have hX : Own wx wr.heap.size 51 2 [.string s, .int .i64 m] := by
        rw [hwx]
        refine ⟨_, heap_alloc_new _ _, rfl, by simp, fun j u hu => ?_⟩
        match j, hu with
        | 0, hu => exact hu
        | 1, hu => exact hu
      have hBx : Below w.heap.size w wx := by rw [hwx]; exact bnext hB1 (by go_grown)
      have hownx := owns_onR hown (show Below wr.heap.size wr wx by rw [hwx]; go_grown)
      clear hwx hown hB1 d0 d1
      obtain ⟨g, hg⟩ : ∃ g, wr.heap.size = g := ⟨_, rfl⟩
      rw [hg] at hX hS1 ⊢
      clear hg hbw
      have d1 := hX.get (j := 1) rfl
      go_wp2_with fail
      clear d1
      go_loopw [3, 15] (fun v i wr => ∃ j : Nat, i = .int .i64 j ∧ j ≤ m ∧ Below w.heap.size w wr ∧ wr.ownsRow w.heap.size 9 1 v (tnTo P k ++ List.replicate j q).length (cls (tnTo P k ++ List.replicate j q)) ∧ Own wr g 51 2 [.string s, .int .i64 m]) (fun _ i _ => m - (intOf i).toNat)
      case atStart => exact ⟨0, rfl, Nat.zero_le _, hBx, by simpa using hownx, hX⟩
      case round =>
        clear hBx hownx hX
        obtain ⟨j, rfl, hj, hB1, hown, hX⟩ := hrel
        have hS1 := hB1.size
        have hgl := hX.lt
        have d0 := hX.get (j := 0) rfl
        by_cases hjm : j < m
        · have hst := Lib.hid (cls_snoc (tnTo P k ++ List.replicate j q) q)
          have hrs := Lib.hid (rep_snoc (tnTo P k) j q)
          have hlj : (tnTo P k ++ List.replicate j q).length ≤ 600 := by rw [List.length_append, List.length_replicate]; omega
          obtain ⟨X, hXe⟩ : ∃ X, tnTo P k ++ List.replicate j q = X := ⟨_, rfl⟩
          rw [hXe] at hown hst hlj hrs
          obtain ⟨n, hn⟩ : ∃ n, X.length = n := ⟨_, rfl⟩
          have hn' := Lib.hid hn
          rw [hn] at hown hlj
          clear hXe hn
          have hne := owns_typeR hown hX (by decide)
          go_wp2_with (at_builtin; refine wpList_append_own _ rfl _ _ 44 rfl (w.heap.size) 9 i0 (.string ⟨#[]⟩) 1 16 Tryz.underlying44 hi ie0 ie1 ie2 rfl (by decide) _ _ _ rfl (hown.alloc _) ⟨wr.heap.size, 0, none⟩ 1 1 [.string s] rfl rfl ?pc1 ?pc2 ?pc3 ?pc4 ?pc5 ?_)
          case pc1 =>
            intro j u hj
            match j, hj with
            | 0, hj => obtain rfl := Option.some.inj hj; simp [Addr.add, go_sem]
          case pc2 => intro u hu; obtain rfl := List.mem_singleton.1 hu; rfl
          case pc3 => unfold maxLen; omega
          case pc4 => omega
          case pc5 => first | omega | (simp; omega)
          intro v' wn hown' hgrow _
          have hBn := (show Below w.heap.size w (wr.alloc (.cells #[.string s] 9)) by go_grown).grown hgrow (by simp; omega) (fun q e => by have := (hown.lt q e).1; omega)
          have hXn := (hX.alloc _).farG hgrow hne
          clear hown hgrow d0 hX hne
          go_wp2
          go_roundw
          case rel => exact ⟨j + 1, by go_num, by omega, hBn, by rw [hrs.out, hst.out, List.length_append, hn'.out, hnm'.out]; exact hown', hXn⟩
          case measure => simp [intOf]; omega
        · obtain rfl : j = m := by omega
          clear d0
          go_wp2
          go_roundw
          case rel => exact ⟨k + 1, by go_num, by omega, hB1, by rw [hfin.out]; exact hown⟩
          case measure => simp [intOf]; omega
    · obtain rfl : k = P.length := by omega
      go_wp2
      go_ret
      exact ⟨_, rfl, hB1, hown⟩
end Go.Proofs.YtpnffdkkmibchaaGreatDoor
