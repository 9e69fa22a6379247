/-
  Contracts of rows of phases: what makes them valid, what a tolerance is: the program's and the reference's. Each under the conditions that it states.
-/
import Derived.Test.YtpnffdkkmibchaaGreatDoorPhases
import Derived.Test.YtpnffdkkmibchaaGreatDoorBase
set_option linter.unusedVariables false
set_option linter.unnecessarySimpa false
set_option maxRecDepth 100000
set_option linter.unusedSimpArgs false
namespace Go.Proofs.YtpnffdkkmibchaaGreatDoor
open Go.RowKit BigFrame

def okPh (a : RPhase) : Bool := inB a.f1 1 600 && (a.f0.toList.isEmpty || colorM a.f0)
def okPhA (P : List RPhase) (k : Nat) : Bool := okPh (P.getD k default)
def sumPh (P : List RPhase) : Nat → Int
  | 0 => 0
  | k + 1 => sumPh P k + (P.getD k default).f1
def vPhases (P : List RPhase) : Bool := decide (1 ≤ P.length) && (decide (P.length ≤ 40) && (allTo (okPhA P) P.length && decide (sumPh P P.length ≤ 600)))
theorem sum_step {P : List RPhase} {k : Nat} (hk : k < P.length) : sumPh P (k + 1) = sumPh P k + (P[k]).f1 := by
  simp only [sumPh]; rw [getD_at hk]
theorem okPhA_at {P : List RPhase} {k : Nat} (hk : k < P.length) : okPhA P k = okPh P[k] := by unfold okPhA; rw [getD_at hk]
theorem vPhases_yes {P : List RPhase} (h : vPhases P = true) : 1 ≤ P.length ∧ P.length ≤ 40 ∧ allTo (okPhA P) P.length = true ∧ sumPh P P.length ≤ 600 := by
  unfold vPhases at h
  rw [Bool.and_eq_true, Bool.and_eq_true, Bool.and_eq_true] at h
  exact ⟨of_decide_eq_true h.1, of_decide_eq_true h.2.1, h.2.2.1, of_decide_eq_true h.2.2.2⟩
theorem vPhases_off {P : List RPhase} (h : allTo (okPhA P) P.length = false) : vPhases P = false := by
  unfold vPhases; rw [h]; simp
set_option maxHeartbeats 3200000 in
theorem impl_PhOk (P : List RPhase) (A : Option Addr) (c B : Nat) (w : World) (hs : Sl w B A (flat RPhase.cells P)) (hB : B ≤ w.heap.size) (hok : ∀ a ∈ P, a.ok) (hl : P.length ≤ 1048576) : Calls Tryz.prog 22 #[.slice A P.length c] w fun e w' => e = .returned (.bool (vPhases P)) ∧ Below w.heap.size w w' := by
  have hs' := Lib.hid hs
  have hok' := Lib.hid hok
  clear hs hok
  go_enter Tryz.func22, Tryz.ntmps22
  go_wp2
  go_loopw [3, 8] (fun s i wr => ∃ (k : Nat) (z : Int), s = .int .i64 z ∧ i = .int .i64 k ∧ k ≤ P.length ∧ sumPh P k = z ∧ (0 ≤ z ∧ z ≤ 600 * k) ∧ allTo (okPhA P) k = true ∧ Below w.heap.size w wr) (fun _ i _ => P.length - (intOf i).toNat)
  case atStart => exact ⟨0, 0, rfl, rfl, Nat.zero_le _, rfl, ⟨by omega, by omega⟩, rfl, by go_grown⟩
  case round =>
    obtain ⟨k, z, rfl, rfl, hk, hz0, hzb, hv, hB1⟩ := hrel
    have hS1 := hB1.size
    have hv' := Lib.hid hv
    have hz0' := Lib.hid hz0
    clear hv hz0
    by_cases hlt : k < P.length
    · obtain ⟨b, o, rfl, hb, he⟩ := Sl.elem RPhase.len (by decide) (hs'.out.below (hB1.mono hB)) hlt
      have hga := Lib.hid (okPhA_at hlt)
      have hgs := Lib.hid (sum_step hlt)
      have hao := hok'.out _ (List.getElem_mem hlt)
      obtain ⟨a, ha⟩ : ∃ a, P[k] = a := ⟨_, rfl⟩
      rw [ha] at he hga hgs hao
      clear ha
      have d0 : wr.cell? ⟨b, o + k * 2, none⟩ = some (.string a.f0) := by have := he 0 _ rfl; simpa [Nat.add_assoc] using this
      have d1 : wr.cell? ⟨b, o + k * 2 + 1, none⟩ = some (.int .i64 a.f1) := by have := he 1 _ rfl; simpa [Nat.add_assoc] using this
      have hz := hao.1
      clear he hao
      have hz0 := hz0'.out
      cases q1 : inB a.f1 1 600
      · clear hz0
        have hf := Lib.hid (vPhases_off (allTo_hit (f := okPhA P) hlt (hga.out.trans (show okPh a = false by unfold okPh; rw [q1]; rfl))))
        go_wp2_with (first | (go_at_call 45; refine (within_any _ _ _ _).mono ?_; rintro e w' ⟨rfl, rfl⟩) | (go_at_call 46; refine (impl_isColor _ hz _).mono ?_; rintro e w' ⟨rfl, rfl⟩))
        go_ret
        exact ⟨ret_bool hf.out.symm, by go_grown⟩
      have q1b := inB_yes.1 q1
      cases q2 : a.f0.toList.isEmpty
      · cases q3 : colorM a.f0
        · clear hz0
          have hf := Lib.hid (vPhases_off (allTo_hit (f := okPhA P) hlt (hga.out.trans (show okPh a = false by unfold okPh; rw [q1, q2, q3]; rfl))))
          go_wp2_with (first | (go_at_call 45; refine (within_any _ _ _ _).mono ?_; rintro e w' ⟨rfl, rfl⟩) | (go_at_call 46; refine (impl_isColor _ hz _).mono ?_; rintro e w' ⟨rfl, rfl⟩))
          go_ret
          exact ⟨ret_bool hf.out.symm, by go_grown⟩
        · have hst := Lib.hid (allTo_step (f := okPhA P) hv'.out (hga.out.trans (show okPh a = true by unfold okPh; rw [q1, q2, q3]; rfl)))
          have hz9 := Lib.hid hz0
          clear hz0
          go_wp2_with (first | (go_at_call 45; refine (within_any _ _ _ _).mono ?_; rintro e w' ⟨rfl, rfl⟩) | (go_at_call 46; refine (impl_isColor _ hz _).mono ?_; rintro e w' ⟨rfl, rfl⟩))
          go_roundw
          case rel => exact ⟨k + 1, z + a.f1, by go_num, by go_num, by omega, by rw [hgs.out, hz9.out], ⟨by omega, by omega⟩, hst.out, by go_grown⟩
          case measure => simp [intOf]; omega
      · have hst := Lib.hid (allTo_step (f := okPhA P) hv'.out (hga.out.trans (show okPh a = true by unfold okPh; rw [q1, q2]; rfl)))
        have hz9 := Lib.hid hz0
        clear hz0
        go_wp2_with (first | (go_at_call 45; refine (within_any _ _ _ _).mono ?_; rintro e w' ⟨rfl, rfl⟩) | (go_at_call 46; refine (impl_isColor _ hz _).mono ?_; rintro e w' ⟨rfl, rfl⟩))
        go_roundw
        case rel => exact ⟨k + 1, z + a.f1, by go_num, by go_num, by omega, by rw [hgs.out, hz9.out], ⟨by omega, by omega⟩, hst.out, by go_grown⟩
        case measure => simp [intOf]; omega
    · obtain rfl : k = P.length := by omega
      cases q : inB (P.length : Int) 1 40
      · have hm : Hid (vPhases P = false) := Lib.hid (by
          have := inB_no.1 q
          unfold vPhases
          by_cases h1 : 1 ≤ P.length
          · rw [decide_eq_true h1, decide_eq_false (show ¬ P.length ≤ 40 by omega)]; rfl
          · rw [decide_eq_false h1]; rfl)
        go_wp2_with (go_at_call 45; refine (within_any _ _ _ _).mono ?_; rintro e w' ⟨rfl, rfl⟩)
        go_ret
        exact ⟨ret_bool hm.out.symm, hB1⟩
      · have hm : Hid (vPhases P = decide (z ≤ 600)) := Lib.hid (by
          have := inB_yes.1 q
          unfold vPhases
          rw [decide_eq_true (show 1 ≤ P.length by omega), decide_eq_true (show P.length ≤ 40 by omega), hv'.out, hz0'.out]; rfl)
        go_wp2_with (go_at_call 45; refine (within_any _ _ _ _).mono ?_; rintro e w' ⟨rfl, rfl⟩)
        go_ret
        exact ⟨ret_bool hm.out.symm, hB1⟩
end Go.Proofs.YtpnffdkkmibchaaGreatDoor
