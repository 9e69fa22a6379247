/-
  ValidObservation: what makes a list of phases an observation: the program's and the reference's. Each under the conditions that it states.
-/
import Derived.Test.YtkfgoopmdechaaaPhases
set_option linter.unusedVariables false
set_option linter.unnecessarySimpa false
set_option maxRecDepth 100000
set_option linter.unusedSimpArgs false
namespace Go.Proofs.Ytkfgoopmdechaaa
open Go.RowKit BigFrame

def col (L : List RPhase) (k : Nat) : List UInt8 := (L.getD k default).f0.toList
def lenOk (L : List RPhase) (k : Nat) : Bool := inB (L.getD k default).f1 1 1200
/-- The program's test of number k. -/
def okO (L : List RPhase) (k : Nat) : Bool := lenOk L k && (if k % 2 = 0 then col L k == col L 0 else (col L k).isEmpty)
/-- The reference's test of number k. -/
def okS (L : List RPhase) (k : Nat) : Bool := (((col L k).isEmpty || colorM (L.getD k default).f0) && lenOk L k) && (((col L k).isEmpty == decide (k % 2 = 1)) && (!(decide (1 < k) && decide (k % 2 = 0)) || col L k == col L 0))
def obsM (L : List RPhase) : Bool := inB L.length 1 24 && (allTo (okO L) L.length && colorM (L.getD 0 default).f0)
theorem allTo_iff {f : Nat → Bool} : ∀ {n : Nat}, allTo f n = true ↔ ∀ k, k < n → f k = true := by
  intro n
  constructor
  · intro h k hk
    cases hf : f k
    · rw [allTo_hit hk hf] at h; cases h
    · rfl
  · intro h
    induction n with
    | zero => rfl
    | succ n ih => exact allTo_step (ih fun k hk => h k (by omega)) (h n (by omega))
theorem color_some {s : ByteArray} (h : colorM s = true) : s.toList.isEmpty = false := by
  cases he : s.toList with
  | nil => unfold colorM at h; rw [he] at h; revert h; decide
  | cons _ _ => rfl
theorem obs_all {L : List RPhase} {n : Nat} (hn : 1 ≤ n) : allTo (okS L) n = (allTo (okO L) n && colorM (L.getD 0 default).f0) := by
  rw [Bool.eq_iff_iff, Bool.and_eq_true, allTo_iff, allTo_iff]
  constructor
  · intro h
    have h0 := h 0 (by omega)
    have hc0 : colorM (L.getD 0 default).f0 = true := by
      simp only [okS, Bool.and_eq_true] at h0
      have e : (col L 0).isEmpty = false := by have := h0.2.1; simpa using this
      have := h0.1.1
      rw [e] at this
      simpa using this
    refine ⟨fun k hk => ?_, hc0⟩
    have hk2 := h k hk
    simp only [okS, Bool.and_eq_true] at hk2
    obtain ⟨⟨h1, h2⟩, h3, h4⟩ := hk2
    simp only [okO, Bool.and_eq_true]
    refine ⟨h2, ?_⟩
    rcases (by omega : k % 2 = 0 ∨ k % 2 = 1) with e | e
    · rw [if_pos e]
      by_cases hk0 : k = 0
      · subst hk0; simp
      · have : 1 < k := by omega
        simpa [this, e] using h4
    · rw [if_neg (by omega)]
      simpa [e] using h3
  · rintro ⟨h, hc0⟩ k hk
    have hk2 := h k hk
    simp only [okO, Bool.and_eq_true] at hk2
    obtain ⟨h2, h3⟩ := hk2
    have he0 : (col L 0).isEmpty = false := color_some hc0
    rcases (by omega : k % 2 = 0 ∨ k % 2 = 1) with e | e
    · rw [if_pos e] at h3
      have ee : col L k = col L 0 := by simpa using h3
      have hcol : colorM (L.getD k default).f0 = true := by
        have : colorM (L.getD k default).f0 = colorM (L.getD 0 default).f0 := by
          unfold colorM; unfold col at ee; rw [ee]
        rw [this]; exact hc0
      simp only [okS]
      rw [ee, he0, hcol, h2]
      simp [e]
    · rw [if_neg (by omega)] at h3
      simp only [okS]
      rw [h3, h2]
      simp [e]
theorem obs_hitO {L : List RPhase} {k : Nat} (hk : k < L.length) (h : okO L k = false) : obsM L = false := by
  unfold obsM; rw [allTo_hit hk h]; simp
theorem obs_hitS {L : List RPhase} {k : Nat} (hk : k < L.length) (h : okS L k = false) : obsM L = false := by
  unfold obsM; rw [← obs_all (by omega), allTo_hit hk h]; simp
theorem obs_endS {L : List RPhase} (h : allTo (okS L) L.length = true) : obsM L = inB L.length 1 24 := by
  by_cases hn : 1 ≤ L.length
  · unfold obsM; rw [← obs_all hn, h]; simp
  · have : inB (L.length : Int) 1 24 = false := inB_un (by omega)
    unfold obsM; rw [this]; rfl
theorem obs_endO {L : List RPhase} (h : allTo (okO L) L.length = true) : obsM L = (inB L.length 1 24 && colorM (L.getD 0 default).f0) := by
  unfold obsM; rw [h]; simp
theorem okO_len {L : List RPhase} {k : Nat} {a : RPhase} (hg : L.getD k default = a) (h : inB a.f1 1 1200 = false) : okO L k = false := by
  unfold okO lenOk; rw [hg, h]; rfl
theorem okO_zero {L : List RPhase} {a : RPhase} (hg : L.getD 0 default = a) (h : inB a.f1 1 1200 = true) : okO L 0 = true := by
  unfold okO lenOk; rw [hg, h]; simp
theorem okO_even {L : List RPhase} {k : Nat} {a z : RPhase} (hg : L.getD k default = a) (hz : L.getD 0 default = z) (h : inB a.f1 1 1200 = true) (he : k % 2 = 0) : okO L k = (a.f0.toList == z.f0.toList) := by
  unfold okO lenOk col; rw [hg, hz, h, if_pos he]; rfl
theorem okO_odd {L : List RPhase} {k : Nat} {a : RPhase} (hg : L.getD k default = a) (h : inB a.f1 1 1200 = true) (he : k % 2 = 1) : okO L k = a.f0.toList.isEmpty := by
  unfold okO lenOk col; rw [hg, h, if_neg (by omega)]; rfl


set_option maxHeartbeats 3200000 in
theorem impl_ValidObservation (L : List RPhase) (A : Option Addr) (c B : Nat) (w : World) (hs : Sl w B A (flat RPhase.cells L)) (hB : B ≤ w.heap.size) (hok : ∀ a ∈ L, a.ok) (hl : L.length ≤ 1048576) :
    Calls Try.prog 27 #[.slice A L.length c] w fun e w' => e = .returned (.bool (obsM L)) ∧ Below w.heap.size w w' := by
  have hs' := Lib.hid hs
  have hok' := Lib.hid hok
  clear hs hok
  go_enter Try.func27, Try.ntmps27
  go_wp2
  go_loopw [7] (fun i wr => ∃ k : Nat, i = .int .i64 k ∧ k ≤ L.length ∧ allTo (okO L) k = true ∧ Below w.heap.size w wr) (fun i _ => L.length - (intOf i).toNat)
  case atStart => exact ⟨0, rfl, Nat.zero_le _, rfl, Below.refl _ _⟩
  case round =>
    obtain ⟨k, rfl, hk, hv, hB1⟩ := hrel
    have hS1 := hB1.size
    have hv' := Lib.hid hv
    clear hv
    by_cases hlt : k < L.length
    · obtain ⟨b, o, rfl, hb, he⟩ := Sl.elem RPhase.len (by decide) (hs'.out.below (hB1.mono hB)) hlt
      have hg := Lib.hid (getD_at hlt)
      have hsz := Lib.hid (hok'.out _ (List.getElem_mem hlt)).1
      obtain ⟨a, ha⟩ : ∃ a, L[k] = a := ⟨_, rfl⟩
      rw [ha] at hg he hsz
      clear ha
      have d0 : wr.cell? ⟨b, o + k * 2, none⟩ = some (.string a.f0) := by have := he 0 _ rfl; simpa [Nat.add_assoc] using this
      have d1 : wr.cell? ⟨b, o + k * 2 + 1, none⟩ = some (.int .i64 a.f1) := by have := he 1 _ rfl; simpa [Nat.add_assoc] using this
      clear he
      have hbw : b < wr.heap.size := by omega
      have hbw' : b ≤ wr.heap.size := by omega
      cases h1 : inB a.f1 1 1200
      · have hm := Lib.hid (obs_hitO hlt (okO_len hg.out h1))
        by_cases hk0 : k = 0
        · subst hk0
          simp only [Nat.zero_mul, Nat.add_zero] at d0 d1
          go_wp2_with fail
          refine wp_region_grew (by kernel_rfl) (by kernel_rfl) ?_
          repeat (first | (go_big_quiet_step ((first | (go_at_call 49; exact grew_same (within_any _ _ _ _))))) | (quiet_step ((first | (go_at_call 49; exact grew_same (within_any _ _ _ _))))))
          refine wpQuiet_nil ?_
          rintro _ ⟨⟨w9, hb9⟩, rfl⟩
          try dsimp only
          obtain ⟨hc9, hf9⟩ := bcell hb9
          go_wp2
          go_ret
          exact ⟨ret_bool hm.out.symm, bnext hB1 (bnext (by go_grown) hb9)⟩
        · go_wp2_with fail
          refine wp_region_grew (by kernel_rfl) (by kernel_rfl) ?_
          repeat (first | (go_big_quiet_step ((first | (go_at_call 49; exact grew_same (within_any _ _ _ _))))) | (quiet_step ((first | (go_at_call 49; exact grew_same (within_any _ _ _ _))))))
          refine wpQuiet_nil ?_
          rintro _ ⟨⟨w9, hb9⟩, rfl⟩
          try dsimp only
          obtain ⟨hc9, hf9⟩ := bcell hb9
          go_wp2
          go_ret
          exact ⟨ret_bool hm.out.symm, bnext hB1 (bnext (by go_grown) hb9)⟩
      by_cases hk0 : k = 0
      · subst hk0
        simp only [Nat.zero_mul, Nat.add_zero] at d0 d1
        have hf2 := Lib.hid (allTo_step hv'.out (okO_zero hg.out h1))
        go_wp2_with fail
        refine wp_region_grew (by kernel_rfl) (by kernel_rfl) ?_
        repeat (first | (go_big_quiet_step ((first | (go_at_call 49; exact grew_same (within_any _ _ _ _))))) | (quiet_step ((first | (go_at_call 49; exact grew_same (within_any _ _ _ _))))))
        refine wpQuiet_nil ?_
        rintro _ ⟨⟨w9, hb9⟩, rfl⟩
        try dsimp only
        obtain ⟨hc9, hf9⟩ := bcell hb9
        go_wp2
        go_roundw
        case rel => exact ⟨_, by go_num, by omega, hf2.out, bnext hB1 (bnext (by go_grown) hb9)⟩
        case measure => simp [intOf]; omega
      obtain ⟨b2, o2, e2, hb2, he2⟩ := Sl.elem RPhase.len (by decide) (hs'.out.below (hB1.mono hB)) (show 0 < L.length by omega)
      cases e2
      have hz := Lib.hid (getD_at (show 0 < L.length by omega))
      obtain ⟨z, hz'⟩ : ∃ p, L[0]'(by omega) = p := ⟨_, rfl⟩
      rw [hz'] at hz he2
      clear hz'
      have n0 : wr.cell? ⟨b, o, none⟩ = some (.string z.f0) := by have := he2 0 _ rfl; simpa using this
      clear he2
      rcases (by omega : k % 2 = 0 ∨ k % 2 = 1) with he | he
      · have t1 : ((k : Int) % 2 == 0) = true := by rw [beq_iff_eq]; omega
        have t2 : ((k : Int) % 2 == 1) = false := beq_eq_false_iff_ne.2 (by omega)
        have hst := Lib.hid (okO_even hg.out hz.out h1 he)
        clear he
        cases hc : (a.f0.toList == z.f0.toList)
        · have hm := Lib.hid (obs_hitO hlt (hst.out.trans hc))
          go_wp2_with fail
          refine wp_region_grew (by kernel_rfl) (by kernel_rfl) ?_
          repeat (first | (go_big_quiet_step ((first | (go_at_call 49; exact grew_same (within_any _ _ _ _))))) | (quiet_step ((first | (go_at_call 49; exact grew_same (within_any _ _ _ _))))))
          refine wpQuiet_nil ?_
          rintro _ ⟨⟨w9, hb9⟩, rfl⟩
          try dsimp only
          obtain ⟨hc9, hf9⟩ := bcell hb9
          go_wp2
          go_ret
          exact ⟨ret_bool hm.out.symm, bnext hB1 (bnext (by go_grown) hb9)⟩
        · have hf2 := Lib.hid (allTo_step hv'.out (hst.out.trans hc))
          go_wp2_with fail
          refine wp_region_grew (by kernel_rfl) (by kernel_rfl) ?_
          repeat (first | (go_big_quiet_step ((first | (go_at_call 49; exact grew_same (within_any _ _ _ _))))) | (quiet_step ((first | (go_at_call 49; exact grew_same (within_any _ _ _ _))))))
          refine wpQuiet_nil ?_
          rintro _ ⟨⟨w9, hb9⟩, rfl⟩
          try dsimp only
          obtain ⟨hc9, hf9⟩ := bcell hb9
          go_wp2
          go_roundw
          case rel => exact ⟨_, by go_num, by omega, hf2.out, bnext hB1 (bnext (by go_grown) hb9)⟩
          case measure => simp [intOf]; omega
      · have t1 : ((k : Int) % 2 == 0) = false := beq_eq_false_iff_ne.2 (by omega)
        have t2 : ((k : Int) % 2 == 1) = true := by rw [beq_iff_eq]; omega
        have hst := Lib.hid (okO_odd hg.out h1 he)
        clear he
        cases hc : a.f0.toList.isEmpty
        · have hm := Lib.hid (obs_hitO hlt (hst.out.trans hc))
          go_wp2_with fail
          refine wp_region_grew (by kernel_rfl) (by kernel_rfl) ?_
          repeat (first | (go_big_quiet_step ((first | (go_at_call 49; exact grew_same (within_any _ _ _ _))))) | (quiet_step ((first | (go_at_call 49; exact grew_same (within_any _ _ _ _))))))
          refine wpQuiet_nil ?_
          rintro _ ⟨⟨w9, hb9⟩, rfl⟩
          try dsimp only
          obtain ⟨hc9, hf9⟩ := bcell hb9
          go_wp2
          go_ret
          exact ⟨ret_bool hm.out.symm, bnext hB1 (bnext (by go_grown) hb9)⟩
        · have hf2 := Lib.hid (allTo_step hv'.out (hst.out.trans hc))
          go_wp2_with fail
          refine wp_region_grew (by kernel_rfl) (by kernel_rfl) ?_
          repeat (first | (go_big_quiet_step ((first | (go_at_call 49; exact grew_same (within_any _ _ _ _))))) | (quiet_step ((first | (go_at_call 49; exact grew_same (within_any _ _ _ _))))))
          refine wpQuiet_nil ?_
          rintro _ ⟨⟨w9, hb9⟩, rfl⟩
          try dsimp only
          obtain ⟨hc9, hf9⟩ := bcell hb9
          go_wp2
          go_roundw
          case rel => exact ⟨_, by go_num, by omega, hf2.out, bnext hB1 (bnext (by go_grown) hb9)⟩
          case measure => simp [intOf]; omega
    · obtain rfl : k = L.length := by omega
      cases hn : inB (L.length : Int) 1 24
      · have hm : Hid (obsM L = false) := by apply Lib.hid; unfold obsM; rw [hn]; rfl
        go_wp2_with (go_at_call 49; refine (within_any _ _ _ _).mono ?_; rintro e w' ⟨rfl, rfl⟩)
        go_ret
        exact ⟨ret_bool hm.out.symm, hB1⟩
      · have hnb := inB_yes.1 hn
        have hlt : 0 < L.length := by omega
        obtain ⟨b, o, rfl, hb, he⟩ := Sl.elem RPhase.len (by decide) (hs'.out.below (hB1.mono hB)) hlt
        have hz := getD_at hlt
        have hsz := (hok'.out _ (List.getElem_mem hlt)).1
        obtain ⟨z, hz'⟩ : ∃ p, L[0] = p := ⟨_, rfl⟩
        rw [hz'] at hz he hsz
        have n0 : wr.cell? ⟨b, o, none⟩ = some (.string z.f0) := by have := he 0 _ rfl; simpa using this
        have hm : Hid (obsM L = colorM z.f0) := by apply Lib.hid; rw [obs_endO hv'.out, hn, hz]; rfl
        clear he hz hz'
        go_wp2_with (first | (go_at_call 49; refine (within_any _ _ _ _).mono ?_; rintro e w' ⟨rfl, rfl⟩) | (go_at_call 56; refine (impl_isColor _ hsz _).mono ?_; rintro e w' ⟨rfl, rfl⟩))
        go_ret
        exact ⟨ret_bool hm.out.symm, hB1⟩
theorem okS_is {L : List RPhase} {k : Nat} {a z : RPhase} (hg : L.getD k default = a) (hz : L.getD 0 default = z) : okS L k = (((a.f0.toList.isEmpty || colorM a.f0) && inB a.f1 1 1200) && ((a.f0.toList.isEmpty == decide (k % 2 = 1)) && (!(decide (1 < k) && decide (k % 2 = 0)) || a.f0.toList == z.f0.toList))) := by
  unfold okS lenOk col; rw [hg, hz]
set_option maxHeartbeats 3200000 in
theorem spec_l17Ok (L : List RPhase) (A : Option Addr) (c B : Nat) (w : World) (hs : Sl w B A (flat RPhase.cells L)) (hB : B ≤ w.heap.size) (hok : ∀ a ∈ L, a.ok) (hl : L.length ≤ 1048576) :
    Calls Try.prog 54 #[.slice A L.length c] w fun e w' => e = .returned (.bool (obsM L)) ∧ Below w.heap.size w w' := by
  have hs' := Lib.hid hs
  have hok' := Lib.hid hok
  clear hs hok
  go_enter Try.func54, Try.ntmps54
  go_wp2
  go_loopw [3] (fun i wr => ∃ k : Nat, i = .int .i64 k ∧ k ≤ L.length ∧ allTo (okS L) k = true ∧ Below w.heap.size w wr) (fun i _ => L.length - (intOf i).toNat)
  case atStart => exact ⟨0, rfl, Nat.zero_le _, rfl, Below.refl _ _⟩
  case round =>
    obtain ⟨k, rfl, hk, hv, hB1⟩ := hrel
    have hS1 := hB1.size
    have hv' := Lib.hid hv
    clear hv
    by_cases hlt : k < L.length
    · obtain ⟨b, o, rfl, hb, he⟩ := Sl.elem RPhase.len (by decide) (hs'.out.below (hB1.mono hB)) hlt
      have hg := Lib.hid (getD_at hlt)
      have hsz := Lib.hid (hok'.out _ (List.getElem_mem hlt)).1
      obtain ⟨a, ha⟩ : ∃ a, L[k] = a := ⟨_, rfl⟩
      rw [ha] at hg he hsz
      clear ha
      have d0 : wr.cell? ⟨b, o + k * 2, none⟩ = some (.string a.f0) := by have := he 0 _ rfl; simpa [Nat.add_assoc] using this
      have d1 : wr.cell? ⟨b, o + k * 2 + 1, none⟩ = some (.int .i64 a.f1) := by have := he 1 _ rfl; simpa [Nat.add_assoc] using this
      clear he
      have hbw : b < wr.heap.size := by omega
      have hbw' : b ≤ wr.heap.size := by omega
      clear hsz
      obtain ⟨b2, o2, e2, hb2, he2⟩ := Sl.elem RPhase.len (by decide) (hs'.out.below (hB1.mono hB)) (show 0 < L.length by omega)
      cases e2
      have hz := Lib.hid (getD_at (show 0 < L.length by omega))
      obtain ⟨z, hz'⟩ : ∃ p, L[0]'(by omega) = p := ⟨_, rfl⟩
      rw [hz'] at hz he2
      clear hz'
      have n0 : wr.cell? ⟨b, o, none⟩ = some (.string z.f0) := by have := he2 0 _ rfl; simpa using this
      clear he2
      have hst := Lib.hid (okS_is hg.out hz.out)
      by_cases hk0 : k = 0
      · subst hk0
        simp only [Nat.zero_mul, Nat.add_zero] at d0 d1
        obtain rfl : a = z := hg.out.symm.trans hz.out
        cases ce : a.f0.toList.isEmpty
        rotate_left
        · cases c1 : inB a.f1 1 1200
          · have hm := Lib.hid (obs_hitS hlt (hst.out.trans (by rw [ce, c1]; simp)))
            go_wp2_with (first | (go_at_call 81; refine (spec_Color _ _).mono ?_; rintro e w' ⟨rfl, rfl⟩) | (go_at_call 74; refine (in_any _ _ _ _).mono ?_; rintro e w' ⟨rfl, rfl⟩))
            go_ret
            exact ⟨ret_bool hm.out.symm, hB1⟩
          · have hm := Lib.hid (obs_hitS hlt (hst.out.trans (by rw [ce, c1]; simp)))
            go_wp2_with (first | (go_at_call 81; refine (spec_Color _ _).mono ?_; rintro e w' ⟨rfl, rfl⟩) | (go_at_call 74; refine (in_any _ _ _ _).mono ?_; rintro e w' ⟨rfl, rfl⟩))
            refine wp_region_grew (by kernel_rfl) (by kernel_rfl) ?_
            repeat (first | (go_big_quiet_step (fail)) | (quiet_step (fail)))
            refine wpQuiet_nil ?_
            rintro _ ⟨⟨w9, hb9⟩, rfl⟩
            try dsimp only
            obtain ⟨hc9, hf9⟩ := bcell hb9
            go_wp2
            go_ret
            exact ⟨ret_bool hm.out.symm, bnext hB1 hb9⟩
        cases cc : colorM a.f0
        · have hm := Lib.hid (obs_hitS hlt (hst.out.trans (by rw [ce, cc]; simp)))
          go_wp2_with (first | (go_at_call 81; refine (spec_Color _ _).mono ?_; rintro e w' ⟨rfl, rfl⟩) | (go_at_call 74; refine (in_any _ _ _ _).mono ?_; rintro e w' ⟨rfl, rfl⟩))
          go_ret
          exact ⟨ret_bool hm.out.symm, hB1⟩
        cases c1 : inB a.f1 1 1200
        · have hm := Lib.hid (obs_hitS hlt (hst.out.trans (by rw [c1]; simp)))
          go_wp2_with (first | (go_at_call 81; refine (spec_Color _ _).mono ?_; rintro e w' ⟨rfl, rfl⟩) | (go_at_call 74; refine (in_any _ _ _ _).mono ?_; rintro e w' ⟨rfl, rfl⟩))
          go_ret
          exact ⟨ret_bool hm.out.symm, hB1⟩
        have hf2 := Lib.hid (allTo_step hv'.out (hst.out.trans (by rw [ce, cc, c1]; simp)))
        go_wp2_with (first | (go_at_call 81; refine (spec_Color _ _).mono ?_; rintro e w' ⟨rfl, rfl⟩) | (go_at_call 74; refine (in_any _ _ _ _).mono ?_; rintro e w' ⟨rfl, rfl⟩))
        refine wp_region_grew (by kernel_rfl) (by kernel_rfl) ?_
        repeat (first | (go_big_quiet_step (fail)) | (quiet_step (fail)))
        refine wpQuiet_nil ?_
        rintro _ ⟨⟨w9, hb9⟩, rfl⟩
        try dsimp only
        obtain ⟨hc9, hf9⟩ := bcell hb9
        go_wp2
        go_roundw
        case rel => exact ⟨_, by go_num, by omega, hf2.out, bnext hB1 hb9⟩
        case measure => simp [intOf]; omega
      rcases (by omega : k % 2 = 0 ∨ k % 2 = 1) with he | he
      · have t1 : ((k : Int) % 2 == 1) = false := beq_eq_false_iff_ne.2 (by omega)
        have t0 : ((k : Int) % 2 == 0) = true := by rw [beq_iff_eq]; omega
        have t3 : decide ((1 : Int) < (k : Int)) = true := decide_eq_true (by omega)
        have hk1 : 1 < k := by omega
        cases ce : a.f0.toList.isEmpty
        rotate_left
        · cases c1 : inB a.f1 1 1200
          · have hm := Lib.hid (obs_hitS hlt (hst.out.trans (by rw [ce, c1]; simp)))
            clear he hk1
            go_wp2_with (first | (go_at_call 81; refine (spec_Color _ _).mono ?_; rintro e w' ⟨rfl, rfl⟩) | (go_at_call 74; refine (in_any _ _ _ _).mono ?_; rintro e w' ⟨rfl, rfl⟩))
            go_ret
            exact ⟨ret_bool hm.out.symm, hB1⟩
          · have hm := Lib.hid (obs_hitS hlt (hst.out.trans (by rw [ce, c1]; simp [he])))
            clear he hk1
            go_wp2_with (first | (go_at_call 81; refine (spec_Color _ _).mono ?_; rintro e w' ⟨rfl, rfl⟩) | (go_at_call 74; refine (in_any _ _ _ _).mono ?_; rintro e w' ⟨rfl, rfl⟩))
            refine wp_region_grew (by kernel_rfl) (by kernel_rfl) ?_
            repeat (first | (go_big_quiet_step (fail)) | (quiet_step (fail)))
            refine wpQuiet_nil ?_
            rintro _ ⟨⟨w9, hb9⟩, rfl⟩
            try dsimp only
            obtain ⟨hc9, hf9⟩ := bcell hb9
            go_wp2
            go_ret
            exact ⟨ret_bool hm.out.symm, bnext hB1 hb9⟩
        cases cc : colorM a.f0
        · have hm := Lib.hid (obs_hitS hlt (hst.out.trans (by rw [ce, cc]; simp)))
          clear he hk1
          go_wp2_with (first | (go_at_call 81; refine (spec_Color _ _).mono ?_; rintro e w' ⟨rfl, rfl⟩) | (go_at_call 74; refine (in_any _ _ _ _).mono ?_; rintro e w' ⟨rfl, rfl⟩))
          go_ret
          exact ⟨ret_bool hm.out.symm, hB1⟩
        cases c1 : inB a.f1 1 1200
        · have hm := Lib.hid (obs_hitS hlt (hst.out.trans (by rw [c1]; simp)))
          clear he hk1
          go_wp2_with (first | (go_at_call 81; refine (spec_Color _ _).mono ?_; rintro e w' ⟨rfl, rfl⟩) | (go_at_call 74; refine (in_any _ _ _ _).mono ?_; rintro e w' ⟨rfl, rfl⟩))
          go_ret
          exact ⟨ret_bool hm.out.symm, hB1⟩
        cases hc : (a.f0.toList == z.f0.toList)
        · have hm := Lib.hid (obs_hitS hlt (hst.out.trans (by rw [ce, cc, c1, hc]; simp [he, hk1])))
          clear he hk1
          go_wp2_with (first | (go_at_call 81; refine (spec_Color _ _).mono ?_; rintro e w' ⟨rfl, rfl⟩) | (go_at_call 74; refine (in_any _ _ _ _).mono ?_; rintro e w' ⟨rfl, rfl⟩))
          refine wp_region_grew (by kernel_rfl) (by kernel_rfl) ?_
          repeat (first | (go_big_quiet_step (fail)) | (quiet_step (fail)))
          refine wpQuiet_nil ?_
          rintro _ ⟨⟨w9, hb9⟩, rfl⟩
          try dsimp only
          obtain ⟨hc9, hf9⟩ := bcell hb9
          go_wp2
          go_ret
          exact ⟨ret_bool hm.out.symm, bnext hB1 hb9⟩
        · have hf2 := Lib.hid (allTo_step hv'.out (hst.out.trans (by rw [ce, cc, c1, hc]; simp [he])))
          clear he hk1
          go_wp2_with (first | (go_at_call 81; refine (spec_Color _ _).mono ?_; rintro e w' ⟨rfl, rfl⟩) | (go_at_call 74; refine (in_any _ _ _ _).mono ?_; rintro e w' ⟨rfl, rfl⟩))
          refine wp_region_grew (by kernel_rfl) (by kernel_rfl) ?_
          repeat (first | (go_big_quiet_step (fail)) | (quiet_step (fail)))
          refine wpQuiet_nil ?_
          rintro _ ⟨⟨w9, hb9⟩, rfl⟩
          try dsimp only
          obtain ⟨hc9, hf9⟩ := bcell hb9
          go_wp2
          go_roundw
          case rel => exact ⟨_, by go_num, by omega, hf2.out, bnext hB1 hb9⟩
          case measure => simp [intOf]; omega
      · have t1 : ((k : Int) % 2 == 1) = true := by rw [beq_iff_eq]; omega
        have t0 : ((k : Int) % 2 == 0) = false := beq_eq_false_iff_ne.2 (by omega)
        cases ce : a.f0.toList.isEmpty
        · cases cc : colorM a.f0
          · have hm := Lib.hid (obs_hitS hlt (hst.out.trans (by rw [ce, cc]; simp)))
            clear he
            go_wp2_with (first | (go_at_call 81; refine (spec_Color _ _).mono ?_; rintro e w' ⟨rfl, rfl⟩) | (go_at_call 74; refine (in_any _ _ _ _).mono ?_; rintro e w' ⟨rfl, rfl⟩))
            go_ret
            exact ⟨ret_bool hm.out.symm, hB1⟩
          cases c1 : inB a.f1 1 1200
          · have hm := Lib.hid (obs_hitS hlt (hst.out.trans (by rw [c1]; simp)))
            clear he
            go_wp2_with (first | (go_at_call 81; refine (spec_Color _ _).mono ?_; rintro e w' ⟨rfl, rfl⟩) | (go_at_call 74; refine (in_any _ _ _ _).mono ?_; rintro e w' ⟨rfl, rfl⟩))
            go_ret
            exact ⟨ret_bool hm.out.symm, hB1⟩
          · have hm := Lib.hid (obs_hitS hlt (hst.out.trans (by rw [ce, cc, c1]; simp [he])))
            clear he
            go_wp2_with (first | (go_at_call 81; refine (spec_Color _ _).mono ?_; rintro e w' ⟨rfl, rfl⟩) | (go_at_call 74; refine (in_any _ _ _ _).mono ?_; rintro e w' ⟨rfl, rfl⟩))
            refine wp_region_grew (by kernel_rfl) (by kernel_rfl) ?_
            repeat (first | (go_big_quiet_step (fail)) | (quiet_step (fail)))
            refine wpQuiet_nil ?_
            rintro _ ⟨⟨w9, hb9⟩, rfl⟩
            try dsimp only
            obtain ⟨hc9, hf9⟩ := bcell hb9
            go_wp2
            go_ret
            exact ⟨ret_bool hm.out.symm, bnext hB1 hb9⟩
        · cases c1 : inB a.f1 1 1200
          · have hm := Lib.hid (obs_hitS hlt (hst.out.trans (by rw [ce, c1]; simp)))
            clear he
            go_wp2_with (first | (go_at_call 81; refine (spec_Color _ _).mono ?_; rintro e w' ⟨rfl, rfl⟩) | (go_at_call 74; refine (in_any _ _ _ _).mono ?_; rintro e w' ⟨rfl, rfl⟩))
            go_ret
            exact ⟨ret_bool hm.out.symm, hB1⟩
          have hf2 := Lib.hid (allTo_step hv'.out (hst.out.trans (by rw [ce, c1]; simp [he])))
          clear he
          cases t3 : decide ((1 : Int) < (k : Int))
          · go_wp2_with (first | (go_at_call 81; refine (spec_Color _ _).mono ?_; rintro e w' ⟨rfl, rfl⟩) | (go_at_call 74; refine (in_any _ _ _ _).mono ?_; rintro e w' ⟨rfl, rfl⟩))
            refine wp_region_grew (by kernel_rfl) (by kernel_rfl) ?_
            repeat (first | (go_big_quiet_step (fail)) | (quiet_step (fail)))
            refine wpQuiet_nil ?_
            rintro _ ⟨⟨w9, hb9⟩, rfl⟩
            try dsimp only
            obtain ⟨hc9, hf9⟩ := bcell hb9
            go_wp2
            go_roundw
            case rel => exact ⟨_, by go_num, by omega, hf2.out, bnext hB1 hb9⟩
            case measure => simp [intOf]; omega
          · go_wp2_with (first | (go_at_call 81; refine (spec_Color _ _).mono ?_; rintro e w' ⟨rfl, rfl⟩) | (go_at_call 74; refine (in_any _ _ _ _).mono ?_; rintro e w' ⟨rfl, rfl⟩))
            refine wp_region_grew (by kernel_rfl) (by kernel_rfl) ?_
            repeat (first | (go_big_quiet_step (fail)) | (quiet_step (fail)))
            refine wpQuiet_nil ?_
            rintro _ ⟨⟨w9, hb9⟩, rfl⟩
            try dsimp only
            obtain ⟨hc9, hf9⟩ := bcell hb9
            go_wp2
            go_roundw
            case rel => exact ⟨_, by go_num, by omega, hf2.out, bnext hB1 hb9⟩
            case measure => simp [intOf]; omega
    · obtain rfl : k = L.length := by omega
      have hm : Hid (obsM L = inB L.length 1 24) := Lib.hid (obs_endS hv'.out)
      go_wp2
      all_goals (go_ret; exact ⟨ret_bool (by rw [hm.out]; simp [inB, *]; try omega), hB1⟩)

theorem spec_ValidObservation (L : List RPhase) (A : Option Addr) (c B : Nat) (w : World) (hs : Sl w B A (flat RPhase.cells L)) (hB : B ≤ w.heap.size) (hok : ∀ a ∈ L, a.ok) (hl : L.length ≤ 1048576) :
    Calls Try.prog 25 #[.slice A L.length c] w fun e w' => e = .returned (.bool (obsM L)) ∧ Below w.heap.size w w' := by
  go_enter Try.func25, Try.ntmps25
  go_wp2_with (go_at_call 54; refine (spec_l17Ok L _ _ B _ hs hB hok hl).mono ?_; rintro e w1 ⟨rfl, hb1⟩)
  go_ret
  exact ⟨rfl, hb1⟩
end Go.Proofs.Ytkfgoopmdechaaa
