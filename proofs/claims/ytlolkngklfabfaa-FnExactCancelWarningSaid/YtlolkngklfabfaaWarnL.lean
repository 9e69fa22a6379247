/-
  Contracts of lists of warnings: what makes a list valid: the program's and the reference's. Each under the conditions that it states.
-/
import Derived.Test.YtlolkngklfabfaaWarns
set_option linter.unusedVariables false
set_option linter.unnecessarySimpa false
set_option maxRecDepth 100000
set_option linter.unusedSimpArgs false
namespace Go.Proofs.Ytlolkngklfabfaa
open Go.RowKit BigFrame

def RWarning.v (a : RWarning) : Bool := vWarn a.f0 a.f1 a.f2 a.f3 a.f4 a.f5 a.f6 a.f7
/-- Number k is valid, and greater than the one ahead of it. -/
def okWarn (L : List RWarning) (k : Nat) : Bool := (L.getD k default).v && (decide (k = 0) || decide ((L.getD (k - 1) default).f0 < (L.getD k default).f0))
def vWarnsM (L : List RWarning) : Bool := allTo (okWarn L) L.length && decide (L.length ≤ 32)
theorem okWarn_bad {L : List RWarning} {k : Nat} {a : RWarning} (hg : L.getD k default = a) (h : vWarn a.f0 a.f1 a.f2 a.f3 a.f4 a.f5 a.f6 a.f7 = false) : okWarn L k = false := by
  unfold okWarn RWarning.v; rw [hg, h]; rfl
theorem okWarn_zero {L : List RWarning} {a : RWarning} (hg : L.getD 0 default = a) (h : vWarn a.f0 a.f1 a.f2 a.f3 a.f4 a.f5 a.f6 a.f7 = true) : okWarn L 0 = true := by
  unfold okWarn RWarning.v; rw [hg, h]; rfl
theorem okWarn_step {L : List RWarning} {m : Nat} {a p : RWarning} (hg : L.getD (m + 1) default = a) (hp : L.getD m default = p) (h : vWarn a.f0 a.f1 a.f2 a.f3 a.f4 a.f5 a.f6 a.f7 = true) : okWarn L (m + 1) = decide (p.f0 < a.f0) := by
  unfold okWarn RWarning.v; rw [hg, Nat.add_sub_cancel, hp, h]; simp
theorem vWarnsM_hit {L : List RWarning} {k : Nat} (hk : k < L.length) (h : okWarn L k = false) : vWarnsM L = false := by
  unfold vWarnsM; rw [allTo_hit hk h]; rfl


set_option maxHeartbeats 3200000 in
theorem impl_ValidWarnings (L : List RWarning) (A : Option Addr) (c B : Nat) (w : World) (hs : Sl w B A (flat RWarning.cells L)) (hB : B ≤ w.heap.size) (hok : ∀ a ∈ L, a.ok) (hl : L.length ≤ 1048576) :
    Calls Try.prog 75 #[.slice A L.length c] w fun e w' => e = .returned (.bool (vWarnsM L)) ∧ Below w.heap.size w w' := by
  have hs' := Lib.hid hs
  have hok' := Lib.hid hok
  clear hs hok
  go_enter Try.func75, Try.ntmps75
  go_wp2
  go_loopw [7] (fun i wr => ∃ k : Nat, i = .int .i64 k ∧ k ≤ L.length ∧ allTo (okWarn L) k = true ∧ Below w.heap.size w wr) (fun i _ => L.length - (intOf i).toNat)
  case atStart => exact ⟨0, rfl, Nat.zero_le _, rfl, Below.refl _ _⟩
  case round =>
    obtain ⟨k, rfl, hk, hv, hB1⟩ := hrel
    have hS1 := hB1.size
    have hv' := Lib.hid hv
    clear hv
    by_cases hlt : k < L.length
    · obtain ⟨b, o, rfl, hb, he⟩ := Sl.elem RWarning.len (by decide) (hs'.out.below (hB1.mono hB)) hlt
      have hsz := Lib.hid (hok'.out _ (List.getElem_mem hlt)).2.2.2.2.2.2.2
      have hg := Lib.hid (getD_at hlt)
      obtain ⟨a, ha⟩ : ∃ a, L[k] = a := ⟨_, rfl⟩
      rw [ha] at hg hsz he
      clear ha
      have d0 : wr.cell? ⟨b, o + k * 8, none⟩ = some (.int .i64 a.f0) := by have := he 0 _ rfl; simpa [Nat.add_assoc] using this
      have d1 : wr.cell? ⟨b, o + k * 8 + 1, none⟩ = some (.int .i64 a.f1) := by have := he 1 _ rfl; simpa [Nat.add_assoc] using this
      have d2 : wr.cell? ⟨b, o + k * 8 + 2, none⟩ = some (.int .i64 a.f2) := by have := he 2 _ rfl; simpa [Nat.add_assoc] using this
      have d3 : wr.cell? ⟨b, o + k * 8 + 3, none⟩ = some (.int .i64 a.f3) := by have := he 3 _ rfl; simpa [Nat.add_assoc] using this
      have d4 : wr.cell? ⟨b, o + k * 8 + 4, none⟩ = some (.int .i64 a.f4) := by have := he 4 _ rfl; simpa [Nat.add_assoc] using this
      have d5 : wr.cell? ⟨b, o + k * 8 + 5, none⟩ = some (.int .i64 a.f5) := by have := he 5 _ rfl; simpa [Nat.add_assoc] using this
      have d6 : wr.cell? ⟨b, o + k * 8 + 6, none⟩ = some (.int .i64 a.f6) := by have := he 6 _ rfl; simpa [Nat.add_assoc] using this
      have d7 : wr.cell? ⟨b, o + k * 8 + 7, none⟩ = some (.string a.f7) := by have := he 7 _ rfl; simpa [Nat.add_assoc] using this
      clear he
      have hbw : b < wr.heap.size := by omega
      have hbw' : b ≤ wr.heap.size := by omega
      cases hva : vWarn a.f0 a.f1 a.f2 a.f3 a.f4 a.f5 a.f6 a.f7
      · have hm := Lib.hid (vWarnsM_hit hlt (okWarn_bad hg.out hva))
        go_wp2_with fail
        refine wp_region_grew (by kernel_rfl) (by kernel_rfl) ?_
        repeat (first | (go_big_quiet_step ((first | (go_at_call 144; exact grew_of (impl_ValidWarning _ _ _ _ _ _ _ _ hsz.out _))))) | (quiet_step ((first | (go_at_call 144; exact grew_of (impl_ValidWarning _ _ _ _ _ _ _ _ hsz.out _))))))
        refine wpQuiet_nil ?_
        rintro _ ⟨⟨w9, hb9⟩, rfl⟩
        try dsimp only
        obtain ⟨hc9, hf9⟩ := bcell hb9
        go_wp2
        go_ret
        exact ⟨ret_bool hm.out.symm, bnext hB1 (bnext (by go_grown) hb9)⟩
      rcases k with _ | m
      · simp only [Nat.zero_mul, Nat.add_zero] at d0 d1 d2 d3 d4 d5 d6 d7
        have hf2 := Lib.hid (allTo_step hv'.out (okWarn_zero hg.out hva))
        go_wp2_with fail
        refine wp_region_grew (by kernel_rfl) (by kernel_rfl) ?_
        repeat (first | (go_big_quiet_step ((first | (go_at_call 144; exact grew_of (impl_ValidWarning _ _ _ _ _ _ _ _ hsz.out _))))) | (quiet_step ((first | (go_at_call 144; exact grew_of (impl_ValidWarning _ _ _ _ _ _ _ _ hsz.out _))))))
        refine wpQuiet_nil ?_
        rintro _ ⟨⟨w9, hb9⟩, rfl⟩
        try dsimp only
        obtain ⟨hc9, hf9⟩ := bcell hb9
        go_wp2
        go_roundw
        case rel => exact ⟨0 + 1, by go_num, by omega, hf2.out, bnext hB1 (bnext (by go_grown) hb9)⟩
        case measure => simp [intOf]; omega
      obtain ⟨b2, o2, e2, hb2, he2⟩ := Sl.elem RWarning.len (by decide) (hs'.out.below (hB1.mono hB)) (show m < L.length by omega)
      cases e2
      have hp := Lib.hid (getD_at (show m < L.length by omega))
      obtain ⟨p, hp'⟩ : ∃ p, L[m] = p := ⟨_, rfl⟩
      rw [hp'] at hp he2
      clear hp'
      have n0 : wr.cell? ⟨b, o + m * 8, none⟩ = some (.int .i64 p.f0) := by have := he2 0 _ rfl; simpa [Nat.add_assoc] using this
      clear he2
      have hst := Lib.hid (okWarn_step hg.out hp.out hva)
      have hpos : (0 : Int) < (m : Int) + 1 := by omega
      by_cases hgt : p.f0 < a.f0
      · have hf2 := Lib.hid (allTo_step hv'.out (hst.out.trans (decide_eq_true hgt)))
        have hge : decide (a.f0 ≤ p.f0) = false := decide_eq_false (by omega)
        clear hgt
        go_wp2_with fail
        refine wp_region_grew (by kernel_rfl) (by kernel_rfl) ?_
        repeat (first | (go_big_quiet_step ((first | (go_at_call 144; exact grew_of (impl_ValidWarning _ _ _ _ _ _ _ _ hsz.out _))))) | (quiet_step ((first | (go_at_call 144; exact grew_of (impl_ValidWarning _ _ _ _ _ _ _ _ hsz.out _))))))
        refine wpQuiet_nil ?_
        rintro _ ⟨⟨w9, hb9⟩, rfl⟩
        try dsimp only
        obtain ⟨hc9, hf9⟩ := bcell hb9
        go_wp2
        go_roundw
        case rel => exact ⟨m + 1 + 1, by go_num, by omega, hf2.out, bnext hB1 (bnext (by go_grown) hb9)⟩
        case measure => simp [intOf]; omega
      · have hm := Lib.hid (vWarnsM_hit hlt (hst.out.trans (decide_eq_false hgt)))
        have hge : decide (a.f0 ≤ p.f0) = true := decide_eq_true (by omega)
        clear hgt
        go_wp2_with fail
        refine wp_region_grew (by kernel_rfl) (by kernel_rfl) ?_
        repeat (first | (go_big_quiet_step ((first | (go_at_call 144; exact grew_of (impl_ValidWarning _ _ _ _ _ _ _ _ hsz.out _))))) | (quiet_step ((first | (go_at_call 144; exact grew_of (impl_ValidWarning _ _ _ _ _ _ _ _ hsz.out _))))))
        refine wpQuiet_nil ?_
        rintro _ ⟨⟨w9, hb9⟩, rfl⟩
        try dsimp only
        obtain ⟨hc9, hf9⟩ := bcell hb9
        go_wp2
        go_ret
        exact ⟨ret_bool hm.out.symm, bnext hB1 (bnext (by go_grown) hb9)⟩
    · obtain rfl : k = L.length := by omega
      have hm : Hid (vWarnsM L = decide ((L.length : Int) ≤ 32)) := by apply Lib.hid; unfold vWarnsM; rw [hv'.out]; simp; omega
      go_wp2_with (go_at_call 145; refine (impl_few _ _ _).mono ?_; rintro e w' ⟨rfl, rfl⟩)
      go_ret
      exact ⟨ret_bool hm.out.symm, hB1⟩

set_option maxHeartbeats 3200000 in
theorem spec_l22Ok (L : List RWarning) (A : Option Addr) (c B : Nat) (w : World) (hs : Sl w B A (flat RWarning.cells L)) (hB : B ≤ w.heap.size) (hok : ∀ a ∈ L, a.ok) (hl : L.length ≤ 1048576) :
    Calls Try.prog 72 #[.slice A L.length c] w fun e w' => e = .returned (.bool (vWarnsM L)) ∧ Below w.heap.size w w' := by
  have hs' := Lib.hid hs
  have hok' := Lib.hid hok
  clear hs hok
  go_enter Try.func72, Try.ntmps72
  go_wp2
  go_loopw [3] (fun i wr => ∃ k : Nat, i = .int .i64 k ∧ k ≤ L.length ∧ allTo (okWarn L) k = true ∧ Below w.heap.size w wr) (fun i _ => L.length - (intOf i).toNat)
  case atStart => exact ⟨0, rfl, Nat.zero_le _, rfl, Below.refl _ _⟩
  case round =>
    obtain ⟨k, rfl, hk, hv, hB1⟩ := hrel
    have hS1 := hB1.size
    have hv' := Lib.hid hv
    clear hv
    by_cases hlt : k < L.length
    · obtain ⟨b, o, rfl, hb, he⟩ := Sl.elem RWarning.len (by decide) (hs'.out.below (hB1.mono hB)) hlt
      have hsz := Lib.hid (hok'.out _ (List.getElem_mem hlt)).2.2.2.2.2.2.2
      have hg := Lib.hid (getD_at hlt)
      obtain ⟨a, ha⟩ : ∃ a, L[k] = a := ⟨_, rfl⟩
      rw [ha] at hg hsz he
      clear ha
      have d0 : wr.cell? ⟨b, o + k * 8, none⟩ = some (.int .i64 a.f0) := by have := he 0 _ rfl; simpa [Nat.add_assoc] using this
      have d1 : wr.cell? ⟨b, o + k * 8 + 1, none⟩ = some (.int .i64 a.f1) := by have := he 1 _ rfl; simpa [Nat.add_assoc] using this
      have d2 : wr.cell? ⟨b, o + k * 8 + 2, none⟩ = some (.int .i64 a.f2) := by have := he 2 _ rfl; simpa [Nat.add_assoc] using this
      have d3 : wr.cell? ⟨b, o + k * 8 + 3, none⟩ = some (.int .i64 a.f3) := by have := he 3 _ rfl; simpa [Nat.add_assoc] using this
      have d4 : wr.cell? ⟨b, o + k * 8 + 4, none⟩ = some (.int .i64 a.f4) := by have := he 4 _ rfl; simpa [Nat.add_assoc] using this
      have d5 : wr.cell? ⟨b, o + k * 8 + 5, none⟩ = some (.int .i64 a.f5) := by have := he 5 _ rfl; simpa [Nat.add_assoc] using this
      have d6 : wr.cell? ⟨b, o + k * 8 + 6, none⟩ = some (.int .i64 a.f6) := by have := he 6 _ rfl; simpa [Nat.add_assoc] using this
      have d7 : wr.cell? ⟨b, o + k * 8 + 7, none⟩ = some (.string a.f7) := by have := he 7 _ rfl; simpa [Nat.add_assoc] using this
      clear he
      have hbw : b < wr.heap.size := by omega
      have hbw' : b ≤ wr.heap.size := by omega
      cases hva : vWarn a.f0 a.f1 a.f2 a.f3 a.f4 a.f5 a.f6 a.f7
      · have hm := Lib.hid (vWarnsM_hit hlt (okWarn_bad hg.out hva))
        have hw : Hid (Wn wr b _ a.f0 a.f1 a.f2 a.f3 a.f4 a.f5 a.f6 a.f7) := Lib.hid ⟨hbw, d0, d1, d2, d3, d4, d5, d6, d7⟩
        go_wp2_with fail
        refine wp_region_grew (by kernel_rfl) (by kernel_rfl) ?_
        repeat (first | (go_big_quiet_step ((first | (go_at_call 142; exact grew_of (spec_l22One a.f0 a.f1 a.f2 a.f3 a.f4 a.f5 a.f6 a.f7 hsz.out _ _ _ (hw.out.on (Grew.below _))))))) | (quiet_step ((first | (go_at_call 142; exact grew_of (spec_l22One a.f0 a.f1 a.f2 a.f3 a.f4 a.f5 a.f6 a.f7 hsz.out _ _ _ (hw.out.on (Grew.below _))))))))
        refine wpQuiet_nil ?_
        rintro _ ⟨⟨w9, hb9⟩, rfl⟩
        try dsimp only
        obtain ⟨hc9, hf9⟩ := bcell hb9
        go_wp2
        go_ret
        exact ⟨ret_bool hm.out.symm, bnext hB1 (bnext (by go_grown) hb9)⟩
      rcases k with _ | m
      · simp only [Nat.zero_mul, Nat.add_zero] at d0 d1 d2 d3 d4 d5 d6 d7
        have hf2 := Lib.hid (allTo_step hv'.out (okWarn_zero hg.out hva))
        have hw : Hid (Wn wr b _ a.f0 a.f1 a.f2 a.f3 a.f4 a.f5 a.f6 a.f7) := Lib.hid ⟨hbw, d0, d1, d2, d3, d4, d5, d6, d7⟩
        go_wp2_with fail
        refine wp_region_grew (by kernel_rfl) (by kernel_rfl) ?_
        repeat (first | (go_big_quiet_step ((first | (go_at_call 142; exact grew_of (spec_l22One a.f0 a.f1 a.f2 a.f3 a.f4 a.f5 a.f6 a.f7 hsz.out _ _ _ (hw.out.on (Grew.below _))))))) | (quiet_step ((first | (go_at_call 142; exact grew_of (spec_l22One a.f0 a.f1 a.f2 a.f3 a.f4 a.f5 a.f6 a.f7 hsz.out _ _ _ (hw.out.on (Grew.below _))))))))
        refine wpQuiet_nil ?_
        rintro _ ⟨⟨w9, hb9⟩, rfl⟩
        try dsimp only
        obtain ⟨hc9, hf9⟩ := bcell hb9
        go_wp2
        go_roundw
        case rel => exact ⟨0 + 1, by go_num, by omega, hf2.out, bnext hB1 (bnext (by go_grown) hb9)⟩
        case measure => simp [intOf]; omega
      obtain ⟨b2, o2, e2, hb2, he2⟩ := Sl.elem RWarning.len (by decide) (hs'.out.below (hB1.mono hB)) (show m < L.length by omega)
      cases e2
      have hp := Lib.hid (getD_at (show m < L.length by omega))
      obtain ⟨p, hp'⟩ : ∃ p, L[m] = p := ⟨_, rfl⟩
      rw [hp'] at hp he2
      clear hp'
      have n0 : wr.cell? ⟨b, o + m * 8, none⟩ = some (.int .i64 p.f0) := by have := he2 0 _ rfl; simpa [Nat.add_assoc] using this
      clear he2
      have hst := Lib.hid (okWarn_step hg.out hp.out hva)
      have hpos : (0 : Int) < (m : Int) + 1 := by omega
      by_cases hgt : p.f0 < a.f0
      · have hf2 := Lib.hid (allTo_step hv'.out (hst.out.trans (decide_eq_true hgt)))
        have hge : decide (a.f0 ≤ p.f0) = false := decide_eq_false (by omega)
        clear hgt
        have hw : Hid (Wn wr b _ a.f0 a.f1 a.f2 a.f3 a.f4 a.f5 a.f6 a.f7) := Lib.hid ⟨hbw, d0, d1, d2, d3, d4, d5, d6, d7⟩
        go_wp2_with fail
        refine wp_region_grew (by kernel_rfl) (by kernel_rfl) ?_
        repeat (first | (go_big_quiet_step ((first | (go_at_call 142; exact grew_of (spec_l22One a.f0 a.f1 a.f2 a.f3 a.f4 a.f5 a.f6 a.f7 hsz.out _ _ _ (hw.out.on (Grew.below _))))))) | (quiet_step ((first | (go_at_call 142; exact grew_of (spec_l22One a.f0 a.f1 a.f2 a.f3 a.f4 a.f5 a.f6 a.f7 hsz.out _ _ _ (hw.out.on (Grew.below _))))))))
        refine wpQuiet_nil ?_
        rintro _ ⟨⟨w9, hb9⟩, rfl⟩
        try dsimp only
        obtain ⟨hc9, hf9⟩ := bcell hb9
        go_wp2
        go_roundw
        case rel => exact ⟨m + 1 + 1, by go_num, by omega, hf2.out, bnext hB1 (bnext (by go_grown) hb9)⟩
        case measure => simp [intOf]; omega
      · have hm := Lib.hid (vWarnsM_hit hlt (hst.out.trans (decide_eq_false hgt)))
        have hge : decide (a.f0 ≤ p.f0) = true := decide_eq_true (by omega)
        clear hgt
        have hw : Hid (Wn wr b _ a.f0 a.f1 a.f2 a.f3 a.f4 a.f5 a.f6 a.f7) := Lib.hid ⟨hbw, d0, d1, d2, d3, d4, d5, d6, d7⟩
        go_wp2_with fail
        refine wp_region_grew (by kernel_rfl) (by kernel_rfl) ?_
        repeat (first | (go_big_quiet_step ((first | (go_at_call 142; exact grew_of (spec_l22One a.f0 a.f1 a.f2 a.f3 a.f4 a.f5 a.f6 a.f7 hsz.out _ _ _ (hw.out.on (Grew.below _))))))) | (quiet_step ((first | (go_at_call 142; exact grew_of (spec_l22One a.f0 a.f1 a.f2 a.f3 a.f4 a.f5 a.f6 a.f7 hsz.out _ _ _ (hw.out.on (Grew.below _))))))))
        refine wpQuiet_nil ?_
        rintro _ ⟨⟨w9, hb9⟩, rfl⟩
        try dsimp only
        obtain ⟨hc9, hf9⟩ := bcell hb9
        go_wp2
        go_ret
        exact ⟨ret_bool hm.out.symm, bnext hB1 (bnext (by go_grown) hb9)⟩
    · obtain rfl : k = L.length := by omega
      have hm : Hid (vWarnsM L = decide ((L.length : Int) ≤ 32)) := by apply Lib.hid; unfold vWarnsM; rw [hv'.out]; simp; omega
      go_wp2
      go_ret
      exact ⟨ret_bool hm.out.symm, hB1⟩

end Go.Proofs.Ytlolkngklfabfaa
