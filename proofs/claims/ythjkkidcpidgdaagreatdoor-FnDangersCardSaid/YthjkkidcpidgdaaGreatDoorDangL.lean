/-
  Contracts of lists of dangers: what makes a list valid: the program's and the reference's. Each under the conditions that it states.
-/
import Derived.Test.YthjkkidcpidgdaaGreatDoorDangs
import Derived.Laws.Cover1
set_option linter.unusedVariables false
set_option linter.unnecessarySimpa false
set_option maxRecDepth 100000
set_option linter.unusedSimpArgs false
namespace Go.Proofs.YthjkkidcpidgdaaGreatDoor
open Go.RowKit BigFrame

/-- The order of texts, byte by byte. -/
def ltS (a b : ByteArray) : Bool := Op.bytesLess a.toList b.toList
theorem ltS_yes {a b : ByteArray} (h : ltS a b = true) : Op.bytesLess a.toList b.toList = true := h
theorem ltS_no {a b : ByteArray} (h : ltS a b = false) : Op.bytesLess a.toList b.toList = false := h
def RDanger.v (a : RDanger) : Bool := vDanger a.f0 a.f1 a.f2 a.f3
/-- Number k is valid, and greater than the one ahead of it. -/
def okDang (L : List RDanger) (k : Nat) : Bool := (L.getD k default).v && (decide (k = 0) || ltS (L.getD (k - 1) default).f0 (L.getD k default).f0)
def vDangsM (L : List RDanger) : Bool := allTo (okDang L) L.length && decide (L.length ≤ 24)
theorem okDang_bad {L : List RDanger} {k : Nat} {a : RDanger} (hg : L.getD k default = a) (h : vDanger a.f0 a.f1 a.f2 a.f3 = false) : okDang L k = false := by
  unfold okDang RDanger.v; rw [hg, h]; rfl
theorem okDang_zero {L : List RDanger} {a : RDanger} (hg : L.getD 0 default = a) (h : vDanger a.f0 a.f1 a.f2 a.f3 = true) : okDang L 0 = true := by
  unfold okDang RDanger.v; rw [hg, h]; rfl
theorem okDang_step {L : List RDanger} {m : Nat} {a p : RDanger} (hg : L.getD (m + 1) default = a) (hp : L.getD m default = p) (h : vDanger a.f0 a.f1 a.f2 a.f3 = true) : okDang L (m + 1) = ltS p.f0 a.f0 := by
  unfold okDang RDanger.v; rw [hg, Nat.add_sub_cancel, hp, h]; simp
theorem vDangsM_hit {L : List RDanger} {k : Nat} (hk : k < L.length) (h : okDang L k = false) : vDangsM L = false := by
  unfold vDangsM; rw [allTo_hit hk h]; rfl


set_option maxHeartbeats 2400000 in
theorem impl_ValidDangers (L : List RDanger) (A : Option Addr) (c B : Nat) (w : World) (hs : Sl w B A (flat RDanger.cells L)) (hB : B ≤ w.heap.size) (hok : ∀ a ∈ L, a.ok) (hl : L.length ≤ 1048576) :
    Calls Tryz.prog 34 #[.slice A L.length c] w fun e w' => e = .returned (.bool (vDangsM L)) ∧ Below w.heap.size w w' := by
  have hs' := Lib.hid hs
  have hok' := Lib.hid hok
  clear hs hok
  go_enter Tryz.func34, Tryz.ntmps34
  go_wp2
  go_loopw [7] (fun i wr => ∃ k : Nat, i = .int .i64 k ∧ k ≤ L.length ∧ allTo (okDang L) k = true ∧ Below w.heap.size w wr) (fun i _ => L.length - (intOf i).toNat)
  case atStart => exact ⟨0, rfl, Nat.zero_le _, rfl, Below.refl _ _⟩
  case round =>
    obtain ⟨k, rfl, hk, hv, hB1⟩ := hrel
    have hS1 := hB1.size
    have hv' := Lib.hid hv
    clear hv
    by_cases hlt : k < L.length
    · obtain ⟨b, o, rfl, hb, he⟩ := Sl.elem RDanger.len (by decide) (hs'.out.below (hB1.mono hB)) hlt
      have hsz := Lib.hid (hok'.out _ (List.getElem_mem hlt)).1
      have hg := Lib.hid (getD_at hlt)
      obtain ⟨a, ha⟩ : ∃ a, L[k] = a := ⟨_, rfl⟩
      rw [ha] at hg hsz he
      clear ha
      have d0 : wr.cell? ⟨b, o + k * 4, none⟩ = some (.string a.f0) := by have := he 0 _ rfl; simpa [Nat.add_assoc] using this
      have d1 : wr.cell? ⟨b, o + k * 4 + 1, none⟩ = some (.int .i64 a.f1) := by have := he 1 _ rfl; simpa [Nat.add_assoc] using this
      have d2 : wr.cell? ⟨b, o + k * 4 + 2, none⟩ = some (.int .i64 a.f2) := by have := he 2 _ rfl; simpa [Nat.add_assoc] using this
      have d3 : wr.cell? ⟨b, o + k * 4 + 3, none⟩ = some (.int .i64 a.f3) := by have := he 3 _ rfl; simpa [Nat.add_assoc] using this
      clear he
      have hbw : b < wr.heap.size := by omega
      have hbw' : b ≤ wr.heap.size := by omega
      cases hva : vDanger a.f0 a.f1 a.f2 a.f3
      · have hm := Lib.hid (vDangsM_hit hlt (okDang_bad hg.out hva))
        go_wp2_with fail
        refine wp_region_grew (by kernel_rfl) (by kernel_rfl) ?_
        repeat (first | (go_big_quiet_step ((first | (go_at_call 40; exact grew_of (impl_ValidDanger _ hsz.out _ _ _ _))))) | (quiet_step ((first | (go_at_call 40; exact grew_of (impl_ValidDanger _ hsz.out _ _ _ _))))))
        refine wpQuiet_nil ?_
        rintro _ ⟨⟨w9, hb9⟩, rfl⟩
        try dsimp only
        obtain ⟨hc9, hf9⟩ := bcell hb9
        go_wp2
        go_ret
        exact ⟨ret_bool hm.out.symm, bnext hB1 (bnext (by go_grown) hb9)⟩
      rcases k with _ | m
      · simp only [Nat.zero_mul, Nat.add_zero] at d0 d1 d2 d3
        have hf2 := Lib.hid (allTo_step hv'.out (okDang_zero hg.out hva))
        go_wp2_with fail
        refine wp_region_grew (by kernel_rfl) (by kernel_rfl) ?_
        repeat (first | (go_big_quiet_step ((first | (go_at_call 40; exact grew_of (impl_ValidDanger _ hsz.out _ _ _ _))))) | (quiet_step ((first | (go_at_call 40; exact grew_of (impl_ValidDanger _ hsz.out _ _ _ _))))))
        refine wpQuiet_nil ?_
        rintro _ ⟨⟨w9, hb9⟩, rfl⟩
        try dsimp only
        obtain ⟨hc9, hf9⟩ := bcell hb9
        go_wp2
        go_roundw
        case rel => exact ⟨0 + 1, by go_num, by omega, hf2.out, bnext hB1 (bnext (by go_grown) hb9)⟩
        case measure => simp [intOf]; omega
      obtain ⟨b2, o2, e2, hb2, he2⟩ := Sl.elem RDanger.len (by decide) (hs'.out.below (hB1.mono hB)) (show m < L.length by omega)
      cases e2
      have hp := Lib.hid (getD_at (show m < L.length by omega))
      obtain ⟨p, hp'⟩ : ∃ p, L[m] = p := ⟨_, rfl⟩
      rw [hp'] at hp he2
      clear hp'
      have n0 : wr.cell? ⟨b, o + m * 4, none⟩ = some (.string p.f0) := by have := he2 0 _ rfl; simpa [Nat.add_assoc] using this
      clear he2
      have hst := Lib.hid (okDang_step hg.out hp.out hva)
      have hpos : (0 : Int) < (m : Int) + 1 := by omega
      cases hgt : ltS p.f0 a.f0
      rotate_left
      · have hf2 := Lib.hid (allTo_step hv'.out (hst.out.trans hgt))
        have hge := ltS_yes hgt
        clear hgt
        go_wp2_with fail
        refine wp_region_grew (by kernel_rfl) (by kernel_rfl) ?_
        repeat (first | (go_big_quiet_step ((first | (go_at_call 40; exact grew_of (impl_ValidDanger _ hsz.out _ _ _ _))))) | (quiet_step ((first | (go_at_call 40; exact grew_of (impl_ValidDanger _ hsz.out _ _ _ _))))))
        refine wpQuiet_nil ?_
        rintro _ ⟨⟨w9, hb9⟩, rfl⟩
        try dsimp only
        obtain ⟨hc9, hf9⟩ := bcell hb9
        go_wp2
        go_roundw
        case rel => exact ⟨m + 1 + 1, by go_num, by omega, hf2.out, bnext hB1 (bnext (by go_grown) hb9)⟩
        case measure => simp [intOf]; omega
      · have hm := Lib.hid (vDangsM_hit hlt (hst.out.trans hgt))
        have hge := ltS_no hgt
        clear hgt
        go_wp2_with fail
        refine wp_region_grew (by kernel_rfl) (by kernel_rfl) ?_
        repeat (first | (go_big_quiet_step ((first | (go_at_call 40; exact grew_of (impl_ValidDanger _ hsz.out _ _ _ _))))) | (quiet_step ((first | (go_at_call 40; exact grew_of (impl_ValidDanger _ hsz.out _ _ _ _))))))
        refine wpQuiet_nil ?_
        rintro _ ⟨⟨w9, hb9⟩, rfl⟩
        try dsimp only
        obtain ⟨hc9, hf9⟩ := bcell hb9
        go_wp2
        go_ret
        exact ⟨ret_bool hm.out.symm, bnext hB1 (bnext (by go_grown) hb9)⟩
    · obtain rfl : k = L.length := by omega
      have hm : Hid (vDangsM L = decide ((L.length : Int) ≤ 24)) := by apply Lib.hid; unfold vDangsM; rw [hv'.out]; simp; omega
      go_wp2_with (go_at_call 60; refine (impl_few _ _ _).mono ?_; rintro e w' ⟨rfl, rfl⟩)
      go_ret
      exact ⟨ret_bool hm.out.symm, hB1⟩

set_option maxHeartbeats 2400000 in
theorem spec_l14Ok (L : List RDanger) (A : Option Addr) (c B : Nat) (w : World) (hs : Sl w B A (flat RDanger.cells L)) (hB : B ≤ w.heap.size) (hok : ∀ a ∈ L, a.ok) (hl : L.length ≤ 1048576) :
    Calls Tryz.prog 100 #[.slice A L.length c] w fun e w' => e = .returned (.bool (vDangsM L)) ∧ Below w.heap.size w w' := by
  have hs' := Lib.hid hs
  have hok' := Lib.hid hok
  clear hs hok
  go_enter Tryz.func100, Tryz.ntmps100
  go_wp2
  go_loopw [3] (fun i wr => ∃ k : Nat, i = .int .i64 k ∧ k ≤ L.length ∧ allTo (okDang L) k = true ∧ Below w.heap.size w wr) (fun i _ => L.length - (intOf i).toNat)
  case atStart => exact ⟨0, rfl, Nat.zero_le _, rfl, Below.refl _ _⟩
  case round =>
    obtain ⟨k, rfl, hk, hv, hB1⟩ := hrel
    have hS1 := hB1.size
    have hv' := Lib.hid hv
    clear hv
    by_cases hlt : k < L.length
    · obtain ⟨b, o, rfl, hb, he⟩ := Sl.elem RDanger.len (by decide) (hs'.out.below (hB1.mono hB)) hlt
      have hsz := Lib.hid (hok'.out _ (List.getElem_mem hlt)).1
      have hg := Lib.hid (getD_at hlt)
      obtain ⟨a, ha⟩ : ∃ a, L[k] = a := ⟨_, rfl⟩
      rw [ha] at hg hsz he
      clear ha
      have d0 : wr.cell? ⟨b, o + k * 4, none⟩ = some (.string a.f0) := by have := he 0 _ rfl; simpa [Nat.add_assoc] using this
      have d1 : wr.cell? ⟨b, o + k * 4 + 1, none⟩ = some (.int .i64 a.f1) := by have := he 1 _ rfl; simpa [Nat.add_assoc] using this
      have d2 : wr.cell? ⟨b, o + k * 4 + 2, none⟩ = some (.int .i64 a.f2) := by have := he 2 _ rfl; simpa [Nat.add_assoc] using this
      have d3 : wr.cell? ⟨b, o + k * 4 + 3, none⟩ = some (.int .i64 a.f3) := by have := he 3 _ rfl; simpa [Nat.add_assoc] using this
      clear he
      have hbw : b < wr.heap.size := by omega
      have hbw' : b ≤ wr.heap.size := by omega
      cases hva : vDanger a.f0 a.f1 a.f2 a.f3
      · have hm := Lib.hid (vDangsM_hit hlt (okDang_bad hg.out hva))
        have hw : Hid (Dn wr b _ a.f0 a.f1 a.f2 a.f3) := Lib.hid ⟨hbw, d0, d1, d2, d3⟩
        go_wp2_with fail
        refine wp_region_grew (by kernel_rfl) (by kernel_rfl) ?_
        repeat (first | (go_big_quiet_step ((first | (go_at_call 49; exact grew_of (spec_l14One a.f0 hsz.out a.f1 a.f2 a.f3 _ _ _ (hw.out.on (Grew.below _))))))) | (quiet_step ((first | (go_at_call 49; exact grew_of (spec_l14One a.f0 hsz.out a.f1 a.f2 a.f3 _ _ _ (hw.out.on (Grew.below _))))))))
        refine wpQuiet_nil ?_
        rintro _ ⟨⟨w9, hb9⟩, rfl⟩
        try dsimp only
        obtain ⟨hc9, hf9⟩ := bcell hb9
        go_wp2
        go_ret
        exact ⟨ret_bool hm.out.symm, bnext hB1 (bnext (by go_grown) hb9)⟩
      rcases k with _ | m
      · simp only [Nat.zero_mul, Nat.add_zero] at d0 d1 d2 d3
        have hf2 := Lib.hid (allTo_step hv'.out (okDang_zero hg.out hva))
        have hw : Hid (Dn wr b _ a.f0 a.f1 a.f2 a.f3) := Lib.hid ⟨hbw, d0, d1, d2, d3⟩
        go_wp2_with fail
        refine wp_region_grew (by kernel_rfl) (by kernel_rfl) ?_
        repeat (first | (go_big_quiet_step ((first | (go_at_call 49; exact grew_of (spec_l14One a.f0 hsz.out a.f1 a.f2 a.f3 _ _ _ (hw.out.on (Grew.below _))))))) | (quiet_step ((first | (go_at_call 49; exact grew_of (spec_l14One a.f0 hsz.out a.f1 a.f2 a.f3 _ _ _ (hw.out.on (Grew.below _))))))))
        refine wpQuiet_nil ?_
        rintro _ ⟨⟨w9, hb9⟩, rfl⟩
        try dsimp only
        obtain ⟨hc9, hf9⟩ := bcell hb9
        go_wp2
        go_roundw
        case rel => exact ⟨0 + 1, by go_num, by omega, hf2.out, bnext hB1 (bnext (by go_grown) hb9)⟩
        case measure => simp [intOf]; omega
      obtain ⟨b2, o2, e2, hb2, he2⟩ := Sl.elem RDanger.len (by decide) (hs'.out.below (hB1.mono hB)) (show m < L.length by omega)
      cases e2
      have hp := Lib.hid (getD_at (show m < L.length by omega))
      obtain ⟨p, hp'⟩ : ∃ p, L[m] = p := ⟨_, rfl⟩
      rw [hp'] at hp he2
      clear hp'
      have n0 : wr.cell? ⟨b, o + m * 4, none⟩ = some (.string p.f0) := by have := he2 0 _ rfl; simpa [Nat.add_assoc] using this
      clear he2
      have hst := Lib.hid (okDang_step hg.out hp.out hva)
      have hpos : (0 : Int) < (m : Int) + 1 := by omega
      cases hgt : ltS p.f0 a.f0
      rotate_left
      · have hf2 := Lib.hid (allTo_step hv'.out (hst.out.trans hgt))
        have hge := ltS_yes hgt
        clear hgt
        have hw : Hid (Dn wr b _ a.f0 a.f1 a.f2 a.f3) := Lib.hid ⟨hbw, d0, d1, d2, d3⟩
        go_wp2_with fail
        refine wp_region_grew (by kernel_rfl) (by kernel_rfl) ?_
        repeat (first | (go_big_quiet_step ((first | (go_at_call 49; exact grew_of (spec_l14One a.f0 hsz.out a.f1 a.f2 a.f3 _ _ _ (hw.out.on (Grew.below _))))))) | (quiet_step ((first | (go_at_call 49; exact grew_of (spec_l14One a.f0 hsz.out a.f1 a.f2 a.f3 _ _ _ (hw.out.on (Grew.below _))))))))
        refine wpQuiet_nil ?_
        rintro _ ⟨⟨w9, hb9⟩, rfl⟩
        try dsimp only
        obtain ⟨hc9, hf9⟩ := bcell hb9
        go_wp2
        go_roundw
        case rel => exact ⟨m + 1 + 1, by go_num, by omega, hf2.out, bnext hB1 (bnext (by go_grown) hb9)⟩
        case measure => simp [intOf]; omega
      · have hm := Lib.hid (vDangsM_hit hlt (hst.out.trans hgt))
        have hge := ltS_no hgt
        clear hgt
        have hw : Hid (Dn wr b _ a.f0 a.f1 a.f2 a.f3) := Lib.hid ⟨hbw, d0, d1, d2, d3⟩
        go_wp2_with fail
        refine wp_region_grew (by kernel_rfl) (by kernel_rfl) ?_
        repeat (first | (go_big_quiet_step ((first | (go_at_call 49; exact grew_of (spec_l14One a.f0 hsz.out a.f1 a.f2 a.f3 _ _ _ (hw.out.on (Grew.below _))))))) | (quiet_step ((first | (go_at_call 49; exact grew_of (spec_l14One a.f0 hsz.out a.f1 a.f2 a.f3 _ _ _ (hw.out.on (Grew.below _))))))))
        refine wpQuiet_nil ?_
        rintro _ ⟨⟨w9, hb9⟩, rfl⟩
        try dsimp only
        obtain ⟨hc9, hf9⟩ := bcell hb9
        go_wp2
        go_ret
        exact ⟨ret_bool hm.out.symm, bnext hB1 (bnext (by go_grown) hb9)⟩
    · obtain rfl : k = L.length := by omega
      have hm : Hid (vDangsM L = decide ((L.length : Int) ≤ 24)) := by apply Lib.hid; unfold vDangsM; rw [hv'.out]; simp; omega
      go_wp2
      go_ret
      exact ⟨ret_bool hm.out.symm, hB1⟩

end Go.Proofs.YthjkkidcpidgdaaGreatDoor
