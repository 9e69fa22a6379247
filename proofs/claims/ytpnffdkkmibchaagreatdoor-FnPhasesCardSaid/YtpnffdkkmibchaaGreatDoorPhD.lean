/-
  Contracts of characters of light that are drawn: colors, times, the least period: the reference's. Each under the conditions that it states.
-/
import Derived.Test.YtpnffdkkmibchaaGreatDoorPhT
import Derived.Test.YtpnffdkkmibchaaGreatDoorDraw2
import Derived.Test.YtpnffdkkmibchaaGreatDoorInts
import Derived.Maps.AppendAt
set_option linter.unusedVariables false
set_option linter.unnecessarySimpa false
set_option maxRecDepth 100000
set_option linter.unusedSimpArgs false
namespace Go.Proofs.YtpnffdkkmibchaaGreatDoor
open Go.RowKit BigFrame Go.Deep

theorem src_textP (B g K b o c : Nat) (L : List ByteArray) (w : World) (hl : 1 ≤ L.length) (hl2 : L.length ≤ 1000) (hs : SrcAt w B g K) (hK : K + 2 ≤ 1000000000) (hb : b < w.heap.size) (hne : b ≠ g) (hc : ∀ j u, (L.map Value.string)[j]? = some u → w.cell? ⟨b, o + j, none⟩ = some u) :
    Calls Tryz.prog 42 #[.pointer (some ⟨g, 0, none⟩), .slice (some ⟨b, o, none⟩) L.length c] w fun e w' => ∃ r : ByteArray, r ∈ L ∧ e = .returned (.string r) ∧ w.grownBy w' (some g) ∧ SrcAt w' B g (K + 2) := by
  have hC := Lib.hid hc
  clear hc
  go_enter Tryz.func42, Tryz.ntmps42
  go_wp2_with fail
  refine (src_pick B g K _ _ (by omega) (by omega) hs hK).mono ?_
  rintro e w1 ⟨r, ⟨hr, hr2⟩, rfl, hg1, hs1⟩
  obtain ⟨k, rfl⟩ := Int.eq_ofNat_of_zero_le hr
  have hk : k < L.length := by omega
  obtain ⟨z, hz⟩ : ∃ z, L[k] = z := ⟨_, rfl⟩
  have hmem : z ∈ L := hz ▸ List.getElem_mem hk
  have hcell : w1.cell? ⟨b, o + k, none⟩ = some (.string z) := by
    rw [hg1.cell_far ⟨b, o + k, none⟩ hb (by simp; exact hne)]
    exact hC.out k _ (by rw [List.getElem?_map, List.getElem?_eq_getElem hk, hz]; rfl)
  go_wp2
  go_ret
  exact ⟨z, hmem, rfl, hg1, hs1⟩
def colS : List ByteArray := [⟨#[87]⟩, ⟨#[87]⟩, ⟨#[82]⟩, ⟨#[71]⟩, ⟨#[89]⟩, ⟨#[87, 82]⟩, ⟨#[82, 71]⟩, ⟨#[87, 82, 71]⟩, ⟨#[87, 71]⟩]
theorem colS_size : ∀ r ∈ colS, 1 ≤ r.size ∧ r.size ≤ 3 := by decide
theorem src_colors (B g K : Nat) (w : World) (hs : SrcAt w B g K) (hBw : B ≤ w.heap.size) (hK : K + 2 ≤ 1000000000) :
    Calls Tryz.prog 74 #[.pointer (some ⟨g, 0, none⟩)] w fun e w' => ∃ r : ByteArray, (1 ≤ r.size ∧ r.size ≤ 3) ∧ e = .returned (.string r) ∧ w.grownBy w' (some g) ∧ SrcAt w' B g (K + 2) := by
  have hgl := hs.2.1
  have hal : Below w.heap.size w (w.alloc (.cells (colS.map Value.string).toArray 9)) := by go_grown
  go_enter Tryz.func74, Tryz.ntmps74
  go_wp2_with fail
  refine (src_textP B g K w.heap.size 0 9 colS _ (by decide) (by decide) (hs.on hal) (by omega) (by simp) (by omega) (fun j u hu => by rw [Nat.zero_add, World.cell?_alloc_new]; simpa [colS] using hu)).mono ?_
  rintro e w1 ⟨r, hr, rfl, hg1, hs1⟩
  have hz := colS_size r hr
  have hgr := World.grownBy.trans (World.grownBy.trans (World.grownBy.refl w (some g)) ⟨hal.os, hal.tape, hal.output, hal.size, fun k hk _ => hal.block k hk⟩) hg1
  go_wp2
  go_ret
  exact ⟨r, hz, rfl, hgr, hs1⟩
theorem spec_GapK (k : Int) (w : World) (hk : 1 ≤ k ∧ k ≤ 8) : Calls Tryz.prog 81 #[.int .i64 k] w fun e w' => ∃ r : Int, (3 ≤ r ∧ r ≤ 20) ∧ e = .returned (.int .i64 r) ∧ w = w' := by
  rcases (by omega : k = 1 ∨ k = 2 ∨ k = 3 ∨ k = 4 ∨ k = 5 ∨ k = 6 ∨ k = 7 ∨ k = 8) with rfl | rfl | rfl | rfl | rfl | rfl | rfl | rfl <;> (go_enter Tryz.func81, Tryz.ntmps81; go_wp2; go_ret; exact ⟨_, by decide, rfl, rfl⟩)
theorem spec_FlashK (k : Int) (w : World) (hk : 1 ≤ k ∧ k ≤ 8) : Calls Tryz.prog 104 #[.int .i64 k] w fun e w' => ∃ r : Int, (2 ≤ r ∧ r ≤ 20) ∧ e = .returned (.int .i64 r) ∧ w = w' := by
  rcases (by omega : k = 1 ∨ k = 2 ∨ k = 3 ∨ k = 4 ∨ k = 5 ∨ k = 6 ∨ k = 7 ∨ k = 8) with rfl | rfl | rfl | rfl | rfl | rfl | rfl | rfl <;> (go_enter Tryz.func104, Tryz.ntmps104; go_wp2; go_ret; exact ⟨_, by decide, rfl, rfl⟩)
/-- What the functions read of a character: its kind, its group, its letter. -/
structure ChA (w : World) (b : Nat) (k : Int) (A : Option Addr) (n c : Nat) (L : ByteArray) : Prop where
  hb : b < w.heap.size
  d0 : w.cell? ⟨b, 0, none⟩ = some (.int .i64 k)
  d1 : w.cell? ⟨b, 1, none⟩ = some (.slice A n c)
  d2 : w.cell? ⟨b, 2, none⟩ = some (.string L)
theorem ChA.on {w w' : World} {b : Nat} {k : Int} {A : Option Addr} {n c : Nat} {L : ByteArray} (h : ChA w b k A n c L) (hb : Below w.heap.size w w') : ChA w' b k A n c L := by
  obtain ⟨hc, _⟩ := bcell hb
  exact ⟨Nat.lt_of_lt_of_le h.hb hb.size, (hc _ _ h.hb).trans h.d0, (hc _ _ h.hb).trans h.d1, (hc _ _ h.hb).trans h.d2⟩
theorem spec_SteadyK (b : Nat) (k : Int) (A : Option Addr) (n c : Nat) (L : ByteArray) (w : World) (hk : 1 ≤ k ∧ k ≤ 8) (hn : n ≤ 1000) (h : ChA w b k A n c L) : Calls Tryz.prog 77 #[.pointer (some ⟨b, 0, none⟩)] w fun e w' => ∃ st : Bool, (k = 3 → st = false) ∧ e = .returned (.bool st) ∧ w = w' := by
  obtain ⟨hb, d0, d1, d2⟩ := h
  by_cases h0 : n = 0
  · subst h0
    rcases (by omega : k = 1 ∨ k = 2 ∨ k = 3 ∨ k = 4 ∨ k = 5 ∨ k = 6 ∨ k = 7 ∨ k = 8) with rfl | rfl | rfl | rfl | rfl | rfl | rfl | rfl <;> (go_enter Tryz.func77, Tryz.ntmps77; go_wp2; go_ret; exact ⟨_, by decide, rfl, rfl⟩)
  · have hne : ((n : Int) == 0) = false := beq_eq_false_iff_ne.2 (by omega)
    rcases (by omega : k = 1 ∨ k = 2 ∨ k = 3 ∨ k = 4 ∨ k = 5 ∨ k = 6 ∨ k = 7 ∨ k = 8) with rfl | rfl | rfl | rfl | rfl | rfl | rfl | rfl <;> (go_enter Tryz.func77, Tryz.ntmps77; go_wp2; go_ret; exact ⟨_, by decide, rfl, rfl⟩)
theorem spec_TotalK (T : List Int) (A : Option Addr) (c B : Nat) (w : World) (hs : Sl w B A (ints T)) (hB : B ≤ w.heap.size) (hT : ∀ t ∈ T, 0 ≤ t ∧ t ≤ 100) (hl : T.length ≤ 100) : Calls Tryz.prog 80 #[.slice A T.length c] w fun e w' => ∃ s : Int, (0 ≤ s ∧ s ≤ 10000) ∧ e = .returned (.int .i64 s) ∧ Below w.heap.size w w' := by
  have hs' := Lib.hid hs
  have hT' := Lib.hid hT
  clear hs hT
  go_enter Tryz.func80, Tryz.ntmps80
  go_wp2
  go_loopw [3, 4] (fun v i wr => ∃ (k : Nat) (s : Int), v = .int .i64 s ∧ i = .int .i64 k ∧ k ≤ T.length ∧ (0 ≤ s ∧ s ≤ 100 * k) ∧ Below w.heap.size w wr) (fun _ i _ => T.length - (intOf i).toNat)
  case atStart => exact ⟨0, 0, rfl, rfl, Nat.zero_le _, by omega, by go_grown⟩
  case round =>
    obtain ⟨k, s, rfl, rfl, hk, hsb, hB1⟩ := hrel
    have hS1 := hB1.size
    by_cases hlt : k < T.length
    · obtain ⟨b, o, rfl, hbb, hc⟩ := (hs'.out.below (hB1.mono hB)) (by intro e; unfold ints at e; rw [List.map_eq_nil_iff] at e; subst e; simp at hlt)
      have d0 := hc k _ (ints_at hlt)
      have hz := hT'.out _ (List.getElem_mem hlt)
      have hbw : b < wr.heap.size := by omega
      obtain ⟨z, hz2⟩ : ∃ z, T[k] = z := ⟨_, rfl⟩
      rw [hz2] at d0 hz
      clear hc hz2
      go_wp2
      go_roundw
      case rel => exact ⟨k + 1, s + z, rfl, by go_num, by omega, by omega, hB1⟩
      case measure => simp [intOf]; omega
    · obtain rfl : k = T.length := by omega
      go_wp2
      go_ret
      exact ⟨s, by omega, rfl, hB1⟩
theorem spec_SumK (T : List Int) (A : Option Addr) (c B : Nat) (w : World) (hs : Sl w B A (ints T)) (hB : B ≤ w.heap.size) (hT : ∀ t ∈ T, 0 ≤ t ∧ t ≤ 100) (hl : T.length ≤ 100) : Calls Tryz.prog 101 #[.slice A T.length c] w fun e w' => ∃ s : Int, (0 ≤ s ∧ s ≤ 10000) ∧ e = .returned (.int .i64 s) ∧ Below w.heap.size w w' := by
  have hs' := Lib.hid hs
  have hT' := Lib.hid hT
  clear hs hT
  by_cases h0 : T.length = 0
  · rw [h0]
    go_enter Tryz.func101, Tryz.ntmps101
    go_wp2
    go_ret
    exact ⟨1, by omega, rfl, Below.refl _ _⟩
  have hne : ((T.length : Int) == 0) = false := beq_eq_false_iff_ne.2 (by omega)
  go_enter Tryz.func101, Tryz.ntmps101
  go_wp2
  go_loopw [3, 4] (fun v i wr => ∃ (k : Nat) (s : Int), v = .int .i64 s ∧ i = .int .i64 k ∧ k ≤ T.length ∧ (0 ≤ s ∧ s ≤ 100 * k) ∧ Below w.heap.size w wr) (fun _ i _ => T.length - (intOf i).toNat)
  case atStart => exact ⟨0, 0, rfl, rfl, Nat.zero_le _, by omega, by go_grown⟩
  case round =>
    obtain ⟨k, s, rfl, rfl, hk, hsb, hB1⟩ := hrel
    have hS1 := hB1.size
    by_cases hlt : k < T.length
    · obtain ⟨b, o, rfl, hbb, hc⟩ := (hs'.out.below (hB1.mono hB)) (by intro e; unfold ints at e; rw [List.map_eq_nil_iff] at e; subst e; simp at hlt)
      have d0 := hc k _ (ints_at hlt)
      have hz := hT'.out _ (List.getElem_mem hlt)
      have hbw : b < wr.heap.size := by omega
      obtain ⟨z, hz2⟩ : ∃ z, T[k] = z := ⟨_, rfl⟩
      rw [hz2] at d0 hz
      clear hc hz2
      go_wp2
      go_roundw
      case rel => exact ⟨k + 1, s + z, rfl, by go_num, by omega, by omega, hB1⟩
      case measure => simp [intOf]; omega
    · obtain rfl : k = T.length := by omega
      go_wp2
      go_ret
      exact ⟨s, by omega, rfl, hB1⟩
/-- Some truth value is returned. -/
def anyB (e : Ending) : Prop := ∃ b : Bool, e = .returned (.bool b)
set_option maxHeartbeats 800000 in
theorem spec_GroupK (T : List Int) (A : Option Addr) (c B : Nat) (w : World) (hs : Sl w B A (ints T)) (hB : B ≤ w.heap.size) (hT : ∀ t ∈ T, 1 ≤ t ∧ t ≤ 9) (hl : T.length ≤ 4) : Calls Tryz.prog 75 #[.slice A T.length c] w fun e w' => anyB e ∧ Below w.heap.size w w' := by
  have hlI : (T.length : Int) ≤ 4 := by omega
  have hs' := Lib.hid hs
  have hT' := Lib.hid hT
  clear hs hT
  go_enter Tryz.func75, Tryz.ntmps75
  go_wp2
  go_loopw [3] (fun i wr => ∃ (k : Nat), i = .int .i64 k ∧ k ≤ T.length ∧ Below w.heap.size w wr) (fun i _ => T.length - (intOf i).toNat)
  case atStart => exact ⟨0, rfl, Nat.zero_le _, by go_grown⟩
  case round =>
    obtain ⟨k, rfl, hk, hB1⟩ := hrel
    have hS1 := hB1.size
    by_cases hlt : k < T.length
    · obtain ⟨b, o, rfl, hbb, hc⟩ := (hs'.out.below (hB1.mono hB)) (by intro e; unfold ints at e; rw [List.map_eq_nil_iff] at e; subst e; simp at hlt)
      have d0 := hc k _ (ints_at hlt)
      have hz := hT'.out _ (List.getElem_mem hlt)
      have hbw : b < wr.heap.size := by omega
      obtain ⟨z, hz2⟩ : ∃ z, T[k] = z := ⟨_, rfl⟩
      rw [hz2] at d0 hz
      have hin : inB z 1 9 = true := inB_mk hz.1 hz.2
      clear hc hz2
      go_wp2_with (go_at_call 100; refine (in_any _ _ _ _).mono ?_; rintro e w' ⟨rfl, rfl⟩)
      go_roundw
      case rel => exact ⟨k + 1, by go_num, by omega, hB1⟩
      case measure => simp [intOf]; omega
    · obtain rfl : k = T.length := by omega
      have hT2 := Lib.hid (fun (t : Int) (ht : t ∈ T) => show 0 ≤ t ∧ t ≤ 100 by have := hT'.out t ht; omega)
      have hsw := Lib.hid (hs'.out.below (hB1.mono hB))
      by_cases h1 : T.length = 1
      · obtain ⟨b, o, rfl, hbb, hc⟩ := hsw.out (by intro e; unfold ints at e; rw [List.map_eq_nil_iff] at e; subst e; simp at h1)
        have d0 := hc 0 _ (ints_at (by omega))
        rw [Nat.add_zero] at d0
        have hbw : b < wr.heap.size := by omega
        obtain ⟨z, hz2⟩ : ∃ z, T[0] = z := ⟨_, rfl⟩
        rw [hz2] at d0
        have h1' : ((T.length : Int) == 1) = true := beq_iff_eq.2 (by omega)
        have h1p : 0 < T.length := by omega
        clear hc hz2 h1
        by_cases hz1 : z = 1
        · subst hz1
          go_wp2_with fail
          go_ret
          exact ⟨⟨_, rfl⟩, hB1⟩
        · have hz3 : (z == 1) = false := beq_eq_false_iff_ne.2 hz1
          go_wp2_with fail
          refine (spec_SumK T _ c B _ hsw.out (Nat.le_trans hB hB1.size) hT2.out (by omega)).mono ?_
          rintro e w2 ⟨s, hs2, rfl, hb2⟩
          go_wp2_with fail
          go_ret
          exact ⟨⟨_, rfl⟩, bnext hB1 hb2⟩
      · have h1' : ((T.length : Int) == 1) = false := beq_eq_false_iff_ne.2 (by omega)
        go_wp2_with fail
        refine (spec_SumK T _ c B _ hsw.out (Nat.le_trans hB hB1.size) hT2.out (by omega)).mono ?_
        rintro e w2 ⟨s, hs2, rfl, hb2⟩
        go_wp2_with fail
        go_ret
        exact ⟨⟨_, rfl⟩, bnext hB1 hb2⟩
theorem spec_RestK (b : Nat) (k : Int) (A : Option Addr) (n c : Nat) (L : ByteArray) (w : World) (hk : 1 ≤ k ∧ k ≤ 8) (hn : n ≤ 1000) (h : ChA w b k A n c L) : Calls Tryz.prog 102 #[.pointer (some ⟨b, 0, none⟩)] w fun e w' => ∃ r : Int, (0 ≤ r ∧ r ≤ 100) ∧ e = .returned (.int .i64 r) ∧ w = w' := by
  obtain ⟨hb, d0, d1, d2⟩ := h
  by_cases h6 : k = 6 ∨ k = 7 ∨ k = 8
  · rcases h6 with rfl | rfl | rfl <;> (go_enter Tryz.func102, Tryz.ntmps102; go_wp2; go_ret; exact ⟨_, by decide, rfl, rfl⟩)
  have e6 : (k == 6) = false := beq_eq_false_iff_ne.2 (by omega)
  have e7 : (k == 7) = false := beq_eq_false_iff_ne.2 (by omega)
  have e8 : (k == 8) = false := beq_eq_false_iff_ne.2 (by omega)
  go_enter Tryz.func102, Tryz.ntmps102
  go_wp2_with fail
  refine (spec_GapK k _ hk).mono ?_
  rintro e w1 ⟨r, hr, rfl, rfl⟩
  go_wp2
  all_goals (go_ret; exact ⟨_, by omega, rfl, rfl⟩)
end Go.Proofs.YtpnffdkkmibchaaGreatDoor
