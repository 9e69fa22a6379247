/-
  Contracts of the source of draws that the laws use: a byte, a number below n, one of a list. Each under the conditions that it states.
-/
import Derived.Test.YtpnffdkkmibchaaGreatDoorBase
import Derived.Deep.AppendLies
import Derived.Lib.BufferOwn
import Derived.Laws.MathBits
set_option linter.unusedVariables false
set_option linter.unnecessarySimpa false
set_option maxRecDepth 100000
set_option linter.unusedSimpArgs false
namespace Go.Proofs.YtpnffdkkmibchaaGreatDoor
open Go.RowKit BigFrame

/-- A source at block g: its code lies below B, its place is at most K. -/
def SrcAt (w : World) (B g K : Nat) : Prop := B ≤ g ∧ g < w.heap.size ∧ K ≤ 1000000000 ∧ ∃ (A : Option Addr) (c : Nat) (L : List Int) (k : Nat) (s : Int), w.cell? ⟨g, 0, none⟩ = some (.slice A L.length c) ∧ w.cell? ⟨g, 1, none⟩ = some (.int .i64 k) ∧ w.cell? ⟨g, 2, none⟩ = some (.int .u64 s) ∧ w.frozen? ⟨g, 1, none⟩ = false ∧ w.frozen? ⟨g, 2, none⟩ = false ∧ Sl w B A (L.map (Value.int .u8)) ∧ (∀ z ∈ L, IntKind.u8.has z) ∧ L.length ≤ 1048576 ∧ k ≤ K ∧ IntKind.u64.has s

theorem SrcAt.on {w w' : World} {B g K : Nat} (h : SrcAt w B g K) (hb : Below w.heap.size w w') : SrcAt w' B g K := by
  obtain ⟨hBg, hg, hK, A, c, L, k, s, c0, c1, c2, f1, f2, hL, hr⟩ := h
  obtain ⟨hc, hf⟩ := bcell hb
  exact ⟨hBg, Nat.lt_of_lt_of_le hg hb.size, hK, A, c, L, k, s, (hc _ _ hg).trans c0, (hc _ _ hg).trans c1, (hc _ _ hg).trans c2, (hf _ _ hg).trans f1, (hf _ _ hg).trans f2, hL.below (hb.mono (by omega)), hr⟩
theorem SrcAt.drewN {w : World} {B g K : Nat} (h : SrcAt w B g K) (n : Nat) : SrcAt (w.drewN n) B g K := h.on (below_drewN (Below.refl _ _) n)
theorem and_255 (z : Int) (h0 : 0 ≤ z) (h1 : z < 18446744073709551616) : bits .and .u64 z 255 = z % 256 := by go_bits2
theorem low8 {v : Int} (hv : IntKind.u64.has v) : 0 ≤ wrap64 (bits .and .u64 (v / 1099511627776) 255) ∧ wrap64 (bits .and .u64 (v / 1099511627776) 255) ≤ 255 := by
  simp [IntKind.has, IntKind.min, IntKind.max, IntKind.signed, IntKind.bits] at hv
  rw [and_255 _ (by omega) (by omega)]
  unfold wrap64
  omega
theorem has_wrap64 (n : Int) : IntKind.u64.has (IntKind.u64.wrap n) := by
  simp [IntKind.has, IntKind.wrap, IntKind.min, IntKind.max, IntKind.signed, IntKind.bits]
  omega
theorem wp_at {P : Program} {c : Code} {Q : Exit → Act → World → Prop} {a : Act} {W : World} (h : ∀ wf, wf = W → Code.wp P c Q a wf) : Code.wp P c Q a W := h W rfl
/-- Behind a step: the source turned, nothing else. -/
theorem src_set {B g K k : Nat} {A : Option Addr} {c : Nat} {L : List Int} {s v : Int} {w w0 : World} (hs : SrcAt w B g K) (hK : K + 1 ≤ 1000000000) (hw0 : Below w.heap.size w w0)
    (c0 : w.cell? ⟨g, 0, none⟩ = some (.slice A L.length c)) (c1 : w.cell? ⟨g, 1, none⟩ = some (.int .i64 k)) (c2 : w.cell? ⟨g, 2, none⟩ = some (.int .u64 s)) (f1 : w.frozen? ⟨g, 1, none⟩ = false) (f2 : w.frozen? ⟨g, 2, none⟩ = false) (hL : Sl w B A (L.map (Value.int .u8))) (hu : ∀ z ∈ L, IntKind.u8.has z) (hl : L.length ≤ 1048576) (hk : k ≤ K) (hv : IntKind.u64.has v) :
    w.grownBy ((w0.setCell ⟨g, 1, none⟩ (.int .i64 (k + 1))).setCell ⟨g, 2, none⟩ (.int .u64 v)) (some g) ∧ SrcAt ((w0.setCell ⟨g, 1, none⟩ (.int .i64 (k + 1))).setCell ⟨g, 2, none⟩ (.int .u64 v)) B g (K + 1) ∧ ((w0.setCell ⟨g, 1, none⟩ (.int .i64 (k + 1))).setCell ⟨g, 2, none⟩ (.int .u64 v)).cell? ⟨g, 0, none⟩ = some (.slice A L.length c) ∧ ((w0.setCell ⟨g, 1, none⟩ (.int .i64 (k + 1))).setCell ⟨g, 2, none⟩ (.int .u64 v)).cell? ⟨g, 1, none⟩ = some (.int .i64 (k + 1)) ∧ ((w0.setCell ⟨g, 1, none⟩ (.int .i64 (k + 1))).setCell ⟨g, 2, none⟩ (.int .u64 v)).cell? ⟨g, 2, none⟩ = some (.int .u64 v) := by
  obtain ⟨hBg, hg, _, _⟩ := hs
  obtain ⟨hc, hf⟩ := bcell hw0
  have h0 := (hc g 0 hg).trans c0
  have h1 := (hc g 1 hg).trans c1
  have h2 := (hc g 2 hg).trans c2
  have e0 : ((w0.setCell ⟨g, 1, none⟩ (.int .i64 (k + 1))).setCell ⟨g, 2, none⟩ (.int .u64 v)).cell? ⟨g, 0, none⟩ = some (.slice A L.length c) := by
    rw [World.cell?_setCell_other _ _ _ _ (fun e => by simp at e), World.cell?_setCell_other _ _ _ _ (fun e => by simp at e)]; exact h0
  have e1 : ((w0.setCell ⟨g, 1, none⟩ (.int .i64 (k + 1))).setCell ⟨g, 2, none⟩ (.int .u64 v)).cell? ⟨g, 1, none⟩ = some (.int .i64 (k + 1)) := by
    rw [World.cell?_setCell_other _ _ _ _ (fun e => by simp at e), World.cell?_setCell_same _ _ _ h1]
  have e2 : ((w0.setCell ⟨g, 1, none⟩ (.int .i64 (k + 1))).setCell ⟨g, 2, none⟩ (.int .u64 v)).cell? ⟨g, 2, none⟩ = some (.int .u64 v) := by
    rw [World.cell?_setCell_same _ _ _ (by rw [World.cell?_setCell_other _ _ _ _ (fun e => by simp at e)]; exact h2)]
  have hgr : w.grownBy ((w0.setCell ⟨g, 1, none⟩ (.int .i64 (k + 1))).setCell ⟨g, 2, none⟩ (.int .u64 v)) (some g) := by
    refine Go.Lib.grownBy_setB (Go.Lib.grownBy_setB (Go.Lib.grownBy_below (World.grownBy.refl _ _) hw0) _ _) _ _
  refine ⟨hgr, ⟨hBg, by have := hgr.size; omega, hK, A, c, L, k + 1, v, e0, by simpa using e1, e2, by simpa [go_sem] using (hf g 1 hg).trans f1, by simpa [go_sem] using (hf g 2 hg).trans f2, ?_, hu, hl, by omega, hv⟩, e0, e1, e2⟩
  exact hL.keep fun b o hb => (hgr.cell_far ⟨b, o, none⟩ (by simp; omega) (by simp; omega))

theorem src_set' {B g K k : Nat} {A : Option Addr} {c : Nat} {L : List Int} {s v : Int} {w w0 wf : World} (hwf : wf = (w0.setCell ⟨g, 1, none⟩ (.int .i64 (k + 1))).setCell ⟨g, 2, none⟩ (.int .u64 v)) (hs : SrcAt w B g K) (hK : K + 1 ≤ 1000000000) (hw0 : Below w.heap.size w w0)
    (c0 : w.cell? ⟨g, 0, none⟩ = some (.slice A L.length c)) (c1 : w.cell? ⟨g, 1, none⟩ = some (.int .i64 k)) (c2 : w.cell? ⟨g, 2, none⟩ = some (.int .u64 s)) (f1 : w.frozen? ⟨g, 1, none⟩ = false) (f2 : w.frozen? ⟨g, 2, none⟩ = false) (hL : Sl w B A (L.map (Value.int .u8))) (hu : ∀ z ∈ L, IntKind.u8.has z) (hl : L.length ≤ 1048576) (hk : k ≤ K) (hv : IntKind.u64.has v) :
    w.grownBy wf (some g) ∧ SrcAt wf B g (K + 1) ∧ wf.cell? ⟨g, 0, none⟩ = some (.slice A L.length c) ∧ wf.cell? ⟨g, 1, none⟩ = some (.int .i64 (k + 1)) ∧ ∃ v, wf.cell? ⟨g, 2, none⟩ = some (.int .u64 v) ∧ IntKind.u64.has v := by
  rw [hwf]
  have h := src_set hs hK hw0 c0 c1 c2 f1 f2 hL hu hl hk hv
  exact ⟨h.1, h.2.1, h.2.2.1, h.2.2.2.1, _, h.2.2.2.2, hv⟩

set_option maxHeartbeats 1600000 in
theorem src_next (B g K : Nat) (w : World) (hs : SrcAt w B g K) (hK' : K + 1 ≤ 1000000000) :
    Calls Tryz.prog 62 #[.pointer (some ⟨g, 0, none⟩)] w fun e w' => ∃ r : Int, (0 ≤ r ∧ r ≤ 255) ∧ e = .returned (.int .i64 r) ∧ w.grownBy w' (some g) ∧ SrcAt w' B g (K + 1) := by
  have hs' := hs
  obtain ⟨hBg, hg, hK, A, c, L, k, s, c0, c1, c2, f1, f2, hL, hu, hl, hk, hsd⟩ := hs
  by_cases hlt : k < L.length
  · obtain ⟨b, o, rfl, hb, hcell⟩ := hL (by intro e; rw [List.map_eq_nil_iff] at e; subst e; simp at hlt)
    have hck : w.cell? ⟨b, o + k, none⟩ = some (.int .u8 L[k]) := hcell k _ (by rw [List.getElem?_map, List.getElem?_eq_getElem hlt]; rfl)
    have h8 := has_u8 (hu _ (List.getElem_mem hlt))
    obtain ⟨z, hz⟩ : ∃ z, L[k] = z := ⟨_, rfl⟩
    rw [hz] at hck h8
    clear hcell hz
    have hL := Lib.hid hL
    go_enter Tryz.func62, Tryz.ntmps62
    go_wp2_with fail
    go_quiet (fail)
    go_wp2_with fail
    go_quiet (fail)
    go_wp2_with fail
    have hL := hL.out
    refine wp_at ?_
    intro wf hwf
    obtain ⟨hgr, hS, e0, e1, v, e2, hv⟩ := src_set' hwf hs' hK' (below_drewN ((Below.refl _ _)) _) c0 c1 c2 f1 f2 hL hu hl hk (has_wrap64 _)
    clear hwf c0 c1 c2 f1 f2
    go_quiet (fail)
    go_wp2
    go_ret
    exact ⟨z, h8, rfl, Go.Lib.grownBy_below hgr (below_drewN (Below.refl _ _) _), hS.drewN _⟩
  · have hL' := Lib.hid hL
    clear hL
    go_enter Tryz.func62, Tryz.ntmps62
    go_wp2_with fail
    go_quiet (fail)
    go_wp2_with fail
    have hL := hL'.out
    refine wp_at ?_
    intro wf hwf
    obtain ⟨hgr, hS, e0, e1, v, e2, hv⟩ := src_set' hwf hs' hK' (below_drewN ((Below.refl _ _)) _) c0 c1 c2 f1 f2 hL hu hl hk (has_wrap64 _)
    clear hwf c0 c1 c2 f1 f2
    go_quiet (fail)
    go_wp2
    go_ret
    exact ⟨_, low8 hv, rfl, Go.Lib.grownBy_below hgr (below_drewN (Below.refl _ _) _), hS.drewN _⟩
theorem SrcAt.le {w : World} {B g K K2 : Nat} (h : SrcAt w B g K) (hK : K ≤ K2) (h2 : K2 ≤ 1000000000) : SrcAt w B g K2 := by
  obtain ⟨hBg, hg, _, A, c, L, k, s, c0, c1, c2, f1, f2, hL, hu, hl, hk, hsd⟩ := h
  exact ⟨hBg, hg, h2, A, c, L, k, s, c0, c1, c2, f1, f2, hL, hu, hl, by omega, hsd⟩
theorem mod_in {x n : Int} (hx : 0 ≤ x) (hn : 1 ≤ n) : 0 ≤ x % n ∧ x % n < n := ⟨Int.emod_nonneg _ (by omega), Int.emod_lt_of_pos _ (by omega)⟩
set_option maxHeartbeats 800000 in
theorem src_pick (B g K : Nat) (n : Int) (w : World) (hn : 1 ≤ n) (hn2 : n ≤ 9223372036854775807) (hs : SrcAt w B g K) (hK : K + 2 ≤ 1000000000) :
    Calls Tryz.prog 41 #[.pointer (some ⟨g, 0, none⟩), .int .i64 n] w fun e w' => ∃ r : Int, (0 ≤ r ∧ r < n) ∧ e = .returned (.int .i64 r) ∧ w.grownBy w' (some g) ∧ SrcAt w' B g (K + 2) := by
  rcases (by omega : n = 1 ∨ (2 ≤ n ∧ n ≤ 200) ∨ 200 < n) with rfl | ⟨h1, h2⟩ | h1
  · go_enter Tryz.func41, Tryz.ntmps41
    go_wp2
    go_ret
    exact ⟨0, by omega, rfl, World.grownBy.refl _ _, hs.le (by omega) hK⟩
  · go_enter Tryz.func41, Tryz.ntmps41
    go_wp2_with (go_at_call 62; refine (src_next B g K _ hs (by omega)).mono ?_; rintro e w1 ⟨r, hr, rfl, hg1, hs1⟩)
    have ht := mod_in (x := r) (n := n) hr.1 (by omega)
    go_wp2
    go_ret
    exact ⟨_, ht, rfl, hg1, hs1.le (by omega) hK⟩
  · go_enter Tryz.func41, Tryz.ntmps41
    go_wp2_with (go_at_call 62; refine (src_next B g K _ hs (by omega)).mono ?_; rintro e w1 ⟨r, hr, rfl, hg1, hs1⟩)
    go_wp2_with (go_at_call 62; refine (src_next B g (K + 1) _ hs1 (by omega)).mono ?_; rintro e w2 ⟨r2, hr2, rfl, hg2, hs2⟩)
    have ht := mod_in (x := r * 256 + r2) (n := n) (by omega) (by omega)
    go_wp2
    go_ret
    exact ⟨_, ht, rfl, World.grownBy.trans hg1 hg2, hs2⟩

theorem src_one (B g K : Nat) (n : Int) (w : World) (hn : 1 ≤ n) (hn2 : n ≤ 9223372036854775807) (hs : SrcAt w B g K) (hK : K + 2 ≤ 1000000000) :
    Calls Tryz.prog 44 #[.pointer (some ⟨g, 0, none⟩), .int .i64 n] w fun e w' => ∃ b : Bool, e = .returned (.bool b) ∧ w.grownBy w' (some g) ∧ SrcAt w' B g (K + 2) := by
  go_enter Tryz.func44, Tryz.ntmps44
  go_wp2_with (go_at_call 41; refine (src_pick B g K _ _ hn hn2 hs hK).mono ?_; rintro e w1 ⟨r, hr, rfl, hg1, hs1⟩)
  go_ret
  exact ⟨_, rfl, hg1, hs1⟩

theorem src_among (B g K b o c : Nat) (L : List Int) (w : World) (hl : 1 ≤ L.length) (hl2 : L.length ≤ 1000) (hs : SrcAt w B g K) (hK : K + 2 ≤ 1000000000) (hb : b < w.heap.size) (hne : b ≠ g) (hc : ∀ j u, (L.map (Value.int .i64))[j]? = some u → w.cell? ⟨b, o + j, none⟩ = some u) :
    Calls Tryz.prog 43 #[.pointer (some ⟨g, 0, none⟩), .slice (some ⟨b, o, none⟩) L.length c] w fun e w' => ∃ r : Int, r ∈ L ∧ e = .returned (.int .i64 r) ∧ w.grownBy w' (some g) ∧ SrcAt w' B g (K + 2) := by
  have hC := Lib.hid hc
  clear hc
  go_enter Tryz.func43, Tryz.ntmps43
  go_wp2_with fail
  refine (src_pick B g K _ _ (by omega) (by omega) hs hK).mono ?_
  rintro e w1 ⟨r, ⟨hr, hr2⟩, rfl, hg1, hs1⟩
  obtain ⟨k, rfl⟩ := Int.eq_ofNat_of_zero_le hr
  have hk : k < L.length := by omega
  obtain ⟨z, hz⟩ : ∃ z, L[k] = z := ⟨_, rfl⟩
  have hmem : z ∈ L := hz ▸ List.getElem_mem hk
  have hcell : w1.cell? ⟨b, o + k, none⟩ = some (.int .i64 z) := by
    rw [hg1.cell_far ⟨b, o + k, none⟩ hb (by simp; exact hne)]
    exact hC.out k _ (by rw [List.getElem?_map, List.getElem?_eq_getElem hk, hz]; rfl)
  go_wp2
  go_ret
  exact ⟨z, hmem, rfl, hg1, hs1⟩
end Go.Proofs.YtpnffdkkmibchaaGreatDoor
