/-
  Contracts of phases that are drawn: the reference's. Under the conditions that each states.
-/
import Derived.Test.YtpnffdkkmibchaaGreatDoorPhG
import Derived.Test.YtpnffdkkmibchaaGreatDoorPhH
import Derived.Test.YtpnffdkkmibchaaGreatDoorPhL
set_option linter.unusedVariables false
set_option linter.unnecessarySimpa false
set_option maxRecDepth 100000
set_option linter.unusedSimpArgs false
namespace Go.Proofs.YtpnffdkkmibchaaGreatDoor
open Go.RowKit BigFrame Go.Deep

/-- What is drawn: not too many phases, not too large ones. -/
def drP (P : List RPhase) : Prop := P.length ≤ 100000 ∧ ∀ a ∈ P, a.f0.size ≤ 3 ∧ -100000 ≤ a.f1 ∧ a.f1 ≤ 100000
theorem phs_dr {J : List (Nat × Nat)} {n : Nat} (hl : J.length ≤ n) (hc : ∀ p ∈ J, p.2 ≤ n) (hn : n ≤ 100000) : drP (phs J) := by
  refine ⟨by rw [phs_len]; omega, fun a ha => ?_⟩
  obtain ⟨p, hp, rfl⟩ := List.mem_map.1 ha
  have := hc p hp
  have := nm_size p.1
  dsimp only
  omega
theorem good_lean {col : ByteArray} {P : List RPhase} (hc : ∃ c : UInt8, col = ⟨#[c]⟩) (h : goodD col P) : leanP P := by
  obtain ⟨c, rfl⟩ := hc
  exact ⟨h.1.2, fun a ha => ⟨(h.2.1 a ha).imp id (fun e => ⟨c, e⟩), (h.2.2.1 a ha).2⟩⟩
theorem good_dr {col : ByteArray} {P : List RPhase} (hc : col.size ≤ 3) (h : goodD col P) : drP P := by
  have h1 := h.1.2
  refine ⟨by omega, fun a ha => ?_⟩
  have h2 := h.2.2.1 a ha
  rcases h.2.1 a ha with e | e
  · rw [e]; refine ⟨by decide, by omega, by omega⟩
  · rw [e]; refine ⟨hc, by omega, by omega⟩
theorem good_pos {col : ByteArray} {P : List RPhase} (h : goodD col P) : 1 ≤ (tns P).length := by
  obtain ⟨⟨h1, _⟩, _, _, h4⟩ := h
  cases P with
  | nil => simp at h1
  | cons a P =>
    have h5 := h4 a rfl
    have key : ∀ n, 1 ≤ n → n ≤ (a :: P).length → 1 ≤ (tnTo (a :: P) n).length := fun n => by
      induction n with
      | zero => intro h; omega
      | succ n ih =>
        intro _ hn
        rw [tn_step (by omega), List.length_append, List.length_replicate]
        rcases Nat.eq_zero_or_pos n with h0 | h0
        · subst h0
          have e : (a :: P)[0] = a := rfl
          rw [e]; omega
        · have := ih h0 (by omega); omega
    exact key _ (by simp) (Nat.le_refl _)
theorem one_byteP {s : ByteArray} (h : s.size = 1) : ∃ x : UInt8, s = ⟨#[x]⟩ := by
  obtain ⟨⟨l⟩⟩ := s
  have hl : l.length = 1 := h
  match l, hl with
  | [x], _ => exact ⟨x, rfl⟩
theorem runs_pos (f : Nat → Nat) (i : Nat) {j : Nat} (h : 1 ≤ j) : 1 ≤ (runs f i j).length := by
  unfold runs
  rw [join_cntF]
  obtain ⟨j, rfl⟩ : ∃ k, j = k + 1 := ⟨j - 1, by omega⟩
  rw [List.range_succ_eq_map, List.map_cons]
  simp [cntF]
theorem growP {w w5 w6 : World} {g : Nat} {row : Option Nat} (hG : w.grownBy w5 (some g)) (hg : w5.grownBy w6 row) (hr : ∀ q, row = some q → w.heap.size ≤ q) : w.grownBy w6 (some g) :=
  ⟨hg.os.trans hG.os, hg.tape.trans hG.tape, hg.output.trans hG.output, Nat.le_trans hG.size hg.size, fun k hk hne => (hg.block k (Nat.lt_of_lt_of_le hk hG.size) (fun e => by have := hr k e.symm; omega)).trans (hG.block k hk hne)⟩
def strs5 : List ByteArray := [⟨#[]⟩, ⟨#[87]⟩, ⟨#[82]⟩, ⟨#[]⟩, ⟨#[87]⟩]
theorem strs5_size : ∀ r ∈ strs5, r.size ≤ 1 := by decide
theorem dr_snoc {P : List RPhase} {a : RPhase} (h : drP P) (hl : P.length ≤ 99000) (ha : a.f0.size ≤ 3 ∧ -100000 ≤ a.f1 ∧ a.f1 ≤ 100000) : drP (P ++ [a]) := by
  refine ⟨by simp; omega, fun x hx => ?_⟩
  rcases List.mem_append.1 hx with h1 | h1
  · exact h.2 x h1
  · rw [List.mem_singleton.1 h1]; exact ha
theorem dr_two {P : List RPhase} (h : drP P) (hl : P.length ≤ 40000) : drP (P ++ P) := by
  refine ⟨by simp; omega, fun x hx => ?_⟩
  rcases List.mem_append.1 hx with h1 | h1 <;> exact h.2 x h1
theorem flat_onePh (P : List RPhase) : ∀ u ∈ flat RPhase.cells P, u.oneCell' = true := fun u hu => by
  unfold flat at hu
  obtain ⟨a, _, h⟩ := List.mem_flatMap.1 hu
  simp [RPhase.cells] at h
  rcases h with rfl | rfl <;> rfl
def DrK (B g K : Nat) (w : World) (e : Ending) (w' : World) : Prop := ∃ P : List RPhase, (1 ≤ P.length ∧ drP P) ∧ ∃ v, e = .returned v ∧ w.grownBy w' (some g) ∧ SrcAt w' B g K ∧ w'.ownsRow w.heap.size 51 2 v P.length (flat RPhase.cells P)
set_option maxHeartbeats 6400000 in
theorem src_phD (B g K : Nat) (w : World) (hs : SrcAt w B g K) (hBw : B ≤ w.heap.size) (hK : K + 60 ≤ 1000000000) :
    Calls Tryz.prog 40 #[.pointer (some ⟨g, 0, none⟩)] w (DrK B g (K + 60) w) := by
  have hgl := hs.2.1
  have hBg := hs.1
  obtain ⟨j0, hjj, je0, je1, je2⟩ := info_parts infoPh
  go_enter Tryz.func40, Tryz.ntmps40
  go_wp2_with fail
  refine (src_one B g K 3 _ (by omega) (by omega) hs (by omega)).mono ?_
  rintro e w1 ⟨b1, rfl, hg1, hs1⟩
  have hz1 := hg1.size
  cases b1
  · go_wp2_with fail
    refine (src_char B g _ _ hs1 (by omega) (by omega)).mono ?_
    rintro e w2 ⟨k, A, c, H, L, C, p, hP, rfl, hg2, hs2⟩
    obtain ⟨hk, ⟨hSl, hHb, hHl, hAb⟩, hL, hC, hp⟩ := hP
    have hG2 := World.grownBy.trans hg1 hg2
    have hz2 := hG2.size
    have hb0 := Blk.new w2 (chC k (.slice A H.length c) L C p) 88
    have hal : Below w2.heap.size w2 (w2.alloc (.cells (chC k (.slice A H.length c) L C p) 88)) := by go_grown
    go_upto_region 3 with fail
    refine wp_at ?_
    intro w3 hw3
    have hw3' : w3 = w2.alloc (.cells (chC k (.slice A H.length c) L C p) 88) := hw3
    rw [← hw3'] at hb0 hal
    have hG3 := World.grownBy.trans hG2 (grown_noneP hal (some g))
    have hs3 := hs2.on hal
    have hS3 := (hSl.below hal).more hal.size
    have hz3 := hal.size
    clear hw3 hw3' hal hG2 hs2 hSl hg1 hg2 hs1
    obtain ⟨cb, hcb⟩ : ∃ cb, w2.heap.size = cb := ⟨_, rfl⟩
    rw [hcb] at hb0 ⊢
    have hcb0 : w.heap.size ≤ cb := by omega
    clear hcb
    have d3 : w3.cell? ⟨cb, 3, none⟩ = some (.string C) := hb0.cell rfl
    have hbl := hb0.lt
    go_wp2_with fail
    refine (src_pick B g _ C.size _ (by omega) (by omega) hs3 (by omega)).mono ?_
    rintro e w4 ⟨r, hr, rfl, hg4, hs4⟩
    obtain ⟨at', rfl⟩ := Int.eq_ofNat_of_zero_le hr.1
    have hb4 := hb0.grown hg4 (fun e => by have := Option.some.inj e; omega)
    have d4 : w4.cell? ⟨cb, 3, none⟩ = some (.string C) := hb4.cell rfl
    have hS4 := slQ hS3 hg4 (fun a e h => by have := hAb a e; have := Option.some.inj h; omega)
    have hG4 := World.grownBy.trans hG3 hg4
    have hz4 := hg4.size
    clear hg4 hs3 hS3 hG3 hb0 d3
    have hbl4 := hb4.lt
    obtain ⟨col, hcol⟩ : ∃ col, C.extract at' (at' + 1) = col := ⟨_, rfl⟩
    have hcs : col.size = 1 := by rw [← hcol, ByteArray.size_extract]; omega
    have hch : ChA w4 cb k A H.length c L := hb4.chA
    have h44 : w4.cell? ⟨cb, 4, none⟩ = some (.int .i64 p) := hb4.cell rfl
    have hcol1 : ∃ x : UInt8, col = ⟨#[x]⟩ := one_byteP hcs
    go_wp2_with fail
    clear hcol
    refine (spec_PhasesK cb k H A c w4.heap.size L col p w4 hk hch h44 hS4 (Nat.le_refl _) hHb hHl hL hp).mono ?_
    rintro e w5 ⟨P, hP, v, rfl, hb5, hown⟩
    have hG5 := World.grownBy.trans hG4 (grown_noneP hb5 (some g))
    have hs5 := hs4.on hb5
    have hz5 := hb5.size
    obtain ⟨A5, c5, rfl, -, -⟩ := owns_slc2 hown
    have hP1 := hP.1.1
    have hP70 := hP.1.2
    have hlean := Lib.hid (good_lean hcol1 hP)
    have hpos := good_pos hP
    have hdr := Lib.hid (good_dr (by omega) hP)
    clear hb5 hG4 hs4 hch h44 hS4 hb4 d4 hHb hL hAb hP hcol1
    go_wp2_with fail
    refine (src_one B g _ 2 _ (by omega) (by omega) hs5 (by omega)).mono ?_
    rintro e w6 ⟨b2, rfl, hg6, hs6⟩
    have hown6 := World.ownsRow.kept hown hg6 (.inr (fun e => by have := (hown.lt _ e).1; omega))
    have hG6 := World.grownBy.trans hG5 hg6
    have hz6 := hg6.size
    have hPI : (0 : Int) < (P.length : Int) := by omega
    clear hg6 hG5 hs5 hown
    cases b2
    · go_wp2_with fail
      go_ret
      exact ⟨P, ⟨hP1, hdr.out⟩, _, rfl, hG6, hs6.le (by omega) (by omega), owns_moreP hown6 (by omega)⟩
    · clear hdr
      obtain ⟨A6, c6, e6, -, hsl6⟩ := owns_slc2 hown6
      cases e6
      have hsl6' := Lib.hid hsl6
      clear hsl6 hown6
      go_wp2_with fail
      refine (spec_TnL P A5 c5 w6.heap.size w6 hsl6'.out (Nat.le_refl _) hlean.out).mono ?_
      rintro e w7 ⟨v, rfl, hb7, hown⟩
      have hG7 := World.grownBy.trans hG6 (grown_noneP hb7 (some g))
      have hs7 := hs6.on hb7
      have hz7 := hb7.size
      obtain ⟨A7, c7, rfl, -, -⟩ := owns_slc2 hown
      have hlen := tn_lenL hlean.out P.length (Nat.le_refl _)
      have hlen' : (tns P).length ≤ 49000 := by unfold tns; omega
      have hcd := Lib.hid (show codes (tns P) from codes_tn P.length)
      generalize tns P = W at hown hpos hlen' hcd
      clear hb7 hG6 hs6 hlean hsl6' hlen hP1 hP70 hPI
      go_wp2_with fail
      refine (src_pick B g _ W.length _ (by omega) (by omega) hs7 (by omega)).mono ?_
      rintro e w8 ⟨r, hr, rfl, hg8, hs8⟩
      obtain ⟨i, rfl⟩ := Int.eq_ofNat_of_zero_le hr.1
      have hown8 := World.ownsRow.kept hown hg8 (.inr (fun e => by have := (hown.lt _ e).1; omega))
      obtain ⟨A8, c8, e8, -, hsl8⟩ := owns_slc2 hown8
      cases e8
      have hG8 := World.grownBy.trans hG7 hg8
      have hz8 := hg8.size
      clear hg8 hG7 hs7 hown hown8
      go_wp2_with fail
      refine (spec_JoinL W A7 c7 w8.heap.size i w8 hsl8 (Nat.le_refl _) hcd.out hpos (by omega) (by omega)).mono ?_
      rintro e w9 ⟨v, rfl, hb9, hown⟩
      have hG9 := World.grownBy.trans hG8 (grown_noneP hb9 (some g))
      have hs9 := hs8.on hb9
      have hz9 := hb9.size
      obtain ⟨A9, c9, rfl, -, -⟩ := owns_slc2 hown
      have hrl := runs_len (cyc W) i W.length
      have hrp := runs_pos (cyc W) i hpos
      have hrc := Lib.hid (runs_cnt (cyc W) i W.length)
      generalize runs (cyc W) i W.length = J at hown hrl hrp hrc
      clear hb9 hG8 hs8 hsl8
      go_wp2_with fail
      go_ret
      refine ⟨phs J, ⟨by rw [phs_len]; exact hrp, phs_dr hrl hrc.out (by omega)⟩, _, rfl, hG9, hs9.le (by omega) (by omega), ?_⟩
      rw [phs_len, phs_flat]
      exact owns_moreP hown (by omega)
  · go_wp2_with fail
    have hal1 : Below w1.heap.size w1 (w1.alloc (.cells #[] 51)) := by go_grown
    refine (src_pick B g _ 5 _ (by omega) (by omega) (hs1.on hal1) (by omega)).mono ?_
    rintro e w2 ⟨r, hr, rfl, hg2, hs2⟩
    have hO0 : (w1.alloc (.cells #[] 51)).ownsRow w1.heap.size 51 2 (.slice (some ⟨w1.heap.size, 0, none⟩) 0 0) 0 (flat RPhase.cells []) := World.ownsRow_made w1 #[] 0 (Nat.le_refl _) (Nat.zero_le _) rfl
    have hO2 := World.ownsRow.kept hO0 hg2 (.inr (fun e => by have e' : w1.heap.size = g := Option.some.inj e; omega))
    have hG2 := World.grownBy.trans (World.grownBy.trans hg1 (grown_noneP hal1 (some g))) hg2
    obtain ⟨m, rfl⟩ : ∃ m : Nat, r = m := ⟨r.toNat, by omega⟩
    have hm5 : m < 5 := by omega
    have hz2 : w1.heap.size ≤ w2.heap.size := Nat.le_trans hal1.size hg2.size
    clear hO0 hal1 hg2 hg1 hs1 hr hs
    go_wp2_with fail
    go_loopw [8, 9] (fun v i wr => ∃ (m : Nat) (P : List RPhase), i = .int .i64 m ∧ P.length + m ≤ 5 ∧ 1 ≤ P.length + m ∧ Hid (drP P) ∧ w1.heap.size ≤ wr.heap.size ∧ w.grownBy wr (some g) ∧ SrcAt wr B g (K + 4 + 4 * P.length) ∧ wr.ownsRow w1.heap.size 51 2 v P.length (flat RPhase.cells P)) (fun _ i _ => (intOf i).toNat)
    case atStart => exact ⟨m + 1, [], by go_num, by simp; omega, by simp, Lib.hid ⟨by simp, fun a ha => by cases ha⟩, hz2, hG2, hs2.le (by simp) (by simp; omega), hO2⟩
    case round =>
      clear hG2 hs2 hO2 hm5
      obtain ⟨m, P, rfl, hPm, hPm1, hdr, hz1r, hGr, hsr, hown⟩ := hrel
      have hzr := hGr.size
      obtain ⟨A, c, rfl, -, -⟩ := owns_slc2 hown
      have hown0 : ∀ q, (Value.slice A P.length c).ownBlock = some q → q < wr.heap.size := fun q e => (hown.lt q e).2
      by_cases h0 : 0 < m
      · have hmI : (0 : Int) < (m : Int) := by omega
        have hmJ : (m : Int) ≤ 5 := by omega
        have hal3 : Below wr.heap.size wr (wr.alloc (.cells (strs5.map Value.string).toArray 9)) := by go_grown
        have hs3 := hsr.on hal3
        have hO3 := owns_onP hown hal3
        have hG3 := World.grownBy.trans hGr (grown_noneP hal3 (some g))
        clear hsr hown hGr hal3
        go_wp2_with fail
        refine (src_textP B g _ wr.heap.size 0 5 strs5 _ (by simp [strs5]) (by simp [strs5]) hs3 (by omega) (by simp) (by omega) (fun j u hu => by rw [Nat.zero_add, World.cell?_alloc_new]; simpa using hu)).mono ?_
        rintro e w4 ⟨t, ht, rfl, hg4, hs4⟩
        have ht1 := strs5_size t ht
        have hO4 := World.ownsRow.kept hO3 hg4 (.inr (fun e => by have := (hO3.lt _ e).1; omega))
        have hG4 := World.grownBy.trans hG3 hg4
        have hz4 := hG4.size
        have hb0 := Blk.new w4 #[.string t, .int .i64 0] 51
        have hal5 : Below w4.heap.size w4 (w4.alloc (.cells #[.string t, .int .i64 0] 51)) := by go_grown
        clear hO3 hG3 hs3 ht
        go_upto_region 15 with fail
        refine wp_at ?_
        intro w5 hw5
        have hw5' : w5 = w4.alloc (.cells #[.string t, .int .i64 0] 51) := hw5
        rw [← hw5'] at hb0 hal5
        have hs5 := hs4.on hal5
        have hO5 := owns_onP hO4 hal5
        have hG5 := World.grownBy.trans hG4 (grown_noneP hal5 (some g))
        have hzw : wr.heap.size ≤ w4.heap.size := by have := hg4.size; rw [World.size_alloc] at this; omega
        have hz5 := hal5.size
        clear hw5 hw5' hs4 hO4 hG4 hal5 hg4
        obtain ⟨xb, hxb⟩ : ∃ xb, w4.heap.size = xb := ⟨_, rfl⟩
        rw [hxb] at hb0 hz5 hzw hz4 ⊢
        clear hxb
        have hal6 : Below w5.heap.size w5 (w5.alloc (.cells #[.int .i64 5, .int .i64 10, .int .i64 5, .int .i64 15, .int .i64 2, .int .i64 1] 2)) := by go_grown
        have hs6 := hs5.on hal6
        have hO6 := owns_onP hO5 hal6
        have hG6 := World.grownBy.trans hG5 (grown_noneP hal6 (some g))
        have hb6 := hb0.on hal6
        have hx5 := hb0.lt
        clear hs5 hO5 hG5 hal6 hb0
        go_wp2_with fail
        refine (src_among B g _ w5.heap.size 0 6 [5, 10, 5, 15, 2, 1] _ (by simp) (by simp) hs6 (by omega) (by simp) (by omega) (fun j u hu => by rw [Nat.zero_add, World.cell?_alloc_new]; simpa using hu)).mono ?_
        rintro e w7 ⟨n, hn, rfl, hg7, hs7⟩
        have hn1 : 1 ≤ n ∧ n ≤ 15 := by simp at hn; omega
        have hO7 := World.ownsRow.kept hO6 hg7 (.inr (fun e => by have := (hO6.lt _ e).1; omega))
        have hG7 := World.grownBy.trans hG6 hg7
        have hb7 := hb6.grown hg7 (fun e => by have := Option.some.inj e; omega)
        have hx7 := hb7.lt
        have hz7 : w5.heap.size ≤ w7.heap.size := by have := hg7.size; rw [World.size_alloc] at this; omega
        clear hg7 hs6 hO6 hG6 hb6 hn
        have d0 : w7.cell? ⟨xb, 0, none⟩ = some (.string t) := hb7.cell rfl
        have d1 : w7.cell? ⟨xb, 1, none⟩ = some (.int .i64 0) := hb7.cell rfl
        have f1 := hb7.frozen 1
        have hnx : (Value.slice A P.length c).ownBlock = none ∨ (Value.slice A P.length c).ownBlock ≠ some xb := .inr (fun e => by have := (hO7.lt _ e).2; have := hown0 _ e; omega)
        have hxw : w.heap.size ≤ xb := by omega
        have hxg : xb ≠ g := by omega
        go_upto_region 16 with fail
        refine wp_at ?_
        intro w8 hw8
        have hw8' : w8 = w7.setCell ⟨xb, 1, none⟩ (.int .i64 n) := hw8
        have hgs := grown_oneP w7 xb 1 (.int .i64 n)
        have hb8 : Blk (w7.setCell ⟨xb, 1, none⟩ (.int .i64 n)) xb #[.string t, .int .i64 n] 51 := hb7.set
        rw [← hw8'] at hgs hb8
        have hO8 := World.ownsRow.kept hO7 hgs hnx
        have hG8 := growP hG7 hgs (fun q e => by have := Option.some.inj e; omega)
        have hs8 := hs7.farP (by omega) hgs (fun k e => by have := Option.some.inj e; omega)
        have hz8 := hgs.size
        clear hw8 hw8' hgs hb7 hO7 hG7 hs7 d0 d1 f1 hnx hown0
        have e0 : w8.cell? ⟨xb, 0, none⟩ = some (.string t) := hb8.cell rfl
        have e1 : w8.cell? ⟨xb, 1, none⟩ = some (.int .i64 n) := hb8.cell rfl
        go_wp2_with (at_builtin; refine wpList_append_own _ rfl _ _ 24 rfl (w1.heap.size) 51 j0 (.agg #[.string ⟨#[]⟩, .int .i64 0]) 2 24 Tryz.underlying24 hjj je0 je1 je2 rfl (by decide) _ _ _ rfl (hO8.alloc _) ⟨w8.heap.size, 0, none⟩ 1 1 [.string (t), .int .i64 (n)] rfl rfl ?pc1 ?pc2 ?pc3 ?pc4 ?pc5 ?_)
        try (case pc1 =>
            intro j u hj
            match j, hj with
            | 0, hj => obtain rfl := Option.some.inj hj; simp [Addr.add, go_sem]
            | 1, hj => obtain rfl := Option.some.inj hj; simp [Addr.add, go_sem, *])
        try (case pc2 => first | exact ⟨rfl, rfl⟩ | (intro u hu; simp at hu; rcases hu with rfl | rfl <;> rfl))
        case pc3 => unfold maxLen; omega
        case pc4 => omega
        case pc5 => first | omega | (simp; omega)
        intro v' wn hown' hgrow _
        have hsn := (hs8.on (show Below _ _ (w8.alloc (.cells #[.string t, .int .i64 n] 51)) by go_grown)).farP (by rw [World.size_alloc]; omega) hgrow (fun q e => by have := (hO8.lt q e).1; omega)
        have hzn : w1.heap.size ≤ wn.heap.size := by have := hgrow.size; rw [World.size_alloc] at this; omega
        have hGn := growP (World.grownBy.trans hG8 (grown_noneP (show Below _ _ (w8.alloc (.cells #[.string t, .int .i64 n] 51)) by go_grown) (some g))) hgrow (fun q e => by have := (hO8.lt q e).1; omega)
        clear hO8 hgrow hs8 hG8 hb8 e0 e1
        go_wp2_with fail
        go_roundw
        case rel => exact ⟨m - 1, P ++ [⟨t, n⟩], by rw [show ((m - 1 : Nat) : Int) = (m : Int) - 1 by omega], by simp; omega, by simp; omega, Lib.hid (dr_snoc hdr.out (by omega) ⟨by dsimp only; omega, by dsimp only; omega, by dsimp only; omega⟩), hzn, hGn, hsn.le (by simp; omega) (by simp; omega), by rw [flat_pone, List.length_append]; exact hown'⟩
        case measure => simp [intOf]; omega
      · obtain rfl : m = 0 := by omega
        clear hown0
        have hPl : 1 ≤ P.length ∧ P.length ≤ 5 := by omega
        go_wp2_with fail
        refine (src_one B g _ 3 _ (by omega) (by omega) hsr (by omega)).mono ?_
        rintro e w3 ⟨b3, rfl, hg3, hs3⟩
        have hO3 := World.ownsRow.kept hown hg3 (.inr (fun e => by have := (hown.lt _ e).1; omega))
        have hG3 := World.grownBy.trans hGr hg3
        have hz3 := hG3.size
        have hg3s := hg3.size
        clear hown hg3 hGr hsr
        cases b3
        · go_wp2_with fail
          go_ret
          exact ⟨P, ⟨hPl.1, hdr.out⟩, _, rfl, hG3, hs3.le (by omega) (by omega), owns_moreP hO3 hz1⟩
        · have hz13 : w1.heap.size ≤ w3.heap.size := Nat.le_trans hz1r hg3s
          obtain ⟨A9, c9, e9, -, hsl⟩ := owns_slc2 hO3
          cases e9
          obtain ⟨bx, ox, rfl, hbx, hcx⟩ := hsl (fun e => by have := congrArg List.length e; rw [flat_len RPhase.len] at this; simp at this; omega)
          have hal4 : Below w3.heap.size w3 (w3.alloc (.cells #[] 51)) := by go_grown
          have hO4 : (w3.alloc (.cells #[] 51)).ownsRow w3.heap.size 51 2 (.slice (some ⟨w3.heap.size, 0, none⟩) 0 0) 0 [] := World.ownsRow_made w3 #[] 0 (Nat.le_refl _) (Nat.zero_le _) rfl
          have hO3' := owns_onP hO3 hal4
          have hG4 := World.grownBy.trans hG3 (grown_noneP hal4 (some g))
          have hs4 := hs3.on hal4
          have hone : ∀ u ∈ flat RPhase.cells P, u.oneCell' = true := flat_onePh P
          go_wp2_with (at_builtin; refine wpList_append_own _ rfl _ _ 24 rfl w3.heap.size 51 j0 (.agg #[.string ⟨#[]⟩, .int .i64 0]) 2 24 Tryz.underlying24 hjj je0 je1 je2 rfl (by decide) _ _ _ rfl hO4 ⟨bx, ox, none⟩ P.length c (flat RPhase.cells P) rfl (flat_len RPhase.len _) (fun j x hx => by rw [Addr.add_lit]; exact ((bcell hal4).1 _ _ hbx).trans (hcx j x hx)) hone (by unfold maxLen; omega) (by omega) (by simp) ?_)
          intro v5 w5 hO5 hg5 _
          have hn5 : ∀ q, (Value.slice (some ⟨w3.heap.size, 0, none⟩) 0 0).ownBlock = some q → q = w3.heap.size := fun q e => (Option.some.inj e).symm
          have hO35 := World.ownsRow.kept hO3' hg5 (.inr (fun e => by have h1 := hn5 bx (e ▸ rfl); omega))
          have hG5 := growP hG4 hg5 (fun q e => by have := hn5 q e; omega)
          have hs5 := hs4.farP (by rw [World.size_alloc]; omega) hg5 (fun q e => by have := hn5 q e; omega)
          have hz5 : w3.heap.size ≤ w5.heap.size := by have := hg5.size; rw [World.size_alloc] at this; omega
          obtain ⟨A5, c5, rfl, -, hsl5⟩ := owns_slc2 hO5
          try rw [List.nil_append] at hsl5
          try rw [Nat.zero_add] at hsl5
          try rw [Nat.zero_add]
          obtain ⟨b5, o5, rfl, hb5, hc5⟩ := hsl5 (fun e => by have := congrArg List.length e; rw [flat_len RPhase.len] at this; simp at this; omega)
          clear hO5 hg5 hO3' hG4 hs4 hO4 hal4 hO3 hG3 hs3 hsl hsl5 hcx
          go_wp2_with (at_builtin; refine wpList_append_own _ rfl _ _ 24 rfl w1.heap.size 51 j0 (.agg #[.string ⟨#[]⟩, .int .i64 0]) 2 24 Tryz.underlying24 hjj je0 je1 je2 rfl (by decide) _ _ _ rfl hO35 ⟨b5, o5, none⟩ P.length c5 (flat RPhase.cells P) rfl (flat_len RPhase.len _) (fun j x hx => by rw [Addr.add_lit]; exact hc5 j x hx) hone (by unfold maxLen; omega) (by omega) (by omega) ?_)
          intro v6 w6 hO6 hg6 _
          have hn6 : ∀ q, (Value.slice (some ⟨bx, ox, none⟩) P.length c).ownBlock = some q → w1.heap.size ≤ q := fun q e => (hO35.lt q e).1
          have hG6 := growP hG5 hg6 (fun q e => by have := hn6 q e; omega)
          have hs6 := hs5.farP (by omega) hg6 (fun q e => by have := hn6 q e; omega)
          clear hO35 hg6 hG5 hs5 hc5
          go_wp2_with fail
          go_ret
          refine ⟨P ++ P, ⟨by simp; omega, dr_two hdr.out (by omega)⟩, _, rfl, hG6, hs6.le (by omega) (by omega), ?_⟩
          rw [flat_append, List.length_append]
          exact owns_moreP hO6 hz1
theorem src_phT (B g K : Nat) (w : World) (hs : SrcAt w B g K) (hBw : B ≤ w.heap.size) (hK : K + 4 ≤ 1000000000) :
    Calls Tryz.prog 21 #[.pointer (some ⟨g, 0, none⟩)] w fun e w' => ∃ t : Int, (-9223372036854775808 ≤ t ∧ t ≤ 9223372036854775807) ∧ e = .returned (.int .i64 t) ∧ w.grownBy w' (some g) ∧ SrcAt w' B g (K + 4) := by
  have hgl := hs.2.1
  go_enter Tryz.func21, Tryz.ntmps21
  go_wp2_with fail
  refine (src_one B g K 8 _ (by omega) (by omega) hs (by omega)).mono ?_
  rintro e w1 ⟨b1, rfl, hg1, hs1⟩
  have hz1 := hg1.size
  cases b1
  · go_wp2_with fail
    refine (src_pick B g _ 2000 _ (by omega) (by omega) hs1 (by omega)).mono ?_
    rintro e w2 ⟨r, hr, rfl, hg2, hs2⟩
    go_wp2_with fail
    go_ret
    exact ⟨r - 500, by omega, rfl, World.grownBy.trans hg1 hg2, hs2⟩
  · have hal : Below w1.heap.size w1 (w1.alloc (.cells #[.int .i64 (-1), .int .i64 0, .int .i64 9223372036854775807, .int .i64 (-9223372036854775808)] 2)) := by go_grown
    go_wp2_with fail
    refine (src_among B g _ w1.heap.size 0 4 [-1, 0, 9223372036854775807, -9223372036854775808] _ (by simp) (by simp) (hs1.on hal) (by omega) (by simp) (by omega) (fun j u hu => by rw [Nat.zero_add, World.cell?_alloc_new]; simpa using hu)).mono ?_
    rintro e w2 ⟨r, hr, rfl, hg2, hs2⟩
    have hr2 : -9223372036854775808 ≤ r ∧ r ≤ 9223372036854775807 := by simp at hr; omega
    go_wp2_with fail
    go_ret
    exact ⟨r, hr2, rfl, World.grownBy.trans hg1 (World.grownBy.trans (grown_noneP hal (some g)) hg2), hs2⟩
def DrL (B g K : Nat) (w : World) (e : Ending) (w' : World) : Prop := ∃ P : List RPhase, drP P ∧ ∃ v, e = .returned v ∧ w.grownBy w' (some g) ∧ SrcAt w' B g K ∧ w'.ownsRow w.heap.size 51 2 v P.length (flat RPhase.cells P)
theorem dr_head {a b : RPhase} {Q : List RPhase} (h : drP (a :: Q)) (hb : b.f0.size ≤ 3 ∧ -100000 ≤ b.f1 ∧ b.f1 ≤ 100000) : drP (b :: Q) := by
  refine ⟨by have := h.1; simpa using this, fun x hx => ?_⟩
  rcases List.mem_cons.1 hx with rfl | h1
  · exact hb
  · exact h.2 x (List.mem_cons_of_mem _ h1)
set_option maxHeartbeats 6400000 in
theorem src_phL (B g K : Nat) (w : World) (hs : SrcAt w B g K) (hBw : B ≤ w.heap.size) (hK : K + 100 ≤ 1000000000) :
    Calls Tryz.prog 20 #[.pointer (some ⟨g, 0, none⟩)] w (DrL B g (K + 100) w) := by
  have hgl := hs.2.1
  have hBg := hs.1
  obtain ⟨j0, hjj, je0, je1, je2⟩ := info_parts infoPh
  go_enter Tryz.func20, Tryz.ntmps20
  go_wp2_with fail
  refine (src_phD B g K _ hs hBw (by omega)).mono ?_
  rintro e w1 ⟨P, ⟨hP1, hdr⟩, v, rfl, hg1, hs1, hown⟩
  have hz1 := hg1.size
  have hdr' := Lib.hid hdr
  obtain ⟨A, c, rfl, -, -⟩ := owns_slc2 hown
  clear hdr hs
  go_wp2_with fail
  refine (src_pick B g _ 18 _ (by omega) (by omega) hs1 (by omega)).mono ?_
  rintro e w2 ⟨r, hr, rfl, hg2, hs2⟩
  have hO2 := World.ownsRow.kept hown hg2 (.inr (fun e => by have := (hown.lt _ e).1; omega))
  have hG2 := World.grownBy.trans hg1 hg2
  have hz2 := hG2.size
  clear hown hg1 hg2 hs1
  rcases (by omega : r = 0 ∨ r = 1 ∨ r = 2 ∨ r = 3 ∨ 4 ≤ r) with rfl | rfl | rfl | rfl | h4
  · have hO0 : (w2.alloc (.cells #[] 51)).ownsRow w.heap.size 51 2 (.slice (some ⟨w2.heap.size, 0, none⟩) 0 0) 0 (flat RPhase.cells []) := World.ownsRow_made w2 #[] 0 hz2 (Nat.zero_le _) rfl
    have hal : Below w2.heap.size w2 (w2.alloc (.cells #[] 51)) := by go_grown
    go_wp2_with fail
    go_ret
    exact ⟨[], ⟨by simp, fun a ha => by cases ha⟩, _, rfl, World.grownBy.trans hG2 (grown_noneP hal (some g)), (hs2.on hal).le (by omega) (by omega), hO0⟩
  · have hal : Below w2.heap.size w2 (w2.alloc (.cells #[.string ⟨#[66]⟩, .string ⟨#[87, 82]⟩] 9)) := by go_grown
    go_wp2_with fail
    refine (src_textP B g _ w2.heap.size 0 2 [⟨#[66]⟩, ⟨#[87, 82]⟩] _ (by simp) (by simp) (hs2.on hal) (by omega) (by simp) (by omega) (fun j u hu => by rw [Nat.zero_add, World.cell?_alloc_new]; simpa using hu)).mono ?_
    rintro e w3 ⟨t, ht, rfl, hg3, hs3⟩
    have ht1 : t.size ≤ 3 := by
      simp at ht
      rcases ht with rfl | rfl <;> decide
    have hO3 := World.ownsRow.kept (owns_onP hO2 hal) hg3 (.inr (fun e => by have := (hO2.lt _ e).1; omega))
    have hG3 := World.grownBy.trans hG2 (World.grownBy.trans (grown_noneP hal (some g)) hg3)
    clear hO2 hG2 hs2 hg3 hal ht
    obtain ⟨a, Q, rfl⟩ : ∃ a Q, P = a :: Q := by
      cases P with
      | nil => simp at hP1
      | cons a Q => exact ⟨a, Q, rfl⟩
    obtain ⟨hll, ⟨e9, h0⟩ | ⟨gx, cap, cur, e9, hgb, hh, hcs, hcm, hsz, hat⟩⟩ := id hO3
    · simp at h0
    cases e9
    clear hll hh hcs hcm hsz hat
    have z0 := hO3.cellAt 0 (by simp)
    have z1 := hO3.cellAt 1 (by simp; omega)
    have z2 := hO3.frozenAt 0
    have hgl3 := (hO3.lt gx rfl).2
    have hstd := hO3.stored 0 (.string t)
    have hgs := grown_oneP w3 gx 0 (.string t)
    have hG4 := growP hG3 hgs (fun q e => by have := Option.some.inj e; omega)
    have hs4 := hs3.farP (by have := hG3.size; omega) hgs (fun k e => by have := Option.some.inj e; omega)
    have hdr2 := Lib.hid (dr_head (b := ⟨t, a.f1⟩) hdr'.out (⟨ht1, (hdr'.out.2 a List.mem_cons_self).2⟩))
    have hlI : (0 : Int) < ((a :: Q).length : Int) := by first | (simp; done) | (simp; omega)
    clear hdr' hgs
    go_wp2_with fail
    go_ret
    exact ⟨⟨t, a.f1⟩ :: Q, hdr2.out, _, rfl, hG4, hs4.le (by omega) (by omega), hstd.1⟩
  · have hal : Below w2.heap.size w2 (w2.alloc (.cells #[.int .i64 0, .int .i64 600, .int .i64 601] 2)) := by go_grown
    go_wp2_with fail
    refine (src_among B g _ w2.heap.size 0 3 [0, 600, 601] _ (by simp) (by simp) (hs2.on hal) (by omega) (by simp) (by omega) (fun j u hu => by rw [Nat.zero_add, World.cell?_alloc_new]; simpa using hu)).mono ?_
    rintro e w3 ⟨t, ht, rfl, hg3, hs3⟩
    have ht1 : -100000 ≤ t ∧ t ≤ 100000 := by simp at ht; omega
    have hO3 := World.ownsRow.kept (owns_onP hO2 hal) hg3 (.inr (fun e => by have := (hO2.lt _ e).1; omega))
    have hG3 := World.grownBy.trans hG2 (World.grownBy.trans (grown_noneP hal (some g)) hg3)
    clear hO2 hG2 hs2 hg3 hal ht
    obtain ⟨a, Q, rfl⟩ : ∃ a Q, P = a :: Q := by
      cases P with
      | nil => simp at hP1
      | cons a Q => exact ⟨a, Q, rfl⟩
    obtain ⟨hll, ⟨e9, h0⟩ | ⟨gx, cap, cur, e9, hgb, hh, hcs, hcm, hsz, hat⟩⟩ := id hO3
    · simp at h0
    cases e9
    clear hll hh hcs hcm hsz hat
    have z0 := hO3.cellAt 0 (by simp)
    have z1 := hO3.cellAt 1 (by simp; omega)
    have z2 := hO3.frozenAt 1
    have hgl3 := (hO3.lt gx rfl).2
    have hstd := hO3.stored 1 (.int .i64 t)
    have hgs := grown_oneP w3 gx 1 (.int .i64 t)
    have hG4 := growP hG3 hgs (fun q e => by have := Option.some.inj e; omega)
    have hs4 := hs3.farP (by have := hG3.size; omega) hgs (fun k e => by have := Option.some.inj e; omega)
    have hdr2 := Lib.hid (dr_head (b := ⟨a.f0, t⟩) hdr'.out (⟨(hdr'.out.2 a List.mem_cons_self).1, ht1⟩))
    have hlI : (0 : Int) < ((a :: Q).length : Int) := by first | (simp; done) | (simp; omega)
    clear hdr' hgs
    go_wp2_with fail
    go_ret
    exact ⟨⟨a.f0, t⟩ :: Q, hdr2.out, _, rfl, hG4, hs4.le (by omega) (by omega), hstd.1⟩
  · have hal : Below w2.heap.size w2 (w2.alloc (.cells #[.int .i64 40, .int .i64 41] 2)) := by go_grown
    go_wp2_with fail
    refine (src_among B g _ w2.heap.size 0 2 [40, 41] _ (by simp) (by simp) (hs2.on hal) (by omega) (by simp) (by omega) (fun j u hu => by rw [Nat.zero_add, World.cell?_alloc_new]; simpa using hu)).mono ?_
    rintro e w3 ⟨n, hn, rfl, hg3, hs3⟩
    obtain ⟨N, rfl⟩ : ∃ N : Nat, n = N := ⟨n.toNat, by simp at hn; omega⟩
    have hN : N ≤ 41 := by simp at hn; omega
    have hG3 := World.grownBy.trans hG2 (World.grownBy.trans (grown_noneP hal (some g)) hg3)
    have hz3 := hG3.size
    have hO0 : (w3.alloc (.cells #[] 51)).ownsRow w.heap.size 51 2 (.slice (some ⟨w3.heap.size, 0, none⟩) 0 0) 0 (flat RPhase.cells []) := World.ownsRow_made w3 #[] 0 hz3 (Nat.zero_le _) rfl
    have hal3 : Below w3.heap.size w3 (w3.alloc (.cells #[] 51)) := by go_grown
    have hG4 := World.grownBy.trans hG3 (grown_noneP hal3 (some g))
    have hs4 := hs3.on hal3
    clear hO2 hG2 hs2 hg3 hal hn hal3 hs3 hdr' hG3 hP1
    go_wp2_with fail
    go_loopw [3, 5] (fun v i wr => ∃ (k : Nat) (P : List RPhase), i = .int .i64 k ∧ P.length = k ∧ k ≤ N ∧ Hid (drP P) ∧ w.grownBy wr (some g) ∧ SrcAt wr B g (K + 60 + 2 + 2) ∧ wr.ownsRow w.heap.size 51 2 v k (flat RPhase.cells P)) (fun _ i _ => N - (intOf i).toNat)
    case atStart => exact ⟨0, [], rfl, rfl, Nat.zero_le _, Lib.hid ⟨by simp, fun a ha => by cases ha⟩, hG4, hs4, hO0⟩
    case round =>
      clear hG4 hs4 hO0
      obtain ⟨k, P, rfl, hPl, hk, hdr, hGr, hsr, hown⟩ := hrel
      have hzr := hGr.size
      obtain ⟨A9, c9, rfl, -, -⟩ := owns_slc2 hown
      by_cases hlt : k < N
      · have hkI : (k : Int) < (N : Int) := by omega
        obtain ⟨q, hq⟩ : ∃ q : Int, (k : Int) % 3 = q := ⟨_, rfl⟩
        have hqb : 0 ≤ q ∧ q ≤ 2 := by omega
        have hb0 := Blk.new wr #[.string ⟨#[]⟩, .int .i64 (1 + q)] 51
        have hal5 : Below wr.heap.size wr (wr.alloc (.cells #[.string ⟨#[]⟩, .int .i64 (1 + q)] 51)) := by go_grown
        have hgx : ∀ q, (Value.slice A9 k c9).ownBlock = some q → q ≠ g ∧ q < wr.heap.size := fun q e => ⟨by have := (hown.lt q e).1; omega, (hown.lt q e).2⟩
        go_upto_region 16 with fail
        refine wp_at ?_
        intro w4 hw4
        have hw4' : w4 = wr.alloc (.cells #[.string ⟨#[]⟩, .int .i64 (1 + q)] 51) := hw4
        rw [← hw4'] at hb0 hal5
        have hs4 := hsr.on hal5
        have hO4 := owns_onP hown hal5
        have hG4 := World.grownBy.trans hGr (grown_noneP hal5 (some g))
        have hz4 := hal5.size
        obtain ⟨xb, hxb⟩ : ∃ xb, wr.heap.size = xb := ⟨_, rfl⟩
        rw [hxb] at hb0 hgx hzr hz4 ⊢
        have hx4 := hb0.lt
        clear hw4 hw4' hxb hsr hown hGr hal5
        rcases (by omega : (k : Int) % 2 = 0 ∨ (k : Int) % 2 = 1) with hpar | hpar
        · have d0 : w4.cell? ⟨xb, 0, none⟩ = some (.string ⟨#[]⟩) := hb0.cell rfl
          have f0 := hb0.frozen 0
          have hnx : (Value.slice A9 k c9).ownBlock = none ∨ (Value.slice A9 k c9).ownBlock ≠ some xb := .inr (fun e => by have := (hgx _ e).2; omega)
          have hgs := grown_oneP w4 xb 0 (.string ⟨#[71]⟩)
          have hb1 : Blk (w4.setCell ⟨xb, 0, none⟩ (.string ⟨#[71]⟩)) xb #[.string ⟨#[71]⟩, .int .i64 (1 + q)] 51 := hb0.set
          have hO5 := World.ownsRow.kept hO4 hgs hnx
          have hG5 := growP hG4 hgs (fun q e => by have := Option.some.inj e; omega)
          have hs5 := hs4.farP (by omega) hgs (fun k e => by have := Option.some.inj e; omega)
          have hz5 := hgs.size
          go_upto_region 18 with fail
          refine wp_at ?_
          intro w5 hw5
          have hw5' : w5 = w4.setCell ⟨xb, 0, none⟩ (.string ⟨#[71]⟩) := hw5
          rw [← hw5'] at hb1 hO5 hG5 hs5 hz5
          clear hw5 hw5' hgs hb0 hO4 hG4 hs4 d0 f0 hnx
          have hx5 := hb1.lt
          have e0 : w5.cell? ⟨xb, 0, none⟩ = some (.string ⟨#[71]⟩) := hb1.cell rfl
          have e1 : w5.cell? ⟨xb, 1, none⟩ = some (.int .i64 (1 + q)) := hb1.cell rfl
          go_wp2_with (at_builtin; refine wpList_append_own _ rfl _ _ 24 rfl (w.heap.size) 51 j0 (.agg #[.string ⟨#[]⟩, .int .i64 0]) 2 24 Tryz.underlying24 hjj je0 je1 je2 rfl (by decide) _ _ _ rfl (hO5.alloc _) ⟨w5.heap.size, 0, none⟩ 1 1 [.string (⟨#[71]⟩), .int .i64 (1 + q)] rfl rfl ?pc1 ?pc2 ?pc3 ?pc4 ?pc5 ?_)
          try (case pc1 =>
              intro j u hj
              match j, hj with
              | 0, hj => obtain rfl := Option.some.inj hj; simp [Addr.add, go_sem]
              | 1, hj => obtain rfl := Option.some.inj hj; simp [Addr.add, go_sem, *])
          try (case pc2 => first | exact ⟨rfl, rfl⟩ | (intro u hu; simp at hu; rcases hu with rfl | rfl <;> rfl))
          case pc3 => unfold maxLen; omega
          case pc4 => omega
          case pc5 => first | omega | (simp; omega)
          intro v' wn hown' hgrow _
          have hsn := (hs5.on (show Below _ _ (w5.alloc (.cells #[.string ⟨#[71]⟩, .int .i64 (1 + q)] 51)) by go_grown)).farP (by rw [World.size_alloc]; omega) hgrow (fun q e => by have := (hO5.lt q e).1; have := hgx q e; omega)
          have hGn := growP (World.grownBy.trans hG5 (grown_noneP (show Below _ _ (w5.alloc (.cells #[.string ⟨#[71]⟩, .int .i64 (1 + q)] 51)) by go_grown) (some g))) hgrow (fun q e => (hO5.lt q e).1)
          clear hO5 hs5 hG5 hgrow
          go_wp2_with fail
          go_roundw
          case rel => exact ⟨k + 1, P ++ [⟨⟨#[71]⟩, 1 + q⟩], by go_num, by simp [hPl], by omega, Lib.hid (dr_snoc hdr.out (by omega) ⟨by dsimp only; decide, by dsimp only; omega, by dsimp only; omega⟩), hGn, hsn, by rw [flat_pone, ← hPl]; rw [← hPl] at hown'; exact hown'⟩
          case measure => simp [intOf]; omega
        · have e0 : w4.cell? ⟨xb, 0, none⟩ = some (.string ⟨#[]⟩) := hb0.cell rfl
          have e1 : w4.cell? ⟨xb, 1, none⟩ = some (.int .i64 (1 + q)) := hb0.cell rfl
          go_wp2_with (at_builtin; refine wpList_append_own _ rfl _ _ 24 rfl (w.heap.size) 51 j0 (.agg #[.string ⟨#[]⟩, .int .i64 0]) 2 24 Tryz.underlying24 hjj je0 je1 je2 rfl (by decide) _ _ _ rfl (hO4.alloc _) ⟨w4.heap.size, 0, none⟩ 1 1 [.string (⟨#[]⟩), .int .i64 (1 + q)] rfl rfl ?pc1 ?pc2 ?pc3 ?pc4 ?pc5 ?_)
          try (case pc1 =>
              intro j u hj
              match j, hj with
              | 0, hj => obtain rfl := Option.some.inj hj; simp [Addr.add, go_sem]
              | 1, hj => obtain rfl := Option.some.inj hj; simp [Addr.add, go_sem, *])
          try (case pc2 => first | exact ⟨rfl, rfl⟩ | (intro u hu; simp at hu; rcases hu with rfl | rfl <;> rfl))
          case pc3 => unfold maxLen; omega
          case pc4 => omega
          case pc5 => first | omega | (simp; omega)
          intro v' wn hown' hgrow _
          have hsn := (hs4.on (show Below _ _ (w4.alloc (.cells #[.string ⟨#[]⟩, .int .i64 (1 + q)] 51)) by go_grown)).farP (by rw [World.size_alloc]; omega) hgrow (fun q e => by have := (hO4.lt q e).1; have := hgx q e; omega)
          have hGn := growP (World.grownBy.trans hG4 (grown_noneP (show Below _ _ (w4.alloc (.cells #[.string ⟨#[]⟩, .int .i64 (1 + q)] 51)) by go_grown) (some g))) hgrow (fun q e => (hO4.lt q e).1)
          clear hO4 hs4 hG4 hgrow
          go_wp2_with fail
          go_roundw
          case rel => exact ⟨k + 1, P ++ [⟨⟨#[]⟩, 1 + q⟩], by go_num, by simp [hPl], by omega, Lib.hid (dr_snoc hdr.out (by omega) ⟨by dsimp only; decide, by dsimp only; omega, by dsimp only; omega⟩), hGn, hsn, by rw [flat_pone, ← hPl]; rw [← hPl] at hown'; exact hown'⟩
          case measure => simp [intOf]; omega
      · obtain rfl : k = N := by omega
        go_wp2_with fail
        go_ret
        exact ⟨P, hdr.out, _, rfl, hGr, hsr.le (by omega) (by omega), by rw [hPl]; exact hown⟩
  · have h0 : (r == 0) = false := beq_eq_false_iff_ne.2 (by omega)
    have h1 : (r == 1) = false := beq_eq_false_iff_ne.2 (by omega)
    have h2 : (r == 2) = false := beq_eq_false_iff_ne.2 (by omega)
    have h3 : (r == 3) = false := beq_eq_false_iff_ne.2 (by omega)
    go_wp2_with fail
    go_ret
    exact ⟨P, hdr'.out, _, rfl, hG2, hs2.le (by omega) (by omega), hO2⟩
theorem draw_shift (L : List Int) (A : Option Addr) (c B : Nat) (w : World) (hs : Sl w B A (L.map (Value.int .u8))) (hB : B ≤ w.heap.size) (hu : ∀ z ∈ L, IntKind.u8.has z) (hl : L.length ≤ 1048576) :
    Calls Tryz.prog 5 #[.slice A L.length c] w fun e w' => ∃ (P : List RPhase) (t : Int), (drP P ∧ -9223372036854775808 ≤ t ∧ t ≤ 9223372036854775807) ∧ ∃ v, e = .returned (.tuple #[v, .int .i64 t]) ∧ Below w.heap.size w w' ∧ w'.ownsRow w.heap.size 51 2 v P.length (flat RPhase.cells P) := by
  go_enter Tryz.func5, Tryz.ntmps5
  go_wp2_with fail
  refine (src_from L _ _ B _ hs hB hu hl).mono ?_
  rintro e w1 ⟨rfl, hb1, hs1⟩
  have hz1 := hb1.size
  have hg1 := hs1.2.1
  clear hs hu
  go_wp2_with fail
  refine (src_phL B w.heap.size 0 w1 hs1 (by omega) (by omega)).mono ?_
  rintro e w2 ⟨P, hdr, v, rfl, hg2, hs2, hown⟩
  have hz2 := hg2.size
  go_wp2_with fail
  refine (src_phT B w.heap.size (0 + 100) w2 hs2 (by omega) (by omega)).mono ?_
  rintro e w3 ⟨t, ht, rfl, hg3, hs3⟩
  have hO3 := World.ownsRow.kept hown hg3 (.inr (fun e => by have := (hown.lt _ e).1; omega))
  have hb2 := hb1.grown hg2 hz1 (fun q e => by have := Option.some.inj e; omega)
  have hb3 := hb2.grown hg3 (by omega) (fun q e => by have := Option.some.inj e; omega)
  go_wp2_with fail
  go_ret2
  exact ⟨P, t, ⟨hdr, ht⟩, v, rfl, hb3, owns_moreP hO3 (by omega)⟩
end Go.Proofs.YtpnffdkkmibchaaGreatDoor
