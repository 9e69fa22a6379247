/-
  Contracts of repeating and of the least period of a light: the program's and the reference's. Each under the conditions that it states.
-/
import Derived.Test.YtpnffdkkmibchaaGreatDoorRhyU
set_option linter.unusedVariables false
set_option linter.unnecessarySimpa false
set_option maxRecDepth 100000
set_option linter.unusedSimpArgs false
namespace Go.Proofs.YtpnffdkkmibchaaGreatDoor
open Go.RowKit BigFrame Go.Deep

theorem cls_len (W : List Nat) : (cls W).length = W.length := by simp [cls]
theorem bts_len (W : List Nat) : (bts W).length = W.length := by simp [bts]
theorem cls_w {w : World} {B : Nat} {A : Option Addr} {W : List Nat} (hs : Sl w B A (cls W)) (hB : B ≤ w.heap.size) (hW : 0 < W.length) : ∃ b o : Nat, A = some ⟨b, o, none⟩ ∧ b < w.heap.size ∧ ∀ wx, Below w.heap.size w wx → ∀ k, k < W.length → wx.cell? ⟨b, o + k, none⟩ = some (.string (nm (cyc W k))) := by
  obtain ⟨b, o, rfl, hb, he⟩ := hs (by intro e; have := cls_len W; rw [e] at this; simp at this; omega)
  refine ⟨b, o, rfl, by omega, fun wx hx k hk => ?_⟩
  obtain ⟨hc, _⟩ := bcell hx
  refine (hc _ _ (by omega)).trans (he k _ ?_)
  unfold cls
  rw [List.getElem?_map, List.getElem?_eq_getElem hk, cyc_at hk]; rfl
theorem bts_w {w : World} {B : Nat} {A : Option Addr} {W : List Nat} (hs : Sl w B A (bts W)) (hB : B ≤ w.heap.size) (hW : 0 < W.length) : ∃ b o : Nat, A = some ⟨b, o, none⟩ ∧ b < w.heap.size ∧ ∀ wx, Below w.heap.size w wx → ∀ k, k < W.length → wx.cell? ⟨b, o + k, none⟩ = some (.int .u8 (cyc W k : Int)) := by
  obtain ⟨b, o, rfl, hb, he⟩ := hs (by intro e; have := bts_len W; rw [e] at this; simp at this; omega)
  refine ⟨b, o, rfl, by omega, fun wx hx k hk => ?_⟩
  obtain ⟨hc, _⟩ := bcell hx
  refine (hc _ _ (by omega)).trans (he k _ ?_)
  unfold bts
  rw [List.getElem?_map, List.getElem?_eq_getElem hk, cyc_at hk]; rfl
/-- Numbers of colors are bytes. -/
def codes (W : List Nat) : Prop := ∀ c ∈ W, c < 256
theorem codes_cyc {W : List Nat} (h : codes W) (t : Nat) : cyc W t < 256 := by
  unfold cyc
  rw [List.getD_eq_getElem?_getD]
  cases hq : W[t % W.length]? with
  | none => exact (by decide : (0 : Nat) < 256)
  | some c => exact h c (List.mem_of_getElem? hq)
theorem codes_tn {P : List RPhase} : ∀ k, codes (tnTo P k) := fun k => by
  induction k with
  | zero => intro c hc; cases hc
  | succ k ih =>
    intro c hc
    simp only [tnTo] at hc
    rcases List.mem_append.1 hc with h | h
    · exact ih c h
    · rw [(List.mem_replicate.1 h).2]
      unfold cdM
      split
      · decide
      · exact UInt8.toNat_lt _
theorem nm_inj {a b : Nat} (ha : a < 256) (hb : b < 256) (h : nm a = nm b) : a = b := by
  unfold nm at h
  split at h <;> split at h
  · omega
  · exact absurd (congrArg ByteArray.size h) (by show ¬ ((0 : Nat) = 1); decide)
  · exact absurd (congrArg ByteArray.size h) (by show ¬ ((1 : Nat) = 0); decide)
  · have h1 : a.toUInt8 = b.toUInt8 := by
      have := congrArg (fun s : ByteArray => s.data.toList) h
      simpa using this
    have h2 := congrArg UInt8.toNat h1
    simp at h2
    omega
def repB (W : List Nat) (n : Nat) : Bool := allTo (fun t => decide (cyc W t = cyc W (t + n))) W.length
theorem allTo_all {f : Nat → Bool} : ∀ {n : Nat}, allTo f n = true ↔ ∀ k, k < n → f k = true := fun {n} => by
  constructor
  · intro h k hk
    cases hq : f k
    · rw [allTo_hit hk hq] at h; cases h
    · rfl
  · intro h
    induction n with
    | zero => rfl
    | succ n ih => exact allTo_step (ih fun k hk => h k (by omega)) (h n (Nat.lt_succ_self n))
theorem repB_iff {W : List Nat} (hW : 0 < W.length) (n : Nat) : repB W n = true ↔ per (cyc W) n := by
  rw [per_iff hW]
  unfold repB
  rw [allTo_all]
  constructor
  · intro h t ht; exact of_decide_eq_true (h t ht)
  · intro h t ht; exact decide_eq_true (h t ht)
theorem tmod_nat {a b n : Nat} (h : a % b = n) : ((a : Int)).tmod (b : Int) = (n : Int) := by
  rw [← h, Int.ofNat_tmod]
set_option maxHeartbeats 1600000 in
theorem impl_Rep (W : List Nat) (A : Option Addr) (c B n : Nat) (w : World) (hs : Sl w B A (cls W)) (hB : B ≤ w.heap.size) (hc : codes W) (hW : 0 < W.length) (hl : W.length ≤ 1000) (hn : n ≤ 1000) : Calls Tryz.prog 51 #[.slice A W.length c, .int .i64 n] w fun e w' => e = .returned (.bool (repB W n)) ∧ Below w.heap.size w w' := by
  obtain ⟨b, o, rfl, hb, he⟩ := cls_w hs hB hW
  have he' := Lib.hid he
  have hc' := Lib.hid hc
  clear hs hc he
  go_enter Tryz.func51, Tryz.ntmps51
  go_wp2
  go_loopw [8] (fun i wr => ∃ k : Nat, i = .int .i64 k ∧ k ≤ W.length ∧ Hid (allTo (fun t => decide (cyc W t = cyc W (t + n))) k = true) ∧ Below w.heap.size w wr) (fun i _ => W.length - (intOf i).toNat)
  case atStart => exact ⟨0, rfl, Nat.zero_le _, Lib.hid rfl, by go_grown⟩
  case round =>
    obtain ⟨k, rfl, hk, hv, hB1⟩ := hrel
    have hS1 := hB1.size
    by_cases hlt : k < W.length
    · obtain ⟨r, hr⟩ : ∃ r, (k + n) % W.length = r := ⟨_, rfl⟩
      have hrl : r < W.length := by rw [← hr]; exact Nat.mod_lt _ hW
      have hm : ((k : Int) + (n : Int)).tmod (W.length : Int) = (r : Int) := tmod_nat (a := k + n) hr
      have hm2 : ((k : Int) + (n : Int)) % (W.length : Int) = (r : Int) := by rw [← hr]; simp
      have dp := he'.out wr hB1 k hlt
      have dq := he'.out wr hB1 r hrl
      have hcr : cyc W r = cyc W (k + n) := by rw [← hr, cyc_mod]
      rw [hcr] at dq
      have c1 := codes_cyc hc'.out k
      have c2 := codes_cyc hc'.out (k + n)
      have hq := Lib.hid (show (decide (cyc W k = cyc W (k + n)) : Bool) = decide (cyc W k = cyc W (k + n)) from rfl)
      have hbw : b < wr.heap.size := by omega
      by_cases hab : cyc W k = cyc W (k + n)
      · have hst := Lib.hid (allTo_step (f := fun t => decide (cyc W t = cyc W (t + n))) hv.out (decide_eq_true hab))
        rw [← hab] at dq
        obtain ⟨x, hx⟩ : ∃ x, nm (cyc W k) = x := ⟨_, rfl⟩
        rw [hx] at dp dq
        clear hab hcr c1 c2 hx hr
        go_wp2_with fail
        refine wp_region_grew (by kernel_rfl) (by kernel_rfl) ?_
        repeat (first | (go_big_quiet_step (fail)) | (quiet_step (fail)))
        refine wpQuiet_nil ?_
        rintro _ ⟨⟨w9, hb9⟩, rfl⟩
        try dsimp only
        obtain ⟨hc9, hf9⟩ := bcell hb9
        go_wp2
        go_roundw
        case rel => exact ⟨k + 1, by go_num, by omega, hst, bnext hB1 hb9⟩
        case measure => simp [intOf]; omega
      · have hf := Lib.hid (allTo_hit (f := fun t => decide (cyc W t = cyc W (t + n))) hlt (decide_eq_false hab))
        have hx := bytes_ne (fun e => hab (nm_inj c1 c2 e))
        obtain ⟨x, hx1⟩ : ∃ x, nm (cyc W k) = x := ⟨_, rfl⟩
        obtain ⟨y, hx2⟩ : ∃ y, nm (cyc W (k + n)) = y := ⟨_, rfl⟩
        rw [hx1] at dp hx
        rw [hx2] at dq hx
        clear hab hcr c1 c2 hx1 hx2 hr
        go_wp2_with fail
        refine wp_region_grew (by kernel_rfl) (by kernel_rfl) ?_
        repeat (first | (go_big_quiet_step (fail)) | (quiet_step (fail)))
        refine wpQuiet_nil ?_
        rintro _ ⟨⟨w9, hb9⟩, rfl⟩
        try dsimp only
        obtain ⟨hc9, hf9⟩ := bcell hb9
        go_wp2
        go_ret
        exact ⟨ret_bool hf.out.symm, bnext hB1 hb9⟩
    · obtain rfl : k = W.length := by omega
      go_wp2
      go_ret
      exact ⟨ret_bool hv.out.symm, hB1⟩
theorem Sl.take {w : World} {B : Nat} {A : Option Addr} {xs : List Value} (h : Sl w B A xs) (n : Nat) : Sl w B A (xs.take n) := fun hne => by
  obtain ⟨b, o, e, hb, hc⟩ := h (fun e => hne (by rw [e]; simp))
  refine ⟨b, o, e, hb, fun j u hu => hc j u ?_⟩
  rw [List.getElem?_take] at hu
  split at hu
  · exact hu
  · cases hu
theorem cls_take (W : List Nat) (n : Nat) : cls (W.take n) = (cls W).take n := by unfold cls; rw [List.map_take]
theorem bts_take (W : List Nat) (n : Nat) : bts (W.take n) = (bts W).take n := by unfold bts; rw [List.map_take]
theorem tns_pos {P : List RPhase} (hv : vPhases P = true) : 0 < (tns P).length ∧ (tns P).length ≤ 600 := by
  obtain ⟨h1, h40, hall, hsum⟩ := vPhases_yes hv
  have h2 := tn_len hall P.length (Nat.le_refl _)
  have h3 := tn_len hall 1 h1
  obtain ⟨h4, _⟩ := ph_cases (ok_at hall (show 0 < P.length by omega))
  have h5 := sum_step (show 0 < P.length by omega)
  have h6 : sumPh P 0 = 0 := rfl
  unfold tns
  simp only [Nat.zero_add] at h5
  omega
/-- What the program returns for a row of colors. -/
def Strs (W : List Nat) (w w' : World) (v : Value) : Prop := ∃ A c, v = .slice A W.length c ∧ W.length ≤ c ∧ Sl w' w'.heap.size A (cls W)
set_option maxHeartbeats 1600000 in
theorem impl_Once (P : List RPhase) (A : Option Addr) (c B : Nat) (w : World) (hs : Sl w B A (flat RPhase.cells P)) (hB : B ≤ w.heap.size) (hv : vPhases P = true) : Calls Tryz.prog 30 #[.slice A P.length c] w fun e w' => ∃ n, PerL (tns P) n ∧ ∃ A2 c2, e = .returned (.slice A2 n c2) ∧ n ≤ c2 ∧ Below w.heap.size w w' ∧ Sl w' w'.heap.size A2 (cls ((tns P).take n)) := by
  obtain ⟨hW, hl⟩ := tns_pos hv
  have hc : codes (tns P) := codes_tn _
  obtain ⟨W, hWe⟩ : ∃ W, tns P = W := ⟨_, rfl⟩
  have hWe' := Lib.hid hWe
  have hv' := Lib.hid hv
  have hs' := Lib.hid hs
  rw [hWe] at hW hl hc
  have hc' := Lib.hid hc
  clear hv hs hc
  go_enter Tryz.func30, Tryz.ntmps30
  go_wp2_with fail
  refine (impl_Tn P A c B _ hs'.out hB hv'.out).mono ?_
  rintro e w1 ⟨v, rfl, hb1, hown⟩
  rw [hWe'.out] at hown
  clear hWe
  obtain ⟨hll, ⟨rfl, h0⟩ | ⟨g, cap, cur, rfl, hgb, hh, hcs, hcm, hsz, hat⟩⟩ := id hown
  · rw [cls_len] at hll; omega
  obtain ⟨A7, c7, e7, hsl⟩ := (Rs.of_owns hown).sl
  injection e7 with e8 e9 e10
  subst e8 e10
  have hsl' := Lib.hid hsl
  have hcap : W.length ≤ cap := by omega
  have hcapI : (W.length : Int) ≤ (cap : Int) := by omega
  clear hown hll hh hcs hcm hsz hat hsl e9
  have hS1 := hb1.size
  go_wp2_with fail
  go_loopw [4] (fun i wr => ∃ n : Nat, i = .int .i64 n ∧ (1 ≤ n ∧ n ≤ W.length) ∧ Hid (∀ m, 1 ≤ m → m < n → ¬ per (cyc W) m) ∧ Below w1.heap.size w1 wr) (fun i _ => W.length - (intOf i).toNat)
  case atStart => exact ⟨1, rfl, ⟨Nat.le_refl _, hW⟩, Lib.hid (fun m h1 h2 => by omega), Below.refl _ _⟩
  case round =>
    obtain ⟨n, rfl, ⟨hn1, hn2⟩, hno, hB1⟩ := hrel
    have hB := bnext hb1 hB1
    cases hq : repB W n
    · have hnp : ¬ per (cyc W) n := fun h => by rw [(repB_iff hW n).2 h] at hq; cases hq
      have hlt : n < W.length := by
        rcases Nat.lt_or_ge n W.length with h | h
        · exact h
        · exact absurd (by rw [show n = W.length by omega]; exact cyc_per W) hnp
      have hno2 := Lib.hid (show ∀ m, 1 ≤ m → m < n + 1 → ¬ per (cyc W) m from fun m h1 h2 => by
        rcases (by omega : m < n ∨ m = n) with h | rfl
        · exact hno.out m h1 h
        · exact hnp)
      clear hnp hno
      go_wp2_with fail
      refine (impl_Rep W _ _ w1.heap.size n _ (hsl'.out.below hB1) hB1.size hc'.out hW (by omega) (by omega)).mono ?_
      rintro e w2 ⟨rfl, hb2⟩
      rw [hq]
      go_wp2_with fail
      go_roundw
      case rel => exact ⟨n + 1, by go_num, ⟨by omega, by omega⟩, hno2, bnext hB1 hb2⟩
      case measure => simp [intOf]; omega
    · have hP := Lib.hid (show PerL W n from ⟨hn1, (repB_iff hW n).1 hq, hno.out⟩)
      clear hno
      go_wp2_with fail
      refine (impl_Rep W _ _ w1.heap.size n _ (hsl'.out.below hB1) hB1.size hc'.out hW (by omega) (by omega)).mono ?_
      rintro e w2 ⟨rfl, hb2⟩
      rw [hq]
      have hB2 := bnext hB1 hb2
      have hS2 := hB2.size
      have hBf := bnext hb1 hB2
      go_wp2_with fail
      go_ret
      exact ⟨n, by rw [hWe'.out]; exact hP.out, _, _, rfl, by omega, hBf, by rw [hWe'.out, cls_take]; exact ((hsl'.out.below hB2).more hS2).take n⟩
end Go.Proofs.YtpnffdkkmibchaaGreatDoor
