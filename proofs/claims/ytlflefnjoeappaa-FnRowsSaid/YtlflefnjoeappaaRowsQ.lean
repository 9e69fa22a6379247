/-
  Plain laws of the channel that the law of rows draws, cut to its first two points. Each under the conditions that it states.
-/
import Derived.Test.YtlflefnjoeappaaRowsP
import Derived.Test.YtlflefnjoeappaaR8C
import Derived.Test.YtlflefnjoeappaaChanP
import Derived.Test.YtlflefnjoeappaaGate
set_option linter.unusedVariables false
set_option linter.unnecessarySimpa false
set_option maxRecDepth 100000
set_option linter.unusedSimpArgs false
namespace Go.Proofs.Ytlflefnjoeappaa
theorem sq_lo {x : Int} (h : 100 ≤ x) : 10000 ≤ x * x := by
  have := Int.mul_le_mul h h (by omega) (by omega)
  omega
theorem sq_no (x : Int) : 0 ≤ x * x := by
  rcases (by omega : 0 ≤ x ∨ x ≤ 0) with h | h
  · exact Int.mul_nonneg h h
  · have := Int.mul_nonneg (show 0 ≤ -x by omega) (show 0 ≤ -x by omega)
    rwa [Int.neg_mul_neg] at this
theorem wing_small {u v wd n : Int} (hd : -999 ≤ v - u ∧ v - u ≤ 999) (hw : 40 ≤ wd ∧ wd ≤ 438) (hn : 100 ≤ n) : -2200 ≤ wingX u v (wd / 2) n ∧ wingX u v (wd / 2) n ≤ 2200 := by
  have hm := mul_bd (x := v - u) (y := wd / 2) (B := 999) (C := 219) (by omega) (by omega) (by omega) (by omega)
  have hr := divR_near (a := (v - u) * (wd / 2)) (n := n) (by omega)
  unfold wingX
  generalize (v - u) * (wd / 2) = a at *
  generalize divR a n = r at *
  constructor
  · rcases (by omega : r ≤ -2201 ∨ -2201 < r) with h | h
    · have := Int.mul_le_mul_of_nonneg_left h (show 0 ≤ n by omega)
      omega
    · omega
  · rcases (by omega : 2201 ≤ r ∨ r < 2201) with h | h
    · have := Int.mul_le_mul_of_nonneg_left h (show 0 ≤ n by omega)
      omega
    · omega
/-- The two ends of a drawn line. -/
structure Two (u v : RPoint) (wd s : Int) : Prop where
  ux : 3000 ≤ u.f0 ∧ u.f0 ≤ 3399
  uy : 3000 ≤ u.f1 ∧ u.f1 ≤ 3399
  dx : 100 ≤ v.f0 - u.f0 ∧ v.f0 - u.f0 ≤ 999
  dy : -450 ≤ v.f1 - u.f1 ∧ v.f1 - u.f1 ≤ 449
  wide : 40 ≤ wd ∧ wd ≤ 438
  step : 60 ≤ s ∧ s ≤ 759
theorem good_two {nm : ByteArray} {P : List RPoint} {wd s : Int} (h : GoodC nm P wd) (hs : 60 ≤ s ∧ s ≤ 759) : Two (P.getD 0 default) (P.getD 1 default) wd s := by
  obtain ⟨_, hw, hl, hH, hS⟩ := h
  have h0 := hS 0 (by omega)
  exact ⟨hH.1, hH.2, h0.1, h0.2, hw, hs⟩
theorem two_good {nm : ByteArray} {P : List RPoint} {wd s : Int} (h : GoodC nm P wd) (hs : 60 ≤ s ∧ s ≤ 759) : GoodC nm [P.getD 0 default, P.getD 1 default] wd := by
  have t := good_two h hs
  refine ⟨h.1, h.2.1, by simp, ⟨t.ux, t.uy⟩, fun k hk => ?_⟩
  obtain rfl : k = 0 := by simp at hk; omega
  exact ⟨t.dx, t.dy⟩
section
variable {u v : RPoint} {wd s : Int}
theorem two_n (h : Two u v wd s) : 100 ≤ distM u.f0 u.f1 v.f0 v.f1 := by
  unfold distM
  rw [← rootM_iff 100 _ (by omega)]
  unfold sqM
  have a := sq_lo h.dx.1
  have b := sq_no (v.f1 - u.f1)
  grind
theorem two_str (h : Two u v wd s) : Straight u v wd s (distM u.f0 u.f1 v.f0 v.f1) := ⟨rfl, by have := two_n h; omega, by have := h.wide; omega, by have := h.step; omega⟩
theorem plcs_in {L s d : Int} (hL : 0 ≤ L) (hs : 1 ≤ s) (h : d ∈ plcs L s) : 0 ≤ d ∧ d ≤ L := by
  unfold plcs plcN at h
  rw [List.mem_append, List.mem_map, List.mem_singleton] at h
  rcases h with ⟨k, hk, rfl⟩ | rfl
  · rw [List.mem_range] at hk
    have := (cnt_iff (L := L) hs k).2 hk
    exact ⟨Int.mul_nonneg (by omega) (by omega), by omega⟩
  · omega
theorem two_place (h : Two u v wd s) {d : Int} (h0 : 0 ≤ d) (h1 : d ≤ lenM [u, v]) : (2550 ≤ (placeM [u, v] d).1 ∧ (placeM [u, v] d).1 ≤ 4398) ∧ 2550 ≤ (placeM [u, v] d).2 ∧ (placeM [u, v] d).2 ≤ 4398 := by
  have hn := two_n h
  refine place_in (by simp) (fun j hj => ?_) (fun k hk => ?_) h0 h1
  · obtain rfl : j = 0 := by simp at hj; omega
    rw [str_seg (two_str h)]; omega
  · have a1 := h.ux; have a2 := h.uy; have a3 := h.dx; have a4 := h.dy
    rcases (by simp at hk; omega : k = 0 ∨ k = 1) with rfl | rfl
    · show (2550 ≤ u.f0 ∧ u.f0 ≤ 4398) ∧ 2550 ≤ u.f1 ∧ u.f1 ≤ 4398
      omega
    · show (2550 ≤ v.f0 ∧ v.f0 ≤ 4398) ∧ 2550 ≤ v.f1 ∧ v.f1 ≤ 4398
      omega
theorem two_ok (h : Two u v wd s) : ∀ g ∈ gates [u, v] wd s, okGate g = true := by
  intro g hg
  unfold gates at hg
  rw [List.mem_map] at hg
  obtain ⟨d, hd, rfl⟩ := hg
  have hn := two_n h
  have hlen := str_len (two_str h)
  have hd' := plcs_in (by omega) (by have := h.step; omega) hd
  have hp := two_place h hd'.1 hd'.2
  have e : gateM [u, v] wd d = ⟨d, (placeM [u, v] d).1 - wingX u.f1 v.f1 (wd / 2) (distM u.f0 u.f1 v.f0 v.f1), (placeM [u, v] d).2 + wingX u.f0 v.f0 (wd / 2) (distM u.f0 u.f1 v.f0 v.f1), (placeM [u, v] d).1 + wingX u.f1 v.f1 (wd / 2) (distM u.f0 u.f1 v.f0 v.f1), (placeM [u, v] d).2 - wingX u.f0 v.f0 (wd / 2) (distM u.f0 u.f1 v.f0 v.f1)⟩ := gate_is (k := 0) rfl rfl rfl rfl rfl
  rw [e]
  have a3 := h.dx; have a4 := h.dy
  have w1 := wing_small (u := u.f0) (v := v.f0) (by omega) h.wide hn
  have w2 := wing_small (u := u.f1) (v := v.f1) (by omega) h.wide hn
  unfold okGate vPoint
  rw [inB_mk (by simp only; omega) (by simp only; omega), inB_mk (by simp only; omega) (by simp only; omega), inB_mk (by simp only; omega) (by simp only; omega), inB_mk (by simp only; omega) (by simp only; omega)]
  rfl
theorem two_gtC {nm : ByteArray} (h : Two u v wd s) (hv : vChan nm [u, v] wd = true) : gtC nm [u, v] wd s = 5 ∨ (gtC nm [u, v] wd s = 0 ∧ (gates [u, v] wd s).length ≤ 32) := by
  have hs := h.step
  unfold gtC
  rw [hv, inB_mk (by omega) (by omega), if_neg (by simp), if_neg (by simp)]
  by_cases hl : 32 < (gates [u, v] wd s).length
  · rw [if_pos hl]; exact .inl rfl
  · rw [if_neg hl, if_pos (List.all_eq_true.2 (two_ok h))]
    exact .inr ⟨rfl, by omega⟩
theorem two_len (h : Two u v wd s) : 2 ≤ (gates [u, v] wd s).length := by
  rw [gates_len, str_len (two_str h)]
  have hn := two_n h
  have := (cnt_iff (L := distM u.f0 u.f1 v.f0 v.f1) (s := s) (by have := h.step; omega) 0).1 (by simp; omega)
  omega
theorem two_head (h : Two u v wd s) : ((gates [u, v] wd s).getD 0 default).f0 = 0 := by
  have hn := two_n h
  have hc := (cnt_iff (L := distM u.f0 u.f1 v.f0 v.f1) (s := s) (by have := h.step; omega) 0).1 (by simp; omega)
  unfold gates
  rw [str_len (two_str h)]
  obtain ⟨m, hm⟩ : ∃ m, cntM (distM u.f0 u.f1 v.f0 v.f1) s = m + 1 := ⟨_, (Nat.succ_pred_eq_of_pos hc).symm⟩
  unfold plcs plcN
  rw [hm, List.range_succ_eq_map]
  show (gateM [u, v] wd (((0 : Nat) : Int) * s)).f0 = 0
  simp [gateM]
theorem vb_all {L : List RBuoy} (hl : L.length ≤ 64) (h : ∀ b ∈ L, vPoint b.f0 b.f1 = true ∧ 1 ≤ b.f2 ∧ b.f2 ≤ 9) : vBuoys L = true := by
  unfold vBuoys
  rw [Bool.and_eq_true, decide_eq_true_eq]
  refine ⟨?_, by omega⟩
  suffices hh : ∀ n, n ≤ L.length → allTo (okBuoy L) n = true from hh _ (Nat.le_refl _)
  intro n
  induction n with
  | zero => exact fun _ => rfl
  | succ n ih =>
    intro hn
    refine allTo_step (ih (by omega)) ?_
    have hg : L.getD n default = L[n] := by rw [List.getD_eq_getElem?_getD, List.getElem?_eq_getElem]; rfl
    have := h _ (List.getElem_mem (h := hn))
    rw [okBuoy_is hg, this.1, inB_mk this.2.1 this.2.2]
    rfl
theorem two_buoy (h : Two u v wd s) : ∀ b ∈ buoysOf (gates [u, v] wd s), vPoint b.f0 b.f1 = true ∧ 1 ≤ b.f2 ∧ b.f2 ≤ 2 := by
  intro b hb
  obtain ⟨g, hg, hb⟩ := buoys_mem hb
  have ho := two_ok h g hg
  unfold okGate at ho
  rw [Bool.and_eq_true] at ho
  rcases hb with rfl | rfl
  · exact ⟨ho.1, by simp⟩
  · exact ⟨ho.2, by simp⟩
theorem cut_mem {L : List RBuoy} {k : Nat} {b : RBuoy} (h : b ∈ L.take k ++ L.drop (k + 1)) : b ∈ L := by
  rcases List.mem_append.1 h with h | h
  · exact List.mem_of_mem_take h
  · exact List.mem_of_mem_drop h
theorem turn_mem {L : List RBuoy} {k : Nat} {b : RBuoy} (hk : k < L.length) (h : b ∈ turnAt L k) : b ∈ L ∨ ∃ a ∈ L, b = ⟨a.f0, a.f1, 3 - a.f2⟩ := by
  unfold turnAt at h
  rcases List.mem_or_eq_of_mem_set h with h | h
  · exact .inl h
  · refine .inr ⟨L[k], List.getElem_mem hk, ?_⟩
    rw [h, List.getD_eq_getElem?_getD, List.getElem?_eq_getElem hk]
    rfl
/-- What the law of rows asks for, where the gates are given. -/
structure Rows (nm : ByteArray) (u v : RPoint) (wd s : Int) (G : List RGate) (B : List RBuoy) : Prop where
  len : 2 ≤ G.length ∧ G.length ≤ 32
  head : (G.getD 0 default).f0 = 0
  two : B.length = 2 * G.length
  msC : msC nm [u, v] wd s B 0 = 0
  msL : msL nm [u, v] wd s B 0 = []
  wrC : wrC nm [u, v] wd B = 0
  wrK : wrK nm [u, v] wd B = []
  cutC : ∀ k, k < B.length → Proofs.Ytlflefnjoeappaa.msC nm [u, v] wd s (B.take k ++ B.drop (k + 1)) 0 = 0
  cutL : ∀ k (h : k < B.length), Proofs.Ytlflefnjoeappaa.msL nm [u, v] wd s (B.take k ++ B.drop (k + 1)) 0 = [B[k]]
  trnC : ∀ k, k < B.length → Proofs.Ytlflefnjoeappaa.wrC nm [u, v] wd (turnAt B k) = 0
  trnK : ∀ k, k < B.length → Proofs.Ytlflefnjoeappaa.wrK nm [u, v] wd (turnAt B k) = [(k : Int)]
  kind : ∀ k, k < B.length → 1 ≤ (B.getD k default).f2 ∧ (B.getD k default).f2 ≤ 2
theorem rows_all {nm : ByteArray} (h : Two u v wd s) (hv : vChan nm [u, v] wd = true) (hc : gtC nm [u, v] wd s = 0) (hl : (gates [u, v] wd s).length ≤ 32) : Rows nm u v wd s (gates [u, v] wd s) (buoysOf (gates [u, v] wd s)) := by
  have hb := two_buoy h
  have hlen := buoysOf_len (gates [u, v] wd s)
  have hnd := buoys_nodup (gates_apart (two_str h))
  have hfit := str_fits (two_str h)
  have hvb := vb_all (L := buoysOf (gates [u, v] wd s)) (by omega) (fun b hm => ⟨(hb b hm).1, (hb b hm).2.1, by have := (hb b hm).2.2; omega⟩)
  have hcut : ∀ k, k < (buoysOf (gates [u, v] wd s)).length → vBuoys ((buoysOf (gates [u, v] wd s)).take k ++ (buoysOf (gates [u, v] wd s)).drop (k + 1)) = true := fun k hk => vb_all (by rw [List.length_append, List.length_take, List.length_drop]; omega) (fun b hm => ⟨(hb b (cut_mem hm)).1, (hb b (cut_mem hm)).2.1, by have := (hb b (cut_mem hm)).2.2; omega⟩)
  have htrn : ∀ k, k < (buoysOf (gates [u, v] wd s)).length → vBuoys (turnAt (buoysOf (gates [u, v] wd s)) k) = true := fun k hk => vb_all (by rw [turnAt_len]; omega) (fun b hm => by
    rcases turn_mem hk hm with h1 | ⟨a, h1, rfl⟩
    · exact ⟨(hb b h1).1, (hb b h1).2.1, by have := (hb b h1).2.2; omega⟩
    · have := hb a h1
      exact ⟨this.1, by simp only; omega, by simp only; omega⟩)
  have hC : ∀ L, vBuoys L = true → msC nm [u, v] wd s L 0 = 0 := fun L hL => by
    unfold msC
    rw [if_neg (by simp [hv, hL]), inB_mk (by omega) (by omega), if_neg (by simp), hc]
  have hW : ∀ L, vBuoys L = true → wrC nm [u, v] wd L = 0 ∧ wrK nm [u, v] wd L = wrTo [u, v] L L.length := fun L hL => ⟨by unfold wrC; rw [if_pos ⟨hv, hL⟩], by unfold wrK; rw [if_pos ⟨hv, hL⟩]⟩
  refine ⟨⟨two_len h, hl⟩, two_head h, hlen, hC _ hvb, ?_, (hW _ hvb).1, ?_, fun k hk => hC _ (hcut k hk), fun k hk => ?_, fun k hk => (hW _ (htrn k hk)).1, fun k hk => ?_, fun k hk => ?_⟩
  · unfold msL; rw [if_pos (hC _ hvb)]; exact lacks_none _
  · rw [(hW _ hvb).2]; exact wr_none hfit _ (Nat.le_refl _)
  · unfold msL; rw [if_pos (hC _ (hcut k hk))]; exact lacks_cut hnd hk
  · rw [(hW _ (htrn k hk)).2, wr_one hfit hk _ (by rw [turnAt_len]; omega), turnAt_len, if_pos hk]
  · have hg : (buoysOf (gates [u, v] wd s)).getD k default = (buoysOf (gates [u, v] wd s))[k] := by rw [List.getD_eq_getElem?_getD, List.getElem?_eq_getElem hk]; rfl
    rw [hg]
    exact (hb _ (List.getElem_mem hk)).2
end
end Go.Proofs.Ytlflefnjoeappaa
