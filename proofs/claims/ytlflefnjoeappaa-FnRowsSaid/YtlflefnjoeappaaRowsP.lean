/-
  Plain laws of a straight channel and its buoys, no program in sight: none lacks, none is on the wrong side; without one of them it lacks this one. Each under the conditions that it states.
-/
import Derived.Test.YtlflefnjoeappaaGateM
import Derived.Test.YtlflefnjoeappaaWrong
set_option linter.unusedVariables false
set_option linter.unnecessarySimpa false
set_option maxRecDepth 100000
set_option linter.unusedSimpArgs false
namespace Go.Proofs.Ytlflefnjoeappaa
/-! ### A straight channel and its buoys -/
theorem hasB_iff {L : List RBuoy} {b : RBuoy} : hasB L b 0 = true ↔ b ∈ L := by
  unfold hasB
  rw [List.any_eq_true]
  constructor
  · rintro ⟨c, hc, h⟩
    unfold nearB at h
    simp only [Bool.and_eq_true, beq_iff_eq, decide_eq_true_eq] at h
    have := distM_zero h.2
    rcases b with ⟨b0, b1, b2⟩
    rcases c with ⟨c0, c1, c2⟩
    simp only at h this
    obtain ⟨rfl, rfl⟩ := this
    obtain ⟨rfl, _⟩ := h
    exact hc
  · intro h
    refine ⟨b, h, ?_⟩
    unfold nearB
    rw [distM_self]
    simp
theorem hasB_no {L : List RBuoy} {b : RBuoy} (h : b ∉ L) : hasB L b 0 = false := by
  cases hh : hasB L b 0
  · rfl
  · exact absurd (hasB_iff.1 hh) h
theorem lacks_none (L : List RBuoy) : lacks L L 0 = [] := by
  unfold lacks
  rw [List.filter_eq_nil_iff]
  intro b hb
  rw [hasB_iff.2 hb]
  simp
theorem filter_gone {L M : List RBuoy} (h : ∀ b ∈ L, b ∈ M) : L.filter (fun b => !hasB M b 0) = [] := by
  rw [List.filter_eq_nil_iff]
  intro b hb
  rw [hasB_iff.2 (h b hb)]
  simp
theorem lacks_one {X Y : List RBuoy} {b : RBuoy} (h1 : b ∉ X) (h2 : b ∉ Y) : lacks (X ++ b :: Y) (X ++ Y) 0 = [b] := by
  unfold lacks
  rw [List.filter_append, filter_gone (fun c hc => List.mem_append_left _ hc), List.filter_cons, hasB_no (by simp [h1, h2]), filter_gone (fun c hc => List.mem_append_right _ hc)]
  rfl
/-- What makes the gates of a straight line: two ends, their distance. -/
structure Straight (u v : RPoint) (wd s n : Int) : Prop where
  dist : distM u.f0 u.f1 v.f0 v.f1 = n
  pos : 1 ≤ n
  wide : 5 ≤ wd / 2
  step : 2 ≤ s
section
variable {u v : RPoint} {wd s n : Int}
theorem str_seg (h : Straight u v wd s n) : segD [u, v] 0 = n := h.dist
theorem str_len (h : Straight u v wd s n) : lenM [u, v] = n := by
  show lenTo [u, v] 1 = n
  rw [lenTo, lenTo, str_seg h]; omega
theorem str_gate (h : Straight u v wd s n) (d : Int) : gateM [u, v] wd d = ⟨d, (btwM u.f0 u.f1 v.f0 v.f1 d n).1 - wingX u.f1 v.f1 (wd / 2) n, (btwM u.f0 u.f1 v.f0 v.f1 d n).2 + wingX u.f0 v.f0 (wd / 2) n, (btwM u.f0 u.f1 v.f0 v.f1 d n).1 + wingX u.f1 v.f1 (wd / 2) n, (btwM u.f0 u.f1 v.f0 v.f1 d n).2 - wingX u.f0 v.f0 (wd / 2) n⟩ := by
  have hf : fndM [u, v] d = (0, d) := rfl
  unfold gateM placeM gX gY partM
  rw [hf, str_seg h]
  rfl
theorem str_side (P : List RPoint) (h : P = [u, v]) (x y : Int) : chanS P x y = sideM (crossM u.f0 u.f1 v.f0 v.f1 x y) := by subst h; rfl
theorem sideM_pos {c : Int} (h : 0 < c) : sideM c = 1 := by unfold sideM; rw [if_pos h]
theorem sideM_lt {c : Int} (h : c < 0) : sideM c = -1 := by unfold sideM; rw [if_neg (by omega), if_pos h]
theorem str_sides (h : Straight u v wd s n) (d : Int) : chanS [u, v] (gateM [u, v] wd d).f1 (gateM [u, v] wd d).f2 = 1 ∧ chanS [u, v] (gateM [u, v] wd d).f3 (gateM [u, v] wd d).f4 = -1 := by
  rw [str_gate h]
  have hw := wing_cross (ux := u.f0) (uy := u.f1) (vx := v.f0) (vy := v.f1) (h := wd / 2) (i := d) h.dist h.pos h.wide
  rw [str_side _ rfl, str_side _ rfl]
  exact ⟨sideM_pos hw.1, sideM_lt hw.2⟩
theorem plcs_apart {L s : Int} (hs : 2 ≤ s) : (plcs L s).Pairwise fun a b => a + 2 ≤ b ∨ (b = L ∧ a ≠ b) := by
  unfold plcs
  rw [List.pairwise_append]
  refine ⟨?_, List.pairwise_singleton _ _, ?_⟩
  · unfold plcN
    rw [List.pairwise_map]
    refine List.Pairwise.imp ?_ List.pairwise_lt_range
    intro i j hij
    left
    have := Int.mul_le_mul_of_nonneg_right (show (i : Int) + 1 ≤ j by omega) (show 0 ≤ s by omega)
    rw [Int.add_mul] at this
    omega
  · intro a ha b hb
    rw [List.mem_singleton] at hb
    subst hb
    right
    simp only [plcN, List.mem_map, List.mem_range] at ha
    obtain ⟨k, hk, rfl⟩ := ha
    have := (cnt_iff (L := b) (s := s) (by omega) k).2 hk
    exact ⟨rfl, by omega⟩
theorem gates_apart (h : Straight u v wd s n) : (gates [u, v] wd s).Pairwise fun g g' => ¬ (g.f1 = g'.f1 ∧ g.f2 = g'.f2) ∧ ¬ (g.f3 = g'.f3 ∧ g.f4 = g'.f4) := by
  unfold gates
  rw [List.pairwise_map, str_len h]
  refine List.Pairwise.imp ?_ (plcs_apart h.step)
  intro a b hab
  have hne := btwM_apart (i := a) (j := b) h.dist h.pos (by omega)
  rw [str_gate h, str_gate h]
  simp only
  refine ⟨fun hq => hne (Prod.ext (by omega) (by omega)), fun hq => hne (Prod.ext (by omega) (by omega))⟩
theorem buoys_mem {G : List RGate} {b : RBuoy} (h : b ∈ buoysOf G) : ∃ g ∈ G, b = ⟨g.f1, g.f2, 1⟩ ∨ b = ⟨g.f3, g.f4, 2⟩ := by
  unfold buoysOf at h
  rw [List.mem_flatMap] at h
  obtain ⟨g, hg, hb⟩ := h
  exact ⟨g, hg, by simpa using hb⟩
theorem buoys_nodup : ∀ {G : List RGate}, G.Pairwise (fun g g' => ¬ (g.f1 = g'.f1 ∧ g.f2 = g'.f2) ∧ ¬ (g.f3 = g'.f3 ∧ g.f4 = g'.f4)) → (buoysOf G).Nodup
  | [], _ => by simp [buoysOf]
  | g :: G, h => by
    rw [List.pairwise_cons] at h
    have ih := buoys_nodup h.2
    have e : buoysOf (g :: G) = ⟨g.f1, g.f2, 1⟩ :: ⟨g.f3, g.f4, 2⟩ :: buoysOf G := by simp [buoysOf]
    rw [e, List.nodup_cons, List.nodup_cons]
    refine ⟨?_, ?_, ih⟩
    · rw [List.mem_cons]
      rintro (hh | hh)
      · injection hh with _ _ h3
        omega
      · obtain ⟨g', hg', hb⟩ := buoys_mem hh
        have := (h.1 g' hg').1
        rcases hb with hb | hb
        · injection hb with h1 h2 h3
          exact this ⟨h1, h2⟩
        · injection hb with h1 h2 h3
          omega
    · intro hh
      obtain ⟨g', hg', hb⟩ := buoys_mem hh
      have := (h.1 g' hg').2
      rcases hb with hb | hb
      · injection hb with h1 h2 h3
        omega
      · injection hb with h1 h2 h3
        exact this ⟨h1, h2⟩
/-- Every buoy is on its side; with the other kind it is not. -/
def Fits (P : List RPoint) (b : RBuoy) : Prop := (b.f2 = 1 ∧ chanS P b.f0 b.f1 = 1) ∨ (b.f2 = 2 ∧ chanS P b.f0 b.f1 = -1)
theorem fits_ok {P : List RPoint} {b : RBuoy} (h : Fits P b) : bad P b = false := by
  unfold bad
  rcases h with ⟨h1, h2⟩ | ⟨h1, h2⟩ <;> rw [h1, h2] <;> rfl
theorem fits_turned {P : List RPoint} {b : RBuoy} (h : Fits P b) : bad P ⟨b.f0, b.f1, 3 - b.f2⟩ = true := by
  unfold bad
  rcases h with ⟨h1, h2⟩ | ⟨h1, h2⟩ <;> simp only [h1, h2] <;> rfl
theorem str_fits (h : Straight u v wd s n) : ∀ b ∈ buoysOf (gates [u, v] wd s), Fits [u, v] b := by
  intro b hb
  obtain ⟨g, hg, hb⟩ := buoys_mem hb
  unfold gates at hg
  rw [List.mem_map] at hg
  obtain ⟨d, _, rfl⟩ := hg
  have hs := str_sides h d
  rcases hb with rfl | rfl
  · exact .inl ⟨rfl, hs.1⟩
  · exact .inr ⟨rfl, hs.2⟩
end
theorem wr_none {P : List RPoint} {L : List RBuoy} (h : ∀ b ∈ L, Fits P b) : ∀ k, k ≤ L.length → wrTo P L k = []
  | 0, _ => rfl
  | k + 1, hk => by
    have hg : L.getD k default = L[k] := by rw [List.getD_eq_getElem?_getD, List.getElem?_eq_getElem]; rfl
    rw [wrTo, wr_none h k (by omega), hg, fits_ok (h _ (List.getElem_mem _))]
    rfl
/-- The list with the kind of number k turned. -/
def turnAt (L : List RBuoy) (k : Nat) : List RBuoy := L.set k ⟨(L.getD k default).f0, (L.getD k default).f1, 3 - (L.getD k default).f2⟩
theorem turnAt_len (L : List RBuoy) (k : Nat) : (turnAt L k).length = L.length := by simp [turnAt]
theorem wr_one {P : List RPoint} {L : List RBuoy} (h : ∀ b ∈ L, Fits P b) {k : Nat} (hk : k < L.length) : ∀ m, m ≤ L.length → wrTo P (turnAt L k) m = if k < m then [(k : Int)] else []
  | 0, _ => by rw [if_neg (by omega)]; rfl
  | m + 1, hm => by
    rw [wrTo, wr_one h hk m (by omega)]
    have hgk : L.getD k default = L[k] := by rw [List.getD_eq_getElem?_getD, List.getElem?_eq_getElem]; rfl
    by_cases e : m = k
    · subst e
      have hg : (turnAt L m).getD m default = ⟨(L.getD m default).f0, (L.getD m default).f1, 3 - (L.getD m default).f2⟩ := by
        unfold turnAt
        rw [List.getD_eq_getElem?_getD, List.getElem?_set_self (by omega)]
        rfl
      rw [hg, hgk, fits_turned (h _ (List.getElem_mem _)), if_neg (show ¬ m < m by omega), if_pos (show m < m + 1 by omega)]
      rfl
    · have hg : (turnAt L k).getD m default = L[m] := by
        unfold turnAt
        rw [List.getD_eq_getElem?_getD, List.getElem?_set_ne (by omega), List.getElem?_eq_getElem (by omega)]
        rfl
      rw [hg, fits_ok (h _ (List.getElem_mem _))]
      by_cases h2 : k < m
      · rw [if_pos h2, if_pos (show k < m + 1 by omega)]; simp
      · rw [if_neg h2, if_neg (show ¬ k < m + 1 by omega)]; simp
theorem lacks_cut {L : List RBuoy} (h : L.Nodup) {k : Nat} (hk : k < L.length) : lacks L (L.take k ++ L.drop (k + 1)) 0 = [L[k]] := by
  have e : L = L.take k ++ L[k] :: L.drop (k + 1) := by rw [List.getElem_cons_drop, List.take_append_drop]
  have h' := h
  rw [e, List.nodup_append, List.nodup_cons] at h'
  have h1 : L[k] ∉ L.take k := fun hh => h'.2.2 _ hh _ (List.mem_cons_self) rfl
  have := lacks_one h1 h'.2.1.1
  rw [← e] at this
  exact this
end Go.Proofs.Ytlflefnjoeappaa
