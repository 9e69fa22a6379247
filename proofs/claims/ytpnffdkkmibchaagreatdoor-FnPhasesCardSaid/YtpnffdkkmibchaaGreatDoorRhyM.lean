/-
  Plain words for rhythms: periods of a cyclic word, its least rotation, runs of equal letters; what the program finds is what the reference finds. Under the conditions that each states.
-/
import Derived.Test.YtpnffdkkmibchaaGreatDoorKit
set_option linter.unusedVariables false
set_option maxRecDepth 100000
set_option linter.unusedSimpArgs false
namespace Go.Proofs.YtpnffdkkmibchaaGreatDoor

def per (f : Nat → Nat) (n : Nat) : Prop := ∀ t, f (t + n) = f t
/-- A word, read round and round. -/
def cyc (L : List Nat) : Nat → Nat := fun t => L.getD (t % L.length) 0
theorem cyc_per (L : List Nat) : per (cyc L) L.length := fun t => by unfold cyc; rw [Nat.add_mod_right]
theorem cyc_at {L : List Nat} {t : Nat} (h : t < L.length) : cyc L t = L[t] := by
  unfold cyc
  rw [Nat.mod_eq_of_lt h, List.getD_eq_getElem?_getD, List.getElem?_eq_getElem h]; rfl
theorem cyc_mod (L : List Nat) (t : Nat) : cyc L (t % L.length) = cyc L t := by unfold cyc; rw [Nat.mod_mod]
theorem cyc_get {L : List Nat} {t : Nat} (h : t % L.length < L.length) : L[t % L.length] = cyc L t := by rw [← cyc_at h, cyc_mod]
theorem per_mul {f : Nat → Nat} {n : Nat} (h : per f n) (q t : Nat) : f (t + q * n) = f t := by
  induction q with
  | zero => simp
  | succ q ih => rw [Nat.add_mul, Nat.one_mul, ← Nat.add_assoc, h, ih]
theorem per_mod {f : Nat → Nat} {n : Nat} (h : per f n) (t : Nat) : f (t % n) = f t := by
  have h1 := per_mul h (t / n) (t % n)
  rw [show t % n + t / n * n = t by rw [Nat.mul_comm]; exact Nat.mod_add_div t n] at h1
  exact h1.symm
/-- The program's test: the same again n tenths later. -/
theorem per_iff {L : List Nat} (hL : 0 < L.length) (n : Nat) : per (cyc L) n ↔ ∀ t, t < L.length → cyc L t = cyc L (t + n) := by
  constructor
  · intro h t _; exact (h t).symm
  · intro h t
    have h1 := h (t % L.length) (Nat.mod_lt _ hL)
    rw [cyc_mod] at h1
    rw [h1]
    unfold cyc
    rw [Nat.mod_add_mod]
/-- The least period. -/
def PerL (L : List Nat) (n : Nat) : Prop := 1 ≤ n ∧ per (cyc L) n ∧ ∀ m, 1 ≤ m → m < n → ¬ per (cyc L) m
theorem PerL.le {L : List Nat} {n : Nat} (h : PerL L n) (hL : 0 < L.length) : n ≤ L.length := by
  rcases Nat.lt_or_ge L.length n with h1 | h1
  · exact absurd (cyc_per L) (h.2.2 _ hL h1)
  · exact h1
theorem PerL.uniq {L : List Nat} {n m : Nat} (h : PerL L n) (h2 : PerL L m) : n = m := by
  rcases Nat.lt_trichotomy n m with h1 | h1 | h1
  · exact absurd h.2.1 (h2.2.2 _ h.1 h1)
  · exact h1
  · exact absurd h2.2.1 (h.2.2 _ h2.1 h1)
/-- The least period divides the length. -/
theorem PerL.dvd {L : List Nat} {n : Nat} (h : PerL L n) (hL : 0 < L.length) : L.length % n = 0 := by
  rcases Nat.eq_zero_or_pos (L.length % n) with h0 | h0
  · exact h0
  · refine absurd (fun t => ?_) (h.2.2 _ h0 (Nat.mod_lt _ h.1))
    have h1 := per_mul h.2.1 (L.length / n) (t + L.length % n)
    rw [← h1, show t + L.length % n + L.length / n * n = t + L.length by have := Nat.mod_add_div L.length n; rw [Nat.mul_comm] at this; omega]
    exact cyc_per L t
/-- The reference's test: a divisor, the same again n tenths later without the end. -/
def shiftOk (L : List Nat) (n : Nat) : Prop := ∀ i, i + n < L.length → cyc L i = cyc L (i + n)
theorem per_shift {L : List Nat} {n : Nat} (hL : 0 < L.length) (hn : 1 ≤ n) (hd : L.length % n = 0) (h : shiftOk L n) : per (cyc L) n := by
  have key : ∀ q i, i + q * n < L.length → cyc L (i + q * n) = cyc L i := fun q => by
    induction q with
    | zero => intro i _; simp
    | succ q ih =>
      intro i hi
      have e : i + (q + 1) * n = i + q * n + n := by rw [Nat.add_mul, Nat.one_mul]; omega
      rw [e] at hi ⊢
      rw [← h (i + q * n) (by omega)]
      exact ih i (by omega)
  have low : ∀ t, t < L.length → cyc L t = cyc L (t % n) := fun t ht => by
    have h1 := key (t / n) (t % n) (by rw [Nat.mul_comm, Nat.mod_add_div]; exact ht)
    rw [show t % n + t / n * n = t by rw [Nat.mul_comm]; exact Nat.mod_add_div t n] at h1
    exact h1
  have all : ∀ t, cyc L t = cyc L (t % n) := fun t => by
    rw [← cyc_mod, low _ (Nat.mod_lt _ hL)]
    rw [Nat.mod_mod_of_dvd t (Nat.dvd_of_mod_eq_zero hd)]
  intro t
  rw [all (t + n), all t, Nat.add_mod_right]
theorem shift_per {L : List Nat} {n : Nat} (h : per (cyc L) n) : shiftOk L n := fun i _ => (h i).symm
/-- What the reference finds is the least period. -/
theorem PerL.spec {L : List Nat} {n : Nat} (hL : 0 < L.length) (h1 : 1 ≤ n) (hd : L.length % n = 0) (hs : shiftOk L n) (hm : ∀ m, 1 ≤ m → m < n → ¬ (L.length % m = 0 ∧ shiftOk L m)) : PerL L n := by
  have hp := per_shift hL h1 hd hs
  -- a least period there is
  have hex : ∀ k, 1 ≤ k → per (cyc L) k → ∃ m, m ≤ k ∧ PerL L m := fun k => by
    induction k using Nat.strongRecOn with
    | _ k ih =>
      intro hk hpk
      by_cases hq : ∃ m, 1 ≤ m ∧ m < k ∧ per (cyc L) m
      · obtain ⟨m, h3, h4, h5⟩ := hq
        obtain ⟨m', h6, h7⟩ := ih m h4 h3 h5
        exact ⟨m', by omega, h7⟩
      · exact ⟨k, Nat.le_refl _, hk, hpk, fun m h3 h4 h5 => hq ⟨m, h3, h4, h5⟩⟩
  obtain ⟨m, hmn, hP⟩ := hex n h1 hp
  rcases Nat.lt_or_ge m n with h2 | h2
  · exact absurd ⟨hP.dvd hL, shift_per hP.2.1⟩ (hm m hP.1 h2)
  · rw [show n = m by omega]; exact hP

/-! ### The least rotation -/
def ltF (n : Nat) (u v : Nat → Nat) : Prop := ∃ k, k < n ∧ (∀ j, j < k → u j = v j) ∧ u k < v k
def eqF (n : Nat) (u v : Nat → Nat) : Prop := ∀ k, k < n → u k = v k
def rt (f : Nat → Nat) (i : Nat) : Nat → Nat := fun k => f (i + k)
theorem first_diff {n : Nat} {u v : Nat → Nat} (h : ¬ eqF n u v) : ∃ k, k < n ∧ (∀ j, j < k → u j = v j) ∧ u k ≠ v k := by
  induction n with
  | zero => exact absurd (fun k hk => absurd hk (Nat.not_lt_zero _)) h
  | succ n ih =>
    by_cases h1 : eqF n u v
    · refine ⟨n, Nat.lt_succ_self n, h1, fun e => h (fun k hk => ?_)⟩
      rcases (by omega : k < n ∨ k = n) with h2 | rfl
      · exact h1 k h2
      · exact e
    · obtain ⟨k, h2, h3, h4⟩ := ih h1
      exact ⟨k, by omega, h3, h4⟩
theorem tri (n : Nat) (u v : Nat → Nat) : ltF n u v ∨ eqF n u v ∨ ltF n v u := by
  by_cases h : eqF n u v
  · exact Or.inr (Or.inl h)
  · obtain ⟨k, h1, h2, h3⟩ := first_diff h
    rcases Nat.lt_or_gt_of_ne h3 with h4 | h4
    · exact Or.inl ⟨k, h1, h2, h4⟩
    · exact Or.inr (Or.inr ⟨k, h1, fun j hj => (h2 j hj).symm, h4⟩)
theorem ltF_trans {n : Nat} {u v w : Nat → Nat} (h : ltF n u v) (h2 : ltF n v w) : ltF n u w := by
  obtain ⟨k, a1, a2, a3⟩ := h
  obtain ⟨l, b1, b2, b3⟩ := h2
  rcases Nat.lt_trichotomy k l with h3 | h3 | h3
  · exact ⟨k, a1, fun j hj => (a2 j hj).trans (b2 j (by omega)), by rw [← b2 k h3]; exact a3⟩
  · subst h3
    exact ⟨k, a1, fun j hj => (a2 j hj).trans (b2 j hj), by omega⟩
  · exact ⟨l, b1, fun j hj => (a2 j (by omega)).trans (b2 j hj), by rw [a2 l h3]; exact b3⟩
theorem ltF_irr {n : Nat} {u : Nat → Nat} : ¬ ltF n u u := fun ⟨k, _, _, h⟩ => Nat.lt_irrefl _ h
theorem ltF_eq {n : Nat} {u v w : Nat → Nat} (h : eqF n u v) (h2 : ltF n v w) : ltF n u w := by
  obtain ⟨k, b1, b2, b3⟩ := h2
  exact ⟨k, b1, fun j hj => (h j (by omega)).trans (b2 j hj), by rw [h k b1]; exact b3⟩
/-- Number i begins a least rotation. -/
def isMin (f : Nat → Nat) (n i : Nat) : Prop := ∀ j, j < n → ¬ ltF n (rt f j) (rt f i)
theorem isMin_eq {f : Nat → Nat} {n i j : Nat} (h : isMin f n i) (h2 : isMin f n j) (hi : i < n) (hj : j < n) : eqF n (rt f i) (rt f j) := by
  rcases tri n (rt f i) (rt f j) with h1 | h1 | h1
  · exact absurd h1 (h2 i hi)
  · exact h1
  · exact absurd h1 (h j hj)
theorem min_ex (f : Nat → Nat) (n : Nat) : ∀ m, 1 ≤ m → ∃ i, i < m ∧ ∀ j, j < m → ¬ ltF n (rt f j) (rt f i) := fun m => by
  induction m with
  | zero => intro h; omega
  | succ m ih =>
    intro _
    by_cases hm : m = 0
    · subst hm
      exact ⟨0, by omega, fun j hj => by rw [show j = 0 by omega]; exact ltF_irr⟩
    · obtain ⟨i, hi, hmin⟩ := ih (by omega)
      by_cases hl : ltF n (rt f m) (rt f i)
      · refine ⟨m, Nat.lt_succ_self m, fun j hj hlt => ?_⟩
        rcases (by omega : j < m ∨ j = m) with h1 | rfl
        · exact hmin j h1 (ltF_trans hlt hl)
        · exact ltF_irr hlt
      · refine ⟨i, by omega, fun j hj hlt => ?_⟩
        rcases (by omega : j < m ∨ j = m) with h1 | rfl
        · exact hmin j h1 hlt
        · exact hl hlt
/-- The program looks only at numbers whose letter is another than the one ahead of it (and at 0): that is enough. -/
theorem min_skip {f : Nat → Nat} {n b : Nat} (hp : per f n) (hb : b < n) (h : ∀ j, j < n → (j = 0 ∨ f j ≠ f (j + n - 1)) → ¬ ltF n (rt f j) (rt f b)) : isMin f n b := by
  obtain ⟨m, hm, hmin⟩ := min_ex f n n (by omega)
  by_cases hc : m = 0 ∨ f m ≠ f (m + n - 1)
  · intro j hj hlt
    rcases tri n (rt f m) (rt f b) with h1 | h1 | h1
    · exact h m hm hc h1
    · refine hmin j hj ?_
      obtain ⟨k, a1, a2, a3⟩ := hlt
      exact ⟨k, a1, fun i hi => (a2 i hi).trans (h1 i (by omega)).symm, by rw [h1 k a1]; exact a3⟩
    · exact hmin b hb h1
  · have hm0 : m ≠ 0 := fun e => hc (Or.inl e)
    have he : f m = f (m + n - 1) := by
      rcases Nat.decEq (f m) (f (m + n - 1)) with h1 | h1
      · exact absurd (Or.inr h1) hc
      · exact h1
    have he2 : f (m - 1) = f m := by
      rw [he, ← hp (m - 1)]; congr 1; omega
    by_cases hall : ∀ k, k < n → f (m + k) = f m
    · intro j hj hlt
      obtain ⟨k, a1, a2, a3⟩ := hlt
      have hcst : ∀ t, f t = f m := fun t => by
        have h1 := hall ((t + (n - m % n)) % n) (Nat.mod_lt _ (by omega))
        rw [← h1, ← per_mod hp t, ← per_mod hp (m + _)]
        congr 1
        rw [Nat.mod_eq_of_lt hm, Nat.add_mod_mod, show m + (t + (n - m)) = t + n by omega, Nat.add_mod_right]
      unfold rt at a3
      rw [hcst, hcst (b + k)] at a3
      exact Nat.lt_irrefl _ a3
    · have hne : ¬ eqF n (rt f m) (fun _ => f m) := fun e => hall e
      obtain ⟨k, a1, a2, a3⟩ := first_diff hne
      have hk0 : k ≠ 0 := fun e => by subst e; exact a3 rfl
      have hlow : ∀ t, f m ≤ f t := fun t => by
        rw [← per_mod hp t]
        rcases Nat.lt_or_ge (f (t % n)) (f m) with h1 | h1
        · exact absurd ⟨0, by omega, fun j hj => absurd hj (Nat.not_lt_zero _), by unfold rt; simpa using h1⟩ (hmin (t % n) (Nat.mod_lt _ (by omega)))
        · exact h1
      refine absurd ⟨k, a1, fun j hj => ?_, ?_⟩ (hmin (m - 1) (by omega))
      · rw [a2 j hj]
        unfold rt
        rcases Nat.eq_zero_or_pos j with h1 | h1
        · subst h1; exact he2
        · have h2 := a2 (j - 1) (by omega)
          unfold rt at h2
          rw [show m - 1 + j = m + (j - 1) by omega]; exact h2
      · have h2 := a2 (k - 1) (by omega)
        unfold rt at h2 a3 ⊢
        rw [show m - 1 + k = m + (k - 1) by omega, h2]
        have := hlow (m + k)
        omega
/-- The least rotation of the least period of a word. -/
def MinW (L W : List Nat) : Prop := ∃ n i, PerL L n ∧ i < n ∧ isMin (cyc L) n i ∧ W = (List.range n).map (rt (cyc L) i)
theorem MinW.uniq {L W V : List Nat} (h : MinW L W) (h2 : MinW L V) : W = V := by
  obtain ⟨n, i, p, hi, hm, rfl⟩ := h
  obtain ⟨m, j, q, hj, hm2, rfl⟩ := h2
  obtain rfl := p.uniq q
  refine List.map_congr_left fun k hk => ?_
  exact isMin_eq hm hm2 hi hj k (List.mem_range.1 hk)

/-! ### Runs of equal letters -/
def joinStep (out : List (Nat × Nat)) (c : Nat) : List (Nat × Nat) :=
  match out.getLast? with
  | some (d, m) => if d = c then out.dropLast ++ [(c, m + 1)] else out ++ [(c, 1)]
  | none => [(c, 1)]
def joinM (W : List Nat) : List (Nat × Nat) := W.foldl joinStep []
theorem join_snoc (W : List Nat) (c : Nat) : joinM (W ++ [c]) = joinStep (joinM W) c := by unfold joinM; rw [List.foldl_append]; rfl
theorem step_nil (c : Nat) : joinStep [] c = [(c, 1)] := rfl
theorem step_same (out : List (Nat × Nat)) (c m : Nat) : joinStep (out ++ [(c, m)]) c = out ++ [(c, m + 1)] := by
  unfold joinStep
  rw [List.getLast?_concat, List.dropLast_concat]
  simp
theorem step_other (out : List (Nat × Nat)) {d c m : Nat} (h : d ≠ c) : joinStep (out ++ [(d, m)]) c = out ++ [(d, m)] ++ [(c, 1)] := by
  unfold joinStep
  rw [List.getLast?_concat]
  simp [h]
theorem step_len (out : List (Nat × Nat)) (c : Nat) : (joinStep out c).length ≤ out.length + 1 := by
  rcases List.eq_nil_or_concat out with rfl | ⟨o, ⟨d, m⟩, rfl⟩
  · simp [step_nil]
  · rw [List.concat_eq_append]
    by_cases h : d = c
    · subst h; rw [step_same]; simp
    · rw [step_other _ h]; simp
theorem fold_len : ∀ (W : List Nat) (out : List (Nat × Nat)), (W.foldl joinStep out).length ≤ out.length + W.length
  | [], out => Nat.le_refl _
  | c :: W, out => by
    rw [List.foldl_cons]
    have h1 := fold_len W (joinStep out c)
    have h2 := step_len out c
    rw [List.length_cons]
    omega
theorem join_len (W : List Nat) : (joinM W).length ≤ W.length := by
  have := fold_len W []
  simpa [joinM] using this
/-- Of each run there is at least one letter; the runs of a word are at most as long as the word. -/
theorem step_cases (out : List (Nat × Nat)) (c : Nat) : (∃ o m, out = o ++ [(c, m)] ∧ joinStep out c = o ++ [(c, m + 1)]) ∨ ((∀ o d m, out = o ++ [(d, m)] → d ≠ c) ∧ joinStep out c = out ++ [(c, 1)]) := by
  rcases List.eq_nil_or_concat out with rfl | ⟨o, ⟨d, m⟩, rfl⟩
  · refine Or.inr ⟨fun o d m h => ?_, rfl⟩
    have := congrArg List.length h
    simp at this
  · rw [List.concat_eq_append]
    by_cases h : d = c
    · subst h
      exact Or.inl ⟨o, m, rfl, step_same _ _ _⟩
    · refine Or.inr ⟨fun o' d' m' e => ?_, step_other _ h⟩
      have := List.append_inj_right' e rfl
      simp at this
      rw [← this.1]; exact h
end Go.Proofs.YtpnffdkkmibchaaGreatDoor
