/-
  Plain facts of phases: shifting, the normal form, the lit and the dark times. No program in sight.
-/
import Derived.Test.YtpnffdkkmibchaaGreatDoorPhC
set_option linter.unusedVariables false
set_option linter.unnecessarySimpa false
set_option maxRecDepth 100000
set_option linter.unusedSimpArgs false
namespace Go.Proofs.YtpnffdkkmibchaaGreatDoor
open Go.RowKit BigFrame Go.Deep

/-! ### The number of runs -/
def cntF (l : Option Nat) : List Nat → Nat
  | [] => 0
  | c :: V => (if l = some c then 0 else 1) + cntF (some c) V
def lastD (l : Option Nat) : List Nat → Option Nat
  | [] => l
  | c :: V => lastD (some c) V
def lastL (out : List (Nat × Nat)) : Option Nat := out.getLast?.map (fun p => p.1)
theorem joinStep_cnt (out : List (Nat × Nat)) (c : Nat) : lastL (joinStep out c) = some c ∧ (joinStep out c).length = out.length + (if lastL out = some c then 0 else 1) := by
  rcases List.eq_nil_or_concat out with rfl | ⟨o, ⟨d, m⟩, rfl⟩
  · exact ⟨rfl, rfl⟩
  · rw [List.concat_eq_append]
    by_cases h : d = c
    · subst h
      rw [step_same]
      simp [lastL]
    · rw [step_other _ h]
      simp [lastL, h]
theorem fold_cnt : ∀ (V : List Nat) (out : List (Nat × Nat)), (V.foldl joinStep out).length = out.length + cntF (lastL out) V
  | [], out => by simp [cntF]
  | c :: V, out => by
    rw [List.foldl_cons, fold_cnt V, (joinStep_cnt out c).1, (joinStep_cnt out c).2]
    simp only [cntF]
    omega
theorem join_cntF (V : List Nat) : (joinM V).length = cntF none V := by
  unfold joinM
  rw [fold_cnt]
  simp [lastL]
theorem cnt_app : ∀ (A B : List Nat) (l : Option Nat), cntF l (A ++ B) = cntF l A + cntF (lastD l A) B
  | [], B, l => by simp [cntF, lastD]
  | c :: A, B, l => by
    rw [List.cons_append]
    simp only [cntF, lastD]
    rw [cnt_app A B]
    omega
theorem cnt_le (l : Option Nat) (B : List Nat) : cntF l B ≤ cntF none B ∧ cntF none B ≤ cntF l B + 1 := by
  cases B with
  | nil => simp [cntF]
  | cons c B => simp only [cntF]; split <;> simp <;> omega
theorem cnt_ne {l : Option Nat} {c : Nat} {B : List Nat} (h : l ≠ some c) : cntF l (c :: B) = cntF none (c :: B) := by simp [cntF, h]
theorem last_snoc : ∀ (A : List Nat) (l : Option Nat) (c : Nat), lastD l (A ++ [c]) = some c
  | [], l, c => rfl
  | d :: A, l, c => by rw [List.cons_append]; simp only [lastD]; exact last_snoc A _ c
theorem cnt_rep0 (c : Nat) : ∀ m, cntF (some c) (List.replicate m c) = 0
  | 0 => rfl
  | m + 1 => by rw [List.replicate_succ]; simp only [cntF]; rw [cnt_rep0 c m]; simp
theorem cnt_rep (l : Option Nat) (c m : Nat) : cntF l (List.replicate m c) ≤ 1 := by
  cases m with
  | zero => simp [cntF]
  | succ m => rw [List.replicate_succ]; simp only [cntF]; rw [cnt_rep0]; split <;> omega
theorem tn_cnt {P : List RPhase} : ∀ k, k ≤ P.length → cntF none (tnTo P k) ≤ k
  | 0, _ => by simp [tnTo, cntF]
  | k + 1, h => by
    have h1 := tn_cnt (P := P) k (by omega)
    rw [tn_step (show k < P.length by omega), cnt_app]
    have := cnt_rep (lastD none (tnTo P k)) (cdM (P[k]).f0) (P[k]).f1.toNat
    omega
theorem tns_join {P : List RPhase} : (joinM (tns P)).length ≤ P.length := by
  rw [join_cntF]; exact tn_cnt _ (Nat.le_refl _)
theorem rotL_split {W : List Nat} {i : Nat} (hi : i < W.length) : rotL W i = W.drop i ++ W.take i := by
  refine List.ext_getElem (by rw [rotL_len]; simp; omega) fun k h1 h2 => ?_
  rw [rotL_len] at h1
  have e : (rotL W i)[k]'(by rw [rotL_len]; exact h1) = cyc W (i + k) := by simp [rotL, rt]
  rw [e]
  by_cases hk : k < W.length - i
  · rw [List.getElem_append_left (by simp; omega), List.getElem_drop, cyc_at (by omega)]
  · rw [List.getElem_append_right (by simp; omega), List.getElem_take]
    rw [← cyc_mod, show (i + k) % W.length = i + k - W.length by rw [Nat.mod_eq_sub_mod (by omega), Nat.mod_eq_of_lt (by omega)], cyc_at (by omega)]
    congr 1
    simp; omega
/-- Turned phases are one more at most. -/
theorem rot_join {P : List RPhase} {i : Nat} (hi : i < (tns P).length) : (joinM (rotL (tns P) i)).length ≤ P.length + 1 := by
  have h0 := tns_join (P := P)
  rw [join_cntF] at h0 ⊢
  rw [rotL_split hi, cnt_app]
  have h1 : cntF none (tns P) = cntF none ((tns P).take i) + cntF (lastD none ((tns P).take i)) ((tns P).drop i) := by
    rw [← cnt_app, List.take_append_drop]
  have h2 := cnt_le (lastD none ((tns P).take i)) ((tns P).drop i)
  have h3 := cnt_le (lastD none ((tns P).drop i)) ((tns P).take i)
  omega
/-! ### The least rotation begins at a change -/
theorem min_head {f : Nat → Nat} {n i : Nat} (hp : per f n) (hm : isMin f n i) (hi : i < n) (h0 : 0 < i) (he : f i = f (i - 1)) : ∀ k, k < n → f (i + k) = f i := by
  have hlow : ∀ t, f i ≤ f t := fun t => by
    rw [← per_mod hp t]
    rcases Nat.lt_or_ge (f (t % n)) (f i) with h1 | h1
    · exact absurd ⟨0, by omega, fun j hj => absurd hj (Nat.not_lt_zero _), by unfold rt; simpa using h1⟩ (hm (t % n) (Nat.mod_lt _ (by omega)))
    · exact h1
  rcases Classical.em (∀ k, k < n → f (i + k) = f i) with hall | hall
  · exact hall
  · have hne : ¬ eqF n (rt f i) (fun _ => f i) := fun e => hall e
    obtain ⟨k, a1, a2, a3⟩ := first_diff hne
    have hk0 : k ≠ 0 := fun e => by subst e; exact a3 rfl
    refine absurd ⟨k, a1, fun j hj => ?_, ?_⟩ (hm (i - 1) (by omega))
    · rw [a2 j hj]
      unfold rt
      rcases Nat.eq_zero_or_pos j with h1 | h1
      · subst h1; exact he.symm
      · have h2 := a2 (j - 1) (by omega)
        unfold rt at h2
        rw [show i - 1 + j = i + (j - 1) by omega]; exact h2
    · have h2 := a2 (k - 1) (by omega)
      unfold rt at h2 a3 ⊢
      rw [show i - 1 + k = i + (k - 1) by omega, h2]
      have := hlow (i + k)
      omega
theorem const_per {f : Nat → Nat} {n i : Nat} (hp : per f n) (hi : i < n) (h : ∀ k, k < n → f (i + k) = f i) : per f 1 := by
  have hcst : ∀ t, f t = f i := fun t => by
    have h1 := h ((t + (n - i % n)) % n) (Nat.mod_lt _ (by omega))
    rw [← h1, ← per_mod hp t, ← per_mod hp (i + _)]
    congr 1
    rw [Nat.mod_eq_of_lt hi, Nat.add_mod_mod, show i + (t + (n - i)) = t + n by omega, Nat.add_mod_right]
  exact fun t => by rw [hcst, hcst t]
theorem norm_len {L M : List Nat} (hL : 0 < L.length) (h : MinW L M) : M.length ≤ L.length ∧ 1 ≤ M.length := by
  obtain ⟨n, i, p, hi, _, rfl⟩ := h
  have := p.le hL
  simp; omega
theorem norm_join_le {W M : List Nat} (hW : 0 < W.length) (h : MinW W M) : (joinM M).length ≤ (joinM W).length := by
  obtain ⟨n, i, p, hi, hm, rfl⟩ := h
  have hn := p.le hW
  rw [join_cntF, join_cntF]
  have hX : cntF none (W.take n) ≤ cntF none W := by
    have e : W = W.take n ++ W.drop n := (List.take_append_drop n W).symm
    conv => rhs; rw [e, cnt_app]
    omega
  have hM : (List.range n).map (rt (cyc W) i) = (W.take n).drop i ++ (W.take n).take i := by
    refine List.ext_getElem (by simp; omega) fun k h1 h2 => ?_
    simp only [List.length_map, List.length_range] at h1
    have e : ((List.range n).map (rt (cyc W) i))[k]'(by simpa using h1) = cyc W (i + k) := by simp [rt]
    rw [e]
    by_cases hk : k < n - i
    · rw [List.getElem_append_left (by simp; omega), List.getElem_drop, List.getElem_take, cyc_at (by omega)]
    · rw [List.getElem_append_right (by simp; omega), List.getElem_take, List.getElem_take]
      have e2 : cyc W (i + k) = cyc W (i + k - n) := by
        have := p.2.1 (i + k - n)
        rw [show i + k - n + n = i + k by omega] at this
        exact this
      rw [e2, cyc_at (by omega)]
      congr 1
      simp; omega
  rw [hM]
  rcases Nat.eq_zero_or_pos i with h0 | h0
  · subst h0
    simpa using hX
  · have hne : cyc W i ≠ cyc W (i - 1) := fun e => by
      have h1 := const_per p.2.1 hi (min_head p.2.1 hm hi h0 e)
      rcases Nat.lt_or_ge 1 n with h2 | h2
      · exact p.2.2 1 (Nat.le_refl _) h2 h1
      · omega
    have eA : (W.take n).take i = (W.take n).take (i - 1) ++ [cyc W (i - 1)] := by
      have h1 : i - 1 < (W.take n).length := by simp; omega
      have := List.take_succ_eq_append_getElem h1
      rw [show i - 1 + 1 = i by omega] at this
      rw [this, List.getElem_take, cyc_at (by omega)]
    have eB : (W.take n).drop i = cyc W i :: (W.take n).drop (i + 1) := by
      have h1 : i < (W.take n).length := by simp; omega
      rw [List.drop_eq_getElem_cons h1, List.getElem_take, cyc_at (by omega)]
    have hA : cntF none ((W.take n).take i ++ (W.take n).drop i) = cntF none ((W.take n).take i) + cntF none ((W.take n).drop i) := by
      rw [cnt_app]
      congr 1
      rw [eA, last_snoc, eB]
      exact cnt_ne (fun e => hne (Option.some.inj e).symm)
    rw [List.take_append_drop] at hA
    rw [cnt_app]
    have h3 := cnt_le (lastD none ((W.take n).drop i)) ((W.take n).take i)
    omega
/-! ### Shifted words have the same normal form -/
theorem shift_perF {f g : Nat → Nat} {s m : Nat} (h : ∀ t, g t = f (t + s)) (hp : per f m) : per g m := fun t => by
  rw [h, h, show t + m + s = t + s + m by omega, hp]
theorem MinW.shift {L L' M N : List Nat} {s : Nat} (hL : 0 < L.length) (h : ∀ t, cyc L' t = cyc L (t + s)) (hM : MinW L M) (hN : MinW L' N) : M = N := by
  have h' : ∀ t, cyc L t = cyc L' (t + (s * L.length - s)) := fun t => by
    rw [h, ← per_mul (cyc_per L) s t]
    congr 1
    have : s ≤ s * L.length := Nat.le_mul_of_pos_right s hL
    omega
  obtain ⟨n, i, p, hi, hm, e⟩ := id hM
  obtain ⟨m, j, q, hj, hm2, e2⟩ := hN
  have pq : PerL L' n := ⟨p.1, shift_perF h p.2.1, fun k h1 h2 h3 => p.2.2 k h1 h2 (shift_perF h' h3)⟩
  obtain rfl := pq.uniq q
  have hrt : ∀ j' k, rt (cyc L') j' k = rt (cyc L) ((j' + s) % n) k := fun j' k => by
    unfold rt
    rw [h, ← per_mod p.2.1 ((j' + s) % n + k), Nat.mod_add_mod, per_mod p.2.1]
    congr 1; omega
  refine hM.uniq ⟨n, (j + s) % n, p, Nat.mod_lt _ (by omega), fun k hk hlt => ?_, ?_⟩
  · obtain ⟨d, b1, b2, b3⟩ := hlt
    have hk2 : ((k + (n - s % n)) % n + s) % n = k := by
      rw [Nat.mod_add_mod]
      have h1 := Nat.mod_lt s (show n > 0 by omega)
      have h2 := Nat.mod_add_div s n
      rw [show k + (n - s % n) + s = k + n + n * (s / n) by omega, Nat.add_mul_mod_self_left, Nat.add_mod_right, Nat.mod_eq_of_lt hk]
    refine hm2 ((k + (n - s % n)) % n) (Nat.mod_lt _ (by omega)) ⟨d, b1, fun t ht => ?_, ?_⟩
    · rw [hrt, hrt, hk2]; exact b2 t ht
    · rw [hrt, hrt, hk2]; exact b3
  · rw [e2]
    exact List.map_congr_left fun k _ => hrt j k
theorem rotL_shift {W : List Nat} (hW : 0 < W.length) (i t : Nat) : cyc (rotL W i) t = cyc W (t + i) := by
  rw [← cyc_mod (rotL W i), rotL_len, rotL_cyc (Nat.mod_lt _ hW), Nat.add_comm, ← cyc_mod, Nat.mod_add_mod, cyc_mod]
theorem norm_shift {L M : List Nat} (h : MinW L M) : ∃ n i, PerL L n ∧ M.length = n ∧ ∀ t, cyc M t = cyc L (t + i) := by
  obtain ⟨n, i, p, hi, hm, rfl⟩ := h
  refine ⟨n, i, p, by simp, fun t => ?_⟩
  have hl : ((List.range n).map (rt (cyc L) i)).length = n := by simp
  rw [← cyc_mod, hl]
  have ht : t % n < n := Nat.mod_lt _ (by omega)
  rw [cyc_at (by rw [hl]; exact ht)]
  simp only [List.getElem_map, List.getElem_range, rt]
  rw [← per_mod p.2.1, ← per_mod p.2.1 (t + i), Nat.add_mod_mod, Nat.add_comm]
/-- The phases of joined runs. -/
def phs (J : List (Nat × Nat)) : List RPhase := J.map fun p => ⟨nm p.1, (p.2 : Int)⟩
theorem phs_len (J : List (Nat × Nat)) : (phs J).length = J.length := by simp [phs]
theorem phs_flat (J : List (Nat × Nat)) : flat RPhase.cells (phs J) = jc J := by
  induction J with
  | nil => rfl
  | cons p J ih =>
    have e : phs (p :: J) = [⟨nm p.1, (p.2 : Int)⟩] ++ phs J := rfl
    rw [e, flat_append, ih]
    rfl
theorem nm_size (c : Nat) : (nm c).size ≤ 1 := by
  unfold nm
  split
  · decide
  · exact Nat.le_refl 1
/-! ### Joined runs, written out again -/
def exJ (J : List (Nat × Nat)) : List Nat := J.flatMap fun p => List.replicate p.2 p.1
theorem exJ_app (J K : List (Nat × Nat)) : exJ (J ++ K) = exJ J ++ exJ K := by unfold exJ; rw [List.flatMap_append]
theorem exJ_one (c m : Nat) : exJ [(c, m)] = List.replicate m c := by simp [exJ]
theorem exJ_step (out : List (Nat × Nat)) (c : Nat) : exJ (joinStep out c) = exJ out ++ [c] := by
  rcases step_cases out c with ⟨o, m, rfl, e2⟩ | ⟨_, e2⟩
  · rw [e2, exJ_app, exJ_app, exJ_one, exJ_one, List.replicate_succ', List.append_assoc]
  · rw [e2, exJ_app, exJ_one]; rfl
theorem exJ_fold : ∀ (V : List Nat) (out : List (Nat × Nat)), exJ (V.foldl joinStep out) = exJ out ++ V
  | [], out => by simp
  | c :: V, out => by rw [List.foldl_cons, exJ_fold V, exJ_step, List.append_assoc]; rfl
theorem exJ_join (V : List Nat) : exJ (joinM V) = V := by unfold joinM; rw [exJ_fold]; rfl
theorem join_all {Pr : Nat → Prop} {W : List Nat} (h : ∀ c ∈ W, Pr c) : ∀ p ∈ joinM W, Pr p.1 ∧ 1 ≤ p.2 := by
  have key : ∀ (V : List Nat) (out : List (Nat × Nat)), (∀ c ∈ V, Pr c) → (∀ p ∈ out, Pr p.1 ∧ 1 ≤ p.2) → ∀ p ∈ V.foldl joinStep out, Pr p.1 ∧ 1 ≤ p.2 := fun V => by
    induction V with
    | nil => intro out _ h; exact h
    | cons c V ih =>
      intro out hV hout
      rw [List.foldl_cons]
      refine ih _ (fun x hx => hV x (List.mem_cons_of_mem _ hx)) (fun p hp => ?_)
      rcases step_cases out c with ⟨o, m, e1, e2⟩ | ⟨_, e2⟩
      · rw [e2] at hp
        rcases List.mem_append.1 hp with h1 | h1
        · exact hout p (by rw [e1]; exact List.mem_append_left _ h1)
        · rw [List.mem_singleton] at h1; rw [h1]; exact ⟨hV c List.mem_cons_self, by dsimp only; omega⟩
      · rw [e2] at hp
        rcases List.mem_append.1 hp with h1 | h1
        · exact hout p h1
        · rw [List.mem_singleton] at h1; rw [h1]; exact ⟨hV c List.mem_cons_self, Nat.le_refl _⟩
  exact key W [] h (fun p hp => by cases hp)
theorem cd_nm {c : Nat} (h : c < 256) : cdM (nm c) = c := by
  unfold nm
  split
  · rename_i h0; subst h0; rfl
  · rw [cd_one]
    show c % 256 = c
    omega
theorem tn_phs {J : List (Nat × Nat)} (h : ∀ p ∈ J, p.1 < 256) : ∀ k, k ≤ J.length → tnTo (phs J) k = exJ (J.take k)
  | 0, _ => rfl
  | k + 1, hk => by
    have hk' : k < (phs J).length := by rw [phs_len]; omega
    rw [tn_step hk', tn_phs h k (by omega), List.take_succ_eq_append_getElem (by omega), exJ_app]
    have e : (phs J)[k] = ⟨nm (J[k]).1, ((J[k]).2 : Int)⟩ := by simp [phs]
    rw [e]
    have e2 : exJ [J[k]] = List.replicate (J[k]).2 (J[k]).1 := exJ_one _ _
    rw [e2, cd_nm (h _ (List.getElem_mem _))]
    rfl
theorem tns_phs {J : List (Nat × Nat)} (h : ∀ p ∈ J, p.1 < 256) : tns (phs J) = exJ J := by
  unfold tns
  rw [phs_len, tn_phs h _ (Nat.le_refl _), List.take_length]
theorem sum_phs (J : List (Nat × Nat)) : ∀ k, k ≤ J.length → sumPh (phs J) k = ((exJ (J.take k)).length : Int)
  | 0, _ => rfl
  | k + 1, hk => by
    have hk' : k < (phs J).length := by rw [phs_len]; omega
    rw [sum_step hk', sum_phs J k (by omega), List.take_succ_eq_append_getElem (by omega), exJ_app, List.length_append]
    have e : (phs J)[k] = ⟨nm (J[k]).1, ((J[k]).2 : Int)⟩ := by simp [phs]
    rw [e]
    have e2 : exJ [J[k]] = List.replicate (J[k]).2 (J[k]).1 := exJ_one _ _
    rw [e2, List.length_replicate]
    simp
/-- A letter that a light may have. -/
def okL (c : Nat) : Prop := c < 256 ∧ ((nm c).toList.isEmpty || colorM (nm c)) = true
theorem okL_of {P : List RPhase} (hv : vPhases P = true) : ∀ c ∈ tns P, okL c := by
  obtain ⟨_, _, h3, _⟩ := vPhases_yes hv
  have key : ∀ k, k ≤ P.length → ∀ c ∈ tnTo P k, okL c := fun k => by
    induction k with
    | zero => intro _ c hc; simp [tnTo] at hc
    | succ k ih =>
      intro hk c hc
      rw [tn_step (show k < P.length by omega)] at hc
      rcases List.mem_append.1 hc with h1 | h1
      · exact ih (by omega) c h1
      · have e := (List.mem_replicate.1 h1).2
        have hp := ok_at h3 (show k < P.length by omega)
        have hn : nm (cdM (P[k]).f0) = (P[k]).f0 := by
          rcases (ph_cases hp).2 with h2 | ⟨d, h2, h4⟩
          · rw [h2, cd_nil]; rfl
          · rw [h4, cd_one, nm_one h2]
        have hc2 : cdM (P[k]).f0 < 256 := by
          rcases (ph_cases hp).2 with h2 | ⟨d, h2, h4⟩
          · rw [h2, cd_nil]; omega
          · rw [h4, cd_one]; exact d.toNat_lt
        subst e
        refine ⟨hc2, ?_⟩
        rw [hn]
        unfold okPh at hp
        rw [Bool.and_eq_true] at hp
        exact hp.2
  exact key _ (Nat.le_refl _)
theorem allTo_of {f : Nat → Bool} {n : Nat} (h : ∀ k, k < n → f k = true) : allTo f n = true := allTo_all.2 h
theorem i64_hasP {z : Int} (h : -9223372036854775808 ≤ z ∧ z ≤ 9223372036854775807) : IntKind.i64.has z := by
  have e1 : IntKind.i64.min = -9223372036854775808 := by decide
  have e2 : IntKind.i64.max = 9223372036854775807 := by decide
  unfold IntKind.has
  rw [e1, e2]; exact h
/-- The phases of joined letters are valid ones, and have these letters. -/
theorem phs_valid {V : List Nat} (hV : 1 ≤ V.length ∧ V.length ≤ 600) (hL : ∀ c ∈ V, okL c) (h40 : (joinM V).length ≤ 40) : vPhases (phs (joinM V)) = true ∧ tns (phs (joinM V)) = V ∧ ∀ a ∈ phs (joinM V), a.ok := by
  have hall := join_all hL
  have hcnt := join_cnt V
  have hex := exJ_join V
  have hlen : 1 ≤ (joinM V).length := by
    rcases Nat.eq_zero_or_pos (joinM V).length with h0 | h0
    · rw [List.eq_nil_of_length_eq_zero h0] at hex
      have : V.length = 0 := by rw [← hex]; rfl
      omega
    · exact h0
  have htn := tns_phs (J := joinM V) (fun p hp => (hall p hp).1.1)
  have hsum := sum_phs (joinM V) _ (Nat.le_refl _)
  rw [List.take_length, hex] at hsum
  have hok : ∀ k, k < (phs (joinM V)).length → okPhA (phs (joinM V)) k = true := fun k hk => by
    rw [okPhA_at hk]
    have hk' : k < (joinM V).length := by rw [phs_len] at hk; exact hk
    have e : (phs (joinM V))[k] = ⟨nm ((joinM V)[k]).1, (((joinM V)[k]).2 : Int)⟩ := by simp [phs]
    rw [e]
    have h1 := hall _ (List.getElem_mem hk')
    have h2 := hcnt _ (List.getElem_mem hk')
    unfold okPh
    rw [Bool.and_eq_true]
    exact ⟨inB_yes.2 ⟨by dsimp only; omega, by dsimp only; omega⟩, h1.1.2⟩
  refine ⟨?_, by rw [htn, hex], fun a ha => ?_⟩
  · unfold vPhases
    rw [phs_len, hsum]
    rw [phs_len] at hok
    simp only [Bool.and_eq_true, decide_eq_true_eq]
    exact ⟨hlen, h40, allTo_of hok, by omega⟩
  · obtain ⟨p, hp, rfl⟩ := List.mem_map.1 ha
    have h2 := hcnt p hp
    refine ⟨Nat.le_trans (nm_size p.1) (by decide), ?_⟩
    exact i64_hasP (show _ ∧ (p.2 : Int) ≤ _ by dsimp only; omega)
/-! ### The lit and the dark times -/
theorem lit_full (W : List Nat) : ∀ k, litTo W k = k ↔ ∀ t, t < k → cyc W t ≠ 0
  | 0 => by simp [litTo]
  | k + 1 => by
    have h1 := lit_full W k
    have h2 := litTo_le W k
    simp only [litTo]
    constructor
    · intro h t ht
      by_cases h0 : cyc W k = 0
      · rw [if_pos h0] at h; omega
      · rcases (by omega : t < k ∨ t = k) with h3 | rfl
        · exact h1.1 (by rw [if_neg h0] at h; omega) t h3
        · exact h0
    · intro h
      rw [if_neg (h k (by omega)), h1.2 (fun t ht => h t (by omega))]
theorem lit_zero (W : List Nat) : ∀ k, litTo W k = 0 ↔ ∀ t, t < k → cyc W t = 0
  | 0 => by simp [litTo]
  | k + 1 => by
    have h1 := lit_zero W k
    simp only [litTo]
    constructor
    · intro h t ht
      by_cases h0 : cyc W k = 0
      · rcases (by omega : t < k ∨ t = k) with h3 | rfl
        · exact h1.1 (by omega) t h3
        · exact h0
      · rw [if_neg h0] at h; omega
    · intro h
      rw [if_pos (h k (by omega)), h1.2 (fun t ht => h t (by omega))]
theorem dark_run (f : Nat → Nat) : ∀ k, ∀ j, j < (darkTo f k).1 → f (k - 1 - j) = 0
  | 0, j, h => by simp [darkTo] at h
  | k + 1, j, h => by
    simp only [darkTo] at h
    split at h
    · rename_i h0
      rcases Nat.eq_zero_or_pos j with h1 | h1
      · subst h1; simpa using h0
      · have h2 := dark_run f k (j - 1) (by omega)
        have h3 := (dark_le f k).1
        rw [show k + 1 - 1 - j = k - 1 - (j - 1) by omega]; exact h2
    · omega
theorem dark_small {f : Nat → Nat} {n : Nat} (hn : 1 ≤ n) (h : ∀ a, ∃ j, j < n ∧ f (a + j) ≠ 0) : ∀ k, (darkTo f k).1 < n ∧ (darkTo f k).2 < n
  | 0 => ⟨hn, hn⟩
  | k + 1 => by
    have h1 := dark_small hn h k
    have h2 : (darkTo f (k + 1)).1 < n := by
      rcases Nat.lt_or_ge (darkTo f (k + 1)).1 n with h3 | h3
      · exact h3
      · have h4 := (dark_le f (k + 1)).1
        obtain ⟨j, hj, hne⟩ := h (k + 1 - n)
        have h5 := dark_run f (k + 1) (n - 1 - j) (by omega)
        rw [show k + 1 - 1 - (n - 1 - j) = k + 1 - n + j by omega] at h5
        exact absurd h5 hne
    refine ⟨h2, ?_⟩
    have h3 := h1.2
    simp only [darkTo] at h2 ⊢
    omega
theorem dark_none {f : Nat → Nat} (h : ∀ t, f t ≠ 0) : ∀ k, darkTo f k = (0, 0)
  | 0 => rfl
  | k + 1 => by simp only [darkTo]; rw [dark_none h k, if_neg (h k)]; rfl
theorem dark_all {f : Nat → Nat} (h : ∀ t, f t = 0) : ∀ k, darkTo f k = (k, k)
  | 0 => rfl
  | k + 1 => by simp only [darkTo]; rw [dark_all h k, if_pos (h k)]; simp
theorem dark_some {f : Nat → Nat} {t : Nat} (h : f t = 0) : ∀ k, t < k → 1 ≤ (darkTo f k).2
  | 0, hk => by omega
  | k + 1, hk => by
    simp only [darkTo]
    rcases (by omega : t < k ∨ t = k) with h3 | rfl
    · have := dark_some h k h3; omega
    · rw [if_pos h]; omega
theorem cyc_two (V : List Nat) : cyc (V ++ V) = cyc V := by
  funext t
  rcases Nat.eq_zero_or_pos V.length with h0 | h0
  · rw [List.eq_nil_of_length_eq_zero h0]; rfl
  · rw [← cyc_mod, ← cyc_mod V]
    have h1 := Nat.mod_lt t (show (V ++ V).length > 0 by simp; omega)
    have hd : t % V.length = t % (V ++ V).length % V.length := by
      rw [List.length_append, Nat.mod_mod_of_dvd t ⟨2, by omega⟩]
    rw [hd]
    generalize t % (V ++ V).length = r at h1
    rw [cyc_at h1]
    rw [List.length_append] at h1
    by_cases h2 : r < V.length
    · rw [List.getElem_append_left h2, Nat.mod_eq_of_lt h2, cyc_at h2]
    · rw [List.getElem_append_right (by omega), Nat.mod_eq_sub_mod (by omega), Nat.mod_eq_of_lt (by omega), cyc_at (by omega)]
/-- The law of the lit and the dark times. -/
theorem dark_law {V : List Nat} {n : Nat} (hV : V.length = n) (hn : 1 ≤ n) (h6 : n ≤ 600) :
    litTo V n * 1000000 / n ≤ 1000000 ∧ (litTo V n * 1000000 / n = 1000000 ↔ min (darkTo (cyc (V ++ V)) (n + n)).2 n = 0) ∧ (litTo V n * 1000000 / n = 0 ↔ min (darkTo (cyc (V ++ V)) (n + n)).2 n = n) := by
  rw [cyc_two]
  have hle := litTo_le V n
  have hf := lit_full V n
  have hz := lit_zero V n
  have hall : ∀ (p : Nat → Prop), (∀ t, t < n → p (cyc V t)) → ∀ t, p (cyc V t) := fun p h t => by
    rw [← cyc_mod, hV]; exact h _ (Nat.mod_lt _ hn)
  have hup : litTo V n * 1000000 ≤ n * 1000000 := Nat.mul_le_mul_right _ hle
  refine ⟨?_, ?_, ?_⟩
  · exact Nat.div_le_of_le_mul (by omega)
  · constructor
    · intro h
      have h1 : litTo V n = n := by
        rcases Nat.lt_or_ge (litTo V n) n with h2 | h2
        · have h3 : litTo V n * 1000000 / n < 1000000 := Nat.div_lt_of_lt_mul (by omega)
          omega
        · omega
      rw [dark_none (hall (· ≠ 0) (hf.1 h1))]
      simp
    · intro h
      have h1 : litTo V n = n := by
        refine hf.2 fun t ht h0 => ?_
        have := dark_some h0 (n + n) (by omega)
        omega
      rw [h1, Nat.mul_comm, Nat.mul_div_cancel _ hn]
  · constructor
    · intro h
      have h1 : litTo V n = 0 := by
        rcases Nat.eq_zero_or_pos (litTo V n) with h2 | h2
        · exact h2
        · have h3 : 0 < litTo V n * 1000000 / n := Nat.div_pos (by omega) hn
          omega
      rw [dark_all (hall (· = 0) (hz.1 h1))]
      simp
    · intro h
      have h1 : litTo V n = 0 := by
        rcases Nat.eq_zero_or_pos (litTo V n) with h2 | h2
        · exact h2
        · exfalso
          have hne : ¬ ∀ t, t < n → cyc V t = 0 := fun e => by have := hz.2 e; omega
          obtain ⟨t0, ht0⟩ := Classical.not_forall.1 hne
          obtain ⟨ht1, ht2⟩ : t0 < n ∧ cyc V t0 ≠ 0 := ⟨Classical.byContradiction fun e => ht0 fun h => absurd h e, fun e => ht0 fun _ => e⟩
          have hw := dark_small hn (f := cyc V) (fun a => ⟨(t0 + (n - a % n)) % n, Nat.mod_lt _ hn, by
            have e1 := Nat.mod_add_div a n
            have e2 := Nat.mod_lt a hn
            have : cyc V (a + (t0 + (n - a % n)) % n) = cyc V t0 := by
              rw [← cyc_mod, hV, Nat.add_mod_mod, show a + (t0 + (n - a % n)) = t0 + n + n * (a / n) by omega, Nat.add_mul_mod_self_left, Nat.add_mod_right, Nat.mod_eq_of_lt ht1]
            rw [this]; exact ht2⟩) (n + n)
          omega
      rw [h1]; simp
/-! ### A time modulo the length -/
theorem place_add {N : Nat} (hN : 1 ≤ N) (t u : Int) : placeT N (t + u) = (placeT N t + placeT N u) % N := by
  have h1 := place_lt hN t
  have h2 := place_lt hN u
  have h3 := place_lt hN (t + u)
  have e : (t + u) % (N : Int) = ((placeT N t + placeT N u : Nat) : Int) % (N : Int) := by
    rw [Int.add_emod, h1.2, h2.2]; rfl
  rw [h3.2] at e
  have e2 : (((placeT N t + placeT N u : Nat) : Int) % (N : Int)) = (((placeT N t + placeT N u) % N : Nat) : Int) := (Int.natCast_emod _ _).symm
  rw [e2] at e
  exact Int.ofNat.inj e
theorem place_nat {N n : Nat} : placeT N (n : Int) = n % N := by
  unfold placeT
  rw [← Int.natCast_emod]; rfl
theorem light_per {W : List Nat} {n : Nat} (hW : 1 ≤ W.length) (hp : per (cyc W) n) (t : Int) : cyc W (placeT W.length (t + (n : Int))) = cyc W (placeT W.length t) := by
  rw [place_add hW, place_nat, cyc_mod, ← cyc_mod, Nat.add_mod_mod, cyc_mod, hp]
theorem light_shift {W : List Nat} (hW : 1 ≤ W.length) (t u : Int) : cyc (rotL W (placeT W.length u)) (placeT (rotL W (placeT W.length u)).length t) = cyc W (placeT W.length (t + u)) := by
  rw [rotL_shift hW, rotL_len, place_add hW, cyc_mod]
end Go.Proofs.YtpnffdkkmibchaaGreatDoor
