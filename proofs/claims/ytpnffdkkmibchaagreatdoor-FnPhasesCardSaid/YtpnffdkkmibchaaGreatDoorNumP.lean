/-
  Plain words: which texts are numbers in decimal, and which numbers: of at most 18 digits. Under no condition.
-/
import Derived.Lib.ParseIntB
import Derived.Lib.ItoaNum
set_option linter.unusedVariables false
set_option linter.unusedSimpArgs false
namespace Go.Proofs.YtpnffdkkmibchaaGreatDoor

def isD (c : UInt8) : Bool := decide (48 ≤ c.toNat ∧ c.toNat ≤ 57)
theorem isD_yes {c : UInt8} : isD c = true ↔ 48 ≤ c.toNat ∧ c.toNat ≤ 57 := by unfold isD; simp
/-- The value of digits behind a number. -/
def valA (acc : Nat) : List UInt8 → Nat
  | [] => acc
  | c :: r => valA (10 * acc + (c.toNat - 48)) r
theorem valA_snoc (l : List UInt8) (c : UInt8) : ∀ acc, valA acc (l ++ [c]) = 10 * valA acc l + (c.toNat - 48) := by
  induction l with
  | nil => intro acc; rfl
  | cons a l ih =>
    intro acc
    have h := ih (10 * acc + (a.toNat - 48))
    exact h
theorem valA_ge (l : List UInt8) : ∀ acc, acc ≤ valA acc l := by
  induction l with
  | nil => intro acc; exact Nat.le_refl _
  | cons a l ih =>
    intro acc
    have h := ih (10 * acc + (a.toNat - 48))
    have e : valA acc (a :: l) = valA (10 * acc + (a.toNat - 48)) l := rfl
    omega
theorem valA_lt (l : List UInt8) (h : ∀ c ∈ l, isD c = true) : ∀ acc, valA acc l < (acc + 1) * 10 ^ l.length := by
  induction l with
  | nil => intro acc; rw [List.length_nil, Nat.pow_zero, Nat.mul_one]; exact Nat.lt_succ_self _
  | cons a l ih =>
    intro acc
    have ha := isD_yes.1 (h a (by simp))
    have h2 := ih (fun c hc => h c (by simp [hc])) (10 * acc + (a.toNat - 48))
    have e : valA acc (a :: l) = valA (10 * acc + (a.toNat - 48)) l := rfl
    rw [e]
    refine Nat.lt_of_lt_of_le h2 ?_
    rw [List.length_cons, Nat.pow_succ, Nat.mul_comm (10 ^ l.length) 10, ← Nat.mul_assoc]
    exact Nat.mul_le_mul_right _ (by omega)
theorem byte_of {c : UInt8} {n : Nat} (h : c.toNat = n) (hn : n < 256) : UInt8.ofNat n = c := by
  apply UInt8.toNat_inj.1
  rw [UInt8.toNat_ofNat', h]
  omega
theorem dig_digits (u : Nat) : ∀ c ∈ Lib.decDigits u, isD c = true := by
  induction u using Nat.strongRecOn with
  | _ u ih =>
    rw [Lib.decDigits]
    split
    · intro c hc
      rw [List.mem_singleton] at hc
      subst hc
      rw [isD_yes, UInt8.toNat_ofNat']
      omega
    · intro c hc
      rcases List.mem_append.1 hc with hc | hc
      · exact ih (u / 10) (by omega) c hc
      · rw [List.mem_singleton] at hc
        subst hc
        rw [isD_yes, UInt8.toNat_ofNat']
        omega
theorem dig_ne (u : Nat) : Lib.decDigits u ≠ [] := by
  rw [Lib.decDigits]
  split <;> simp
theorem dig_val (u : Nat) : valA 0 (Lib.decDigits u) = u := by
  induction u using Nat.strongRecOn with
  | _ u ih =>
    rw [Lib.decDigits]
    split
    · have e : valA 0 [UInt8.ofNat (48 + u)] = 10 * 0 + ((UInt8.ofNat (48 + u)).toNat - 48) := rfl
      rw [e, UInt8.toNat_ofNat']
      omega
    · rw [valA_snoc, ih (u / 10) (by omega), UInt8.toNat_ofNat']
      omega
theorem head_app {l : List UInt8} (h : l ≠ []) (m : List UInt8) : (l ++ m).head? = l.head? := by
  cases l with
  | nil => exact absurd rfl h
  | cons a l => rfl
theorem dig_head (u : Nat) (h : u ≠ 0) : (Lib.decDigits u).head? ≠ some 48 := by
  induction u using Nat.strongRecOn with
  | _ u ih =>
    rw [Lib.decDigits]
    split
    · rename_i h1
      intro e
      have e2 : UInt8.ofNat (48 + u) = 48 := by simpa using e
      have := congrArg UInt8.toNat e2
      rw [UInt8.toNat_ofNat'] at this
      have e3 : (48 : UInt8).toNat = 48 := rfl
      omega
    · rw [head_app (dig_ne _)]
      exact ih (u / 10) (by omega) (by omega)
theorem valA_pos {a : UInt8} {l : List UInt8} (ha : isD a = true) (h : a ≠ 48) : 1 ≤ valA 0 (a :: l) := by
  have ha' := isD_yes.1 ha
  have h2 : a.toNat ≠ 48 := fun e => h (UInt8.toNat_inj.1 e)
  exact Nat.le_trans (show 1 ≤ 10 * 0 + (a.toNat - 48) by omega) (valA_ge l _)
/-- Digits without a needless 0 ahead are the numeral of their value. -/
theorem dig_of (l : List UInt8) : l ≠ [] → (∀ c ∈ l, isD c = true) → (l.head? = some 48 → l.length = 1) → Lib.decDigits (valA 0 l) = l := by
  suffices H : ∀ (n : Nat) (l : List UInt8), l.length = n → l ≠ [] → (∀ c ∈ l, isD c = true) → (l.head? = some 48 → l.length = 1) → Lib.decDigits (valA 0 l) = l from H l.length l rfl
  intro n
  induction n with
  | zero => intro l hl hne; exact absurd (List.eq_nil_of_length_eq_zero hl) hne
  | succ n ih =>
    intro l hl hne hd hz
    obtain ⟨q, c, rfl⟩ : ∃ q c, l = q ++ [c] := ⟨l.dropLast, l.getLast hne, (List.dropLast_concat_getLast hne).symm⟩
    have hc := isD_yes.1 (hd c (by simp))
    have hq : ∀ x ∈ q, isD x = true := fun x hx => hd x (by simp [hx])
    rw [valA_snoc]
    by_cases h0 : q = []
    · subst h0
      have e0 : valA 0 [] = 0 := rfl
      have e : 10 * valA 0 [] + (c.toNat - 48) = c.toNat - 48 := by rw [e0]; omega
      rw [e, Lib.decDigits, dif_pos (by omega)]
      simp only [List.nil_append, List.cons.injEq, and_true]
      exact byte_of (by omega) (by omega)
    · have hz2 : q.head? ≠ some 48 := fun e => by
        have h5 := hz (by rw [head_app h0]; exact e)
        have h1 : 1 ≤ q.length := List.length_pos_iff.2 h0
        rw [List.length_append, List.length_singleton] at h5
        omega
      have hv : 1 ≤ valA 0 q := by
        cases q with
        | nil => exact absurd rfl h0
        | cons a q => exact valA_pos (hq a (by simp)) (fun e => hz2 (by simp [e]))
      rw [Lib.decDigits, dif_neg (by omega)]
      have e1 : (10 * valA 0 q + (c.toNat - 48)) / 10 = valA 0 q := by omega
      have e2 : (10 * valA 0 q + (c.toNat - 48)) % 10 = c.toNat - 48 := by omega
      rw [e1, e2, ih q (by simp at hl; omega) h0 hq (fun e => absurd e hz2), byte_of (c := c) (n := 48 + (c.toNat - 48)) (by omega) (by omega)]

/-- What stands behind a sign. -/
def trimL (l : List UInt8) : List UInt8 := if l.head? = some 45 then l.tail else l
def numOk (l : List UInt8) : Bool := !(trimL l).isEmpty && (decide ((trimL l).length ≤ 18) && (!(decide ((trimL l).head? = some 48) && decide (1 < l.length)) && (trimL l).all isD))
def numV (l : List UInt8) : Int := if l.head? = some 45 then -(valA 0 (trimL l) : Int) else valA 0 (trimL l)
theorem numOk_yes {l : List UInt8} (h : numOk l = true) : trimL l ≠ [] ∧ (trimL l).length ≤ 18 ∧ ((trimL l).head? = some 48 → l.length ≤ 1) ∧ ∀ c ∈ trimL l, isD c = true := by
  unfold numOk at h
  simp only [Bool.and_eq_true, Bool.not_eq_true', decide_eq_true_eq, Bool.and_eq_false_iff, decide_eq_false_iff_not, List.all_eq_true] at h
  obtain ⟨h1, h2, h3, h4⟩ := h
  refine ⟨by intro e; rw [e] at h1; simp at h1, h2, fun e => ?_, h4⟩
  rcases h3 with h3 | h3
  · exact absurd e h3
  · omega
theorem numOk_mk {l : List UInt8} (h1 : trimL l ≠ []) (h2 : (trimL l).length ≤ 18) (h3 : (trimL l).head? = some 48 → l.length ≤ 1) (h4 : ∀ c ∈ trimL l, isD c = true) : numOk l = true := by
  unfold numOk
  simp only [Bool.and_eq_true, Bool.not_eq_true', decide_eq_true_eq, Bool.and_eq_false_iff, decide_eq_false_iff_not, List.all_eq_true]
  refine ⟨by cases hq : trimL l with | nil => exact absurd hq h1 | cons _ _ => rfl, h2, ?_, h4⟩
  by_cases h : (trimL l).head? = some 48
  · exact .inr (by have := h3 h; omega)
  · exact .inl h
theorem numV_small {l : List UInt8} (h : numOk l = true) : -1000000000000000000 < numV l ∧ numV l < 1000000000000000000 := by
  obtain ⟨_, h2, _, h4⟩ := numOk_yes h
  have := valA_lt (trimL l) h4 0
  have h10 : 10 ^ (trimL l).length ≤ 10 ^ 18 := Nat.pow_le_pow_right (by decide) h2
  unfold numV
  split <;> omega
theorem trim_len (l : List UInt8) : (trimL l).length ≤ l.length := by
  unfold trimL
  split
  · simp
  · exact Nat.le_refl _
/-- Such a text is the numeral of its value. -/
theorem num_itoa {l : List UInt8} (h : numOk l = true) : Lib.itoa (numV l) = l := by
  obtain ⟨h1, h2, h3, h4⟩ := numOk_yes h
  have hz : (trimL l).head? = some 48 → (trimL l).length = 1 := fun e => by
    have := h3 e
    have := trim_len l
    have : 1 ≤ (trimL l).length := List.length_pos_iff.2 h1
    omega
  have hd := dig_of _ h1 h4 hz
  by_cases hn : l.head? = some 45
  · obtain ⟨r, rfl⟩ : ∃ r, l = 45 :: r := by
      cases l with
      | nil => simp at hn
      | cons a r => exact ⟨r, by simp at hn; rw [hn]⟩
    have ht : trimL (45 :: r) = r := rfl
    rw [ht] at h1 h2 h3 h4 hz hd
    have hv : numV (45 :: r) = -(valA 0 r : Int) := rfl
    have hp : 1 ≤ valA 0 r := by
      cases r with
      | nil => exact absurd rfl h1
      | cons a q => exact valA_pos (h4 a (by simp)) (fun e => by subst e; have := h3 rfl; simp at this)
    rw [hv]
    unfold Lib.itoa
    rw [if_pos (by omega), Int.natAbs_neg, Int.natAbs_natCast, hd]
  · have ht : trimL l = l := by unfold trimL; rw [if_neg hn]
    rw [ht] at h1 h2 h3 h4 hz hd
    have hv : numV l = (valA 0 l : Int) := by unfold numV; rw [if_neg hn, ht]
    rw [hv]
    unfold Lib.itoa
    rw [if_neg (by omega), Int.toNat_natCast, hd]
theorem dig_no45 (u : Nat) : (Lib.decDigits u).head? ≠ some 45 := by
  cases hq : Lib.decDigits u with
  | nil => simp
  | cons a r =>
    intro e
    have ha : a = 45 := by simpa using e
    have := isD_yes.1 (dig_digits u a (by rw [hq]; simp))
    rw [ha] at this
    have e3 : (45 : UInt8).toNat = 45 := rfl
    omega
/-- A numeral of at most 18 digits is such a text, of its own value. -/
theorem itoa_num {v : Int} (h : (trimL (Lib.itoa v)).length ≤ 18) : numOk (Lib.itoa v) = true ∧ numV (Lib.itoa v) = v := by
  unfold Lib.itoa at *
  by_cases hv : v < 0
  · rw [if_pos hv] at *
    have ht : trimL (45 :: Lib.decDigits v.natAbs) = Lib.decDigits v.natAbs := rfl
    refine ⟨numOk_mk (by rw [ht]; exact dig_ne _) h (fun e => ?_) (by rw [ht]; exact dig_digits _), ?_⟩
    · rw [ht] at e
      exact absurd e (dig_head _ (by omega))
    · show -(valA 0 (trimL (45 :: Lib.decDigits v.natAbs)) : Int) = v
      rw [ht, dig_val]
      omega
  · rw [if_neg hv] at *
    have ht : trimL (Lib.decDigits v.toNat) = Lib.decDigits v.toNat := by unfold trimL; rw [if_neg (dig_no45 _)]
    refine ⟨numOk_mk (by rw [ht]; exact dig_ne _) h (fun e => ?_) (by rw [ht]; exact dig_digits _), ?_⟩
    · rw [ht] at e
      by_cases h0 : v.toNat = 0
      · rw [h0, Lib.decDigits]; simp
      · exact absurd e (dig_head _ h0)
    · unfold numV
      rw [if_neg (dig_no45 _), ht, dig_val]
      omega
theorem parseU_digits (l : List UInt8) (h : ∀ c ∈ l, isD c = true) : ∀ acc, valA acc l < 1000000000000000000 → Lib.parseUintM 18446744073709551615 acc l = .ok (valA acc l) := by
  induction l with
  | nil => intro acc _; rfl
  | cons a l ih =>
    intro acc hv
    have ha := isD_yes.1 (h a (by simp))
    have hge := valA_ge l (10 * acc + (a.toNat - 48))
    have hv' : valA (10 * acc + (a.toNat - 48)) l < 1000000000000000000 := hv
    have e : acc * 10 + (a.toNat - 48) = 10 * acc + (a.toNat - 48) := by omega
    rw [Lib.parseUintM, if_pos ha, if_neg (by omega), if_neg (by omega), e, ih (fun c hc => h c (by simp [hc])) _ hv']
    rfl
theorem parseB_digits {r : List UInt8} (h1 : r ≠ []) (h4 : ∀ c ∈ r, isD c = true) (hv : valA 0 r < 1000000000000000000) : Lib.parseUintB 64 r = .ok (valA 0 r) := by
  unfold Lib.parseUintB
  rw [if_neg h1]
  exact parseU_digits r h4 0 hv
/-- The library reads it so. -/
theorem num_parse {l : List UInt8} (h : numOk l = true) : Lib.parseIntB 64 l = .ok (numV l) := by
  have hs := numV_small h
  obtain ⟨h1, h2, h3, h4⟩ := numOk_yes h
  by_cases hn : l.head? = some 45
  · obtain ⟨r, rfl⟩ : ∃ r, l = 45 :: r := by
      cases l with
      | nil => simp at hn
      | cons a r => exact ⟨r, by simp at hn; rw [hn]⟩
    have ht : trimL (45 :: r) = r := rfl
    have hv : numV (45 :: r) = -(valA 0 r : Int) := rfl
    rw [ht] at h1 h2 h3 h4
    rw [hv] at hs ⊢
    unfold Lib.parseIntB
    have e45 : (45 : UInt8).toNat = 45 := rfl
    have hp := parseB_digits h1 h4 (by omega)
    simp only [e45, or_true, if_true]
    rw [hp]
    simp only [not_true_eq_false, false_and, if_false, true_and, if_true]
    rw [if_neg (by omega)]
  · have ht : trimL l = l := by unfold trimL; rw [if_neg hn]
    have hv : numV l = (valA 0 l : Int) := by unfold numV; rw [if_neg hn, ht]
    rw [ht] at h1 h2 h3 h4
    rw [hv] at hs ⊢
    clear ht hv hn
    cases l with
    | nil => exact absurd rfl h1
    | cons a r =>
      have ha := isD_yes.1 (h4 a (by simp))
      have hp := parseB_digits h1 h4 (by omega)
      unfold Lib.parseIntB
      simp only [if_neg (show ¬ (a.toNat = 43 ∨ a.toNat = 45) by omega)]
      rw [hp]
      simp only []
      rw [if_neg (by omega), if_neg (by omega), if_neg (by omega)]
end Go.Proofs.YtpnffdkkmibchaaGreatDoor
