/-
  Plain words: the decimal form of a number, digit by digit from the least. Under no condition.
-/
import Derived.Lib.ItoaNum
set_option linter.unusedVariables false
set_option linter.unusedSimpArgs false
namespace Go.Proofs.YtpnffdkkmibchaaGreatDoor

/-- The digits of u, the least first; none of 0. -/
def revD (u : Nat) : List Nat := if h : u = 0 then [] else u % 10 :: revD (u / 10)
termination_by u
decreasing_by omega
theorem revD_zero : revD 0 = [] := by rw [revD]; simp
theorem revD_pos {u : Nat} (h : u ≠ 0) : revD u = u % 10 :: revD (u / 10) := by rw [revD, dif_neg h]
theorem revD_len : ∀ (k u : Nat), u < 10 ^ k → (revD u).length ≤ k
  | 0, u, h => by
    have : u = 0 := by simpa using h
    subst this
    rw [revD_zero]; simp
  | k + 1, u, h => by
    by_cases h0 : u = 0
    · subst h0; rw [revD_zero]; simp
    · rw [revD_pos h0, List.length_cons]
      have := revD_len k (u / 10) (by rw [Nat.pow_succ] at h; omega)
      omega
theorem revD_dig : ∀ (u : Nat), ∀ d ∈ revD u, d < 10 := by
  intro u
  induction u using Nat.strongRecOn with
  | _ u ih =>
    by_cases h : u = 0
    · subst h; rw [revD_zero]; simp
    · rw [revD_pos h]
      intro d hd
      rcases List.mem_cons.1 hd with rfl | hd
      · omega
      · exact ih (u / 10) (by omega) d hd
theorem decDigits_rev (u : Nat) (h : u ≠ 0) : Lib.decDigits u = ((revD u).reverse).map (fun d => UInt8.ofNat (48 + d)) := by
  induction u using Nat.strongRecOn with
  | _ u ih =>
    rw [Lib.decDigits, revD_pos h]
    by_cases h1 : u < 10
    · rw [dif_pos h1]
      have h2 : u / 10 = 0 := by omega
      rw [h2, revD_zero]
      simp
      rw [Nat.mod_eq_of_lt h1]
    · rw [dif_neg h1, ih (u / 10) (by omega) (by omega)]
      simp
/-- The decimal form. -/
def decT (n : Int) : ByteArray := ⟨(Lib.itoa n).toArray⟩
/-- Its bytes as numbers, the last first. -/
def decR (n : Int) : List Int := (revD n.natAbs).map (fun d : Nat => 48 + (d : Int)) ++ if n < 0 then [45] else []
theorem decR_bytes (n : Int) (h : n ≠ 0) : ((decR n).reverse).map (fun z => UInt8.ofNat z.toNat) = Lib.itoa n := by
  unfold decR Lib.itoa
  have e : ∀ l : List Nat, (l.map (fun d : Nat => 48 + (d : Int))).map (fun z => UInt8.ofNat z.toNat) = l.map (fun d => UInt8.ofNat (48 + d)) := by
    intro l
    rw [List.map_map]
    apply List.map_congr_left
    intro d _
    show UInt8.ofNat (48 + (d : Int)).toNat = _
    congr 1
  by_cases hn : n < 0
  · rw [if_pos hn, if_pos hn, decDigits_rev _ (by omega), List.reverse_append, List.map_append, ← List.map_reverse, e]
    rfl
  · rw [if_neg hn, if_neg hn, List.append_nil, ← List.map_reverse, e, ← decDigits_rev _ (by omega)]
    congr 1
    omega
theorem push_all (l : List Int) (s : ByteArray) : l.foldl (fun r n => r.push (UInt8.ofNat n.toNat)) s = ⟨(s.data.toList ++ l.map (fun z => UInt8.ofNat z.toNat)).toArray⟩ := by
  induction l generalizing s with
  | nil => simp
  | cons z l ih =>
    rw [List.foldl_cons, ih]
    simp [ByteArray.push]
theorem decR_text (n : Int) (h : n ≠ 0) : ((decR n).reverse).foldl (fun r n => r.push (UInt8.ofNat n.toNat)) ByteArray.empty = decT n := by
  rw [push_all, decR_bytes n h]
  rfl
theorem decR_len (n : Int) (h1 : -9223372036854775808 ≤ n) (h2 : n ≤ 9223372036854775807) : (decR n).length ≤ 21 := by
  unfold decR
  rw [List.length_append, List.length_map]
  have := revD_len 20 n.natAbs (by omega)
  split <;> simp <;> omega
theorem decT_zero : decT 0 = ⟨#[48]⟩ := by
  have e : Lib.decDigits 0 = [48] := by rw [Lib.decDigits]; rfl
  unfold decT Lib.itoa
  rw [if_neg (by omega), show (0 : Int).toNat = 0 from rfl, e]
/-- A step of the loop, for numbers that are not negative, and for negative ones. -/
theorem rev_step {m : Int} (h : m ≠ 0) : revD m.natAbs = m.natAbs % 10 :: revD (m.natAbs / 10) := revD_pos (by omega)
theorem neg_parts {m : Int} (h : m < 0) : m.tmod 10 = -((m.natAbs % 10 : Nat) : Int) ∧ m.tdiv 10 = -((m.natAbs / 10 : Nat) : Int) := by
  obtain ⟨k, rfl⟩ : ∃ k : Nat, m = -(k : Int) := ⟨m.natAbs, by omega⟩
  rw [Int.neg_tmod, Int.neg_tdiv, Int.natAbs_neg, Int.natAbs_natCast]
  constructor
  · congr 1
  · congr 1
end Go.Proofs.YtpnffdkkmibchaaGreatDoor
