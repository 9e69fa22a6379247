/-
  Plain words: the text of a list is read back, and that of a number. Under the conditions that each states.
-/
import Derived.Test.YtlolkngklfabfaaDoorRList
import Derived.Test.YtlolkngklfabfaaDoorListT
set_option linter.unusedVariables false
set_option linter.unnecessarySimpa false
set_option maxRecDepth 100000
set_option linter.unusedSimpArgs false
namespace Go.Proofs.YtlolkngklfabfaaDoor
open Go.RowKit BigFrame

theorem dig_len : ∀ (n u : Nat), u < 10 ^ n → (Lib.decDigits u).length ≤ n + 1
  | 0, u, h => by
    have : u = 0 := by simpa using h
    subst this
    rw [Lib.decDigits]; simp
  | n + 1, u, h => by
    rw [Lib.decDigits]
    split
    · simp
    · rw [List.length_append, List.length_singleton]
      have h2 : u / 10 < 10 ^ n := by rw [Nat.pow_succ] at h; omega
      have := dig_len n (u / 10) h2
      omega
theorem itoa_len {v : Int} (h1 : -100000000000000000 < v) (h2 : v < 100000000000000000) : (trimL (Lib.itoa v)).length ≤ 18 := by
  unfold Lib.itoa
  by_cases hv : v < 0
  · rw [if_pos hv]
    have ht : trimL (45 :: Lib.decDigits v.natAbs) = Lib.decDigits v.natAbs := rfl
    rw [ht]
    have := dig_len 17 v.natAbs (by have : (10 : Nat) ^ 17 = 100000000000000000 := rfl; omega)
    omega
  · rw [if_neg hv]
    have ht : trimL (Lib.decDigits v.toNat) = Lib.decDigits v.toNat := by unfold trimL; rw [if_neg (dig_no45 _)]
    rw [ht]
    have := dig_len 17 v.toNat (by have : (10 : Nat) ^ 17 = 100000000000000000 := rfl; omega)
    omega
theorem num_back {v : Int} (h1 : -100000000000000000 < v) (h2 : v < 100000000000000000) : numOk (Lib.itoa v) = true ∧ numV (Lib.itoa v) = v := itoa_num (itoa_len h1 h2)
theorem dec_back {v : Int} (h1 : -100000000000000000 < v) (h2 : v < 100000000000000000) : rdOk (decT v) = true ∧ rdV (decT v) = v := by
  obtain ⟨n1, n2⟩ := num_back h1 h2
  have e : (decT v).data.toList = Lib.itoa v := rfl
  have hk : rdOk (decT v) = true := by
    show numOk (decT v).data.toList = true
    rw [e]; exact n1
  refine ⟨hk, ?_⟩
  unfold rdV
  rw [e, n1]
  exact n2
theorem split_parts (c : UInt8) : ∀ (P : List (List UInt8)), P ≠ [] → (∀ p ∈ P, c ∉ p) → splitL c (Lib.join P [c]) = P
  | [], h, _ => absurd rfl h
  | [p], _, h => by
    rw [Lib.join_one, split_free (h p (by simp))]
  | p :: q :: P, _, h => by
    have ih := split_parts c (q :: P) (by simp) (fun x hx => h x (by simp at hx ⊢; right; exact hx))
    have e : Lib.join (p :: q :: P) [c] = p ++ c :: Lib.join (q :: P) [c] := by
      rw [Lib.join_cons, Lib.join_cons]
      simp [Lib.joinTail]
    rw [e, split_app _ (h p (by simp)), ih]
/-- The text of a list is read back. -/
theorem list_back {L : List Int} (hne : L ≠ []) (hlen : L.length ≤ 64) (hb : ∀ z ∈ L, -1000000000000 ≤ z ∧ z ≤ 1000000000000) : rsOk (listT L).data.toList = true ∧ rsV (listT L).data.toList = L := by
  obtain ⟨P, hP⟩ : ∃ P, (L.map decT).map (·.data.toList) = P := ⟨_, rfl⟩
  have hP2 : P = L.map Lib.itoa := by rw [← hP, List.map_map]; rfl
  have hnum : ∀ z ∈ L, numOk (Lib.itoa z) = true ∧ numV (Lib.itoa z) = z := fun z hz => num_back (by have := hb z hz; omega) (by have := hb z hz; omega)
  have hfree : ∀ p ∈ P, (44 : UInt8) ∉ p := by
    intro p hp
    rw [hP2] at hp
    obtain ⟨z, hz, rfl⟩ := List.mem_map.1 hp
    exact num_free (hnum z hz).1 44 (by decide) (by decide)
  have hPne : P ≠ [] := by rw [hP2]; simpa using hne
  have eT : (listT L).data.toList = Lib.join P [44] := by rw [listT_join hne, hP]
  have hS := split_parts 44 P hPne hfree
  rw [eT]
  have hall : ∀ (k : Nat) (hk : k < (splitL 44 (Lib.join P [44])).length), okN (splitL 44 (Lib.join P [44]))[k] = true := by
    rw [hS]
    intro k hk
    have hk2 : k < L.length := by rw [hP2, List.length_map] at hk; exact hk
    have e : P[k] = Lib.itoa L[k] := by simp only [hP2, List.getElem_map]
    rw [e]
    obtain ⟨n1, n2⟩ := hnum _ (List.getElem_mem hk2)
    have hz := hb _ (List.getElem_mem hk2)
    unfold okN rdV
    rw [ba_list, n1, if_pos rfl, n2, inB_mk hz.1 hz.2]
    rfl
  have h45 : Lib.join P [44] ≠ [45] := by
    intro e
    rw [e] at hS
    have hp : P = [[45]] := by rw [← hS]; rfl
    rw [hP2] at hp
    cases L with
    | nil => exact hne rfl
    | cons z L =>
      have e1 : Lib.itoa z = [45] := by rw [List.map_cons] at hp; exact (List.cons.inj hp).1
      have := (hnum z (by simp)).1
      rw [e1] at this
      cases this
  have h64 : (splitL 44 (Lib.join P [44])).length ≤ 64 := by rw [hS, hP2, List.length_map]; exact hlen
  obtain ⟨g1, g2⟩ := rs_good h45 h64 hall
  refine ⟨g1, ?_⟩
  rw [g2, hS, hP2, List.map_map]
  conv => rhs; rw [← List.map_id L]
  apply List.map_congr_left
  intro z hz
  obtain ⟨n1, n2⟩ := hnum z hz
  show rdV (ba (Lib.itoa z)) = z
  unfold rdV
  rw [ba_list, n1, if_pos rfl, n2]
end Go.Proofs.YtlolkngklfabfaaDoor
