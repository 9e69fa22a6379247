/-
  Plain words: which texts are faults, and which. Under no condition.
-/
import Derived.Test.YtlolkngklfabfaaDoorRdL
import Derived.Test.YtlolkngklfabfaaDoorTextF
set_option linter.unusedVariables false
set_option linter.unnecessarySimpa false
set_option maxRecDepth 100000
set_option linter.unusedSimpArgs false
namespace Go.Proofs.YtlolkngklfabfaaDoor
open Go.RowKit BigFrame

/-- The kind of a name; 0 if none. -/
def fkN (l : List UInt8) : Int := if l = [111, 117, 116] then 1 else if l = [114, 104, 121, 116, 104, 109] then 2 else if l = [112, 108, 97, 99, 101] then 3 else if l = [115, 111, 117, 110, 100] then 4 else 0
theorem fk_name {k : Int} (h : 1 ≤ k ∧ k ≤ 4) : fkN (pickS k faultNames).data.toList = k ∧ (32 : UInt8) ∉ (pickS k faultNames).data.toList ∧ (pickS k faultNames).data.toList ≠ [] := by
  obtain rfl | rfl | rfl | rfl : k = 1 ∨ k = 2 ∨ k = 3 ∨ k = 4 := by omega
  all_goals exact ⟨by decide, by decide, by decide⟩
theorem fk_back {l : List UInt8} (h : 1 ≤ fkN l) : pickS (fkN l) faultNames = ba l := by
  unfold fkN at h ⊢
  by_cases h1 : l = [111, 117, 116]
  · subst h1; rfl
  by_cases h2 : l = [114, 104, 121, 116, 104, 109]
  · subst h2; rfl
  by_cases h3 : l = [112, 108, 97, 99, 101]
  · subst h3; rfl
  by_cases h4 : l = [115, 111, 117, 110, 100]
  · subst h4; rfl
  rw [if_neg h1, if_neg h2, if_neg h3, if_neg h4] at h
  omega
def ftOk (l : List UInt8) : Bool := decide ((splitL 32 l).length = 4) && (numOk (rlA l 0) && (numOk (rlA l 2) && (numOk (rlA l 3) && vFault (rdV (ba (rlA l 0))) (fkN (rlA l 1)) (rdV (ba (rlA l 2))) (rdV (ba (rlA l 3))))))
def ft (l : List UInt8) (v : Int) : Int := if ftOk l then v else 0
theorem ft_no {l : List UInt8} (h : ftOk l = false) : ∀ v, ft l v = 0 := fun v => by unfold ft; rw [h]; rfl
theorem ft_yes {l : List UInt8} (h : ftOk l = true) : ∀ v, ft l v = v := fun v => by unfold ft; rw [h]; rfl
theorem vF_kind {a k f u : Int} (h : vFault a k f u = true) : 1 ≤ k ∧ k ≤ 4 := by
  unfold vFault at h
  rw [Bool.and_eq_true, Bool.and_eq_true] at h
  exact inB_yes.1 h.2.1
theorem faultT_of {a b c d : List UInt8} (h1 : numOk a = true) (h3 : numOk c = true) (h4 : numOk d = true) : (faultT (rdV (ba a)) (ba b) (rdV (ba c)) (rdV (ba d))).data.toList = a ++ 32 :: (b ++ 32 :: (c ++ 32 :: d)) := by
  unfold faultT
  rw [decT_of h1, decT_of h3, decT_of h4]
  simp only [ByteArray.data_append, Array.toList_append]
  show (((((a ++ [32]) ++ b) ++ [32]) ++ c) ++ [32]) ++ d = _
  simp
theorem fk_free {l : List UInt8} (h : 1 ≤ fkN l ∧ fkN l ≤ 4) : (32 : UInt8) ∉ l ∧ l ≠ [] := by
  have e := fk_back h.1
  have n := fk_name h
  rw [e] at n
  exact n.2
/-- The words are the parts, where the reference reads. -/
theorem ft_words {L : List UInt8} (h : ftOk L = true) : wordsL L = splitL 32 L ∧ ∃ a b c d, splitL 32 L = [a, b, c, d] ∧ numOk a = true ∧ numOk c = true ∧ numOk d = true ∧ vFault (rdV (ba a)) (fkN b) (rdV (ba c)) (rdV (ba d)) = true := by
  have h' := h
  unfold ftOk at h'
  rw [Bool.and_eq_true] at h'
  obtain ⟨h4, h'⟩ := h'
  obtain ⟨a, b, c, d, hS⟩ := four_of (of_decide_eq_true h4)
  obtain ⟨e0, e1, e2, e3⟩ := rl_four hS
  rw [e0, e1, e2, e3] at h'
  simp only [Bool.and_eq_true] at h'
  obtain ⟨k1, k2, k3, k4⟩ := h'
  refine ⟨words_all ?_, a, b, c, d, hS, k1, k2, k3, k4⟩
  rw [hS]
  intro p hp
  simp only [List.mem_cons, List.not_mem_nil, or_false] at hp
  rcases hp with rfl | rfl | rfl | rfl
  · exact (num_free2 k1).2
  · exact (fk_free (vF_kind k4)).2
  · exact (num_free2 k2).2
  · exact (num_free2 k3).2
/-- No kind whose text is the text: the reference does not read either. -/
theorem ft_impl {L a b c d : List UInt8} (hW : wordsL L = [a, b, c, d]) (hn : numOk a = true → numOk c = true → numOk d = true → ∀ k : Int, vFault (rdV (ba a)) k (rdV (ba c)) (rdV (ba d)) = true → (faultT (rdV (ba a)) (pickS k faultNames) (rdV (ba c)) (rdV (ba d))).data.toList ≠ L) : ftOk L = false := by
  rw [← Bool.not_eq_true]
  intro h
  obtain ⟨hw, a', b', c', d', hS, k1, k2, k3, k4⟩ := ft_words h
  rw [hw, hS] at hW
  injection hW with x1 hW
  injection hW with x2 hW
  injection hW with x3 hW
  injection hW with x4 _
  subst x1 x2 x3 x4
  refine hn k1 k2 k3 _ k4 ?_
  rw [fk_back (vF_kind k4).1, faultT_of k1 k2 k3]
  have hj := split_join 32 L
  rw [hS, Lib.join_cons] at hj
  rw [← hj]
  simp [Lib.joinTail]
/-- A kind whose text is the text: the reference reads that kind. -/
theorem ft_good {L a c d : List UInt8} {k : Int} (k1 : numOk a = true) (k2 : numOk c = true) (k3 : numOk d = true) (k4 : vFault (rdV (ba a)) k (rdV (ba c)) (rdV (ba d)) = true) (hL : (faultT (rdV (ba a)) (pickS k faultNames) (rdV (ba c)) (rdV (ba d))).data.toList = L) : ftOk L = true ∧ rlA L 0 = a ∧ fkN (rlA L 1) = k ∧ rlA L 2 = c ∧ rlA L 3 = d := by
  have hk := vF_kind k4
  obtain ⟨n1, n2, n3⟩ := fk_name hk
  obtain ⟨b, hb⟩ : ∃ b, (pickS k faultNames).data.toList = b := ⟨_, rfl⟩
  have hb2 : pickS k faultNames = ba b := ba_ext hb
  rw [hb] at n1 n2 n3
  rw [hb2, faultT_of k1 k2 k3] at hL
  have hS := split_four (num_free2 k1).1 n2 (num_free2 k2).1 (num_free2 k3).1
  rw [hL] at hS
  obtain ⟨e0, e1, e2, e3⟩ := rl_four hS
  refine ⟨?_, e0, by rw [e1]; exact n1, e2, e3⟩
  unfold ftOk
  rw [hS, e0, e1, e2, e3, n1, k1, k2, k3, k4]
  rfl
end Go.Proofs.YtlolkngklfabfaaDoor
