/-
  Plain words: a text divided at each byte of a kind: what the library's Split and Cut give. Under no condition.
-/
import Derived.Lib.Split
import Derived.Lib.IndexBytes
import Derived.Lib.CutLaws
import Derived.Lib.CountLaws
import Derived.Lib.Join
set_option linter.unusedVariables false
set_option linter.unusedSimpArgs false
namespace Go.Proofs.YtpnffdkkmibchaaGreatDoor

/-- What stands ahead of the first of some parts. -/
def glue (a : List UInt8) : List (List UInt8) → List (List UInt8)
  | [] => [a]
  | h :: t => (a ++ h) :: t
/-- The parts between the bytes c. -/
def splitL (c : UInt8) : List UInt8 → List (List UInt8)
  | [] => [[]]
  | b :: r => if b = c then [] :: splitL c r else glue [b] (splitL c r)
theorem split_ne (c : UInt8) (l : List UInt8) : splitL c l ≠ [] := by
  cases l with
  | nil => simp [splitL]
  | cons b r =>
    unfold splitL
    split
    · simp
    · cases splitL c r <;> simp [glue]
theorem glue_glue (a b : List UInt8) {S : List (List UInt8)} (h : S ≠ []) : glue a (glue b S) = glue (a ++ b) S := by
  cases S with
  | nil => exact absurd rfl h
  | cons s S => simp [glue]
theorem glue_nil {S : List (List UInt8)} (h : S ≠ []) : glue [] S = S := by
  cases S with
  | nil => exact absurd rfl h
  | cons s S => rfl
theorem split_hit (c : UInt8) (r : List UInt8) : splitL c (c :: r) = [] :: splitL c r := by simp [splitL]
theorem split_miss {c b : UInt8} (h : b ≠ c) (r : List UInt8) : splitL c (b :: r) = glue [b] (splitL c r) := by simp [splitL, h]
theorem split_none {c : UInt8} : ∀ {l : List UInt8}, Lib.indexByte l c = -1 → splitL c l = [l]
  | [], _ => rfl
  | b :: l, h => by
    unfold Lib.indexByte at h
    by_cases hb : b = c
    · subst hb; simp at h
    · have hb' : (b == c) = false := beq_eq_false_iff_ne.2 hb
      rw [hb'] at h
      have hl : Lib.indexByte l c = -1 := by
        have := Lib.indexByte_ge l c
        by_cases h1 : Lib.indexByte l c = -1
        · exact h1
        · rw [if_neg (by simp), if_neg (by simpa using h1)] at h
          omega
      rw [split_miss hb, split_none hl]
      rfl
theorem split_some {c : UInt8} : ∀ {l : List UInt8} {i : Nat}, Lib.indexByte l c = i → splitL c l = l.take i :: splitL c (l.drop (i + 1))
  | [], i, h => by simp [Lib.indexByte] at h
  | b :: l, i, h => by
    unfold Lib.indexByte at h
    by_cases hb : b = c
    · subst hb
      simp at h
      have : i = 0 := by omega
      subst this
      rw [split_hit]
      rfl
    · have hb' : (b == c) = false := beq_eq_false_iff_ne.2 hb
      rw [hb', if_neg (by simp)] at h
      have hge := Lib.indexByte_ge l c
      by_cases h1 : Lib.indexByte l c = -1
      · rw [if_pos (by simpa using h1)] at h; omega
      · rw [if_neg (by simpa using h1)] at h
        obtain ⟨j, rfl⟩ : ∃ j, i = j + 1 := ⟨i - 1, by omega⟩
        rw [split_miss hb, split_some (i := j) (by omega)]
        rfl
/-- The parts, joined, are the text. -/
theorem split_join (c : UInt8) : ∀ l : List UInt8, Lib.join (splitL c l) [c] = l
  | [] => rfl
  | b :: l => by
    have ih := split_join c l
    obtain ⟨h, t, e⟩ : ∃ h t, splitL c l = h :: t := by
      cases hq : splitL c l with
      | nil => exact absurd hq (split_ne c l)
      | cons h t => exact ⟨h, t, rfl⟩
    rw [e, Lib.join_cons] at ih
    by_cases hb : b = c
    · subst hb
      rw [split_hit, e, Lib.join_cons, Lib.joinTail, List.map_cons, List.flatten_cons]
      rw [← ih]
      simp [Lib.joinTail]
    · rw [split_miss hb, e]
      show Lib.join (([b] ++ h) :: t) [c] = _
      rw [Lib.join_cons, ← ih]
      simp
theorem split_free {c : UInt8} : ∀ {l : List UInt8}, c ∉ l → splitL c l = [l]
  | [], _ => rfl
  | b :: l, h => by
    rw [split_miss (fun e => h (by simp [e])), split_free (fun hm => h (by simp [hm]))]
    rfl
theorem split_app {c : UInt8} : ∀ {a : List UInt8} (r : List UInt8), c ∉ a → splitL c (a ++ c :: r) = a :: splitL c r
  | [], r, _ => split_hit c r
  | b :: a, r, h => by
    rw [List.cons_append, split_miss (fun e => h (by simp [e])), split_app r (fun hm => h (by simp [hm]))]
    rfl
theorem split_nosep {c : UInt8} : ∀ {l : List UInt8}, ∀ p ∈ splitL c l, c ∉ p
  | [], p, hp => by simp [splitL] at hp; subst hp; simp
  | b :: l, p, hp => by
    by_cases hb : b = c
    · subst hb
      rw [split_hit] at hp
      rcases List.mem_cons.1 hp with rfl | hp
      · simp
      · exact split_nosep p hp
    · rw [split_miss hb] at hp
      cases hq : splitL c l with
      | nil => exact absurd hq (split_ne c l)
      | cons h t =>
        rw [hq] at hp
        rcases List.mem_cons.1 (show p ∈ (([b] ++ h) :: t) from hp) with rfl | hp
        · have := split_nosep (l := l) h (by rw [hq]; simp)
          intro hm
          rcases List.mem_append.1 hm with hm | hm
          · simp at hm; exact hb hm.symm
          · exact this hm
        · exact split_nosep (l := l) p (by rw [hq]; simp [hp])
/-- strings.Split at a separator of one byte. -/
theorem splitB_is (c : UInt8) : ∀ (n : Nat) (s : ByteArray), s.size ≤ n → (Lib.splitB ⟨#[c]⟩ 0 (Lib.countB s ⟨#[c]⟩) s).map (·.data.toList) = splitL c s.data.toList := by
  intro n
  induction n with
  | zero =>
    intro s hs
    obtain ⟨⟨l⟩⟩ := s
    have : l = [] := List.eq_nil_of_length_eq_zero (by simpa [ByteArray.size] using hs)
    subst this
    rfl
  | succ n ih =>
    intro s hs
    have e1 : Lib.indexB s ⟨#[c]⟩ = Lib.indexByte s.data.toList c := Lib.index_one s.data.toList c
    rcases Lib.indexB_cases s ⟨#[c]⟩ with h | ⟨i, h, hi⟩
    · rw [Lib.countB_miss _ _ h, Lib.splitB_zero, split_none (by rw [← e1]; exact h)]
      rfl
    · have hi1 : i + 1 ≤ s.size := hi
      rw [Lib.countB_hit _ _ i (by show 1 ≤ 1; omega) h, Nat.add_comm, Lib.splitB_hit _ _ _ _ i h, List.map_cons, split_some (i := i) (by rw [← e1]; exact h)]
      have es : (⟨#[c]⟩ : ByteArray).size = 1 := rfl
      have er : (s.extract (i + 1) s.size).data.toList = s.data.toList.drop (i + 1) := by
        rw [Lib.extract_to_end]
      have ih2 := ih (s.extract (i + 1) s.size) (by rw [ByteArray.size_extract]; omega)
      rw [er] at ih2
      rw [es, ih2]
      congr 1
      rw [Lib.extract_data]
      simp
/-- The words: the parts that are not empty. -/
def wordsL (l : List UInt8) : List (List UInt8) := (splitL 32 l).filter (fun p => !p.isEmpty)
theorem words_all {l : List UInt8} (h : ∀ p ∈ splitL 32 l, p ≠ []) : wordsL l = splitL 32 l := by
  unfold wordsL
  rw [List.filter_eq_self]
  intro p hp
  have := h p hp
  cases p with
  | nil => exact absurd rfl this
  | cons _ _ => rfl
end Go.Proofs.YtpnffdkkmibchaaGreatDoor
