/-
  Plain words of signals: the signs of the letters, the phases of a text, how phases are read. No program is in sight. Under the conditions that each states.
-/
import Derived.Test.YtpnffdkkmibchaaDoorProg
import Derived.Test.YtpnffdkkmibchaaDoorSplitP
set_option linter.unusedVariables false
set_option linter.unnecessarySimpa false
set_option linter.unusedSimpArgs false
namespace Go.Proofs.YtpnffdkkmibchaaDoor

/-- The signs of the letters: 46 is a dot, 45 a dash. -/
def sgL : List (List UInt8) := [[46,45],[45,46,46,46],[45,46,45,46],[45,46,46],[46],[46,46,45,46],[45,45,46],[46,46,46,46],[46,46],[46,45,45,45],[45,46,45],[46,45,46,46],[45,45],[45,46],[45,45,45],[46,45,45,46],[45,45,46,45],[46,45,46],[46,46,46],[45],[46,46,45],[46,46,46,45],[46,45,45],[45,46,46,45],[45,46,45,45],[45,45,46,46]]
def sg (x : Nat) : List UInt8 := sgL.getD x []
theorem sg_len {x : Nat} (h : x < 26) : 1 ≤ (sg x).length ∧ (sg x).length ≤ 4 := by
  have key : ∀ y : Fin 26, 1 ≤ (sg y.1).length ∧ (sg y.1).length ≤ 4 := by decide
  exact key ⟨x, h⟩
theorem sg_inj {x y : Nat} (hx : x < 26) (hy : y < 26) (h : sg x = sg y) : x = y := by
  have key : ∀ a b : Fin 26, sg a.1 = sg b.1 → a = b := by decide
  have := key ⟨x, hx⟩ ⟨y, hy⟩ h
  exact congrArg Fin.val this
theorem sg_all {x : Nat} (h : x < 26) : ∀ s ∈ sg x, s = 46 ∨ s = 45 := by
  have key : ∀ y : Fin 26, ∀ s ∈ sg y.1, s = 46 ∨ s = 45 := by decide
  exact key ⟨x, h⟩
/-- How many units a sign takes. -/
def un (s : UInt8) : Nat := if s = 45 then 3 else 1
theorem un_bd (s : UInt8) : 1 ≤ un s ∧ un s ≤ 3 := by unfold un; split <;> omega
def unSum (σ : List UInt8) : Nat := (σ.map un).sum
/-- One sign is sent: the phases so far and the pause ahead of it. -/
def sgn (u c : Nat) (st : List (Nat × Nat) × Nat) (s : UInt8) : List (Nat × Nat) × Nat := ((if 0 < st.2 then st.1 ++ [(0, st.2 * u)] else st.1) ++ [(c, un s * u)], 1)
/-- One byte of a text is sent. -/
def chr (u c : Nat) (st : List (Nat × Nat) × Nat) (b : Nat) : List (Nat × Nat) × Nat := if b = 32 then (st.1, 7) else (((sg (b - 65)).foldl (sgn u c) st).1, 3)
def send (u c : Nat) (T : List Nat) : List (Nat × Nat) × Nat := T.foldl (chr u c) ([], 0)
/-- The phases of one letter. -/
def chunk (u c : Nat) : List UInt8 → List (Nat × Nat)
  | [] => []
  | [s] => [(c, un s * u)]
  | s :: t :: r => (c, un s * u) :: (0, 1 * u) :: chunk u c (t :: r)
def lay (u : Nat) (st : List (Nat × Nat) × Nat) : List (Nat × Nat) := if 0 < st.2 then st.1 ++ [(0, st.2 * u)] else st.1
theorem fold_sgn (u c : Nat) : ∀ (σ : List UInt8) (st : List (Nat × Nat) × Nat), σ ≠ [] → σ.foldl (sgn u c) st = (lay u st ++ chunk u c σ, 1)
  | [], st, h => absurd rfl h
  | [s], st, _ => rfl
  | s :: t :: r, st, _ => by
    have ih := fold_sgn u c (t :: r) (sgn u c st s) (by simp)
    rw [List.foldl_cons, ih]
    have e : lay u (sgn u c st s) = lay u st ++ [(c, un s * u)] ++ [(0, 1 * u)] := rfl
    rw [e]
    simp [chunk, List.append_assoc]
/-- A text: letters, each with or without a blank behind it. -/
def txt (LS : List (Nat × Bool)) : List Nat := LS.flatMap fun p => (65 + p.1) :: (if p.2 then [32] else [])
def goodL (LS : List (Nat × Bool)) : Prop := ∀ p ∈ LS, p.1 < 26
def endL (LS : List (Nat × Bool)) : Prop := ∃ A x, LS = A ++ [(x, false)]
theorem txt_app (A B : List (Nat × Bool)) : txt (A ++ B) = txt A ++ txt B := by unfold txt; rw [List.flatMap_append]
theorem txt_cons (p : Nat × Bool) (A : List (Nat × Bool)) : txt (p :: A) = (65 + p.1) :: ((if p.2 then [32] else []) ++ txt A) := by unfold txt; simp
theorem txt_len (LS : List (Nat × Bool)) : LS.length ≤ (txt LS).length ∧ (txt LS).length ≤ 2 * LS.length := by
  induction LS with
  | nil => exact ⟨Nat.le_refl _, Nat.le_refl _⟩
  | cons p A ih =>
    rw [txt_cons]
    simp only [List.length_cons, List.length_append]
    split <;> simp <;> omega
theorem chr_letter {u c x : Nat} (h : x < 26) (st : List (Nat × Nat) × Nat) : chr u c st (65 + x) = (lay u st ++ chunk u c (sg x), 3) := by
  unfold chr
  rw [if_neg (by omega), show 65 + x - 65 = x by omega, fold_sgn u c (sg x) st (fun e => by have := sg_len h; rw [e] at this; simp at this)]
theorem fold_chr (u c : Nat) : ∀ (LS : List (Nat × Bool)) (st : List (Nat × Nat) × Nat), goodL LS → lay u ((txt LS).foldl (chr u c) st) = lay u st ++ LS.flatMap fun p => chunk u c (sg p.1) ++ [(0, (if p.2 then 7 else 3) * u)]
  | [], st, _ => by simp [txt]
  | (x, b) :: LS, st, h => by
    have hx : x < 26 := h (x, b) List.mem_cons_self
    have ih := fun st => fold_chr u c LS st (fun p hp => h p (List.mem_cons_of_mem _ hp))
    rw [txt_cons, List.foldl_cons, chr_letter hx, List.foldl_append, ih]
    cases b
    · simp [lay]
    · simp [lay, chr]
theorem send_end (u c : Nat) {LS : List (Nat × Bool)} (hg : goodL LS) (he : endL LS) : (send u c (txt LS)).1 ++ [(0, 3 * u)] = LS.flatMap fun p => chunk u c (sg p.1) ++ [(0, (if p.2 then 7 else 3) * u)] := by
  have h := fold_chr u c LS ([], 0) hg
  have h2 : (send u c (txt LS)).2 = 3 := by
    obtain ⟨A, x, rfl⟩ := he
    have hx : x < 26 := hg (x, false) (by simp)
    unfold send
    rw [txt_app, List.foldl_append, show txt [(x, false)] = [65 + x] by simp [txt], List.foldl_cons, chr_letter hx]
    rfl
  have e : lay u (send u c (txt LS)) = (send u c (txt LS)).1 ++ [(0, 3 * u)] := by unfold lay; rw [h2]; rfl
  rw [← e]
  exact h
/-- One phase is read: the text and the signs so far. -/
def Stp (u i : Nat) (a : List Nat × List UInt8) (p : Nat × Nat) (b : List Nat × List UInt8) : Prop :=
  (i % 2 = 0 ∧ p = (82, 1 * u) ∧ b = (a.1, a.2 ++ [46])) ∨ (i % 2 = 0 ∧ p = (82, 3 * u) ∧ b = (a.1, a.2 ++ [45])) ∨ (i % 2 = 1 ∧ p = (0, 1 * u) ∧ b = a) ∨
  (i % 2 = 1 ∧ p = (0, 3 * u) ∧ ∃ x, x < 26 ∧ a.2 = sg x ∧ b = (a.1 ++ [65 + x], [])) ∨ (i % 2 = 1 ∧ p = (0, 7 * u) ∧ ∃ x, x < 26 ∧ a.2 = sg x ∧ b = (a.1 ++ [65 + x, 32], []))
def Rd (u : Nat) : Nat → List Nat × List UInt8 → List (Nat × Nat) → List Nat × List UInt8 → Prop
  | _, a, [], b => a = b
  | i, a, p :: L, b => ∃ m, Stp u i a p m ∧ Rd u (i + 1) m L b
theorem Rd.app (u : Nat) : ∀ (L M : List (Nat × Nat)) (i : Nat) (a m b : List Nat × List UInt8), Rd u i a L m → Rd u (i + L.length) m M b → Rd u i a (L ++ M) b
  | [], M, i, a, m, b, h, h2 => by cases h; exact h2
  | p :: L, M, i, a, m, b, ⟨q, hq, hr⟩, h2 => ⟨q, hq, Rd.app u L M (i + 1) q m b hr (by rw [List.length_cons] at h2; rwa [show i + 1 + L.length = i + (L.length + 1) by omega])⟩
theorem chunk_len (u c : Nat) : ∀ σ : List UInt8, σ ≠ [] → (chunk u c σ).length + 1 = 2 * σ.length
  | [], h => absurd rfl h
  | [s], _ => rfl
  | s :: t :: r, _ => by
    have := chunk_len u c (t :: r) (by simp)
    simp only [chunk, List.length_cons] at this ⊢
    omega
theorem rd_sign (u i : Nat) (t : List Nat) (τ : List UInt8) (s : UInt8) (hs : s = 46 ∨ s = 45) (hi : i % 2 = 0) : Stp u i (t, τ) (82, un s * u) (t, τ ++ [s]) := by
  rcases hs with rfl | rfl
  · exact Or.inl ⟨hi, rfl, rfl⟩
  · exact Or.inr (Or.inl ⟨hi, rfl, rfl⟩)
theorem rd_chunk (u : Nat) : ∀ (σ : List UInt8) (i : Nat) (t : List Nat) (τ : List UInt8), σ ≠ [] → (∀ s ∈ σ, s = 46 ∨ s = 45) → i % 2 = 0 → Rd u i (t, τ) (chunk u 82 σ) (t, τ ++ σ)
  | [], i, t, τ, h, _, _ => absurd rfl h
  | [s], i, t, τ, _, ha, hi => ⟨_, rd_sign u i t τ s (ha s (by simp)) hi, rfl⟩
  | s :: a :: r, i, t, τ, _, ha, hi => by
    refine ⟨_, rd_sign u i t τ s (ha s (by simp)) hi, _, Or.inr (Or.inr (Or.inl ⟨by omega, rfl, rfl⟩)), ?_⟩
    have := rd_chunk u (a :: r) (i + 1 + 1) t (τ ++ [s]) (by simp) (fun x hx => ha x (List.mem_cons_of_mem _ hx)) (by omega)
    simpa [List.append_assoc] using this
theorem rd_all (u : Nat) : ∀ (LS : List (Nat × Bool)) (i : Nat) (t : List Nat), goodL LS → i % 2 = 0 → Rd u i (t, []) (LS.flatMap fun p => chunk u 82 (sg p.1) ++ [(0, (if p.2 then 7 else 3) * u)]) (t ++ txt LS, [])
  | [], i, t, _, _ => by simp [Rd, txt]
  | (x, b) :: LS, i, t, h, hi => by
    have hx : x < 26 := h (x, b) List.mem_cons_self
    have hl := sg_len hx
    have hne : sg x ≠ [] := fun e => by rw [e] at hl; simp at hl
    have hcl := chunk_len u 82 (sg x) hne
    rw [List.flatMap_cons]
    have h1 := rd_chunk u (sg x) i t [] hne (sg_all hx) hi
    rw [List.nil_append] at h1
    have hodd : (i + (chunk u 82 (sg x)).length) % 2 = 1 := by omega
    have h2 : Rd u i (t, []) (chunk u 82 (sg x) ++ [(0, (if b then 7 else 3) * u)]) (t ++ txt [(x, b)], []) := by
      refine Rd.app u _ _ _ _ _ _ h1 ⟨_, ?_, rfl⟩
      cases b
      · exact Or.inr (Or.inr (Or.inr (Or.inl ⟨hodd, rfl, x, hx, rfl, by simp [txt]⟩)))
      · exact Or.inr (Or.inr (Or.inr (Or.inr ⟨hodd, rfl, x, hx, rfl, by simp [txt]⟩)))
    have h3 := rd_all u LS (i + (chunk u 82 (sg x) ++ [(0, (if b then 7 else 3) * u)]).length) (t ++ txt [(x, b)]) (fun p hp => h p (List.mem_cons_of_mem _ hp)) (by rw [List.length_append]; simp; omega)
    have := Rd.app u _ _ _ _ _ _ h2 h3
    have e : (t ++ txt [(x, b)]) ++ txt LS = t ++ txt ((x, b) :: LS) := by rw [List.append_assoc, ← txt_app]; rfl
    rw [e] at this
    exact this
/-- What is sent is read. -/
theorem rd_send (u : Nat) {LS : List (Nat × Bool)} (hg : goodL LS) (he : endL LS) : Rd u 0 ([], []) ((send u 82 (txt LS)).1 ++ [(0, 3 * u)]) (txt LS, []) := by
  rw [send_end u 82 hg he]
  simpa using rd_all u LS 0 [] hg rfl
/-- The sum of the lengths of phases. -/
def sumJ (J : List (Nat × Nat)) : Nat := (J.map Prod.snd).sum
theorem sum_chunk (u c : Nat) : ∀ σ : List UInt8, σ ≠ [] → sumJ (chunk u c σ) = (σ.length - 1 + unSum σ) * u
  | [], h => absurd rfl h
  | [s], _ => by simp [chunk, sumJ, unSum]
  | s :: t :: r, _ => by
    have ih := sum_chunk u c (t :: r) (by simp)
    simp only [chunk, sumJ, unSum, List.map_cons, List.sum_cons, List.length_cons] at ih ⊢
    rw [ih]
    have e : (r.length + 1 + 1 - 1 + (un s + (un t + (r.map un).sum))) = un s + (1 + (r.length + 1 - 1 + (un t + (r.map un).sum))) := by omega
    rw [e]
    generalize r.length + 1 - 1 + (un t + (r.map un).sum) = X
    rw [Nat.add_mul, Nat.add_mul]
theorem chunk_bd {u c : Nat} (hu : 1 ≤ u ∧ u ≤ 50) : ∀ σ : List UInt8, ∀ p ∈ chunk u c σ, 1 ≤ p.2 ∧ p.2 ≤ 150
  | [], p, hp => by cases hp
  | [s], p, hp => by
    rw [chunk, List.mem_singleton] at hp
    have := un_bd s
    subst hp
    constructor
    · exact Nat.mul_pos (by omega) (by omega)
    · exact Nat.le_trans (Nat.mul_le_mul this.2 hu.2) (by decide)
  | s :: t :: r, p, hp => by
    rw [chunk] at hp
    have := un_bd s
    rcases List.mem_cons.1 hp with rfl | hp
    · constructor
      · exact Nat.mul_pos (by omega) (by omega)
      · exact Nat.le_trans (Nat.mul_le_mul this.2 hu.2) (by decide)
    rcases List.mem_cons.1 hp with rfl | hp
    · dsimp only; omega
    · exact chunk_bd hu (t :: r) p hp
/-- The bytes of a text. -/
def txtB (LS : List (Nat × Bool)) : List UInt8 := (txt LS).map Nat.toUInt8
def okPart (p : List UInt8) : Prop := p ≠ [] ∧ ∀ c ∈ p, ∃ x, x < 26 ∧ c = (65 + x).toUInt8
theorem txtB_cons (p : Nat × Bool) (A : List (Nat × Bool)) : txtB (p :: A) = (65 + p.1).toUInt8 :: ((if p.2 then [32] else []) ++ txtB A) := by
  unfold txtB
  rw [txt_cons]
  cases p.2 <;> simp <;> rfl
theorem endL_tail {p : Nat × Bool} {A : List (Nat × Bool)} (h : endL (p :: A)) : (A = [] ∧ p.2 = false) ∨ endL A := by
  obtain ⟨B, x, e⟩ := h
  cases B with
  | nil => simp at e; exact Or.inl ⟨e.2, by rw [e.1]⟩
  | cons q B => simp at e; exact Or.inr ⟨B, x, e.2⟩
theorem letter_ne {x : Nat} (h : x < 26) : (65 + x).toUInt8 ≠ 32 := by
  have key : ∀ y : Fin 26, (65 + y.1).toUInt8 ≠ 32 := by decide
  exact key ⟨x, h⟩
theorem glue_part {x : Nat} (hx : x < 26) {S : List (List UInt8)} (h : ∀ p ∈ S, okPart p) (h0 : S ≠ []) : ∀ p ∈ glue [(65 + x).toUInt8] S, okPart p := by
  cases S with
  | nil => exact absurd rfl h0
  | cons a S =>
    intro p hp
    rcases List.mem_cons.1 (show p ∈ ([(65 + x).toUInt8] ++ a) :: S from hp) with rfl | hp
    · refine ⟨by simp, fun c hc => ?_⟩
      rcases List.mem_append.1 hc with hc | hc
      · rw [List.mem_singleton] at hc; exact ⟨x, hx, hc⟩
      · exact (h a (by simp)).2 c hc
    · exact h p (List.mem_cons_of_mem _ hp)
theorem split_txt : ∀ LS : List (Nat × Bool), goodL LS → endL LS → ∀ p ∈ splitL 32 (txtB LS), okPart p
  | [], _, ⟨A, x, e⟩ => by cases A <;> cases e
  | (x, b) :: LS, hg, he => by
    have hx : x < 26 := hg (x, b) List.mem_cons_self
    have hg2 : goodL LS := fun p hp => hg p (List.mem_cons_of_mem _ hp)
    have one : ∀ p ∈ [[(65 + x).toUInt8]], okPart p := fun p hp => by
      rw [List.mem_singleton] at hp; subst hp
      exact ⟨by simp, fun c hc => ⟨x, hx, by rwa [List.mem_singleton] at hc⟩⟩
    rw [txtB_cons]
    dsimp only
    rw [split_miss (letter_ne hx)]
    cases b
    · rw [if_neg (by simp), List.nil_append]
      rcases endL_tail he with ⟨rfl, _⟩ | he2
      · exact one
      · exact glue_part hx (split_txt LS hg2 he2) (split_ne _ _)
    · rw [if_pos rfl, List.singleton_append, split_hit]
      rcases endL_tail he with ⟨rfl, h⟩ | he2
      · cases h
      · intro p hp
        rcases List.mem_cons.1 (show p ∈ ([(65 + x).toUInt8] ++ []) :: splitL 32 (txtB LS) from hp) with rfl | hp
        · exact one _ (by simp)
        · exact split_txt LS hg2 he2 p hp
end Go.Proofs.YtpnffdkkmibchaaDoor
