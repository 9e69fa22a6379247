/-
  Plain words: a warning ended in a list: which list comes of it, and which code. Under no condition.
-/
import Derived.Test.YtlolkngklfabfaaDMark
import Derived.Test.YtlolkngklfabfaaWarnL
set_option linter.unusedVariables false
set_option linter.unnecessarySimpa false
set_option maxRecDepth 100000
set_option linter.unusedSimpArgs false
namespace Go.Proofs.Ytlolkngklfabfaa
open Go.RowKit BigFrame

/-- The number of the first element that does not pass. -/
def fno {α : Type} (p : α → Bool) (L : List α) : Nat := (L.takeWhile p).length
theorem fno_le {α : Type} (p : α → Bool) (L : List α) : fno p L ≤ L.length := (List.takeWhile_sublist _).length_le
theorem fno_stop {α : Type} (p : α → Bool) : ∀ (L : List α) (h : fno p L < L.length), p L[fno p L] = false
  | [], h => by simp at h
  | a :: L, h => by
    cases ha : p a
    · have e : fno p (a :: L) = 0 := by simp [fno, List.takeWhile_cons, ha]
      simp only [e, List.getElem_cons_zero]
      exact ha
    · have e : fno p (a :: L) = fno p L + 1 := by simp [fno, List.takeWhile_cons, ha]
      simp only [e, List.getElem_cons_succ]
      exact fno_stop p L (by rw [e] at h; simpa using h)
theorem fno_go {α : Type} (p : α → Bool) : ∀ (L : List α) (k : Nat) (hk : k < L.length), k < fno p L → p L[k] = true
  | [], k, hk, _ => by simp at hk
  | a :: L, k, hk, h => by
    cases ha : p a
    · have e : fno p (a :: L) = 0 := by simp [fno, List.takeWhile_cons, ha]
      omega
    · have e : fno p (a :: L) = fno p L + 1 := by simp [fno, List.takeWhile_cons, ha]
      cases k with
      | zero => exact ha
      | succ k => exact fno_go p L k (by simpa using hk) (by omega)
theorem fno_step {α : Type} {p : α → Bool} {L : List α} {k : Nat} {a : α} (hk : k < L.length) (ha : L[k] = a) (h : k ≤ fno p L) (hl : p a = true) : k + 1 ≤ fno p L := by
  rcases Nat.lt_or_ge k (fno p L) with h1 | h1
  · exact h1
  · exfalso
    have e : fno p L = k := by omega
    have := fno_stop p L (by omega)
    simp only [e, ha] at this
    rw [hl] at this; cases this
theorem fno_at {α : Type} {p : α → Bool} {L : List α} {k : Nat} {a : α} (hk : k < L.length) (ha : L[k] = a) (h : k ≤ fno p L) (hl : p a = false) : fno p L = k := by
  rcases Nat.lt_or_ge k (fno p L) with h1 | h1
  · have := fno_go p L k hk h1
    rw [ha, hl] at this; cases this
  · omega

def lessN (n : Int) (a : RWarning) : Bool := decide (a.f0 < n)
def canI (n : Int) (L : List RWarning) : Nat := fno (lessN n) L
def setU (a : RWarning) (t : Int) : RWarning := ⟨a.f0, a.f1, a.f2, t, a.f4, a.f5, a.f6, a.f7⟩
/-- What becomes of one warning. -/
def canF (n t : Int) (a : RWarning) : List RWarning := if a.f0 = n then (if t ≤ a.f2 then [] else [setU a t]) else [a]
def canH (n : Int) (L : List RWarning) : Bool := decide (canI n L < L.length) && decide ((L.getD (canI n L) default).f0 = n)
def canC (L : List RWarning) (n t : Int) : Int :=
  if vWarnsM L = false then 1 else if canH n L = false then 3 else if inB t 0 143999999 = false then 2 else if (L.getD (canI n L) default).f3 ≤ t then 6 else 0
def canL (L : List RWarning) (n t : Int) : List RWarning := if canC L n t = 0 then L.take (canI n L) ++ (canF n t (L.getD (canI n L) default) ++ L.drop (canI n L + 1)) else []
theorem canL_no {L : List RWarning} {n t : Int} (h : ¬ canC L n t = 0) : canL L n t = [] := by unfold canL; rw [if_neg h]
theorem canF_le (n t : Int) (a : RWarning) : (canF n t a).length ≤ 1 := by
  unfold canF
  split
  · split <;> simp
  · simp
theorem canC_hit {L : List RWarning} {n t : Int} (h : canC L n t = 0) : vWarnsM L = true ∧ canI n L < L.length ∧ (L.getD (canI n L) default).f0 = n := by
  cases h1 : vWarnsM L
  · unfold canC at h; rw [if_pos h1] at h; omega
  cases h2 : canH n L
  · unfold canC at h; rw [if_neg (by simp [h1]), if_pos h2] at h; omega
  unfold canH at h2
  rw [Bool.and_eq_true] at h2
  exact ⟨rfl, of_decide_eq_true h2.1, of_decide_eq_true h2.2⟩
theorem canL_le (L : List RWarning) (n t : Int) : (canL L n t).length ≤ L.length := by
  by_cases h : canC L n t = 0
  · obtain ⟨_, hi, _⟩ := canC_hit h
    have := canF_le n t (L.getD (canI n L) default)
    unfold canL
    rw [if_pos h]
    simp only [List.length_append, List.length_take, List.length_drop]
    omega
  · rw [canL_no h]; simp
/-- A valid list's numbers rise. -/
theorem warns_next {L : List RWarning} (h : vWarnsM L = true) {k : Nat} (hk : k + 1 < L.length) : (L[k]).f0 < (L[k + 1]).f0 := by
  unfold vWarnsM at h
  rw [Bool.and_eq_true] at h
  have h1 : okWarn L (k + 1) = true := by
    rw [← Bool.not_eq_false]
    intro hf
    rw [allTo_hit hk hf] at h
    cases h.1
  unfold okWarn at h1
  rw [Nat.add_sub_cancel, getD_at hk, getD_at (show k < L.length by omega)] at h1
  simp only [Bool.and_eq_true, Bool.or_eq_true, decide_eq_true_eq] at h1
  rcases h1.2 with h2 | h2
  · omega
  · exact h2
theorem warns_asc {L : List RWarning} (h : vWarnsM L = true) {j : Nat} : ∀ (d : Nat) (hk : j + d + 1 < L.length), (L[j]).f0 < (L[j + d + 1]).f0
  | 0, hk => warns_next h hk
  | d + 1, hk => by
    have h1 := warns_asc h d (show j + d + 1 < L.length by omega)
    have h2 := warns_next h (k := j + d + 1) hk
    show (L[j]).f0 < (L[j + d + 1 + 1]).f0
    omega
theorem canI_stop {L : List RWarning} {n : Int} (h : canI n L < L.length) : ¬ (L[canI n L]).f0 < n := of_decide_eq_false (fno_stop (lessN n) L h)
/-- Where the number stands, the search ends. -/
theorem can_at {L : List RWarning} {n : Int} (h : vWarnsM L = true) {k : Nat} (hk : k < L.length) (e : (L[k]).f0 = n) : canI n L = k := by
  rcases Nat.lt_trichotomy (canI n L) k with h1 | h1 | h1
  · exfalso
    have hi : canI n L < L.length := by omega
    have hs := canI_stop hi
    obtain ⟨d, hd⟩ : ∃ d, k = canI n L + d + 1 := ⟨k - canI n L - 1, by omega⟩
    subst hd
    have := warns_asc h (j := canI n L) d hk
    omega
  · exact h1
  · exfalso
    have h2 : lessN n L[k] = true := fno_go (lessN n) L k hk h1
    have h3 : (L[k]).f0 < n := of_decide_eq_true h2
    omega
theorem canH_at {L : List RWarning} {n : Int} (h : vWarnsM L = true) {k : Nat} (hk : k < L.length) (e : (L[k]).f0 = n) : canH n L = true := by
  unfold canH
  rw [can_at h hk e, getD_at hk, decide_eq_true hk, decide_eq_true e]; rfl
theorem canH_no {L : List RWarning} {n : Int} (h : ∀ (k : Nat) (hk : k < L.length), ¬ (L[k]).f0 = n) : canH n L = false := by
  unfold canH
  by_cases hi : canI n L < L.length
  · rw [getD_at hi, decide_eq_false (h _ hi), Bool.and_false]
  · rw [decide_eq_false hi, Bool.false_and]
theorem can_bad {L : List RWarning} {n t : Int} (h : vWarnsM L = false) : canC L n t = 1 ∧ canL L n t = [] := by
  have e : canC L n t = 1 := by unfold canC; rw [if_pos h]
  exact ⟨e, canL_no (by omega)⟩
theorem can_none {L : List RWarning} {n t : Int} (h : vWarnsM L = true) (hh : canH n L = false) : canC L n t = 3 ∧ canL L n t = [] := by
  have e : canC L n t = 3 := by unfold canC; rw [if_neg (by simp [h]), if_pos hh]
  exact ⟨e, canL_no (by omega)⟩
theorem can_range {L : List RWarning} {n t : Int} (h : vWarnsM L = true) (hh : canH n L = true) (ht : inB t 0 143999999 = false) : canC L n t = 2 ∧ canL L n t = [] := by
  have e : canC L n t = 2 := by unfold canC; rw [if_neg (by simp [h]), if_neg (by simp [hh]), if_pos ht]
  exact ⟨e, canL_no (by omega)⟩
theorem can_state {L : List RWarning} {n t : Int} {k : Nat} {a : RWarning} (h : vWarnsM L = true) (hk : k < L.length) (ha : L[k] = a) (e0 : a.f0 = n) (ht : inB t 0 143999999 = true) (hu : a.f3 ≤ t) : canC L n t = 6 ∧ canL L n t = [] := by
  have e0 : (L[k]).f0 = n := by rw [ha]; exact e0
  have e : canC L n t = 6 := by unfold canC; rw [if_neg (by simp [h]), if_neg (by simp [canH_at h hk e0]), if_neg (by simp [ht]), can_at h hk e0, getD_at hk, ha, if_pos hu]
  exact ⟨e, canL_no (by omega)⟩
theorem can_ok {L : List RWarning} {n t : Int} {k : Nat} {a : RWarning} (h : vWarnsM L = true) (hk : k < L.length) (ha : L[k] = a) (e0 : a.f0 = n) (ht : inB t 0 143999999 = true) (hu : ¬ a.f3 ≤ t) : canC L n t = 0 ∧ canL L n t = L.take k ++ (canF n t a ++ L.drop (k + 1)) := by
  have e0 : (L[k]).f0 = n := by rw [ha]; exact e0
  have e : canC L n t = 0 := by unfold canC; rw [if_neg (by simp [h]), if_neg (by simp [canH_at h hk e0]), if_neg (by simp [ht]), can_at h hk e0, getD_at hk, ha, if_neg hu]
  exact ⟨e, by unfold canL; rw [if_pos e, can_at h hk e0, getD_at hk, ha]⟩
theorem canF_all {n t : Int} : ∀ (M : List RWarning), (∀ a ∈ M, ¬ a.f0 = n) → M.flatMap (canF n t) = M
  | [], _ => rfl
  | a :: M, h => by
    rw [List.flatMap_cons, canF_all M fun b hb => h b (by simp [hb])]
    unfold canF
    rw [if_neg (h a (by simp))]; rfl
/-- What the reference gathers is the list. -/
theorem can_gather {L : List RWarning} {n t : Int} (h : canC L n t = 0) : L.flatMap (canF n t) = canL L n t := by
  obtain ⟨hv, hi, h0⟩ := canC_hit h
  obtain ⟨k, hk⟩ : ∃ k, canI n L = k := ⟨_, rfl⟩
  unfold canL
  rw [if_pos h]
  rw [hk] at hi h0 ⊢
  rw [getD_at hi] at h0 ⊢
  conv => lhs; rw [← List.take_append_drop k L, List.drop_eq_getElem_cons hi]
  rw [List.flatMap_append, List.flatMap_cons]
  have hne : ∀ (j : Nat) (hj : j < L.length), j ≠ k → ¬ (L[j]).f0 = n := fun j hj hjk e => hjk ((can_at hv hj e).symm.trans hk)
  rw [canF_all (L.take k), canF_all (L.drop (k + 1))]
  · intro a ha
    obtain ⟨j, hj, rfl⟩ := List.mem_iff_getElem.1 ha
    rw [List.getElem_drop]
    rw [List.length_drop] at hj
    exact hne _ (by omega) (by omega)
  · intro a ha
    obtain ⟨j, hj, rfl⟩ := List.mem_iff_getElem.1 ha
    rw [List.getElem_take]
    rw [List.length_take] at hj
    exact hne _ (by omega) (by omega)
/-- What ending a warning leaves. -/
def CanPost (c : Int) (M : List RWarning) (w : World) (e : Ending) (w' : World) : Prop := ∃ v, e = .returned (.tuple #[v, .int .i64 c]) ∧ Below w.heap.size w w' ∧ Rs w' w.heap.size 113 8 v M.length (flat RWarning.cells M)
theorem CanPost.nil {c : Int} {M : List RWarning} {d : Int} {w w' : World} (h : c = d ∧ M = []) (hb : Below w.heap.size w w') : CanPost c M w (.returned (.tuple #[.slice none 0 0, .int .i64 d])) w' :=
  ⟨_, by rw [h.1], hb, by rw [h.2]; exact Rs.nil _ _ _ _⟩
set_option maxHeartbeats 1600000 in
theorem toWarningS_own (L : List RWarning) (A : Option Addr) (c B : Nat) (w : World) (hs : Sl w B A (flat RWarning.cells L)) (hB : B ≤ w.heap.size) (hl : L.length ≤ 1048576) : Calls Try.prog 13 #[.slice A L.length c] w fun e w' => e = .returned (.slice (some ⟨w.heap.size, 0, none⟩) L.length L.length) ∧ Below w.heap.size w w' ∧ Own w' w.heap.size 113 (L.length * 8) (flat RWarning.cells L) := by
  have hmk : ∀ w : World, (Instr.makeSlice 24 (.int .i64 L.length) (.int .i64 L.length)).run Try.prog w = .ok (.slice (some ⟨w.heap.size, 0, none⟩) L.length L.length) (w.alloc (.cells (madeCells #[.int .i64 0, .int .i64 0, .int .i64 0, .int .i64 0, .int .i64 0, .int .i64 0, .int .i64 0, .string ⟨#[]⟩] (L.length * 8)) 113)) := fun w => made_row (by_ := 72) w Try.underlying24 (by kernel_rfl) (by kernel_rfl) L.length (by omega) (by omega)
  have hs' := Lib.hid hs
  clear hs
  go_enter Try.func13, Try.ntmps13
  go_wp2
  have hO : Own (w.alloc (.cells (madeCells #[.int .i64 0, .int .i64 0, .int .i64 0, .int .i64 0, .int .i64 0, .int .i64 0, .int .i64 0, .string ⟨#[]⟩] (L.length * 8)) 113)) w.heap.size 113 (L.length * 8) (flat RWarning.cells (L.take 0)) := own_made w _ _ _ _
  have hB0 : Below w.heap.size w (w.alloc (.cells (madeCells #[.int .i64 0, .int .i64 0, .int .i64 0, .int .i64 0, .int .i64 0, .int .i64 0, .int .i64 0, .string ⟨#[]⟩] (L.length * 8)) 113)) := by go_grown
  clear hmk
  go_loopw [4] (fun i wr => ∃ k : Nat, i = .int .i64 k ∧ k ≤ L.length ∧ Below w.heap.size w wr ∧ Own wr w.heap.size 113 (L.length * 8) (flat RWarning.cells (L.take k))) (fun i _ => L.length - (intOf i).toNat)
  case atStart => exact ⟨0, rfl, Nat.zero_le _, hB0, hO⟩
  case round =>
    clear hB0 hO
    obtain ⟨k, rfl, hk, hB1, hO⟩ := hrel
    by_cases hlt : k < L.length
    · obtain ⟨b, o, rfl, hb, he⟩ := Sl.elem RWarning.len (by decide) (hs'.out.below (hB1.mono hB)) hlt
      have d0 : wr.cell? ⟨b, o + k * 8, none⟩ = some (.int .i64 L[k].f0) := by have := he 0 _ rfl; simpa [Nat.add_assoc] using this
      have d1 : wr.cell? ⟨b, o + k * 8 + 1, none⟩ = some (.int .i64 L[k].f1) := by have := he 1 _ rfl; simpa [Nat.add_assoc] using this
      have d2 : wr.cell? ⟨b, o + k * 8 + 2, none⟩ = some (.int .i64 L[k].f2) := by have := he 2 _ rfl; simpa [Nat.add_assoc] using this
      have d3 : wr.cell? ⟨b, o + k * 8 + 3, none⟩ = some (.int .i64 L[k].f3) := by have := he 3 _ rfl; simpa [Nat.add_assoc] using this
      have d4 : wr.cell? ⟨b, o + k * 8 + 4, none⟩ = some (.int .i64 L[k].f4) := by have := he 4 _ rfl; simpa [Nat.add_assoc] using this
      have d5 : wr.cell? ⟨b, o + k * 8 + 5, none⟩ = some (.int .i64 L[k].f5) := by have := he 5 _ rfl; simpa [Nat.add_assoc] using this
      have d6 : wr.cell? ⟨b, o + k * 8 + 6, none⟩ = some (.int .i64 L[k].f6) := by have := he 6 _ rfl; simpa [Nat.add_assoc] using this
      have d7 : wr.cell? ⟨b, o + k * 8 + 7, none⟩ = some (.string L[k].f7) := by have := he 7 _ rfl; simpa [Nat.add_assoc] using this
      have hkn : k * 8 + 8 ≤ L.length * 8 := by have := Nat.mul_le_mul_right 8 (show k + 1 ≤ L.length by omega); omega
      have hlen : (flat RWarning.cells (L.take k)).length = k * 8 := by rw [flat_len RWarning.len, List.length_take, Nat.min_eq_left hk]
      have hstep : flat RWarning.cells (L.take (k + 1)) = flat RWarning.cells (L.take k) ++ [.int .i64 L[k].f0] ++ [.int .i64 L[k].f1] ++ [.int .i64 L[k].f2] ++ [.int .i64 L[k].f3] ++ [.int .i64 L[k].f4] ++ [.int .i64 L[k].f5] ++ [.int .i64 L[k].f6] ++ [.string L[k].f7] := by rw [List.take_succ_eq_append_getElem hlt, flat_snoc]; simp [RWarning.cells]
      have hstep := Lib.hid hstep
      clear he
      go_wp2_with (go_at_call 74; refine (toWarning_any _ _ _ _ _ _ _ _ _).mono ?_; rintro e w1 ⟨rfl, hb1⟩; (have hO1 := hO.on hb1); obtain ⟨y0, x0⟩ := hO1.cell (i := k * 8) (by omega); have v0 := hO1.frozen (k * 8); obtain ⟨y1, x1⟩ := hO1.cell (i := k * 8 + 1) (by omega); have v1 := hO1.frozen (k * 8 + 1); obtain ⟨y2, x2⟩ := hO1.cell (i := k * 8 + 2) (by omega); have v2 := hO1.frozen (k * 8 + 2); obtain ⟨y3, x3⟩ := hO1.cell (i := k * 8 + 3) (by omega); have v3 := hO1.frozen (k * 8 + 3); obtain ⟨y4, x4⟩ := hO1.cell (i := k * 8 + 4) (by omega); have v4 := hO1.frozen (k * 8 + 4); obtain ⟨y5, x5⟩ := hO1.cell (i := k * 8 + 5) (by omega); have v5 := hO1.frozen (k * 8 + 5); obtain ⟨y6, x6⟩ := hO1.cell (i := k * 8 + 6) (by omega); have v6 := hO1.frozen (k * 8 + 6); obtain ⟨y7, x7⟩ := hO1.cell (i := k * 8 + 7) (by omega); have v7 := hO1.frozen (k * 8 + 7))
      go_roundw
      case rel => exact ⟨k + 1, by go_num, by omega, by have := bnext hB1 hb1; go_grown, by rw [hstep.out]; exact (Own.set (Own.set (Own.set (Own.set (Own.set (Own.set (Own.set (Own.set hO1 (by simp [hlen]) (by omega) _) (by simp [hlen]) (by omega) _) (by simp [hlen]) (by omega) _) (by simp [hlen]) (by omega) _) (by simp [hlen]) (by omega) _) (by simp [hlen]) (by omega) _) (by simp [hlen]) (by omega) _) (by simp [hlen]) (by omega) _)⟩
      case measure => simp [intOf]; omega
    · obtain rfl : k = L.length := by omega
      have hO2 : Own wr w.heap.size 113 (L.length * 8) (flat RWarning.cells L) := by rw [List.take_length] at hO; exact hO
      go_wp2
      go_ret
      exact ⟨rfl, hB1, hO2⟩
def ssWarning (j : Nat) : Bool := decide (j % 8 = 7)
set_option maxHeartbeats 1600000 in
theorem markWarningS_any (B e : Nat) (v : Value) (n : Nat) (xs : List Value) (k0 : Nat) (w : World) (h : Rs w B e 8 v n xs) (hn : n ≤ 1048576) (h0 : 1 ≤ k0) (h1 : k0 ≤ 100000000) : Calls Try.prog 16 #[v, .int .i64 k0] w fun e' w' => e' = .returned (.int .i64 ((k0 : Int) + (n : Int) * 8)) ∧ w.grownBy w' v.ownBlock ∧ Rs w' B e 8 v n (marks ssWarning k0 (n * 8)) := by
  obtain ⟨hl, ⟨rfl, rfl⟩ | ⟨g, c, N, rfl, hB, hO⟩⟩ := h
  · go_enter Try.func16, Try.ntmps16
    go_wp2
    go_loopw [1, 5] (fun s i wr => s = .int .i64 k0 ∧ i = .int .i64 0 ∧ w = wr) (fun _ _ _ => 0)
    case atStart => exact ⟨rfl, rfl, rfl⟩
    case round =>
      obtain ⟨rfl, rfl, rfl⟩ := hrel
      go_wp2
      go_ret
      exact ⟨by simp, World.grownBy.refl _ _, by simpa [marks] using Rs.nil _ _ _ _⟩
  · have hN : n * 8 ≤ N := by obtain ⟨_, _, _, hxN, _⟩ := id hO; omega
    have hM0 : Own w g e N (marks ssWarning k0 (0 * 8)) := by simpa [marks] using hO.start
    clear hO
    go_enter Try.func16, Try.ntmps16
    go_wp2
    go_loopw [1, 5] (fun s i wr => ∃ k : Nat, s = .int .i64 ((k0 : Int) + (k : Int) * 8) ∧ i = .int .i64 k ∧ k ≤ n ∧ w.grownBy wr (some g) ∧ Own wr g e N (marks ssWarning k0 (k * 8))) (fun _ i _ => n - (intOf i).toNat)
    case atStart => exact ⟨0, by simp, rfl, Nat.zero_le _, World.grownBy.refl _ _, by simpa using hM0⟩
    case round =>
      clear hM0
      obtain ⟨k, rfl, rfl, hk, hg0, hM⟩ := hrel
      by_cases hlt : k < n
      · have hkN : k * 8 + 8 ≤ N := by omega
        obtain ⟨u0, x0⟩ := hM.cell (i := k * 8) (by omega)
        have y0 := hM.frozen (k * 8)
        replace hM := Own.mark hM (by omega) (i := k * 8) rfl (u := .int .i64 ((k0 : Int) + (k : Int) * 8)) (mv_int (by unfold ssWarning; exact decide_eq_false (by omega)) (by omega))
        obtain ⟨u1, x1⟩ := hM.cell (i := k * 8 + 1) (by omega)
        have y1 := hM.frozen (k * 8 + 1)
        replace hM := Own.mark hM (by omega) (i := k * 8 + 1) rfl (u := .int .i64 ((k0 : Int) + (k : Int) * 8 + 1)) (mv_int (by unfold ssWarning; exact decide_eq_false (by omega)) (by omega))
        obtain ⟨u2, x2⟩ := hM.cell (i := k * 8 + 2) (by omega)
        have y2 := hM.frozen (k * 8 + 2)
        replace hM := Own.mark hM (by omega) (i := k * 8 + 2) rfl (u := .int .i64 ((k0 : Int) + (k : Int) * 8 + 1 + 1)) (mv_int (by unfold ssWarning; exact decide_eq_false (by omega)) (by omega))
        obtain ⟨u3, x3⟩ := hM.cell (i := k * 8 + 3) (by omega)
        have y3 := hM.frozen (k * 8 + 3)
        replace hM := Own.mark hM (by omega) (i := k * 8 + 3) rfl (u := .int .i64 ((k0 : Int) + (k : Int) * 8 + 1 + 1 + 1)) (mv_int (by unfold ssWarning; exact decide_eq_false (by omega)) (by omega))
        obtain ⟨u4, x4⟩ := hM.cell (i := k * 8 + 4) (by omega)
        have y4 := hM.frozen (k * 8 + 4)
        replace hM := Own.mark hM (by omega) (i := k * 8 + 4) rfl (u := .int .i64 ((k0 : Int) + (k : Int) * 8 + 1 + 1 + 1 + 1)) (mv_int (by unfold ssWarning; exact decide_eq_false (by omega)) (by omega))
        obtain ⟨u5, x5⟩ := hM.cell (i := k * 8 + 5) (by omega)
        have y5 := hM.frozen (k * 8 + 5)
        replace hM := Own.mark hM (by omega) (i := k * 8 + 5) rfl (u := .int .i64 ((k0 : Int) + (k : Int) * 8 + 1 + 1 + 1 + 1 + 1)) (mv_int (by unfold ssWarning; exact decide_eq_false (by omega)) (by omega))
        obtain ⟨u6, x6⟩ := hM.cell (i := k * 8 + 6) (by omega)
        have y6 := hM.frozen (k * 8 + 6)
        replace hM := Own.mark hM (by omega) (i := k * 8 + 6) rfl (u := .int .i64 ((k0 : Int) + (k : Int) * 8 + 1 + 1 + 1 + 1 + 1 + 1)) (mv_int (by unfold ssWarning; exact decide_eq_false (by omega)) (by omega))
        go_wp2_with fail
        refine (markText_is (k0 + (k * 8 + 7)) _ (by omega) (by omega) (by omega) _).mono ?_
        rintro e1 w7 ⟨rfl, hb7⟩
        replace hM := hM.on hb7
        have hg8 := Go.Lib.grownBy_below (Go.Lib.grownBy_setB (Go.Lib.grownBy_setB (Go.Lib.grownBy_setB (Go.Lib.grownBy_setB (Go.Lib.grownBy_setB (Go.Lib.grownBy_setB (Go.Lib.grownBy_setB hg0 _ _) _ _) _ _) _ _) _ _) _ _) _ _) hb7
        clear hb7
        obtain ⟨u7, x7⟩ := hM.cell (i := k * 8 + 7) (by omega)
        have y7 := hM.frozen (k * 8 + 7)
        replace hM := Own.mark hM (by omega) (i := k * 8 + 7) rfl (u := .string (mkT ((k0 : Int) + (k : Int) * 8 + 1 + 1 + 1 + 1 + 1 + 1 + 1))) (mv_str (by unfold ssWarning; exact decide_eq_true (by omega)) (by omega))
        have hM8 := Lib.hid hM
        clear hM
        go_wp2
        go_roundw
        case rel => exact ⟨k + 1, congrArg (Value.int .i64) (by omega), by go_num, by omega, (Go.Lib.grownBy_setB hg8 _ _), by rw [show (k + 1) * 8 = k * 8 + 1 + 1 + 1 + 1 + 1 + 1 + 1 + 1 by omega]; exact hM8.out⟩
        case measure => simp [intOf]; omega
      · obtain rfl : k = n := by omega
        go_wp2
        go_ret
        exact ⟨rfl, hg0, by rw [marks_len], .inr ⟨g, c, N, rfl, hB, hM⟩⟩
set_option maxHeartbeats 1600000 in
theorem heldWarningS_any (B e : Nat) (v : Value) (n : Nat) (k0 : Nat) (w : World) (h : Rs w B e 8 v n (marks ssWarning k0 (n * 8))) (hn : n ≤ 1048576) (h0 : 1 ≤ k0) (h1 : k0 ≤ 100000000) : Calls Try.prog 17 #[v, .int .i64 k0] w fun e' w' => e' = .returned (.int .i64 ((k0 : Int) + (n : Int) * 8)) ∧ Below w.heap.size w w' := by
  obtain ⟨hl, ⟨rfl, rfl⟩ | ⟨g, c, N, rfl, hB, hO⟩⟩ := h
  · go_enter Try.func17, Try.ntmps17
    go_wp2
    go_loopw [1, 5] (fun s i wr => s = .int .i64 k0 ∧ i = .int .i64 0 ∧ w = wr) (fun _ _ _ => 0)
    case atStart => exact ⟨rfl, rfl, rfl⟩
    case round =>
      obtain ⟨rfl, rfl, rfl⟩ := hrel
      go_wp2
      go_ret
      exact ⟨by simp, Below.refl _ _⟩
  · go_enter Try.func17, Try.ntmps17
    go_wp2
    go_loopw [1, 5] (fun s i wr => ∃ k : Nat, s = .int .i64 ((k0 : Int) + (k : Int) * 8) ∧ i = .int .i64 k ∧ k ≤ n ∧ Below w.heap.size w wr) (fun _ i _ => n - (intOf i).toNat)
    case atStart => exact ⟨0, by simp, rfl, Nat.zero_le _, Below.refl _ _⟩
    case round =>
      obtain ⟨k, rfl, rfl, hk, hB1⟩ := hrel
      have hM := hO.on hB1
      have hgl := hM.lt
      by_cases hlt : k < n
      · have hkN : k * 8 + 8 ≤ n * 8 := by omega
        have d0 : wr.cell? ⟨g, k * 8, none⟩ = some (.int .i64 ((k0 : Int) + (k : Int) * 8)) := by rw [hM.get (marks_get (by omega))]; exact congrArg some (mv_int (by unfold ssWarning; exact decide_eq_false (by omega)) (by omega))
        have d1 : wr.cell? ⟨g, k * 8 + 1, none⟩ = some (.int .i64 ((k0 : Int) + (k : Int) * 8 + 1)) := by rw [hM.get (marks_get (by omega))]; exact congrArg some (mv_int (by unfold ssWarning; exact decide_eq_false (by omega)) (by omega))
        have d2 : wr.cell? ⟨g, k * 8 + 2, none⟩ = some (.int .i64 ((k0 : Int) + (k : Int) * 8 + 1 + 1)) := by rw [hM.get (marks_get (by omega))]; exact congrArg some (mv_int (by unfold ssWarning; exact decide_eq_false (by omega)) (by omega))
        have d3 : wr.cell? ⟨g, k * 8 + 3, none⟩ = some (.int .i64 ((k0 : Int) + (k : Int) * 8 + 1 + 1 + 1)) := by rw [hM.get (marks_get (by omega))]; exact congrArg some (mv_int (by unfold ssWarning; exact decide_eq_false (by omega)) (by omega))
        have d4 : wr.cell? ⟨g, k * 8 + 4, none⟩ = some (.int .i64 ((k0 : Int) + (k : Int) * 8 + 1 + 1 + 1 + 1)) := by rw [hM.get (marks_get (by omega))]; exact congrArg some (mv_int (by unfold ssWarning; exact decide_eq_false (by omega)) (by omega))
        have d5 : wr.cell? ⟨g, k * 8 + 5, none⟩ = some (.int .i64 ((k0 : Int) + (k : Int) * 8 + 1 + 1 + 1 + 1 + 1)) := by rw [hM.get (marks_get (by omega))]; exact congrArg some (mv_int (by unfold ssWarning; exact decide_eq_false (by omega)) (by omega))
        have d6 : wr.cell? ⟨g, k * 8 + 6, none⟩ = some (.int .i64 ((k0 : Int) + (k : Int) * 8 + 1 + 1 + 1 + 1 + 1 + 1)) := by rw [hM.get (marks_get (by omega))]; exact congrArg some (mv_int (by unfold ssWarning; exact decide_eq_false (by omega)) (by omega))
        have d7 : wr.cell? ⟨g, k * 8 + 7, none⟩ = some (.string (mkT ((k0 : Int) + (k : Int) * 8 + 1 + 1 + 1 + 1 + 1 + 1 + 1))) := by rw [hM.get (marks_get (by omega))]; exact congrArg some (mv_str (by unfold ssWarning; exact decide_eq_true (by omega)) (by omega))
        go_wp2_with fail
        refine wp_region_grew (by kernel_rfl) (by kernel_rfl) ?_
        repeat (first | (go_big_quiet_step ((go_at_call 81; exact grew_of (markText_is (k0 + (k * 8 + 7)) _ (by omega) (by omega) (by omega) _)))) | (quiet_step ((go_at_call 81; exact grew_of (markText_is (k0 + (k * 8 + 7)) _ (by omega) (by omega) (by omega) _)))))
        refine wpQuiet_nil ?_
        rintro w9 ⟨⟨w8, hb9⟩, rfl⟩
        try dsimp only
        have hM9 := hM.on hb9
        go_wp2
        go_roundw
        case rel => exact ⟨k + 1, congrArg (Value.int .i64) (by omega), by go_num, by omega, bnext hB1 hb9⟩
        case measure => simp [intOf]; omega
      · obtain rfl : k = n := by omega
        go_wp2
        go_ret
        exact ⟨rfl, hB1⟩
end Go.Proofs.Ytlolkngklfabfaa
