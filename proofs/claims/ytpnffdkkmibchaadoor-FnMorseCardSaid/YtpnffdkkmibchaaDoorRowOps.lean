/-
  Rows of records that a call owns: a cell written over, many written over, elements cleared and copied. Under the conditions that each states.
-/
import Derived.Test.YtpnffdkkmibchaaDoorMark
import Derived.Laws.IdiomCopy
set_option linter.unusedVariables false
set_option linter.unnecessarySimpa false
set_option maxRecDepth 100000
set_option linter.unusedSimpArgs false
namespace Go.Proofs.YtpnffdkkmibchaaDoor
open Go.RowKit BigFrame Go.Deep

theorem Own.upd {w : World} {g : Nat} {t : TypeId} {N : Nat} {xs : List Value} (h : Own w g t N xs) {i : Nat} (hi : i < xs.length) (u : Value) : Own (w.setCell ⟨g, i, none⟩ u) g t N (xs.set i u) := by
  obtain ⟨cur, hh, hs, hl, hc⟩ := h
  refine ⟨cur.setIfInBounds i u, by simp [World.setCell, Array.getElem?_modify, hh], by simp [hs], by simp; omega, fun j v hv => ?_⟩
  by_cases e : i = j
  · subst e
    rw [List.getElem?_set_self hi] at hv
    rw [Array.getElem?_setIfInBounds_self_of_lt (by omega)]
    exact hv
  · rw [List.getElem?_set_ne e] at hv
    rw [Array.getElem?_setIfInBounds_ne e]
    exact hc j v hv
theorem set_take {xs : List Value} {a : Nat} (ha : a < xs.length) (v : Value) : (xs.set a v).take (a + 1) = xs.take a ++ [v] := by
  rw [List.set_eq_take_append_cons_drop, if_pos ha, List.take_append, List.take_of_length_le (by rw [List.length_take]; omega), List.length_take, Nat.min_eq_left (by omega), Nat.add_sub_cancel_left]
  simp
theorem set_drop {xs : List Value} {a b : Nat} (ha : a < b) (v : Value) : (xs.set a v).drop b = xs.drop b := by
  apply List.ext_getElem?
  intro k
  rw [List.getElem?_drop, List.getElem?_drop, List.getElem?_set_ne (by omega)]
theorem Own.upds {g : Nat} {t : TypeId} {N : Nat} : ∀ (news : List Value) {w : World} {xs : List Value} (a : Nat), Own w g t N xs → a + news.length ≤ xs.length → Own (w.setCells g a news) g t N (xs.take a ++ news ++ xs.drop (a + news.length))
  | [], w, xs, a, h, _ => by
    have e : xs.take a ++ [] ++ xs.drop (a + ([] : List Value).length) = xs := by simp
    rw [e]; exact h
  | v :: r, w, xs, a, h, hl => by
    rw [List.length_cons] at hl
    have ih := Own.upds r (a + 1) (h.upd (show a < xs.length by omega) v) (by rw [List.length_set]; omega)
    rw [set_take (by omega), set_drop (by omega)] at ih
    have e : a + 1 + r.length = a + (v :: r).length := by rw [List.length_cons]; omega
    rw [e] at ih
    have e2 : xs.take a ++ [v] ++ r = xs.take a ++ v :: r := by simp
    rw [e2] at ih
    exact ih
theorem grown_cells {a : World} {g : Nat} : ∀ (news : List Value) {w : World} (o : Nat), a.grownBy w (some g) → a.grownBy (w.setCells g o news) (some g)
  | [], w, o, h => h
  | v :: r, w, o, h => grown_cells r (o + 1) (Go.Lib.grownBy_setB h o v)
theorem grown_drew {a w : World} {row : Option Nat} (h : a.grownBy w row) : a.grownBy w.drew row := ⟨h.os, h.tape, h.output, h.size, fun k hk hr => h.block k hk hr⟩
theorem Own.drew {w : World} {g : Nat} {t : TypeId} {N : Nat} {xs : List Value} (h : Own w g t N xs) : Own w.drew g t N xs := h
theorem Own.some {w : World} {g : Nat} {t : TypeId} {N : Nat} {xs : List Value} (h : Own w g t N xs) {i : Nat} (hi : i < N) : (w.cell? ⟨g, i, none⟩).isSome = true := by
  obtain ⟨v, hv⟩ := h.cell hi
  rw [hv]; rfl
theorem Own.cut {w : World} {g : Nat} {t : TypeId} {N : Nat} {xs ys : List Value} (h : Own w g t N (xs ++ ys)) : Own w g t N xs := by
  obtain ⟨cur, hh, hs, hl, hc⟩ := h
  rw [List.length_append] at hl
  exact ⟨cur, hh, hs, by omega, fun j u hu => hc j u (by rw [List.getElem?_append_left (List.getElem?_eq_some_iff.1 hu).1]; exact hu)⟩
/-- clear, at elements of several cells. -/
theorem run_clear_rows {P : Program} (w : World) (t e ty : TypeId) (z : Value) (zs : List Value) (ht : P.underlying t = some (.slice e)) (hv : ∀ w, (zeroValue e).run P w = .ok z w) (b o n c : Nat) (hn : 0 < n) (hz : (Builtin.zeroCells z.cells n).toList = zs) (h1 : ∀ u ∈ zs, u.oneCell' = true)
    (hc : ∀ j, j < zs.length → (w.cell? ⟨b, o + j, none⟩).isSome = true) (hf : ∀ j, j < zs.length → w.frozen? ⟨b, o + j, none⟩ = false) :
    (Builtin.clear_ #[t] ty #[.slice (some ⟨b, o, none⟩) n c]).run P w = .ok (.tuple #[]) (w.setCells b o zs) := by
  have hst := run_storeCells_cells (P := P) b o zs 0 w (by simpa using hc) (by simpa using hf) h1
  simp only [Nat.add_zero] at hst
  obtain ⟨m, rfl⟩ : ∃ m, n = m + 1 := ⟨n - 1, by omega⟩
  simp [Builtin.clear_, run_underlying ht, hv, hz, hst]
/-- copy, at elements of several cells. -/
theorem run_copy_rows {P : Program} (w : World) (dT sT ty elem : TypeId) (b o dLen dCap : Nat) (a : Addr) (sLen sCap n size : Nat) (cs : List Value)
    (hu : P.underlying dT = some (.slice elem)) (hs : (P.info? elem).map (·.size) = some size) (hm : Nat.min sLen dLen = n) (hn : cs.length = n * size)
    (hsrc : ∀ j v, cs[j]? = some v → w.cell? (a.add j) = some v) (hc : ∀ j, j < cs.length → (w.cell? ⟨b, o + j, none⟩).isSome = true) (hf : ∀ j, j < cs.length → w.frozen? ⟨b, o + j, none⟩ = false) (h1 : ∀ v ∈ cs, v.oneCell' = true) :
    (Builtin.copy_ #[dT, sT] ty #[.slice (some ⟨b, o, none⟩) dLen dCap, .slice (some a) sLen sCap]).run P w = .ok (goInt n) (w.setCells b o cs) := by
  have hl := run_loadCells_list (P := P) w a cs hsrc
  have hst := run_storeCells_cells (P := P) b o cs 0 w (by simpa using hc) (by simpa using hf) h1
  cases hq : P.info? elem with
  | none => simp [hq] at hs
  | some i =>
    have hi : i.size = size := by simpa [hq] using hs
    rw [hn] at hl
    simp [Builtin.copy_, run_underlying hu, Builtin.lenOf, Builtin.firstCells, sizeOf, typeInfo, hq, hi, hm, hl, hst]
theorem own_of_owns {w : World} {B n cap sz g : Nat} {e : TypeId} {xs : List Value} (h : w.ownsRow B e sz (.slice (some ⟨g, 0, none⟩) n cap) n xs) : Own w g e (cap * sz) xs := by
  obtain ⟨hl, h | ⟨g', cap', cur, e', hb, hh, hn, hm, hs, ht⟩⟩ := h
  · cases h.1
  · cases e'
    refine ⟨cur, hh, hs, ?_, fun j u hu => ?_⟩
    · rw [hl]; exact Nat.mul_le_mul_right _ hn
    · rw [← ht, List.getElem?_take] at hu
      split at hu
      · simpa using hu
      · cases hu
theorem Sl.cells {w : World} {B : Nat} {ad : Addr} {xs : List Value} (h : Sl w B (some ad) xs) : ∀ j u, xs[j]? = some u → w.cell? (ad.add j) = some u := by
  intro j u hu
  obtain ⟨b, o, e, hb, hc⟩ := h (by intro e; rw [e] at hu; simp at hu)
  cases e
  rw [Addr.add_lit]
  exact hc j u hu
theorem flat_take {α : Type} {f : α → List Value} {n : Nat} (hf : ∀ a, (f a).length = n) (L : List α) (k : Nat) {j : Nat} {u : Value} (h : (flat f (L.take k))[j]? = some u) : (flat f L)[j]? = some u := by
  rw [← List.take_append_drop k L, flat_append, List.getElem?_append_left]
  · exact h
  · exact (List.getElem?_eq_some_iff.1 h).1
theorem flat_drop {α : Type} {f : α → List Value} {n : Nat} (hf : ∀ a, (f a).length = n) (L : List α) {k : Nat} (hk : k ≤ L.length) {j : Nat} {u : Value} (h : (flat f (L.drop k))[j]? = some u) : (flat f L)[k * n + j]? = some u := by
  have e : (flat f (L.take k)).length = k * n := by rw [flat_len hf, List.length_take, Nat.min_eq_left hk]
  have e2 : flat f L = flat f (L.take k) ++ flat f (L.drop k) := by rw [← flat_append, List.take_append_drop]
  rw [e2, List.getElem?_append_right (by omega), e, Nat.add_sub_cancel_left]
  exact h
theorem flat_one {α : Type} {f : α → List Value} (h1 : ∀ a, ∀ u ∈ f a, u.oneCell' = true) (L : List α) : ∀ u ∈ flat f L, u.oneCell' = true := by
  intro u hu
  obtain ⟨a, _, ha⟩ := List.mem_flatMap.1 hu
  exact h1 a u ha
theorem flat_tk {α : Type} {f : α → List Value} {n : Nat} (hf : ∀ a, (f a).length = n) (L : List α) {k : Nat} (hk : k ≤ L.length) : (flat f L).take (k * n) = flat f (L.take k) := by
  have e : (flat f (L.take k)).length = k * n := by rw [flat_len hf, List.length_take, Nat.min_eq_left hk]
  conv => lhs; rw [← List.take_append_drop k L, flat_append, ← e, List.take_left]
theorem flat_dr {α : Type} {f : α → List Value} {n : Nat} (hf : ∀ a, (f a).length = n) (L : List α) {k : Nat} (hk : k ≤ L.length) : (flat f L).drop (k * n) = flat f (L.drop k) := by
  have e : (flat f (L.take k)).length = k * n := by rw [flat_len hf, List.length_take, Nat.min_eq_left hk]
  conv => lhs; rw [← List.take_append_drop k L, flat_append, ← e, List.drop_left]
theorem owns_onR {w w' : World} {B : Nat} {e : TypeId} {sz : Nat} {v : Value} {n : Nat} {xs : List Value} (h : w.ownsRow B e sz v n xs) (hb : Below w.heap.size w w') : w'.ownsRow B e sz v n xs := by
  refine World.ownsRow.kept (row := none) h ⟨hb.os, hb.tape, hb.output, hb.size, fun k hk _ => hb.block k hk⟩ ?_
  cases v.ownBlock
  · exact .inl rfl
  · exact .inr (by simp)
end Go.Proofs.YtpnffdkkmibchaaDoor
