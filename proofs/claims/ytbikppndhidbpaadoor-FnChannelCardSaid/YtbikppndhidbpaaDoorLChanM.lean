/-
  FnChannel: a channel is as long from its other end, has the same places there, they lie in it, and its text is read back. Under no condition; the library's variables read as their texts lay them (the card ties them).
-/
import Derived.Test.YtbikppndhidbpaaDoorMark
import Derived.Laws.IdiomCopy
import Derived.Test.YtbikppndhidbpaaDoorBtwP
import Derived.Test.YtbikppndhidbpaaDoorChan
import Derived.Test.YtbikppndhidbpaaDoorR8D
import Derived.Test.YtbikppndhidbpaaDoorR8
import Derived.Test.YtbikppndhidbpaaDoorAlong
import Derived.Test.YtbikppndhidbpaaDoorRdD
import Derived.Test.YtbikppndhidbpaaDoorListP
import Derived.Test.YtbikppndhidbpaaDoorTexts
import Derived.Test.YtbikppndhidbpaaDoorRdC
import Derived.Test.YtbikppndhidbpaaDoorRdCR
import Derived.Test.YtbikppndhidbpaaDoorEnv
/-
  Rows of records that a call owns: a cell written over, many written over, elements cleared and copied. Under the conditions that each states.
-/
set_option linter.unusedVariables false
set_option linter.unnecessarySimpa false
set_option maxRecDepth 100000
set_option linter.unusedSimpArgs false
namespace Go.Proofs.YtbikppndhidbpaaDoor
open Go.RowKit BigFrame Go.Deep

theorem Own.upd {w : World} {g : Nat} {t : TypeId} {N : Nat} {xs : List Value} (h : Own w g t N xs) {i : Nat} (hi : i < xs.length) (u : Value) : Own (w.setCell ⟨g, i, none⟩ u) g t N (xs.set i u) := by
  obtain ⟨cur, hh, hs, hl, hc⟩ := h
  refine ⟨cur.setIfInBounds i u, by simp [World.setCell, Array.getElem?_modify, hh], by simp [hs], by simp; omega, fun j v hv => ?_⟩
  by_cases e : i = j
  · subst e
    rw [List.getElem?_set_self hi] at hv
    rw [Array.getElem?_setIfInBounds_self_of_lt (by omega)]
    exact hv
  · rw [List.getElem?_set_ne e] at hv
    rw [Array.getElem?_setIfInBounds_ne e]
    exact hc j v hv
theorem set_take {xs : List Value} {a : Nat} (ha : a < xs.length) (v : Value) : (xs.set a v).take (a + 1) = xs.take a ++ [v] := by
  rw [List.set_eq_take_append_cons_drop, if_pos ha, List.take_append, List.take_of_length_le (by rw [List.length_take]; omega), List.length_take, Nat.min_eq_left (by omega), Nat.add_sub_cancel_left]
  simp
theorem set_drop {xs : List Value} {a b : Nat} (ha : a < b) (v : Value) : (xs.set a v).drop b = xs.drop b := by
  apply List.ext_getElem?
  intro k
  rw [List.getElem?_drop, List.getElem?_drop, List.getElem?_set_ne (by omega)]
theorem Own.upds {g : Nat} {t : TypeId} {N : Nat} : ∀ (news : List Value) {w : World} {xs : List Value} (a : Nat), Own w g t N xs → a + news.length ≤ xs.length → Own (w.setCells g a news) g t N (xs.take a ++ news ++ xs.drop (a + news.length))
  | [], w, xs, a, h, _ => by
    have e : xs.take a ++ [] ++ xs.drop (a + ([] : List Value).length) = xs := by simp
    rw [e]; exact h
  | v :: r, w, xs, a, h, hl => by
    rw [List.length_cons] at hl
    have ih := Own.upds r (a + 1) (h.upd (show a < xs.length by omega) v) (by rw [List.length_set]; omega)
    rw [set_take (by omega), set_drop (by omega)] at ih
    have e : a + 1 + r.length = a + (v :: r).length := by rw [List.length_cons]; omega
    rw [e] at ih
    have e2 : xs.take a ++ [v] ++ r = xs.take a ++ v :: r := by simp
    rw [e2] at ih
    exact ih
theorem grown_cells {a : World} {g : Nat} : ∀ (news : List Value) {w : World} (o : Nat), a.grownBy w (some g) → a.grownBy (w.setCells g o news) (some g)
  | [], w, o, h => h
  | v :: r, w, o, h => grown_cells r (o + 1) (Go.Lib.grownBy_setB h o v)
theorem grown_drew {a w : World} {row : Option Nat} (h : a.grownBy w row) : a.grownBy w.drew row := ⟨h.os, h.tape, h.output, h.size, fun k hk hr => h.block k hk hr⟩
theorem Own.drew {w : World} {g : Nat} {t : TypeId} {N : Nat} {xs : List Value} (h : Own w g t N xs) : Own w.drew g t N xs := h
theorem Own.some {w : World} {g : Nat} {t : TypeId} {N : Nat} {xs : List Value} (h : Own w g t N xs) {i : Nat} (hi : i < N) : (w.cell? ⟨g, i, none⟩).isSome = true := by
  obtain ⟨v, hv⟩ := h.cell hi
  rw [hv]; rfl
theorem Own.cut {w : World} {g : Nat} {t : TypeId} {N : Nat} {xs ys : List Value} (h : Own w g t N (xs ++ ys)) : Own w g t N xs := by
  obtain ⟨cur, hh, hs, hl, hc⟩ := h
  rw [List.length_append] at hl
  exact ⟨cur, hh, hs, by omega, fun j u hu => hc j u (by rw [List.getElem?_append_left (List.getElem?_eq_some_iff.1 hu).1]; exact hu)⟩
/-- clear, at elements of several cells. -/
theorem run_clear_rows {P : Program} (w : World) (t e ty : TypeId) (z : Value) (zs : List Value) (ht : P.underlying t = some (.slice e)) (hv : ∀ w, (zeroValue e).run P w = .ok z w) (b o n c : Nat) (hn : 0 < n) (hz : (Builtin.zeroCells z.cells n).toList = zs) (h1 : ∀ u ∈ zs, u.oneCell' = true)
    (hc : ∀ j, j < zs.length → (w.cell? ⟨b, o + j, none⟩).isSome = true) (hf : ∀ j, j < zs.length → w.frozen? ⟨b, o + j, none⟩ = false) :
    (Builtin.clear_ #[t] ty #[.slice (some ⟨b, o, none⟩) n c]).run P w = .ok (.tuple #[]) (w.setCells b o zs) := by
  have hst := run_storeCells_cells (P := P) b o zs 0 w (by simpa using hc) (by simpa using hf) h1
  simp only [Nat.add_zero] at hst
  obtain ⟨m, rfl⟩ : ∃ m, n = m + 1 := ⟨n - 1, by omega⟩
  simp [Builtin.clear_, run_underlying ht, hv, hz, hst]
/-- copy, at elements of several cells. -/
theorem run_copy_rows {P : Program} (w : World) (dT sT ty elem : TypeId) (b o dLen dCap : Nat) (a : Addr) (sLen sCap n size : Nat) (cs : List Value)
    (hu : P.underlying dT = some (.slice elem)) (hs : (P.info? elem).map (·.size) = some size) (hm : Nat.min sLen dLen = n) (hn : cs.length = n * size)
    (hsrc : ∀ j v, cs[j]? = some v → w.cell? (a.add j) = some v) (hc : ∀ j, j < cs.length → (w.cell? ⟨b, o + j, none⟩).isSome = true) (hf : ∀ j, j < cs.length → w.frozen? ⟨b, o + j, none⟩ = false) (h1 : ∀ v ∈ cs, v.oneCell' = true) :
    (Builtin.copy_ #[dT, sT] ty #[.slice (some ⟨b, o, none⟩) dLen dCap, .slice (some a) sLen sCap]).run P w = .ok (goInt n) (w.setCells b o cs) := by
  have hl := run_loadCells_list (P := P) w a cs hsrc
  have hst := run_storeCells_cells (P := P) b o cs 0 w (by simpa using hc) (by simpa using hf) h1
  cases hq : P.info? elem with
  | none => simp [hq] at hs
  | some i =>
    have hi : i.size = size := by simpa [hq] using hs
    rw [hn] at hl
    simp [Builtin.copy_, run_underlying hu, Builtin.lenOf, Builtin.firstCells, sizeOf, typeInfo, hq, hi, hm, hl, hst]
theorem own_of_owns {w : World} {B n cap sz g : Nat} {e : TypeId} {xs : List Value} (h : w.ownsRow B e sz (.slice (some ⟨g, 0, none⟩) n cap) n xs) : Own w g e (cap * sz) xs := by
  obtain ⟨hl, h | ⟨g', cap', cur, e', hb, hh, hn, hm, hs, ht⟩⟩ := h
  · cases h.1
  · cases e'
    refine ⟨cur, hh, hs, ?_, fun j u hu => ?_⟩
    · rw [hl]; exact Nat.mul_le_mul_right _ hn
    · rw [← ht, List.getElem?_take] at hu
      split at hu
      · simpa using hu
      · cases hu
theorem Sl.cells {w : World} {B : Nat} {ad : Addr} {xs : List Value} (h : Sl w B (some ad) xs) : ∀ j u, xs[j]? = some u → w.cell? (ad.add j) = some u := by
  intro j u hu
  obtain ⟨b, o, e, hb, hc⟩ := h (by intro e; rw [e] at hu; simp at hu)
  cases e
  rw [Addr.add_lit]
  exact hc j u hu
theorem flat_take {α : Type} {f : α → List Value} {n : Nat} (hf : ∀ a, (f a).length = n) (L : List α) (k : Nat) {j : Nat} {u : Value} (h : (flat f (L.take k))[j]? = some u) : (flat f L)[j]? = some u := by
  rw [← List.take_append_drop k L, flat_append, List.getElem?_append_left]
  · exact h
  · exact (List.getElem?_eq_some_iff.1 h).1
theorem flat_drop {α : Type} {f : α → List Value} {n : Nat} (hf : ∀ a, (f a).length = n) (L : List α) {k : Nat} (hk : k ≤ L.length) {j : Nat} {u : Value} (h : (flat f (L.drop k))[j]? = some u) : (flat f L)[k * n + j]? = some u := by
  have e : (flat f (L.take k)).length = k * n := by rw [flat_len hf, List.length_take, Nat.min_eq_left hk]
  have e2 : flat f L = flat f (L.take k) ++ flat f (L.drop k) := by rw [← flat_append, List.take_append_drop]
  rw [e2, List.getElem?_append_right (by omega), e, Nat.add_sub_cancel_left]
  exact h
theorem flat_one {α : Type} {f : α → List Value} (h1 : ∀ a, ∀ u ∈ f a, u.oneCell' = true) (L : List α) : ∀ u ∈ flat f L, u.oneCell' = true := by
  intro u hu
  obtain ⟨a, _, ha⟩ := List.mem_flatMap.1 hu
  exact h1 a u ha
theorem flat_tk {α : Type} {f : α → List Value} {n : Nat} (hf : ∀ a, (f a).length = n) (L : List α) {k : Nat} (hk : k ≤ L.length) : (flat f L).take (k * n) = flat f (L.take k) := by
  have e : (flat f (L.take k)).length = k * n := by rw [flat_len hf, List.length_take, Nat.min_eq_left hk]
  conv => lhs; rw [← List.take_append_drop k L, flat_append, ← e, List.take_left]
theorem flat_dr {α : Type} {f : α → List Value} {n : Nat} (hf : ∀ a, (f a).length = n) (L : List α) {k : Nat} (hk : k ≤ L.length) : (flat f L).drop (k * n) = flat f (L.drop k) := by
  have e : (flat f (L.take k)).length = k * n := by rw [flat_len hf, List.length_take, Nat.min_eq_left hk]
  conv => lhs; rw [← List.take_append_drop k L, flat_append, ← e, List.drop_left]
theorem owns_onR {w w' : World} {B : Nat} {e : TypeId} {sz : Nat} {v : Value} {n : Nat} {xs : List Value} (h : w.ownsRow B e sz v n xs) (hb : Below w.heap.size w w') : w'.ownsRow B e sz v n xs := by
  refine World.ownsRow.kept (row := none) h ⟨hb.os, hb.tape, hb.output, hb.size, fun k hk _ => hb.block k hk⟩ ?_
  cases v.ownBlock
  · exact .inl rfl
  · exact .inr (by simp)
end Go.Proofs.YtbikppndhidbpaaDoor

/-
  Plain laws of places of a channel, no program in sight: they lie in it. Each under the conditions that it states.
-/
set_option linter.unusedVariables false
set_option linter.unnecessarySimpa false
set_option maxRecDepth 100000
set_option linter.unusedSimpArgs false
namespace Go.Proofs.YtbikppndhidbpaaDoor
/-! ### Places of a channel lie in it -/
theorem near_le (P : List RPoint) (x y : Int) : ∀ (n k : Nat), k ≤ n → (nearTo P x y n).2 ≤ segM P x y k
  | 0, k, h => by
    obtain rfl : k = 0 := by omega
    exact Int.le_refl _
  | n + 1, k, h => by
    rw [nearTo]
    rcases (by omega : k = n + 1 ∨ k ≤ n) with rfl | h1
    · split
      · exact Int.le_refl _
      · rename_i h2; omega
    · have ih := near_le P x y n k h1
      split
      · simp only; omega
      · exact ih
theorem place_near {P : List RPoint} {d : Int} (h2 : 2 ≤ P.length) (hs : ∀ j, j < P.length - 1 → 1 ≤ segD P j) (h0 : 0 ≤ d) (hd : d ≤ lenM P) : (nearTo P (placeM P d).1 (placeM P d).2 (P.length - 2)).2 ≤ 0 := by
  have hf := fndM_spec h2 h0 hd
  have h := near_le P (placeM P d).1 (placeM P d).2 (P.length - 2) (fndM P d).1 (by omega)
  have hg : segM P (placeM P d).1 (placeM P d).2 (fndM P d).1 = 0 := by
    unfold segM placeM partM
    exact gap_btw (hs _ hf.1) hf.2.2.1 hf.2.2.2
  omega
theorem place_in {P : List RPoint} {d lo hi : Int} (h2 : 2 ≤ P.length) (hs : ∀ j, j < P.length - 1 → 1 ≤ segD P j) (hp : ∀ k, k < P.length → (lo ≤ (P.getD k default).f0 ∧ (P.getD k default).f0 ≤ hi) ∧ lo ≤ (P.getD k default).f1 ∧ (P.getD k default).f1 ≤ hi) (h0 : 0 ≤ d) (hd : d ≤ lenM P) : (lo ≤ (placeM P d).1 ∧ (placeM P d).1 ≤ hi) ∧ lo ≤ (placeM P d).2 ∧ (placeM P d).2 ≤ hi := by
  have hf := fndM_spec h2 h0 hd
  unfold placeM partM
  have a := hp (fndM P d).1 (by omega)
  have b := hp ((fndM P d).1 + 1) (by omega)
  exact btw_in (hs _ hf.1) hf.2.2.1 hf.2.2.2 a.1 a.2 b.1 b.2
end Go.Proofs.YtbikppndhidbpaaDoor

/-
  Contracts of a line of points turned about: the program's copy and the library's Reverse at points. Under the conditions that each states.
-/
set_option linter.unusedVariables false
set_option linter.unnecessarySimpa false
set_option maxRecDepth 100000
set_option linter.unusedSimpArgs false
namespace Go.Proofs.YtbikppndhidbpaaDoor
open Go.RowKit BigFrame Go.Deep

theorem RPoint.one (a : RPoint) : ∀ u ∈ a.cells, u.oneCell' = true := by
  intro u hu
  simp [RPoint.cells] at hu
  rcases hu with rfl | rfl <;> rfl
theorem set_pt : ∀ (M : List RPoint) (k : Nat) (b : RPoint), ((flat RPoint.cells M).set (k * 2) (.int .i64 b.f0)).set (k * 2 + 1) (.int .i64 b.f1) = flat RPoint.cells (M.set k b)
  | [], k, b => by simp [flat]
  | p :: M, 0, b => by simp [flat, RPoint.cells]
  | p :: M, k + 1, b => by
    have ih := set_pt M k b
    have e : (k + 1) * 2 = k * 2 + 1 + 1 := by omega
    have c : flat RPoint.cells (p :: M) = .int .i64 p.f0 :: .int .i64 p.f1 :: flat RPoint.cells M := rfl
    rw [c, e]
    simp only [List.set_cons_succ]
    rw [ih]
    rfl
/-- What lies there behind k steps. -/
def RevAt (L M : List RPoint) (k : Nat) : Prop := M.length = L.length ∧ ∀ t, t < L.length → M.getD t default = if t < k ∨ L.length ≤ t + k then L.getD (L.length - 1 - t) default else L.getD t default
theorem rev_zero (L : List RPoint) : RevAt L L 0 := ⟨rfl, fun t ht => by rw [if_neg (by omega)]⟩
theorem getD_setP (M : List RPoint) (i t : Nat) (b : RPoint) (hi : i < M.length) : (M.set i b).getD t default = if t = i then b else M.getD t default := by
  rw [List.getD_eq_getElem?_getD, List.getD_eq_getElem?_getD]
  split
  · rename_i h; subst h; rw [List.getElem?_set_self hi]; rfl
  · rename_i h; rw [List.getElem?_set_ne (fun e => h e.symm)]
theorem rev_next {L M : List RPoint} {k : Nat} (h : RevAt L M k) (hk : k + k + 1 < L.length) {a b : RPoint} (ha : M.getD k default = a) (hb : M.getD (L.length - 1 - k) default = b) : RevAt L ((M.set k b).set (L.length - 1 - k) a) (k + 1) := by
  obtain ⟨h1, h2⟩ := h
  refine ⟨by simp [h1], fun t ht => ?_⟩
  rw [getD_setP _ _ _ _ (by simp; omega), getD_setP _ _ _ _ (by omega)]
  by_cases e1 : t = L.length - 1 - k
  · subst e1
    rw [if_pos rfl, if_pos (by omega), ← ha, h2 k (by omega), if_neg (by omega)]
    congr 1; omega
  · rw [if_neg e1]
    by_cases e2 : t = k
    · subst e2
      rw [if_pos rfl, if_pos (by omega), ← hb, h2 _ (by omega), if_neg (by omega)]
    · rw [if_neg e2, h2 t ht]
      by_cases e3 : t < k ∨ L.length ≤ t + k
      · rw [if_pos e3, if_pos (by omega)]
      · rw [if_neg e3, if_neg (by omega)]
theorem rev_end {L M : List RPoint} {k : Nat} (h : RevAt L M k) (hk : L.length ≤ k + k + 1) : M = L.reverse := by
  obtain ⟨h1, h2⟩ := h
  apply List.ext_getElem
  · simp [h1]
  · intro t h3 h4
    have ht : t < L.length := by omega
    have e := h2 t ht
    have e1 : M.getD t default = M[t] := by rw [List.getD_eq_getElem?_getD, List.getElem?_eq_getElem h3]; rfl
    rw [List.getElem_reverse, ← e1, e]
    have e2 : ∀ q, (hq : q < L.length) → L.getD q default = L[q] := fun q hq => by rw [List.getD_eq_getElem?_getD, List.getElem?_eq_getElem hq]; rfl
    split
    · exact e2 _ (by omega)
    · rw [e2 t ht]
      congr 1; omega
theorem infoPtV : (Tryd.prog.info? 38).map (fun i => (i.zero, i.size, i.bytes)) = some (some (.agg #[.int .i64 0, .int .i64 0]), 2, 16) := by kernel_rfl
theorem clone_Point (L : List RPoint) (g o c B : Nat) (w : World) (hs : Sl w B (some ⟨g, o, none⟩) (flat RPoint.cells L)) (hB : B ≤ w.heap.size) (hl : L.length ≤ 1048576) :
    Calls Tryd.prog 93 #[.slice (some ⟨g, o, none⟩) L.length c] w fun e w' => e = .returned (.slice (some ⟨w.heap.size, 0, none⟩) L.length L.length) ∧ Below w.heap.size w w' ∧ Own w' w.heap.size 38 (L.length * 2) (flat RPoint.cells L) := by
  obtain ⟨i0, hi, ie0, ie1, ie2⟩ := info_parts infoPtV
  have hmk : ∀ w : World, (Instr.makeSlice 48 (.int .i64 0) (.int .i64 L.length)).run Tryd.prog w = .ok (.slice (some ⟨w.heap.size, 0, none⟩) 0 L.length) (w.alloc (.cells (madeCells #[.int .i64 0, .int .i64 0] (L.length * 2)) 38)) := fun w => by
    have := run_make w 48 38 i0 _ Tryd.underlying48 hi ie0 .i64 .i64 0 L.length (by omega) (by omega) (by rw [ie2]; omega) (by omega)
    have ec : (Value.agg #[.int .i64 0, .int .i64 0]).cells = #[.int .i64 0, .int .i64 0] := rfl
    rw [ie1, ec] at this
    simpa using this
  have hO : (w.alloc (.cells (madeCells #[.int .i64 0, .int .i64 0] (L.length * 2)) 38)).ownsRow w.heap.size 38 2 (.slice (some ⟨w.heap.size, 0, none⟩) 0 L.length) 0 [] := World.ownsRow_made w _ L.length (Nat.le_refl _) (by unfold maxLen; omega) (by rw [size_madeCells])
  have hc : ∀ j u, (flat RPoint.cells L)[j]? = some u → (w.alloc (.cells (madeCells #[.int .i64 0, .int .i64 0] (L.length * 2)) 38)).cell? ((⟨g, o, none⟩ : Addr).add j) = some u := Sl.cells (hs.below ((Below.refl B w).alloc hB _))
  have hc' := Lib.hid hc
  have hO' := Lib.hid hO
  have hn : (flat RPoint.cells L).length = L.length * 2 := flat_len RPoint.len L
  have hB0 : Below w.heap.size w (w.alloc (.cells (madeCells #[.int .i64 0, .int .i64 0] (L.length * 2)) 38)) := by go_grown
  clear hc hO hs
  obtain ⟨X, hX⟩ : ∃ X, flat RPoint.cells L = X := ⟨_, rfl⟩
  have h1 := Lib.hid (flat_one RPoint.one L)
  rw [hX] at hc' hn h1 ⊢
  go_enter Tryd.func93, Tryd.ntmps93
  go_wp2_with (at_builtin; refine wpList_append_fits _ rfl _ _ 48 rfl w.heap.size 38 i0 2 Tryd.underlying48 hi ie1 w.heap.size 0 L.length [] rfl hO'.out ⟨g, o, none⟩ L.length c X rfl hn hc'.out h1.out (by omega) ?_)
  intro w1 hown hgr
  have hBn := hB0.grown hgr (by simp) (fun k e => by cases e; exact Nat.le_refl _)
  try rw [Nat.zero_add] at hown
  try rw [List.nil_append] at hown
  have hOw := own_of_owns hown
  clear hown hgr
  go_wp2
  go_ret
  exact ⟨by simp, hBn, hOw⟩
set_option maxHeartbeats 1600000 in
theorem rev_Point (L : List RPoint) (g c N : Nat) (w : World) (hO : Own w g 38 N (flat RPoint.cells L)) (hl : L.length ≤ 1048576) (hN : L.length * 2 ≤ N) :
    Calls Tryd.prog 94 #[.slice (some ⟨g, 0, none⟩) L.length c] w fun e w' => e = .returned (.tuple #[]) ∧ w.grownBy w' (some g) ∧ Own w' g 38 N (flat RPoint.cells L.reverse) := by
  have hO' := Lib.hid hO
  clear hO
  go_enter Tryd.func94, Tryd.ntmps94
  go_wp2
  go_loopw [2, 3] (fun i j wr => ∃ (k : Nat) (M : List RPoint), i = .int .i64 k ∧ j = .int .i64 ((L.length : Int) - 1 - k) ∧ k ≤ L.length ∧ Hid (RevAt L M k) ∧ Hid (w.grownBy wr (some g)) ∧ Hid (Own wr g 38 N (flat RPoint.cells M))) (fun i j _ => L.length - (intOf i).toNat)
  case atStart => exact ⟨0, L, rfl, by go_num, Nat.zero_le _, Lib.hid (rev_zero L), Lib.hid (World.grownBy.refl _ _), hO'⟩
  case round =>
    obtain ⟨k, M, rfl, rfl, hk, hR, hG, hO⟩ := hrel
    by_cases hlt : k + k + 1 < L.length
    · have hML := hR.out.1
      have hjn : ((L.length : Int) - 1 - k) = ((L.length - 1 - k : Nat) : Int) := by omega
      obtain ⟨j, hj⟩ : ∃ j, L.length - 1 - k = j := ⟨_, rfl⟩
      rw [hj] at hjn
      rw [hjn]
      have hkj : k < j := by omega
      have hjl : j < L.length := by omega
      obtain ⟨a, ha⟩ : ∃ a, M.getD k default = a := ⟨_, rfl⟩
      obtain ⟨b, hb⟩ : ∃ b, M.getD j default = b := ⟨_, rfl⟩
      have hst := Lib.hid (rev_next (a := a) (b := b) hR.out hlt ha (by rw [hj]; exact hb))
      rw [hj] at hst
      have hMk : M[k]'(by omega) = a := by rw [← ha, List.getD_eq_getElem?_getD, List.getElem?_eq_getElem]; rfl
      have hMj : M[j]'(by omega) = b := by rw [← hb, List.getD_eq_getElem?_getD, List.getElem?_eq_getElem]; rfl
      have c0 : wr.cell? ⟨g, k * 2, none⟩ = some (.int .i64 a.f0) := hO.out.get (by have := flat_get RPoint.len M k (by omega) 0 (by omega); rw [hMk] at this; exact this)
      have c1 : wr.cell? ⟨g, k * 2 + 1, none⟩ = some (.int .i64 a.f1) := hO.out.get (by have := flat_get RPoint.len M k (by omega) 1 (by omega); rw [hMk] at this; exact this)
      have d0 : wr.cell? ⟨g, j * 2, none⟩ = some (.int .i64 b.f0) := hO.out.get (by have := flat_get RPoint.len M j (by omega) 0 (by omega); rw [hMj] at this; exact this)
      have d1 : wr.cell? ⟨g, j * 2 + 1, none⟩ = some (.int .i64 b.f1) := hO.out.get (by have := flat_get RPoint.len M j (by omega) 1 (by omega); rw [hMj] at this; exact this)
      have f0 := hO.out.frozen (k * 2)
      have f1 := hO.out.frozen (k * 2 + 1)
      have f2 := hO.out.frozen (j * 2)
      have f3 := hO.out.frozen (j * 2 + 1)
      have hML2 : (flat RPoint.cells M).length = M.length * 2 := flat_len RPoint.len M
      have u1 := hO.out.upd (i := k * 2) (by omega) (.int .i64 b.f0)
      have u2 := u1.upd (i := k * 2 + 1) (by simp; omega) (.int .i64 b.f1)
      have u3 := u2.upd (i := j * 2) (by simp; omega) (.int .i64 a.f0)
      have u4 := u3.upd (i := j * 2 + 1) (by simp; omega) (.int .i64 a.f1)
      rw [set_pt M k b, set_pt (M.set k b) j a] at u4
      have hOn := Lib.hid u4
      have hGn := Lib.hid (Go.Lib.grownBy_setB (Go.Lib.grownBy_setB (Go.Lib.grownBy_setB (Go.Lib.grownBy_setB hG.out (k * 2) (.int .i64 b.f0)) (k * 2 + 1) (.int .i64 b.f1)) (j * 2) (.int .i64 a.f0)) (j * 2 + 1) (.int .i64 a.f1))
      clear u1 u2 u3 u4 hML2 ha hb hMk hMj hj
      go_wp2_with fail
      go_region
      go_wp2
      go_roundw
      case rel => exact ⟨k + 1, _, by go_num, by go_num, by omega, hst, Lib.hid (grown_drew hGn.out), hOn⟩
      case measure => simp [intOf]; omega
    · have hE := Lib.hid (rev_end hR.out (by omega))
      have hlt' : ¬ ((k : Int) < (L.length : Int) - 1 - k) := by omega
      have hO2 := Lib.hid (show Own wr g 38 N (flat RPoint.cells L.reverse) by rw [← hE.out]; exact hO.out)
      go_wp2
      refine bodyPost_end (by simp [results, Tryd.results94, go_sem]; try rfl) rfl ?_
      exact ⟨rfl, hG.out, hO2.out⟩
end Go.Proofs.YtbikppndhidbpaaDoor

/-
  Contract of the channel that a law's bytes choose, from the bytes on. Under the conditions that it states.
-/
set_option linter.unusedVariables false
set_option linter.unnecessarySimpa false
set_option maxRecDepth 100000
set_option linter.unusedSimpArgs false
namespace Go.Proofs.YtbikppndhidbpaaDoor
open Go.RowKit BigFrame

theorem r8_channel (L : List Int) (A : Option Addr) (c B : Nat) (w : World) (hs : Sl w B A (bytesL L)) (hB : B ≤ w.heap.size) (hu : ∀ z ∈ L, IntKind.u8.has z) (hl : L.length ≤ 1048576) :
    Calls Tryd.prog 38 #[.slice A L.length c] w fun e w' => ∃ nm v P wd, e = .returned (.agg #[.string nm, v, .int .i64 wd]) ∧ Below w.heap.size w w' ∧ Rs w' w.heap.size 38 2 v P.length (flat RPoint.cells P) ∧ GoodC nm P wd := by
  have hE0 := Lib.hid (En.new w #[.string ⟨#[]⟩, .slice none 0 0, .int .i64 0] 71)
  have hE0l : w.heap.size < (w.alloc (.cells #[.string ⟨#[]⟩, .slice none 0 0, .int .i64 0] 71)).heap.size := by simp
  go_enter Tryd.func38, Tryd.ntmps38
  go_wp2_with fail
  refine (src_from L _ _ B _ (hs.below (by go_grown)) (by simp; omega) hu hl).mono ?_
  rintro e w1 ⟨rfl, hb1, hs1⟩
  have hz1 := hb1.size
  simp only [World.size_alloc] at hz1
  have hB1 : Below w.heap.size w w1 := bnext (by go_grown) hb1
  have hE1 := hE0.out.on hb1
  simp only [World.size_alloc] at hs1
  clear hE0 hE0l hb1
  go_wp2_with fail
  refine (src_chan B (w.heap.size + 1) w1 hs1 (by omega)).mono ?_
  rintro e w2 ⟨nm, v, P, wd, rfl, hg2, hR2, hgood⟩
  have hE2 := hE1.far hg2 (fun e => by have := Option.some.inj e; omega)
  have hB2 : Below w.heap.size w w2 := hB1.grown hg2 (by omega) (fun k e => by have := Option.some.inj e; omega)
  have e0 := hE2.at (k := 0) (by simp)
  have e1 := hE2.at (k := 1) (by simp)
  have e2 := hE2.at (k := 2) (by simp)
  obtain ⟨⟨u0, e0⟩, f0⟩ := e0
  obtain ⟨⟨u1, e1⟩, f1⟩ := e1
  obtain ⟨⟨u2, e2⟩, f2⟩ := e2
  obtain ⟨A2, c2, rfl, _⟩ := hR2.sl
  clear hB1 hE1 hg2 hs1 hs
  go_wp2
  refine end_atA ?_
  intro wf hwf
  have ht := hE2.read (vs := [.string nm, .slice A2 P.length c2, .int .i64 wd]) (wf := wf) hwf
  have t0 : wf.cell? ⟨w.heap.size, 0, none⟩ = some (.string nm) := ht 0 _ rfl
  have t1 : wf.cell? ⟨w.heap.size, 1, none⟩ = some (.slice A2 P.length c2) := ht 1 _ rfl
  have t2 : wf.cell? ⟨w.heap.size, 2, none⟩ = some (.int .i64 wd) := ht 2 _ rfl
  have hgf : w2.grownBy wf (some w.heap.size) := by rw [hwf]; exact Go.Lib.grownBy_setB (Go.Lib.grownBy_setB (Go.Lib.grownBy_setB (World.grownBy.refl w2 (some w.heap.size)) 0 _) 1 _) 2 _
  have hBf := hB2.grown hgf hB2.size (fun k e => by have := Option.some.inj e; omega)
  have hRf := hR2.far hgf (fun k e h => by have h1 := (hR2.block k h).1; have := Option.some.inj e; omega)
  clear hwf ht
  refine bodyPost_ret (by simp [results, Tryd.results38, go_sem, t0, t1, t2]; try rfl) rfl ?_
  exact ⟨nm, _, P, wd, rfl, hBf, hRf.more (by omega), hgood⟩
end Go.Proofs.YtbikppndhidbpaaDoor

/-
  Contracts of channels turned about, their lengths, their places, and whether two are equal. Under the conditions that each states.
-/
set_option linter.unusedVariables false
set_option linter.unnecessarySimpa false
set_option maxRecDepth 100000
set_option linter.unusedSimpArgs false
namespace Go.Proofs.YtbikppndhidbpaaDoor
open Go.RowKit BigFrame Go.Deep

theorem vLine_mk {P : List RPoint} (h1 : ∀ k, k < P.length → vPoint (P.getD k default).f0 (P.getD k default).f1 = true) (h2 : ∀ k, k + 1 < P.length → 1 ≤ segD P k) : vLine P = true := by
  have h : ∀ n, n ≤ P.length → allTo (okPt P) n = true := by
    intro n
    induction n with
    | zero => exact fun _ => rfl
    | succ n ih =>
      intro hn
      refine allTo_step (ih (by omega)) ?_
      unfold okPt
      rw [h1 n (by omega), Bool.true_and]
      cases n with
      | zero => rfl
      | succ n =>
        have h3 := h2 n (by omega)
        cases he : ((P.getD n default).f0 == (P.getD (n + 1) default).f0 && (P.getD n default).f1 == (P.getD (n + 1) default).f1)
        · simp only [Nat.add_sub_cancel]; rw [he]; simp
        · rw [Bool.and_eq_true, beq_iff_eq, beq_iff_eq] at he
          have e : segD P n = 0 := by unfold segD; rw [he.1, he.2, distM_self]
          omega
  exact h _ (Nat.le_refl _)
theorem vLine_rev {P : List RPoint} (h : vLine P = true) : vLine P.reverse = true := by
  refine vLine_mk (fun k hk => ?_) (fun k hk => ?_)
  · rw [List.length_reverse] at hk
    rw [rev_get P hk]
    exact line_pt h rfl (by omega)
  · rw [List.length_reverse] at hk
    rw [rev_seg P hk]
    exact line_ne h (by omega)
theorem vChan_rev {s : ByteArray} {P : List RPoint} {wd : Int} (h : vChan s P wd = true) : vChan s P.reverse wd = true := by
  unfold vChan at *
  rw [Bool.and_eq_true] at h
  rw [vLine_rev h.1, List.length_reverse, h.2]; rfl
theorem vChan_is {s : ByteArray} {P : List RPoint} {wd : Int} (h : vChan s P wd = true) : vLine P = true ∧ (2 ≤ P.length ∧ P.length ≤ 12) ∧ 10 ≤ wd ∧ wd ≤ 5000 := by
  unfold vChan at h
  rw [Bool.and_eq_true, Bool.and_eq_true, Bool.and_eq_true, inB_yes, inB_yes] at h
  obtain ⟨a, _, b, c⟩ := h
  exact ⟨a, ⟨by omega, by omega⟩, c⟩
theorem lenM_pos {P : List RPoint} (h : vLine P = true) (h2 : 2 ≤ P.length) : 1 ≤ lenM P := by
  have h1 := line_ne h (k := 0) (by omega)
  have h3 := lenTo_mono P (show 1 ≤ P.length - 1 by omega)
  have e : lenTo P 1 = 0 + segD P 0 := rfl
  unfold lenM
  omega
theorem lenM_le {P : List RPoint} (h : vLine P = true) (h2 : P.length ≤ 12) : lenM P ≤ 12 * 282843 := by
  have h1 := lenTo_le P (seg_le h) (P.length - 1)
  unfold lenM
  omega
theorem place_ok {P : List RPoint} {d : Int} (h : vLine P = true) (h2 : 2 ≤ P.length) (h0 : 0 ≤ d) (hd : d ≤ lenM P) : vPoint (placeM P d).1 (placeM P d).2 = true := by
  have := place_in (lo := 0) (hi := 200000) h2 (line_pos h) (fun k _ => line_in h k) h0 hd
  unfold vPoint
  rw [inB_mk this.1.1 this.1.2, inB_mk this.2.1 this.2.2]; rfl
set_option maxHeartbeats 800000 in
theorem spec_SamePts (P : List RPoint) (A A2 : Option Addr) (c c2 B : Nat) (w : World) (hs : Sl w B A (flat RPoint.cells P)) (hs2 : Sl w B A2 (flat RPoint.cells P)) (hB : B ≤ w.heap.size) (hl : P.length ≤ 1048576) : Calls Tryd.prog 130 #[.slice A P.length c, .slice A2 P.length c2] w fun e w' => e = .returned (.bool true) ∧ Below w.heap.size w w' := by
  have hs' := Lib.hid hs
  have hs2' := Lib.hid hs2
  clear hs hs2
  go_enter Tryd.func130, Tryd.ntmps130
  go_wp2
  go_loopw [5] (fun i wr => ∃ k : Nat, i = .int .i64 k ∧ k ≤ P.length ∧ Below w.heap.size w wr) (fun i _ => P.length - (intOf i).toNat)
  case atStart => exact ⟨0, rfl, Nat.zero_le _, Below.refl _ _⟩
  case round =>
    obtain ⟨k, rfl, hk, hB1⟩ := hrel
    have hS1 := hB1.size
    by_cases hlt : k < P.length
    · obtain ⟨b, o, rfl, hb, he⟩ := Sl.elem RPoint.len (by decide) (hs'.out.below (hB1.mono hB)) hlt
      obtain ⟨b2, o2, rfl, hb2, he2⟩ := Sl.elem RPoint.len (by decide) (hs2'.out.below (hB1.mono hB)) hlt
      obtain ⟨a, ha⟩ : ∃ a, P[k] = a := ⟨_, rfl⟩
      rw [ha] at he he2
      clear ha
      have d0 : wr.cell? ⟨b, o + k * 2, none⟩ = some (.int .i64 a.f0) := by have := he 0 _ rfl; simpa [Nat.add_assoc] using this
      have d1 : wr.cell? ⟨b, o + k * 2 + 1, none⟩ = some (.int .i64 a.f1) := by have := he 1 _ rfl; simpa [Nat.add_assoc] using this
      have n0 : wr.cell? ⟨b2, o2 + k * 2, none⟩ = some (.int .i64 a.f0) := by have := he2 0 _ rfl; simpa [Nat.add_assoc] using this
      have n1 : wr.cell? ⟨b2, o2 + k * 2 + 1, none⟩ = some (.int .i64 a.f1) := by have := he2 1 _ rfl; simpa [Nat.add_assoc] using this
      clear he he2
      have hw1 : b < wr.heap.size := by omega
      have hw2 : b2 < wr.heap.size := by omega
      go_wp2_with fail
      refine wp_region_grew (by kernel_rfl) (by kernel_rfl) ?_
      repeat (first | (go_big_quiet_step (fail)) | (quiet_step (fail)))
      refine wpQuiet_nil ?_
      rintro _ ⟨⟨w9, hb9⟩, rfl⟩
      try dsimp only
      obtain ⟨hc9, hf9⟩ := bcell hb9
      go_wp2
      go_roundw
      case rel => exact ⟨k + 1, by go_num, by omega, bnext hB1 hb9⟩
      case measure => simp [intOf]; omega
    · obtain rfl : k = P.length := by omega
      go_wp2
      go_ret
      exact ⟨rfl, hB1⟩
theorem spec_l13Same (s : ByteArray) (P : List RPoint) (A A2 : Option Addr) (c c2 B g g2 : Nat) (wd : Int) (w : World) (hZ : Cz w g s A P.length c wd) (hZ2 : Cz w g2 s A2 P.length c2 wd) (hs : Sl w B A (flat RPoint.cells P)) (hs2 : Sl w B A2 (flat RPoint.cells P)) (hB : B ≤ w.heap.size) (hl : P.length ≤ 1048576) : Calls Tryd.prog 98 #[.pointer (some ⟨g, 0, none⟩), .pointer (some ⟨g2, 0, none⟩)] w fun e w' => e = .returned (.bool true) ∧ Below w.heap.size w w' := by
  have hs' := Lib.hid hs
  have hs2' := Lib.hid hs2
  clear hs hs2
  obtain ⟨hzl, z0, z1, z2⟩ := id hZ
  obtain ⟨yzl, y0, y1, y2⟩ := id hZ2
  have hq : (s.toList == s.toList) = true := beq_self_eq_true _
  have hSP : ∀ p : Grew w, Calls Tryd.prog 130 #[.slice A P.length c, .slice A2 P.length c2] p.world fun e w' => e = .returned (.bool true) ∧ Below p.world.heap.size p.world w' := fun p => spec_SamePts P A A2 c c2 B _ (hs'.out.below (p.below.mono hB)) (hs2'.out.below (p.below.mono hB)) (Nat.le_trans hB p.below.size) hl
  go_enter Tryd.func98, Tryd.ntmps98
  go_wp2_with fail
  refine wp_region_grew (by kernel_rfl) (by kernel_rfl) ?_
  repeat (first | (go_big_quiet_step ((go_at_call 130; exact grew_of (hSP _)))) | (quiet_step ((go_at_call 130; exact grew_of (hSP _)))))
  refine wpQuiet_nil ?_
  rintro _ ⟨⟨w9, hb9⟩, rfl⟩
  try dsimp only
  obtain ⟨hc9, hf9⟩ := bcell hb9
  go_wp2
  go_ret
  exact ⟨rfl, hb9⟩
theorem spec_SameChan (s : ByteArray) (P : List RPoint) (A A2 : Option Addr) (c c2 B : Nat) (wd : Int) (w : World) (hs : Sl w B A (flat RPoint.cells P)) (hs2 : Sl w B A2 (flat RPoint.cells P)) (hB : B ≤ w.heap.size) (hl : P.length ≤ 1048576) : Calls Tryd.prog 46 #[.agg #[.string s, .slice A P.length c, .int .i64 wd], .agg #[.string s, .slice A2 P.length c2, .int .i64 wd]] w fun e w' => e = .returned (.bool true) ∧ Below w.heap.size w w' := by
  have hZ0 := Cz.new w s A P.length c wd 71
  have hZ := Lib.hid (hZ0.on ((Below.refl _ _).alloc (Nat.le_refl _) (.cells #[.string s, .slice A2 P.length c2, .int .i64 wd] 71)))
  have hZ2 := Lib.hid (Cz.new (w.alloc (.cells #[.string s, .slice A P.length c, .int .i64 wd] 71)) s A2 P.length c2 wd 71)
  have hb0 : Below w.heap.size w ((w.alloc (.cells #[.string s, .slice A P.length c, .int .i64 wd] 71)).alloc (.cells #[.string s, .slice A2 P.length c2, .int .i64 wd] 71)) := by go_grown
  have h1 := Lib.hid (hs.below (hb0.mono hB))
  have h2 := Lib.hid (hs2.below (hb0.mono hB))
  clear hs hs2 hZ0
  simp only [World.size_alloc] at hZ2
  go_enter Tryd.func46, Tryd.ntmps46
  go_wp2_with fail
  refine (spec_l13Same s P A A2 c c2 B _ _ wd _ hZ.out hZ2.out h1.out h2.out (by simp; omega) hl).mono ?_
  rintro e w1 ⟨rfl, hb1⟩
  go_wp2
  go_ret
  exact ⟨rfl, bnext hb0 hb1⟩
theorem impl_ChanLen (s : ByteArray) (hsm : s.size ≤ maxLen) (P : List RPoint) (A : Option Addr) (c B : Nat) (wd : Int) (w : World) (hP : Sl w B A (flat RPoint.cells P)) (hB : B ≤ w.heap.size) (hl : P.length ≤ 1048576) (hv : vChan s P wd = true) :
    Calls Tryd.prog 40 #[.agg #[.string s, .slice A P.length c, .int .i64 wd]] w fun e w' => e = .returned (.tuple #[.int .i64 (lenM P), .int .i64 0]) ∧ Below w.heap.size w w' := by
  have hP' := Lib.hid hP
  have hvl := vChan_is hv
  have hZ0 := Cz.new w s A P.length c wd 71
  have hV := fun w hP hB => impl_ValidChannel s hsm P A c B wd w hP hB hl
  rw [hv] at hV
  have hL := fun w hP hB => impl_Len s P A c B wd w hP hB hl (by omega) hvl.1
  clear hP hv hvl
  obtain ⟨hzl, z0, z1, z2⟩ := id hZ0
  have hb0 : Below w.heap.size w (w.alloc (.cells #[.string s, .slice A P.length c, .int .i64 wd] 71)) := by go_grown
  go_enter Tryd.func40, Tryd.ntmps40
  go_wp2_with fail
  refine (hV _ (hP'.out.below (hb0.mono hB)) (by simp; omega)).mono ?_
  rintro e w1 ⟨rfl, hb1⟩
  obtain ⟨yzl, y0, y1, y2⟩ := hZ0.on hb1
  have hB1 := bnext hb0 hb1
  clear hb1 z0 z1 z2
  go_wp2_with fail
  refine (hL _ (hP'.out.below (hB1.mono hB)) (Nat.le_trans hB hB1.size)).mono ?_
  rintro e w2 ⟨rfl, hb2⟩
  go_wp2
  go_ret2
  exact ⟨rfl, bnext hB1 hb2⟩
set_option maxHeartbeats 800000 in
theorem impl_PlaceA (s : ByteArray) (hsm : s.size ≤ maxLen) (P : List RPoint) (A : Option Addr) (c B : Nat) (wd d : Int) (w : World) (hP : Sl w B A (flat RPoint.cells P)) (hB : B ≤ w.heap.size) (hl : P.length ≤ 1048576) (hv : vChan s P wd = true) (hd : 0 ≤ d ∧ d ≤ lenM P) :
    Calls Tryd.prog 42 #[.agg #[.string s, .slice A P.length c, .int .i64 wd], .int .i64 d] w fun e w' => e = .returned (.tuple #[.agg #[.int .i64 (placeM P d).1, .int .i64 (placeM P d).2], .int .i64 0]) ∧ Below w.heap.size w w' := by
  have hP' := Lib.hid hP
  have hvl := vChan_is hv
  have hV := fun w hP hB => impl_ValidChannel s hsm P A c B wd w hP hB hl
  rw [hv] at hV
  have hL := fun w hP hB => impl_Len s P A c B wd w hP hB hl (by omega) hvl.1
  have hA := fun w hP hB => impl_along s P A c B wd d w hP hB hl hvl.2.1.1 hvl.1 hd
  have hlb := lenM_le hvl.1 hvl.2.1.2
  have hin := inB_mk hd.1 hd.2
  have hW := within_any d 0 (lenM P)
  rw [hin] at hW
  generalize lenM P = n at hL hd hlb hW
  generalize (placeM P d).1 = X at hA ⊢
  generalize (placeM P d).2 = Y at hA ⊢
  generalize (P.getD (fndM P d).1 default).f0 = x1 at hA
  generalize (P.getD (fndM P d).1 default).f1 = x2 at hA
  generalize (P.getD ((fndM P d).1 + 1) default).f0 = x3 at hA
  generalize (P.getD ((fndM P d).1 + 1) default).f1 = x4 at hA
  have hZ0 := Cz.new w s A P.length c wd 71
  have hb0 : Below w.heap.size w ((w.alloc (.cells #[.string s, .slice A P.length c, .int .i64 wd] 71)).alloc (.cells #[.int .i64 0, .int .i64 0] 38)) := by go_grown
  have hZ1 := hZ0.on ((Below.refl _ _).alloc (Nat.le_refl _) (.cells #[.int .i64 0, .int .i64 0] 38))
  have hE1 : Ey ((w.alloc (.cells #[.string s, .slice A P.length c, .int .i64 wd] 71)).alloc (.cells #[.int .i64 0, .int .i64 0] 38)) (w.heap.size + 1) := by have := Ey.new (w.alloc (.cells #[.string s, .slice A P.length c, .int .i64 wd] 71)) 0 0 38; simpa using this
  clear hP hv hvl hin hZ0
  obtain ⟨hzl, z0, z1, z2⟩ := id hZ1
  go_enter Tryd.func42, Tryd.ntmps42
  go_wp2_with fail
  refine (hV _ (hP'.out.below (hb0.mono hB)) (by simp; omega)).mono ?_
  rintro e w1 ⟨rfl, hb1⟩
  have hB1 := bnext hb0 hb1
  have hE2 := hE1.on hb1
  have hZ2 := hZ1.on hb1
  obtain ⟨yzl, y0, y1, y2⟩ := id hZ2
  clear hb1 z0 z1 z2 hE1 hZ1
  go_wp2_with fail
  refine (hL _ (hP'.out.below (hB1.mono hB)) (Nat.le_trans hB hB1.size)).mono ?_
  rintro e w2 ⟨rfl, hb2⟩
  have hB2 := bnext hB1 hb2
  have hE3 := hE2.on hb2
  have hZ3 := hZ2.on hb2
  obtain ⟨xzl, x0, xx1, xx2⟩ := id hZ3
  clear hb2 y0 y1 y2 hE2 hZ2
  go_wp2_with fail
  refine (hW _).mono ?_
  rintro e w' ⟨rfl, rfl⟩
  go_wp2_with fail
  refine (hA _ (hP'.out.below (hB2.mono hB)) (Nat.le_trans hB hB2.size)).mono ?_
  rintro e w3 ⟨rfl, hb3⟩
  have hB3 := bnext hB2 hb3
  have hE4 := hE3.on hb3
  clear hb3 x0 xx1 xx2 hE3 hZ3
  obtain ⟨e0, ⟨e1, e2⟩, e3, e4⟩ := id hE4
  have e1' := heldB_is e1
  have e2' := heldB_is e2
  go_upto_region 6 with fail
  refine wp_atB ?_
  intro wx hwx
  have hEx : Ey wx (w.heap.size + 1) := by rw [hwx]; exact ((hE4.on (by go_grown)))
  have hBx : Below w.heap.size w wx := by rw [hwx]; exact bnext hB3 (by go_grown)
  have hP1 : wx.cell? ⟨w3.heap.size, 0, none⟩ = some (.int .i64 X) ∧ wx.cell? ⟨w3.heap.size, 1, none⟩ = some (.int .i64 Y) := by rw [hwx]; exact ⟨by simp [go_sem], by simp [go_sem]⟩
  have hlx : w3.heap.size < wx.heap.size := by rw [hwx]; simp; omega
  clear hwx e1' e2' e1 e2 e3 e4
  obtain ⟨q0, q1⟩ := hP1
  obtain ⟨e5, ⟨e1, e2⟩, e3, e4⟩ := id hEx
  have e1' := heldB_is e1
  have e2' := heldB_is e2
  go_wp2_with fail
  refine end_atA ?_
  intro wf hwf
  have t := hEx.read (.int .i64 X) (.int .i64 Y)
  have hBf : Below w.heap.size w wf := by rw [hwf]; exact ((hBx).setCell (by simp) _).setCell (by simp) _
  rw [← hwf] at t
  obtain ⟨t0, t1⟩ := t
  clear hwf
  refine bodyPost_ret (by simp [results, Tryd.results42, go_sem, t0, t1]; try rfl) rfl ?_
  exact ⟨rfl, hBf⟩
set_option maxHeartbeats 800000 in
theorem impl_InChan (s : ByteArray) (hsm : s.size ≤ maxLen) (P : List RPoint) (A : Option Addr) (c B : Nat) (wd x y : Int) (w : World) (hP : Sl w B A (flat RPoint.cells P)) (hB : B ≤ w.heap.size) (hl : P.length ≤ 1048576) (hv : vChan s P wd = true) (hp : vPoint x y = true) (hn : (nearTo P x y (P.length - 2)).2 ≤ 0) :
    Calls Tryd.prog 45 #[.agg #[.string s, .slice A P.length c, .int .i64 wd], .agg #[.int .i64 x, .int .i64 y]] w fun e w' => e = .returned (.bool true) ∧ Below w.heap.size w w' := by
  have hP' := Lib.hid hP
  have hvl := vChan_is hv
  have hV := fun w hP hB => impl_ValidChannel s hsm P A c B wd w hP hB hl
  rw [hv] at hV
  have hA := fun w hP hB => impl_Near s P A c B wd x y w hP hB hl hvl.2.1.1 hvl.1 hp
  have hVp := fun w => impl_ValidPoint x y w
  rw [hp] at hVp
  have hw := hvl.2.2
  generalize (nearTo P x y (P.length - 2)).1 = n1 at hA
  generalize (nearTo P x y (P.length - 2)).2 = n2 at hA hn
  have hZ0 := Cz.new w s A P.length c wd 71
  have hb0 : Below w.heap.size w ((w.alloc (.cells #[.string s, .slice A P.length c, .int .i64 wd] 71)).alloc (.cells #[.int .i64 x, .int .i64 y] 38)) := by go_grown
  have hZ1 := hZ0.on ((Below.refl _ _).alloc (Nat.le_refl _) (.cells #[.int .i64 x, .int .i64 y] 38))
  have hE1 : PtB ((w.alloc (.cells #[.string s, .slice A P.length c, .int .i64 wd] 71)).alloc (.cells #[.int .i64 x, .int .i64 y] 38)) (w.heap.size + 1) x y := ⟨by simp, by simp [go_sem], by simp [go_sem]⟩
  clear hP hv hvl hp hZ0
  obtain ⟨hzl, z0, z1, z2⟩ := id hZ1
  go_enter Tryd.func45, Tryd.ntmps45
  go_wp2_with fail
  refine (hV _ (hP'.out.below (hb0.mono hB)) (by simp; omega)).mono ?_
  rintro e w1 ⟨rfl, hb1⟩
  have hB1 := bnext hb0 hb1
  have hE2 := hE1.on hb1
  have hZ2 := hZ1.on hb1
  obtain ⟨yzl, y0, y1, y2⟩ := id hZ2
  obtain ⟨v0, v1, v2⟩ := id hE2
  clear hb1 z0 z1 z2 hE1 hZ1
  go_wp2_with fail
  refine (hVp _).mono ?_
  rintro e w2 ⟨rfl, hb2⟩
  have hB2 := bnext hB1 hb2
  have hE3 := hE2.on hb2
  have hZ3 := hZ2.on hb2
  obtain ⟨xzl, x0, xx1, xx2⟩ := id hZ3
  clear v0 v1 v2
  obtain ⟨v0, v1, v2⟩ := id hE3
  clear hb2 y0 y1 y2 hE2 hZ2
  go_wp2_with fail
  refine (hA _ (hP'.out.below (hB2.mono hB)) (Nat.le_trans hB hB2.size)).mono ?_
  rintro e w3 ⟨rfl, hb3⟩
  have hB3 := bnext hB2 hb3
  obtain ⟨_, t0, t1, t2⟩ := hZ3.on hb3
  have hdv : n2 ≤ wd / 2 := by omega
  clear hb3 x0 xx1 xx2 hE3 hZ3
  go_wp2_with fail
  go_ret
  exact ⟨by simp [hdv], hB3⟩
set_option maxHeartbeats 1600000 in
theorem impl_RevChan (s : ByteArray) (hsm : s.size ≤ maxLen) (P : List RPoint) (A : Option Addr) (c B : Nat) (wd : Int) (w : World) (hP : Sl w B A (flat RPoint.cells P)) (hB : B ≤ w.heap.size) (hl : P.length ≤ 1048576) (hv : vChan s P wd = true) :
    Calls Tryd.prog 39 #[.agg #[.string s, .slice A P.length c, .int .i64 wd]] w fun e w' => ∃ v, e = .returned (.tuple #[.agg #[.string s, v, .int .i64 wd], .int .i64 0]) ∧ Below w.heap.size w w' ∧ Rs w' w.heap.size 38 2 v P.length (flat RPoint.cells P.reverse) := by
  have hP' := Lib.hid hP
  have hvl := vChan_is hv
  obtain ⟨b, o, rfl, hbB, hcc⟩ := Sl.elem RPoint.len (by decide) hP (show 0 < P.length by omega)
  clear hcc
  have hV := fun w hP hB => impl_ValidChannel s hsm P (some ⟨b, o, none⟩) c B wd w hP hB hl
  rw [hv] at hV
  have hC := fun w hP hB => clone_Point P b o c B w hP hB hl
  have hZ0 := Cz.new w s (some ⟨b, o, none⟩) P.length c wd 71
  have hb0 : Below w.heap.size w ((w.alloc (.cells #[.string s, .slice (some ⟨b, o, none⟩) P.length c, .int .i64 wd] 71)).alloc (.cells #[.string ⟨#[]⟩, .slice none 0 0, .int .i64 0] 71)) := by go_grown
  have hZ1 := hZ0.on ((Below.refl _ _).alloc (Nat.le_refl _) (.cells #[.string ⟨#[]⟩, .slice none 0 0, .int .i64 0] 71))
  have hE1 : En ((w.alloc (.cells #[.string s, .slice (some ⟨b, o, none⟩) P.length c, .int .i64 wd] 71)).alloc (.cells #[.string ⟨#[]⟩, .slice none 0 0, .int .i64 0] 71)) (w.heap.size + 1) 3 := by have := En.new (w.alloc (.cells #[.string s, .slice (some ⟨b, o, none⟩) P.length c, .int .i64 wd] 71)) #[.string ⟨#[]⟩, .slice none 0 0, .int .i64 0] 71; simpa using this
  clear hP hv hvl hZ0
  obtain ⟨hzl, z0, z1, z2⟩ := id hZ1
  go_enter Tryd.func39, Tryd.ntmps39
  go_wp2_with fail
  refine (hV _ (hP'.out.below (hb0.mono hB)) (by simp; omega)).mono ?_
  rintro e w1 ⟨rfl, hb1⟩
  have hB1 := bnext hb0 hb1
  have hE2 := hE1.on hb1
  have hZ2 := hZ1.on hb1
  obtain ⟨yzl, y0, y1, y2⟩ := id hZ2
  clear hb1 z0 z1 z2 hE1 hZ1
  go_wp2_with fail
  refine (hC _ (hP'.out.below (hB1.mono hB)) (Nat.le_trans hB hB1.size)).mono ?_
  rintro e w2 ⟨rfl, hb2, hO⟩
  have hB2 := bnext hB1 hb2
  have hE3 := hE2.on hb2
  have hZ3 := hZ2.on hb2
  have hs1 := hB1.size
  have yzl' := hE2.1
  clear hb2 y0 y1 y2 hE2 hZ2
  go_wp2_with fail
  refine (rev_Point P _ _ _ _ hO hl (Nat.le_refl _)).mono ?_
  rintro e w3 ⟨rfl, hg3, hO3⟩
  have hs2 := hB2.size
  have hB3 := hB2.grown hg3 (by omega) (fun k e => by have := Option.some.inj e; omega)
  have hz1 : w.heap.size + 1 < w1.heap.size := yzl'
  have hE4 := hE3.far hg3 (fun e => by have := Option.some.inj e; omega)
  have hZ4 : Cz w3 w.heap.size s (some ⟨b, o, none⟩) P.length c wd := by
    obtain ⟨a, b1, b2, b3⟩ := hZ3
    exact ⟨Nat.lt_of_lt_of_le a hg3.size, hg3.cell b1 (by simp; omega), hg3.cell b2 (by simp; omega), hg3.cell b3 (by simp; omega)⟩
  obtain ⟨xzl, x0, x1, x2⟩ := id hZ4
  obtain ⟨⟨u0, a0⟩, f0⟩ := hE4.at (k := 0) (by omega)
  obtain ⟨⟨u1, a1⟩, f1⟩ := hE4.at (k := 1) (by omega)
  obtain ⟨⟨u2, a2⟩, f2⟩ := hE4.at (k := 2) (by omega)
  have hel := hE4.1
  clear hE3 hZ3
  have hR3 : Rs w3 w1.heap.size 38 2 (.slice (some ⟨w1.heap.size, 0, none⟩) P.length P.length) P.length (flat RPoint.cells P.reverse) := ⟨by rw [flat_len RPoint.len, List.length_reverse], .inr ⟨_, _, _, rfl, Nat.le_refl _, hO3⟩⟩
  clear hO3 hO
  go_wp2_with fail
  refine end_atA ?_
  intro wf hwf
  have ht := hE4.read (vs := [.string s, .slice (some ⟨w1.heap.size, 0, none⟩) P.length P.length, .int .i64 wd]) (wf := wf) hwf
  have t0 : wf.cell? ⟨w.heap.size + 1, 0, none⟩ = some (.string s) := ht 0 _ rfl
  have t1 : wf.cell? ⟨w.heap.size + 1, 1, none⟩ = some (.slice (some ⟨w1.heap.size, 0, none⟩) P.length P.length) := ht 1 _ rfl
  have t2 : wf.cell? ⟨w.heap.size + 1, 2, none⟩ = some (.int .i64 wd) := ht 2 _ rfl
  have hgf : w3.grownBy wf (some (w.heap.size + 1)) := by rw [hwf]; exact Go.Lib.grownBy_setB (Go.Lib.grownBy_setB (Go.Lib.grownBy_setB (World.grownBy.refl w3 (some (w.heap.size + 1))) 0 _) 1 _) 2 _
  have hBf := hB3.grown hgf hB3.size (fun k e => by have := Option.some.inj e; omega)
  have hRf := hR3.far hgf (fun k e h => by have h1 := (hR3.block k h).1; have := Option.some.inj e; omega)
  clear hwf ht
  refine bodyPost_ret (by simp [results, Tryd.results39, go_sem, t0, t1, t2]; try rfl) rfl ?_
  exact ⟨_, rfl, hBf, hRf.more (by omega)⟩
end Go.Proofs.YtbikppndhidbpaaDoor

/-
  Plain words: the texts of points and dangers are read back as what they are texts of. Under the conditions that each states.
-/
set_option linter.unusedVariables false
set_option maxRecDepth 100000
set_option linter.unusedSimpArgs false
namespace Go.Proofs.YtbikppndhidbpaaDoor
open Go.RowKit BigFrame

theorem dec_list (v : Int) : (decT v).data.toList = Lib.itoa v := rfl
theorem dec_bk {v : Int} (h1 : -100000000000000000 < v) (h2 : v < 100000000000000000) : numOk (decT v).data.toList = true ∧ numV (decT v).data.toList = v ∧ rdV (ba (decT v).data.toList) = v := by
  rw [dec_list]
  obtain ⟨a, b⟩ := num_back h1 h2
  refine ⟨a, b, ?_⟩
  unfold rdV
  rw [ba_list, a, b]
  rfl
theorem pt_list (x y : Int) : (ptT x y).data.toList = (decT x).data.toList ++ 44 :: (decT y).data.toList := by
  unfold ptT
  simp [ByteArray.data_append]
theorem pt_back {x y : Int} (h : vPoint x y = true) : rpOk (ptT x y).data.toList = true ∧ rpX (ptT x y).data.toList = x ∧ rpY (ptT x y).data.toList = y := by
  have hv := vPoint_yes h
  obtain ⟨a1, a2, _⟩ := dec_bk (v := x) (by omega) (by omega)
  obtain ⟨b1, b2, _⟩ := dec_bk (v := y) (by omega) (by omega)
  have hs : splitL 44 (ptT x y).data.toList = [(decT x).data.toList, (decT y).data.toList] := by
    rw [pt_list, split_app _ (num_free a1 44 (by decide) (by decide)), split_free (num_free b1 44 (by decide) (by decide))]
  obtain ⟨e1, e2⟩ := rp_two hs
  have hk : rpOk (ptT x y).data.toList = true := by
    unfold rpOk
    rw [e1, e2, a1, b1, a2, b2, h]
    rfl
  refine ⟨hk, ?_, ?_⟩
  · unfold rpX; rw [hk, e1, a2]; rfl
  · unfold rpY; rw [hk, e2, b2]; rfl
end Go.Proofs.YtbikppndhidbpaaDoor

/-
  Plain words: the text of a channel is read back as that channel. Under the conditions that each states.
-/
set_option linter.unusedVariables false
set_option maxRecDepth 100000
set_option linter.unusedSimpArgs false
namespace Go.Proofs.YtbikppndhidbpaaDoor
open Go.RowKit BigFrame

theorem chan_back {nm : ByteArray} {P : List RPoint} {wd : Int} (h : vChan nm P wd = true) : crOk (chanX nm P wd).data.toList = true ∧ crS (chanX nm P wd).data.toList = nm ∧ crP (chanX nm P wd).data.toList = P ∧ crW (chanX nm P wd).data.toList = wd := by
  have hv := vChan_yes h
  have hpt : ∀ p ∈ P, vPoint p.f0 p.f1 = true := fun p hp => by
    obtain ⟨k, hk, rfl⟩ := List.mem_iff_getElem.1 hp
    exact vLine_pt hv.1 hk
  obtain ⟨R, hR⟩ : ∃ R, P.map (fun p => (ptT p.f0 p.f1).data.toList) = R := ⟨_, rfl⟩
  have hmap : R.map rpP = P := by
    rw [← hR, List.map_map]
    have : ∀ p ∈ P, (rpP ∘ fun p : RPoint => (ptT p.f0 p.f1).data.toList) p = p := fun p hp => by
      obtain ⟨_, b, c⟩ := pt_back (hpt p hp)
      show (⟨rpX (ptT p.f0 p.f1).data.toList, rpY (ptT p.f0 p.f1).data.toList⟩ : RPoint) = p
      rw [b, c]
    calc P.map (rpP ∘ fun p : RPoint => (ptT p.f0 p.f1).data.toList) = P.map id := List.map_congr_left this
      _ = P := List.map_id P
  have hRok : ∀ q ∈ R, rpOk q = true := fun q hq => by
    rw [← hR] at hq
    obtain ⟨p, hp, rfl⟩ := List.mem_map.1 hq
    exact (pt_back (hpt p hp)).1
  have hlen : R.length = P.length := by rw [← hR, List.length_map]
  obtain ⟨q1, q2, q3⟩ := dec_bk (v := wd) (by omega) (by omega)
  have hT : (ctTo (ba nm.data.toList) (rdV (ba (decT wd).data.toList)) (R.map rpP) R.length).data.toList = (chanX nm P wd).data.toList := by
    rw [hmap, q3, hlen, ← ba_data]
    unfold chanX
    rw [if_pos h]
  obtain ⟨hS, hk⟩ := cr_good (by omega) q1 hRok (by rw [hmap, q3, ← ba_data]; exact h) hT
  obtain ⟨g1, g2, g3⟩ := cr_yes hk hS
  exact ⟨hk, by rw [g1, ← ba_data], by rw [g2, hmap], by rw [g3, q3]⟩
theorem chan_size {nm : ByteArray} {P : List RPoint} {wd : Int} (h : vChan nm P wd = true) (hs : nm.size ≤ 1000) (hP : P.length ≤ 100) : (chanX nm P wd).size ≤ 1048576 := by
  have hv := vChan_yes h
  unfold chanX
  rw [if_pos h]
  have : ∀ k, k ≤ P.length → (ctTo nm wd P k).size ≤ 1100 + 50 * k := by
    intro k
    induction k with
    | zero =>
      intro _
      have := decT_size (n := wd) (by omega) (by omega)
      rw [ctTo, ByteArray.size_append, ByteArray.size_append]
      have e1 : (⟨#[32]⟩ : ByteArray).size = 1 := rfl
      omega
    | succ k ih =>
      intro hk
      have i := ih (by omega)
      rw [ctTo_step rfl, ByteArray.size_append, ByteArray.size_append]
      have hp := vPoint_yes (vLine_pt hv.1 (k := k) (by omega))
      have hg : P.getD k default = P[k] := by rw [List.getD_eq_getElem?_getD, List.getElem?_eq_getElem (by omega)]; rfl
      rw [hg]
      have := ptT_size (x := (P[k]).f0) (y := (P[k]).f1) (has_of (by omega)) (has_of (by omega))
      have e1 : (⟨#[32]⟩ : ByteArray).size = 1 := rfl
      omega
  have := this P.length (Nat.le_refl _)
  omega
end Go.Proofs.YtbikppndhidbpaaDoor

set_option linter.unusedVariables false
set_option linter.unnecessarySimpa false
set_option maxRecDepth 100000
set_option linter.unusedSimpArgs false
namespace Go.Proofs.YtbikppndhidbpaaDoor
open Go.RowKit BigFrame Go.Deep
theorem Sl.nx {w w' : World} {A : Option Addr} {xs : List Value} (h : Sl w w.heap.size A xs) (hb : Below w.heap.size w w') : Sl w' w'.heap.size A xs := (h.below hb).more hb.size
theorem below_al {w : World} (o : Obj) : Below w.heap.size w (w.alloc o) := (Below.refl _ _).alloc (Nat.le_refl _) o
set_option maxHeartbeats 400000 in
theorem fnChannel.env_of {W : World} (hsh : W.ShapedOpen Tryd.prog) (h : laidMetH Tryd.prog Rows.fnChannelRow.laid W) : Env W := by
  rw [MakeChecks.laidMetH_plain _ _ _ (by kernel_rfl)] at h
  have hT : Tab W := Lib.tabIs_of_head tabVar (by kernel_rfl) Tryd.underlying190 Tryd.underlying134 (by kernel_rfl) (by kernel_rfl) h.tail.tail
  obtain ⟨a0, s0, hv0, -, -, -⟩ := laid_sentinel h.tail.tail.tail.tail ranVar (by kernel_rfl) Tryd.underlying138 rowErr Tryd.underlying195 Tryd.underlying197 rfl rfl Tryd.underlying9 (by kernel_rfl) (by kernel_rfl)
  obtain ⟨a1, s1, hv1, -, -, -⟩ := laid_sentinel h.tail.tail.tail.tail.tail synVar (by kernel_rfl) Tryd.underlying138 rowErr Tryd.underlying195 Tryd.underlying197 rfl rfl Tryd.underlying9 (by kernel_rfl) (by kernel_rfl)
  exact ⟨hT, ⟨_, _, hv1⟩, ⟨_, _, hv0⟩, cell_of_shapedOpen_int (zero := #[.int .i64 0]) (t := 3) hsh (of_decide_eq_true (by kernel_rfl)) (by kernel_rfl) rfl (by kernel_rfl) (by kernel_rfl) Tryd.underlying3⟩
namespace fnChannel
open Go.ChangeShapes Go.WideShapes Go.ChangeAt Go.RowKit
set_option linter.unusedVariables false
set_option maxHeartbeats 3200000 in
theorem walk (W : World) (A0 : Option Addr) (c0 : Nat) (L0 : List Int) (s0 : Sl W W.heap.size A0 (bytesL L0)) (b0 : ∀ z ∈ L0, IntKind.u8.has z) (m0 : L0.length ≤ maxLen) (A1 : Option Addr) (c1 : Nat) (L1 : List Int) (s1 : Sl W W.heap.size A1 (bytesL L1)) (b1 : ∀ z ∈ L1, IntKind.u8.has z) (m1 : L1.length ≤ maxLen) (hE : Env W) :
    Calls Tryd.prog 6 #[.slice A0 L0.length c0, .slice A1 L1.length c1] W fun e w' => e = .returned (.bool true) ∧ Below W.heap.size W w' := by
  have s0' := Lib.hid s0
  have s1' := Lib.hid s1
  have hE' := Lib.hid hE
  clear s0 s1 hE
  obtain ⟨q, hq⟩ : ∃ q, (decide (1048576 < L0.length) || decide (1048576 < L1.length)) = q := ⟨_, rfl⟩
  have h8 := fun w => long8_any L0.length L1.length c0 c1 A0 A1 w m0 m1
  rw [hq] at h8
  cases q
  rotate_left
  · clear hq
    go_enter Tryd.func6, Tryd.ntmps6
    go_wp2_with fail
    refine (h8 _).mono ?_
    rintro e w' ⟨rfl, rfl⟩
    go_wp2
    go_ret
    exact ⟨rfl, Below.refl _ _⟩
  have hl : L0.length ≤ 1048576 ∧ L1.length ≤ 1048576 := by simp at hq; omega
  clear hq
  have B0 := Lib.hid b0
  have B1 := Lib.hid b1
  clear b0 b1
  go_enter Tryd.func6, Tryd.ntmps6
  go_wp2_with fail
  refine (h8 _).mono ?_
  rintro e w' ⟨rfl, rfl⟩
  clear h8
  go_wp2_with fail
  refine (r8_channel L0 A0 c0 W.heap.size W s0'.out (Nat.le_refl _) B0.out hl.1).mono ?_
  rintro e w1 ⟨nm, v, P, wd, rfl, hb1, hR, hgood⟩
  have hvc := good_chan hgood
  have hnm := hgood.1.2
  have hPl := hgood.2.2.1
  have hnx : nm.size ≤ maxLen := by unfold maxLen; omega
  clear hgood
  obtain ⟨A2, c2, rfl, hsl⟩ := hR.sl
  clear hR
  have hvq := vChan_rev hvc
  have hvl := vChan_is hvc
  have hpos := lenM_pos hvl.1 hvl.2.1.1
  have hlb := lenM_le hvl.1 hvl.2.1.2
  have hrl := rev_lenM P (by omega)
  have hback := chan_back hvc
  have htxt := chan_size hvc (by omega) (by omega)
  have hplc := fun d (h0 : 0 ≤ d) (h1 : d ≤ lenM P) => rev_place (d := d) hvl.2.1.1 (line_pos hvl.1) h0 h1
  have hok := fun d (h0 : 0 ≤ d) (h1 : d ≤ lenM P) => place_ok (d := d) hvl.1 hvl.2.1.1 h0 h1
  have hnear := fun d (h0 : 0 ≤ d) (h1 : d ≤ lenM P) => place_near (d := d) hvl.2.1.1 (line_pos hvl.1) h0 h1
  obtain ⟨Q, hQ⟩ : ∃ Q, P.reverse = Q := ⟨_, rfl⟩
  have hQl : Q.length = P.length := by rw [← hQ, List.length_reverse]
  have hQQ : Q.reverse = P := by rw [← hQ, List.reverse_reverse]
  rw [hQ] at hvq hrl hplc
  have hRev := fun w B hP hB => impl_RevChan nm hnx P A2 c2 B wd w hP hB (by omega) hvc
  have hLen := fun w B hP hB => impl_ChanLen nm hnx P A2 c2 B wd w hP hB (by omega) hvc
  have hPla := fun w B d hP hB h => impl_PlaceA nm hnx P A2 c2 B wd d w hP hB (by omega) hvc h
  have hInC := fun w B x y hP hB hv hn => impl_InChan nm hnx P A2 c2 B wd x y w hP hB (by omega) hvc hv hn
  rw [hQ] at hRev
  have hbh := Lib.hid hback
  have hkh := Lib.hid (And.intro hplc (And.intro hok hnear))
  have hvq' := Lib.hid hvq
  have hQQ' := Lib.hid hQQ
  have hQl' := Lib.hid hQl
  clear hvc hvl hback hplc hok hnear hvq hQQ hQl hQ
  have hC5 := Cz.new w1 nm A2 P.length c2 wd 71
  have hBa : Below W.heap.size W (w1.alloc (.cells #[.string nm, .slice A2 P.length c2, .int .i64 wd] 71)) := bnext hb1 (below_al _)
  obtain ⟨hzl, z0, z1, z2⟩ := id hC5
  go_wp2_with fail
  refine (hRev _ _ (hsl.nx (below_al _)) (Nat.le_refl _)).mono ?_
  rintro e w2 ⟨v2, rfl, hb2, hR2⟩
  obtain ⟨A3, c3, rfl, hsl3⟩ := hR2.sl
  have hB2 := bnext hBa hb2
  have hC5 := hC5.on hb2
  have hsl := (hsl.nx (below_al (.cells #[.string nm, .slice A2 P.length c2, .int .i64 wd] 71))).nx hb2
  clear hR2 hRev hb2 hBa z0 z1 z2 hzl hb1
  have hC6 := Cz.new w2 nm A3 P.length c3 wd 71
  have hC5 := hC5.on (below_al (.cells #[.string nm, .slice A3 P.length c3, .int .i64 wd] 71))
  have hBb := bnext hB2 (below_al (.cells #[.string nm, .slice A3 P.length c3, .int .i64 wd] 71))
  have hslQ := hsl3.nx (below_al (.cells #[.string nm, .slice A3 P.length c3, .int .i64 wd] 71))
  obtain ⟨hzl, z0, z1, z2⟩ := id hC5
  obtain ⟨hyl, y0, y1, y2⟩ := id hC6
  go_wp2_with fail
  have hslP := hsl.nx (below_al (.cells #[.string nm, .slice A3 P.length c3, .int .i64 wd] 71))
  have hRevQ := fun w B hP hB => impl_RevChan nm hnx Q A3 c3 B wd w hP hB (by have := hQl'.out; omega) hvq'.out
  have hLenQ := fun w B hP hB => impl_ChanLen nm hnx Q A3 c3 B wd w hP hB (by have := hQl'.out; omega) hvq'.out
  have hPlaQ := fun w B d hP hB h => impl_PlaceA nm hnx Q A3 c3 B wd d w hP hB (by have := hQl'.out; omega) hvq'.out h
  rw [hQl'.out, hQQ'.out] at hRevQ
  rw [hQl'.out, hrl] at hLenQ
  rw [hQl'.out, hrl] at hPlaQ
  clear hsl hsl3 hB2 hrl
  obtain ⟨n, hn⟩ : ∃ n, lenM P = n := ⟨_, rfl⟩
  rw [hn] at hLen hPla hLenQ hPlaQ hlb hpos hkh
  clear hn
  refine (hLen _ _ hslP (Nat.le_refl _)).mono ?_
  rintro e w3 ⟨rfl, hb3⟩
  have hB3 := bnext hBb hb3
  replace hC5 := hC5.on hb3
  replace hC6 := hC6.on hb3
  replace hslP := hslP.nx hb3
  replace hslQ := hslQ.nx hb3
  clear hzl z0 z1 z2 hyl y0 y1 y2
  obtain ⟨hzl, z0, z1, z2⟩ := id hC5
  obtain ⟨hyl, y0, y1, y2⟩ := id hC6
  clear hLen
  go_wp2_with fail
  refine (hLenQ _ _ hslQ (Nat.le_refl _)).mono ?_
  rintro e w4 ⟨rfl, hb4⟩
  have hB4 := bnext hB3 hb4
  replace hC5 := hC5.on hb4
  replace hC6 := hC6.on hb4
  replace hslP := hslP.nx hb4
  replace hslQ := hslQ.nx hb4
  clear hzl z0 z1 z2 hyl y0 y1 y2
  obtain ⟨hzl, z0, z1, z2⟩ := id hC5
  obtain ⟨hyl, y0, y1, y2⟩ := id hC6
  clear hLenQ
  go_wp2_with fail
  refine (r8Wide_any L1 A1 c1 W.heap.size 0 (n + 1) _ (s1'.out.below hB4) B1.out hl.2 (by omega) (by omega) (by omega)).mono ?_
  rintro e w' ⟨d, hd, rfl, rfl⟩
  obtain ⟨k1, k2, k3⟩ := hkh.out
  have e1 := k1 d hd.1 (by omega)
  have e2 := k2 d hd.1 (by omega)
  have e3 := k3 d hd.1 (by omega)
  have hPd := fun w B hP hB => hPla w B d hP hB ⟨hd.1, by omega⟩
  have hPq := fun w B hP hB => hPlaQ w B (n - d) hP hB ⟨by omega, by omega⟩
  rw [e1] at hPq
  clear k1 k2 k3 hkh hPla hPlaQ e1
  have hIn := fun w B hP hB => hInC w B _ _ hP hB e2 e3
  generalize (placeM P d).1 = X at hPd hPq hIn
  generalize (placeM P d).2 = Y at hPd hPq hIn
  clear hInC e2 e3
  go_wp2_with fail
  refine (hPd _ _ hslP (Nat.le_refl _)).mono ?_
  rintro e w5 ⟨rfl, hb5⟩
  have hB5 := bnext hB4 hb5
  replace hC5 := hC5.on hb5
  replace hC6 := hC6.on hb5
  replace hslP := hslP.nx hb5
  replace hslQ := hslQ.nx hb5
  clear hzl z0 z1 z2 hyl y0 y1 y2
  obtain ⟨hzl, z0, z1, z2⟩ := id hC5
  obtain ⟨hyl, y0, y1, y2⟩ := id hC6
  have hB5a := bnext hB5 (below_al (w := w5) (.cells #[.int .i64 X, .int .i64 Y] 38))
  replace hC5 := hC5.on (below_al (w := w5) (.cells #[.int .i64 X, .int .i64 Y] 38))
  replace hC6 := hC6.on (below_al (w := w5) (.cells #[.int .i64 X, .int .i64 Y] 38))
  replace hslP := hslP.nx (below_al (w := w5) (.cells #[.int .i64 X, .int .i64 Y] 38))
  replace hslQ := hslQ.nx (below_al (w := w5) (.cells #[.int .i64 X, .int .i64 Y] 38))
  clear hzl z0 z1 z2 hyl y0 y1 y2
  obtain ⟨hzl, z0, z1, z2⟩ := id hC5
  obtain ⟨hyl, y0, y1, y2⟩ := id hC6
  have hP13 : PtB (w5.alloc (.cells #[.int .i64 X, .int .i64 Y] 38)) w5.heap.size X Y := ⟨by simp, by simp, by simp⟩
  clear hPd
  go_wp2_with fail
  refine (hPq _ _ hslQ (Nat.le_refl _)).mono ?_
  rintro e w6 ⟨rfl, hb6⟩
  replace hP13 := hP13.on hb6
  have hB6 := bnext hB5a hb6
  replace hC5 := hC5.on hb6
  replace hC6 := hC6.on hb6
  replace hslP := hslP.nx hb6
  replace hslQ := hslQ.nx hb6
  clear hzl z0 z1 z2 hyl y0 y1 y2
  obtain ⟨hzl, z0, z1, z2⟩ := id hC5
  obtain ⟨hyl, y0, y1, y2⟩ := id hC6
  have hB6a := bnext hB6 (below_al (w := w6) (.cells #[.int .i64 X, .int .i64 Y] 38))
  replace hC5 := hC5.on (below_al (w := w6) (.cells #[.int .i64 X, .int .i64 Y] 38))
  replace hC6 := hC6.on (below_al (w := w6) (.cells #[.int .i64 X, .int .i64 Y] 38))
  replace hslP := hslP.nx (below_al (w := w6) (.cells #[.int .i64 X, .int .i64 Y] 38))
  replace hslQ := hslQ.nx (below_al (w := w6) (.cells #[.int .i64 X, .int .i64 Y] 38))
  clear hzl z0 z1 z2 hyl y0 y1 y2
  obtain ⟨hzl, z0, z1, z2⟩ := id hC5
  obtain ⟨hyl, y0, y1, y2⟩ := id hC6
  replace hP13 := hP13.on (below_al (.cells #[.int .i64 X, .int .i64 Y] 38))
  have hP15 : PtB (w6.alloc (.cells #[.int .i64 X, .int .i64 Y] 38)) w6.heap.size X Y := ⟨by simp, by simp, by simp⟩
  clear hPq
  go_wp2_with fail
  refine (hRevQ _ _ hslQ (Nat.le_refl _)).mono ?_
  rintro e w7 ⟨v7, rfl, hb7, hR7⟩
  obtain ⟨A7, c7, rfl, hsl7⟩ := hR7.sl
  replace hP13 := hP13.on hb7
  replace hP15 := hP15.on hb7
  have hB7 := bnext hB6a hb7
  replace hC5 := hC5.on hb7
  replace hC6 := hC6.on hb7
  replace hslP := hslP.nx hb7
  replace hslQ := hslQ.nx hb7
  clear hzl z0 z1 z2 hyl y0 y1 y2
  obtain ⟨hzl, z0, z1, z2⟩ := id hC5
  obtain ⟨hyl, y0, y1, y2⟩ := id hC6
  have hB7a := bnext hB7 (below_al (w := w7) (.cells #[.string nm, .slice A7 P.length c7, .int .i64 wd] 71))
  replace hC5 := hC5.on (below_al (w := w7) (.cells #[.string nm, .slice A7 P.length c7, .int .i64 wd] 71))
  replace hC6 := hC6.on (below_al (w := w7) (.cells #[.string nm, .slice A7 P.length c7, .int .i64 wd] 71))
  replace hslP := hslP.nx (below_al (w := w7) (.cells #[.string nm, .slice A7 P.length c7, .int .i64 wd] 71))
  replace hslQ := hslQ.nx (below_al (w := w7) (.cells #[.string nm, .slice A7 P.length c7, .int .i64 wd] 71))
  clear hzl z0 z1 z2 hyl y0 y1 y2
  obtain ⟨hzl, z0, z1, z2⟩ := id hC5
  obtain ⟨hyl, y0, y1, y2⟩ := id hC6
  have hC17 := Cz.new w7 nm A7 P.length c7 wd 71
  replace hsl7 := hsl7.nx (below_al (.cells #[.string nm, .slice A7 P.length c7, .int .i64 wd] 71))
  replace hP13 := hP13.on (below_al (.cells #[.string nm, .slice A7 P.length c7, .int .i64 wd] 71))
  replace hP15 := hP15.on (below_al (.cells #[.string nm, .slice A7 P.length c7, .int .i64 wd] 71))
  clear hRevQ hR7
  go_wp2_with fail
  refine (impl_ChanText nm (by omega) P A2 c2 _ wd _ hslP (Nat.le_refl _) (by omega) (hE'.out.on hB7a).tab).mono ?_
  rintro e w8 ⟨rfl, hb8⟩
  replace hP13 := hP13.on hb8
  replace hP15 := hP15.on hb8
  replace hC17 := hC17.on hb8
  replace hsl7 := hsl7.nx hb8
  have hB8 := bnext hB7a hb8
  replace hC5 := hC5.on hb8
  replace hC6 := hC6.on hb8
  replace hslP := hslP.nx hb8
  replace hslQ := hslQ.nx hb8
  clear hzl z0 z1 z2 hyl y0 y1 y2
  obtain ⟨hzl, z0, z1, z2⟩ := id hC5
  obtain ⟨hyl, y0, y1, y2⟩ := id hC6
  go_wp2_with fail
  refine (impl_RChan (chanX nm P wd) htxt _ (hE'.out.on hB8)).mono ?_
  rintro e w9 ⟨v9, rfl, hb9, hR9⟩
  rw [hbh.out.2.2.1] at hR9
  rw [hbh.out.2.1, hbh.out.2.2.2, hbh.out.1]
  obtain ⟨A9, c9, rfl, hsl9⟩ := hR9.sl
  replace hP13 := hP13.on hb9
  replace hP15 := hP15.on hb9
  replace hC17 := hC17.on hb9
  replace hsl7 := hsl7.nx hb9
  have hB9 := bnext hB8 hb9
  replace hC5 := hC5.on hb9
  replace hC6 := hC6.on hb9
  replace hslP := hslP.nx hb9
  replace hslQ := hslQ.nx hb9
  clear hzl z0 z1 z2 hyl y0 y1 y2
  obtain ⟨hzl, z0, z1, z2⟩ := id hC5
  obtain ⟨hyl, y0, y1, y2⟩ := id hC6
  have hal := below_al (w := w9) (.cells #[.string nm, .slice A9 P.length c9, .int .i64 wd] 71)
  have hB9a := bnext hB9 (below_al (w := w9) (.cells #[.string nm, .slice A9 P.length c9, .int .i64 wd] 71))
  replace hC5 := hC5.on (below_al (w := w9) (.cells #[.string nm, .slice A9 P.length c9, .int .i64 wd] 71))
  replace hC6 := hC6.on (below_al (w := w9) (.cells #[.string nm, .slice A9 P.length c9, .int .i64 wd] 71))
  replace hslP := hslP.nx (below_al (w := w9) (.cells #[.string nm, .slice A9 P.length c9, .int .i64 wd] 71))
  replace hslQ := hslQ.nx (below_al (w := w9) (.cells #[.string nm, .slice A9 P.length c9, .int .i64 wd] 71))
  clear hzl z0 z1 z2 hyl y0 y1 y2
  obtain ⟨hzl, z0, z1, z2⟩ := id hC5
  obtain ⟨hyl, y0, y1, y2⟩ := id hC6
  have hC19 := Cz.new w9 nm A9 P.length c9 wd 71
  replace hP13 := hP13.on hal
  replace hP15 := hP15.on hal
  replace hC17 := hC17.on hal
  replace hsl7 := hsl7.nx hal
  replace hsl9 := hsl9.nx hal
  obtain ⟨p0, p1, p2⟩ := id hP13
  obtain ⟨p3, p4, p5⟩ := id hP15
  clear hal hR9
  go_wp2_with fail
  refine (hIn _ _ hslP (Nat.le_refl _)).mono ?_
  rintro e w10 ⟨rfl, hb10⟩
  have hB10 := bnext hB9a hb10
  replace hC5 := hC5.on hb10
  replace hC17 := hC17.on hb10
  replace hC19 := hC19.on hb10
  replace hslP := hslP.nx hb10
  replace hsl7 := hsl7.nx hb10
  replace hsl9 := hsl9.nx hb10
  clear hzl z0 z1 z2 hyl y0 y1 y2 p0 p1 p2 p3 p4 p5 hP13 hP15 hC6 hslQ hIn
  obtain ⟨hzl, z0, z1, z2⟩ := id hC5
  obtain ⟨hyl, y0, y1, y2⟩ := id hC17
  obtain ⟨hxl, x0, x1, x2⟩ := id hC19
  go_wp2_with fail
  refine (spec_SameChan nm P A7 A2 c7 c2 _ wd _ hsl7 hslP (Nat.le_refl _) (by omega)).mono ?_
  rintro e w11 ⟨rfl, hb11⟩
  have hB11 := bnext hB10 hb11
  replace hC5 := hC5.on hb11
  replace hC19 := hC19.on hb11
  replace hslP := hslP.nx hb11
  replace hsl9 := hsl9.nx hb11
  clear hzl z0 z1 z2 hyl y0 y1 y2 hxl x0 x1 x2 hC17 hsl7
  obtain ⟨hzl, z0, z1, z2⟩ := id hC5
  obtain ⟨hxl, x0, x1, x2⟩ := id hC19
  go_wp2_with fail
  refine (spec_SameChan nm P A9 A2 c9 c2 _ wd _ hsl9 hslP (Nat.le_refl _) (by omega)).mono ?_
  rintro e w12 ⟨rfl, hb12⟩
  go_wp2
  go_ret
  exact ⟨rfl, bnext hB11 hb12⟩

theorem lifted (os : Os) (started : os.Started) (H : Type) (enc : TypeId × Value → H) :
    ReturnsInHanded {} Tryd.checked os 6 .any (fun w args => (Rows.fnChannelSpec.pre enc Tryd.prog Tryd.f6 Rows.fnChannelRow.domain false w args ∧ laidMetH Tryd.prog Rows.fnChannelRow.laid w) ∧ sizedMet enc Tryd.prog Tryd.f6 (OpenSpec.ofChange Rows.fnChannelSpec) false w args) (Rows.fnChannelSpec.post enc Tryd.prog Tryd.f6 false true false false) := by
  refine change_sh (C := Tryd.checked) (X := fun w _ => laidMetH Tryd.prog Rows.fnChannelRow.laid w) (fun _ _ _ hh h => h.of_heap hh) own started (by kernel_rfl) Tryd.func6
    (ChangeSpec.witness_shaped (enc := enc) (C := Tryd.checked) (os := os) (X := fun w _ => laidMetH Tryd.prog Rows.fnChannelRow.laid w) false (World.laidAll Tryd.prog os Rows.fnChannelRow.laid) #[.slice none 0 0, .slice none 0 0] 8 (World.laidAll_os _ _ _)
      (World.shaped_of_ZipB (by kernel_rfl) (by kernel_rfl)) (by kernel_rfl) (by kernel_rfl) (by kernel_rfl)
      (by rw [MakeChecks.laidMetH_plain _ _ _ (by kernel_rfl)]; exact laidMet_laidAll _ (by kernel_rfl) (by kernel_rfl))) ?_
  intro W base args ds gs before hval0 hW hcnd _ hsh hL _
  have hval : ∀ (j : Nat) t v, Tryd.f6.params[j]? = some t → args[j]? = some v → Value.okWide Tryd.prog W .any base t v := hval0
  have hW' := hW
  obtain ⟨p, q, hA0, hV, rfl, hfz, hnd⟩ := hW
  have hA : DataW.TrodAll enc Tryd.prog W 0 (fun _ => true) true Tryd.f6.params.toList args.toList ds p := hA0
  rw [Tryd.params6] at hA hval
  obtain ⟨v0, vs0, d0, ds0, p0, q0, hargs, rfl, rfl, h0, r0⟩ := trodAll_cons hA
  obtain ⟨v1, vs1, d1, ds1, p1, q1, rfl, rfl, rfl, h1, r1⟩ := trodAll_cons r0
  obtain ⟨rfl, rfl, rfl⟩ := trodAll_nil r1
  obtain rfl : args = #[v0, v1] := by cases args; simp_all
  have g0 := h0
  have g1 := h1
  obtain ⟨rfl, rfl⟩ := trodVars_none hV
  clear hA0 hval0
  simp only [List.append_nil] at hW'
  have hlt : ∀ x ∈ p0 ++ (p1), x.block < W.heap.size := fun x hx => by simpa using hW'.lt x (by simpa using hx)
  obtain ⟨fu0, hf0⟩ := h0
  obtain ⟨A0, c0, L0, hv0, s0, b0, m0⟩ := open_row8 Tryd.underlying22 Tryd.underlying5 (by kernel_rfl) hf0
  obtain ⟨va0, vl0, vc0, rfl⟩ := Go.WideShapes.okWide_slice Tryd.underlying22 (hval 0 22 _ rfl rfl)
  obtain ⟨rfl, rfl, rfl⟩ : A0 = va0 ∧ L0.length = vl0 ∧ c0 = vc0 := by have := hv0; simp [Value.cells] at this; exact ⟨this.1.symm, this.2.1.symm, this.2.2.symm⟩
  obtain ⟨fu1, hf1⟩ := h1
  obtain ⟨A1, c1, L1, hv1, s1, b1, m1⟩ := open_row8 Tryd.underlying22 Tryd.underlying5 (by kernel_rfl) hf1
  obtain ⟨va1, vl1, vc1, rfl⟩ := Go.WideShapes.okWide_slice Tryd.underlying22 (hval 1 22 _ rfl rfl)
  obtain ⟨rfl, rfl, rfl⟩ : A1 = va1 ∧ L1.length = vl1 ∧ c1 = vc1 := by have := hv1; simp [Value.cells] at this; exact ⟨this.1.symm, this.2.1.symm, this.2.2.symm⟩
  refine (walk W A0 c0 L0 s0 b0 m0 A1 c1 L1 s1 b1 m1 (env_of hsh hL)).mono fun e W' ⟨he, hg⟩ => ?_
  subst he
  exact ⟨_, rfl, post_below (pa := _) hW' (trodAll_cons_mk (shut_bool Tryd.underlying4 _) trodAll_mk0) (trodAll_cons_mk (Below.trod laidOut (by kernel_rfl) (of_decide_eq_true (by kernel_rfl)) g0 hg (fun x hx => hlt x (by simp [hx]))) (trodAll_cons_mk (Below.trod laidOut (by kernel_rfl) (of_decide_eq_true (by kernel_rfl)) g1 hg (fun x hx => hlt x (by simp [hx]))) trodAll_mk0)) rfl (by simp) hg⟩

theorem over : Rows.fnChannelRow.holds Tryd.pinned (OpenSpec.ofChange Rows.fnChannelSpec) :=
  OpenClaim.holds_of_wide 6 Tryd.f6 rfl rfl rfl rfl rfl rfl rfl ⟨rfl, rfl, rfl, rfl, rfl⟩ rfl rfl rfl rfl rfl (by kernel_rfl) Tryd.func6 (by kernel_rfl)
    (of_decide_eq_true (by kernel_rfl)) (by unfold Func.isWrapper; first | (rw [if_pos (by decide +kernel)]; kernel_rfl) | (rw [if_neg (by decide +kernel)]; exact ⟨rfl, rfl⟩))
    (fun os started H enc _ => lifted os started H enc)

theorem proved : Rows.FnChannelCardSaid :=
  Claim7.holds_tied_plain_at .later [] [.data, .data, .data, .data, .sentinel, .sentinel, .pinned] true (true, "e54f5df195bea41d14e2fbc87614cac5e33ca53fba120000ed3c95be4f5f1514") true over (fun _ h => by cases h) (by kernel_rfl) (fun _ h => by cases h) fnChannel_row_tie rfl ⟨rfl, rfl⟩ (by kernel_rfl) rfl
    (fun f fn hf hfn => by
      obtain rfl : f = 6 := Option.some.inj ((show Tryd.prog.funcNamed "loop.example/g00953/laws.FnChannel" = some 6 by kernel_rfl).symm.trans hf) |>.symm
      obtain rfl : fn = Tryd.f6 := (Option.some.inj (Tryd.func6.symm.trans hfn)).symm
      exact ⟨by kernel_rfl, fun j t ht => by
        rw [Tryd.params6] at ht
        have hm : t ∈ [22, 22] := by simpa using Array.mem_of_getElem? ht
        have hall : ([22, 22].all fun u => !Tryd.prog.wantsStandIn u) = true := by kernel_rfl
        exact (show Tryd.prog.wantsStandIn t = false by simpa using List.all_eq_true.1 hall t hm)⟩)
    (by kernel_rfl)
#print axioms proved
end fnChannel

end Go.Proofs.YtbikppndhidbpaaDoor
