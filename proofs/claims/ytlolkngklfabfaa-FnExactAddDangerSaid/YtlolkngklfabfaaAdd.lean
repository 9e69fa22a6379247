/-
  Contracts of a danger added to a list, second part: the library's Insert at dangers, the program's and the reference's adding. Each under the conditions that it states.
-/
import Derived.Test.YtlolkngklfabfaaAddD
import Derived.Deep.RegionLaw
import Derived.Shelf.RegionOpenPlain
set_option linter.unusedVariables false
set_option linter.unnecessarySimpa false
set_option maxRecDepth 100000
set_option linter.unusedSimpArgs false
namespace Go.Proofs.Ytlolkngklfabfaa
open Go.RowKit BigFrame Go.Deep

theorem own_of_owns {w : World} {B n cap sz g : Nat} {e : TypeId} {xs : List Value} (h : w.ownsRow B e sz (.slice (some ⟨g, 0, none⟩) n cap) n xs) : Own w g e (cap * sz) xs := by
  obtain ⟨hl, h | ⟨g', cap', cur, e', hb, hh, hn, hm, hs, ht⟩⟩ := h
  · cases h.1
  · cases e'
    refine ⟨cur, hh, hs, ?_, fun j u hu => ?_⟩
    · rw [hl]; exact Nat.mul_le_mul_right _ hn
    · rw [← ht, List.getElem?_take] at hu
      split at hu
      · simpa using hu
      · cases hu
theorem owns_of_own {w : World} {n sz g : Nat} {e : TypeId} {xs : List Value} (h : Own w g e (n * sz) xs) (hx : xs.length = n * sz) (hn : n ≤ maxLen) : w.ownsRow g e sz (.slice (some ⟨g, 0, none⟩) n n) n xs := by
  obtain ⟨cur, hh, hs, hl, hc⟩ := h
  refine ⟨hx, .inr ⟨g, n, cur, rfl, Nat.le_refl _, hh, Nat.le_refl _, hn, hs, ?_⟩⟩
  apply List.ext_getElem?
  intro k
  rw [List.getElem?_take]
  split
  · rename_i hk
    rw [List.getElem?_eq_getElem (show k < xs.length by omega)]
    have := hc k _ (List.getElem?_eq_getElem (show k < xs.length by omega))
    simpa using this
  · rw [List.getElem?_eq_none (by omega)]
theorem Sl.cells {w : World} {B : Nat} {ad : Addr} {xs : List Value} (h : Sl w B (some ad) xs) : ∀ j u, xs[j]? = some u → w.cell? (ad.add j) = some u := by
  intro j u hu
  obtain ⟨b, o, e, hb, hc⟩ := h (by intro e; rw [e] at hu; simp at hu)
  cases e
  rw [Addr.add_lit]
  exact hc j u hu
theorem new_cells (w : World) (cs : List Value) (t : TypeId) : ∀ j u, cs[j]? = some u → (w.alloc (.cells cs.toArray t)).cell? ((⟨w.heap.size, 0, none⟩ : Addr).add j) = some u :=
  Sl.cells (Sl.new w cs.toArray t)
theorem Own.whole (w : World) (cur : Array Value) (t : TypeId) : Own (w.alloc (.cells cur t)) w.heap.size t cur.size cur.toList :=
  ⟨cur, heap_alloc_new w _, rfl, by simp, fun j u hu => by simpa using hu⟩

set_option maxHeartbeats 400000 in
theorem clone_Danger (L : List RDanger) (g o c B : Nat) (w : World) (hs : Sl w B (some ⟨g, o, none⟩) (flat RDanger.cells L)) (hB : B ≤ w.heap.size) (hl : L.length ≤ 1048576) :
    Calls Try.prog 88 #[.slice (some ⟨g, o, none⟩) L.length c] w fun e w' => e = .returned (.slice (some ⟨w.heap.size, 0, none⟩) L.length L.length) ∧ Below w.heap.size w w' ∧ Own w' w.heap.size 44 (L.length * 4) (flat RDanger.cells L) := by
  obtain ⟨i0, hi, ie0, ie1, ie2⟩ := info_parts infoDang
  have hmk : ∀ w : World, (Instr.makeSlice 38 (.int .i64 0) (.int .i64 L.length)).run Try.prog w = .ok (.slice (some ⟨w.heap.size, 0, none⟩) 0 L.length) (w.alloc (.cells (madeCells #[.string ⟨#[]⟩, .int .i64 0, .int .i64 0, .int .i64 0] (L.length * 4)) 44)) := fun w => by
    have := run_make w 38 44 i0 _ Try.underlying38 hi ie0 .i64 .i64 0 L.length (by omega) (by omega) (by rw [ie2]; omega) (by omega)
    have ec : (Value.agg #[.string ⟨#[]⟩, .int .i64 0, .int .i64 0, .int .i64 0]).cells = #[.string ⟨#[]⟩, .int .i64 0, .int .i64 0, .int .i64 0] := rfl
    rw [ie1, ec] at this
    simpa using this
  have hO : (w.alloc (.cells (madeCells #[.string ⟨#[]⟩, .int .i64 0, .int .i64 0, .int .i64 0] (L.length * 4)) 44)).ownsRow w.heap.size 44 4 (.slice (some ⟨w.heap.size, 0, none⟩) 0 L.length) 0 [] := World.ownsRow_made w _ L.length (Nat.le_refl _) (by unfold maxLen; omega) (by rw [size_madeCells])
  have hc : ∀ j u, (flat RDanger.cells L)[j]? = some u → (w.alloc (.cells (madeCells #[.string ⟨#[]⟩, .int .i64 0, .int .i64 0, .int .i64 0] (L.length * 4)) 44)).cell? ((⟨g, o, none⟩ : Addr).add j) = some u := Sl.cells (hs.below ((Below.refl B w).alloc hB _))
  have hc' := Lib.hid hc
  have hO' := Lib.hid hO
  have hn : (flat RDanger.cells L).length = L.length * 4 := flat_len RDanger.len L
  have hB0 : Below w.heap.size w (w.alloc (.cells (madeCells #[.string ⟨#[]⟩, .int .i64 0, .int .i64 0, .int .i64 0] (L.length * 4)) 44)) := by go_grown
  clear hc hO hs
  obtain ⟨X, hX⟩ : ∃ X, flat RDanger.cells L = X := ⟨_, rfl⟩
  have h1 := Lib.hid (flat_one RDanger.one L)
  rw [hX] at hc' hn h1 ⊢
  go_enter Try.func88, Try.ntmps88
  go_wp2_with (at_builtin; refine wpList_append_fits _ rfl _ _ 38 rfl w.heap.size 44 i0 4 Try.underlying38 hi ie1 w.heap.size 0 L.length [] rfl hO'.out ⟨g, o, none⟩ L.length c X rfl hn hc'.out h1.out (by omega) ?_)
  intro w1 hown hgr
  have hBn := hB0.grown hgr (by simp) (fun k e => by cases e; exact Nat.le_refl _)
  try rw [Nat.zero_add] at hown
  try rw [List.nil_append] at hown
  have hOw := own_of_owns hown
  clear hown hgr
  go_wp2
  go_ret
  exact ⟨by simp, hBn, hOw⟩

/-- What an Insert leaves. -/
def InsPost (L : List RDanger) (g i : Nat) (d : RDanger) (w : World) (e : Ending) (w' : World) : Prop := ∃ v, e = .returned v ∧ w.grownBy w' (some g) ∧ ∀ B, B ≤ g → B ≤ w.heap.size → Rs w' B 44 4 v (L.length + 1) (flat RDanger.cells (L.take i ++ d :: L.drop i))
theorem ins_len (L : List RDanger) (i : Nat) (d : RDanger) (hi : i ≤ L.length) : (L.take i ++ d :: L.drop i).length = L.length + 1 := by
  rw [List.length_append, List.length_take, List.length_cons, List.length_drop]; omega
set_option maxHeartbeats 1600000 in
theorem ins_end (L : List RDanger) (g vb vc : Nat) (d : RDanger) (w : World) (hO : Own w g 44 (L.length * 4) (flat RDanger.cells L)) (hv : ∀ j u, d.cells[j]? = some u → w.cell? ((⟨vb, 0, none⟩ : Addr).add j) = some u) (hl : L.length ≤ 1000) :
    Calls Try.prog 87 #[.slice (some ⟨g, 0, none⟩) L.length L.length, .int .i64 L.length, .slice (some ⟨vb, 0, none⟩) 1 vc] w (InsPost L g L.length d w) := by
  obtain ⟨i0, hi, ie0, ie1, ie2⟩ := info_parts infoDang
  have hown := owns_of_own hO (flat_len RDanger.len L) (by unfold maxLen; omega)
  have hg := hO.lt
  have hfl : Hid (flat RDanger.cells (L.take L.length ++ d :: L.drop L.length) = flat RDanger.cells L ++ d.cells) := Lib.hid (by rw [List.take_length, List.drop_length, flat_append]; simp [flat])
  obtain ⟨X, hX⟩ : ∃ X, flat RDanger.cells L = X := ⟨_, rfl⟩
  have h1 := Lib.hid (RDanger.one d)
  rw [hX] at hown hfl
  have hown' := Lib.hid hown
  have hv' := Lib.hid hv
  clear hown hv hO hX
  go_enter Try.func87, Try.ntmps87
  go_wp2_with (at_builtin; refine wpList_append_own _ rfl _ _ 38 rfl g 44 i0 (.agg #[.string ⟨#[]⟩, .int .i64 0, .int .i64 0, .int .i64 0]) 4 40 Try.underlying38 hi ie0 ie1 ie2 rfl (by decide) _ _ _ rfl hown'.out ⟨vb, 0, none⟩ 1 vc d.cells rfl rfl hv'.out h1.out ?c3 ?c4 (Nat.le_of_lt hg) ?_)
  case c3 => unfold maxLen; omega
  case c4 => omega
  intro v' wn hown2 hgrow _
  go_wp2
  go_ret
  refine ⟨v', rfl, hgrow, fun B hB hB2 => ?_⟩
  rw [hfl.out]
  exact (Rs.of_owns hown2).more hB
theorem setCells_drew (b : Nat) : ∀ (cs : List Value) (o : Nat) (w : World), w.drew.setCells b o cs = (w.setCells b o cs).drew
  | [], _, _ => rfl
  | v :: r, o, w => setCells_drew b r (o + 1) (w.setCell ⟨b, o, none⟩ v)
theorem zero_len (k : Nat) : (Builtin.zeroCells #[.string ⟨#[]⟩, .int .i64 0, .int .i64 0, .int .i64 0] k).size = k * 4 := by simp [Builtin.zeroCells]
set_option maxHeartbeats 4000000 in
theorem ins_mid (L : List RDanger) (g i vb vc : Nat) (d : RDanger) (w : World) (hO : Own w g 44 (L.length * 4) (flat RDanger.cells L)) (hv : ∀ j u, d.cells[j]? = some u → w.cell? ⟨vb, j, none⟩ = some u) (hin : i < L.length) (hl : L.length ≤ 1000) :
    Calls Try.prog 87 #[.slice (some ⟨g, 0, none⟩) L.length L.length, .int .i64 i, .slice (some ⟨vb, 0, none⟩) 1 vc] w (InsPost L g i d w) := by
  have mixed : Try.prog.follows .mixedOrders = true := by kernel_rfl
  obtain ⟨i0, hi0, hz0, hzs, hzb⟩ := info_parts infoDang
  have hsz : (Try.prog.info? 44).map (·.size) = some 4 := by rw [hi0]; simp [hzs]
  have hbw : g < w.heap.size := hO.lt
  have hvw : vb < w.heap.size := block_lt_of_cell (hv 0 _ rfl)
  have hik : i + (L.length + 1 - i) = L.length + 1 := by omega
  have hkk : (L.length : Int) + 1 - (i : Int) = ((L.length + 1 - i : Nat) : Int) := by omega
  have hold : (Builtin.firstCells i0.size i (.slice (some ⟨g, 0, none⟩) i L.length)).run Try.prog w.drew = .ok (flat RDanger.cells (L.take i)).toArray w.drew := by
    rw [hzs]
    exact run_firstCells_some w.drew 4 i ⟨g, 0, none⟩ i L.length _ (by rw [flat_len RDanger.len, List.length_take, Nat.min_eq_left (by omega)]) (fun j v hj => by
      rw [Addr.add_lit, Nat.zero_add]
      exact hO.get (flat_take RDanger.len L i hj))
  have ec : (Value.agg #[.string ⟨#[]⟩, .int .i64 0, .int .i64 0, .int .i64 0]).cells = #[.string ⟨#[]⟩, .int .i64 0, .int .i64 0, .int .i64 0] := rfl
  have hrz : ∀ ty, (Builtin.append_ #[38, 3] ty #[.slice (some ⟨g, 0, none⟩) i L.length, .int .i64 ((L.length : Int) + 1 - (i : Int))]).run Try.prog w =
      .ok (.slice (some ⟨w.heap.size, 0, none⟩) (L.length + 1) (grownCap w (L.length + 1) L.length 44)) (w.drew.alloc (.cells ((flat RDanger.cells (L.take i)).toArray ++ Builtin.zeroCells #[.string ⟨#[]⟩, .int .i64 0, .int .i64 0, .int .i64 0] (L.length + 1 - i) ++ Builtin.zeroCells #[.string ⟨#[]⟩, .int .i64 0, .int .i64 0, .int .i64 0] (grownCap w (L.length + 1) L.length 44 - (L.length + 1))) 44)) := fun ty => by
    have h := Lib.run_append_grow_zeros w 38 3 ty 44 i0 _ .i64 .i64 Try.underlying38 Try.underlying3 hi0 hz0 (some ⟨g, 0, none⟩) i L.length _ hold (L.length + 1 - i) (by omega) (by omega) (by omega) (by omega) (by rw [hzb]; omega) (by rw [hzb, hik]; exact growslice_fits (by omega) (by omega))
    rw [hik, ec] at h
    rw [hkk]
    exact h
  obtain ⟨G, hG⟩ : ∃ G, G = grownCap w (L.length + 1) L.length 44 := ⟨_, rfl⟩
  obtain ⟨ROW, hROW⟩ : ∃ ROW : Array Value, ROW = (flat RDanger.cells (L.take i)).toArray ++ Builtin.zeroCells #[.string ⟨#[]⟩, .int .i64 0, .int .i64 0, .int .i64 0] (L.length + 1 - i) ++ Builtin.zeroCells #[.string ⟨#[]⟩, .int .i64 0, .int .i64 0, .int .i64 0] (G - (L.length + 1)) := ⟨_, rfl⟩
  rw [← hG] at hrz
  rw [← hROW] at hrz
  have hft : (flat RDanger.cells (L.take i)).length = i * 4 := by rw [flat_len RDanger.len, List.length_take, Nat.min_eq_left (by omega)]
  have hfd : (flat RDanger.cells (L.drop i)).length = (L.length - i) * 4 := by rw [flat_len RDanger.len, List.length_drop]
  have hGn : L.length + 1 ≤ G := by rw [hG]; exact grownCap_ge w _ _ _
  have hG63 : G ≤ 9223372036854775807 := by
    have := grownCap_le_maxLen w (L.length + 1) L.length 44 (by unfold maxLen; omega)
    rw [← hG] at this
    unfold maxLen at this
    omega
  have hRs : ROW.size = G * 4 := by
    rw [hROW, Array.size_append, Array.size_append, zero_len, zero_len]
    have : (flat RDanger.cells (L.take i)).toArray.size = i * 4 := by simpa using hft
    rw [this]; omega
  have hRt : ROW.toList.take (i * 4) = flat RDanger.cells (L.take i) := by
    rw [hROW, Array.toList_append, Array.toList_append, List.append_assoc, ← hft]
    exact List.take_left
  obtain ⟨W1, hW1⟩ : ∃ W1, W1 = w.drew.alloc (.cells ROW 44) := ⟨_, rfl⟩
  rw [← hW1] at hrz
  have hO1 : Own W1 w.heap.size 44 (G * 4) ROW.toList := by rw [hW1, ← hRs]; exact Own.whole w.drew ROW 44
  have hbl : Below w.heap.size w W1 := by rw [hW1]; exact (show Below w.heap.size w w.drew by go_grown).alloc (Nat.le_refl _) _
  have hOg := hO.on hbl
  have hvW : ∀ j u, d.cells[j]? = some u → W1.cell? ⟨vb, j, none⟩ = some u := fun j u hu => (hbl.cell (p := ⟨vb, j, none⟩) hvw).trans (hv j u hu)
  have hRl : ROW.toList.length = G * 4 := by simpa using hRs
  -- behind the first copy
  have hO2 := hO1.upds d.cells (i * 4) (by rw [hRl]; simp [RDanger.cells]; omega)
  have hd4 : d.cells.length = 4 := rfl
  have h2l : (ROW.toList.take (i * 4) ++ d.cells ++ ROW.toList.drop (i * 4 + d.cells.length)).length = G * 4 := by rw [List.length_append, List.length_append, List.length_take, List.length_drop, hRl, hd4]; omega
  have hOg2 : Own (W1.setCells w.heap.size (i * 4) d.cells) g 44 (L.length * 4) (flat RDanger.cells L) := hOg.far (grown_cells d.cells _ (World.grownBy.refl W1 (some w.heap.size))) (by omega)
  have hO3 := hO2.upds (flat RDanger.cells (L.drop i)) ((i + 1) * 4) (by rw [h2l, hfd]; omega)
  have h4 : (ROW.toList.take (i * 4) ++ d.cells).length = (i + 1) * 4 := by rw [hRt, List.length_append, hft, hd4]; omega
  have hO4 : Own ((W1.setCells w.heap.size (i * 4) d.cells).setCells w.heap.size ((i + 1) * 4) (flat RDanger.cells (L.drop i))) w.heap.size 44 (G * 4) (flat RDanger.cells (L.take i ++ d :: L.drop i)) := by
    have e : flat RDanger.cells (L.take i ++ d :: L.drop i) = ROW.toList.take (i * 4) ++ d.cells ++ flat RDanger.cells (L.drop i) := by rw [hRt, flat_append, flat_cons, List.append_assoc]
    rw [e]
    have e2 : (ROW.toList.take (i * 4) ++ d.cells ++ ROW.toList.drop (i * 4 + d.cells.length)).take ((i + 1) * 4) = ROW.toList.take (i * 4) ++ d.cells := by rw [← h4]; exact List.take_left
    rw [e2] at hO3
    exact Own.cut hO3
  have hgr : w.grownBy ((W1.setCells w.heap.size (i * 4) d.cells).setCells w.heap.size ((i + 1) * 4) (flat RDanger.cells (L.drop i))) (some g) := by
    have h0 : W1.grownBy ((W1.setCells w.heap.size (i * 4) d.cells).setCells w.heap.size ((i + 1) * 4) (flat RDanger.cells (L.drop i))) (some w.heap.size) := grown_cells _ _ (grown_cells _ _ (World.grownBy.refl _ _))
    have hb2 := hbl.grown h0 hbl.size (fun k e => by cases e; exact Nat.le_refl _)
    exact ⟨hb2.os, hb2.tape, hb2.output, hb2.size, fun k hk _ => hb2.block k hk⟩
  have hcpA : ∀ (W : World), (∀ x, W.cell? x = W1.cell? x) → (∀ x, W.frozen? x = W1.frozen? x) → ∀ ty dc, (Builtin.copy_ #[38, 38] ty #[.slice (some ⟨w.heap.size, i * 4, none⟩) (L.length + 1 - i) dc, .slice (some ⟨vb, 0, none⟩) 1 vc]).run Try.prog W = .ok (goInt 1) (W.setCells w.heap.size (i * 4) d.cells) := fun W hWc hWf ty dc =>
    run_copy_rows W 38 38 ty 44 w.heap.size (i * 4) (L.length + 1 - i) dc ⟨vb, 0, none⟩ 1 vc 1 4 d.cells Try.underlying38 hsz (by simp only [Nat.min_def]; split <;> omega) rfl
      (fun j u hj => by rw [Addr.add_lit, hWc, Nat.zero_add]; exact hvW j u hj)
      (fun j hj => by rw [hWc]; exact hO1.some (by rw [hd4] at hj; omega)) (fun j hj => by rw [hWf]; exact hO1.frozen _) (RDanger.one d)
  have hcpB : ∀ (W : World), (∀ x, W.cell? x = (W1.setCells w.heap.size (i * 4) d.cells).cell? x) → (∀ x, W.frozen? x = (W1.setCells w.heap.size (i * 4) d.cells).frozen? x) → ∀ ty dc sc, (Builtin.copy_ #[38, 38] ty #[.slice (some ⟨w.heap.size, (i + 1) * 4, none⟩) (L.length + 1 - (i + 1)) dc, .slice (some ⟨g, i * 4, none⟩) (L.length - i) sc]).run Try.prog W = .ok (goInt ((L.length - i : Nat) : Int)) (W.setCells w.heap.size ((i + 1) * 4) (flat RDanger.cells (L.drop i))) := fun W hWc hWf ty dc sc =>
    run_copy_rows W 38 38 ty 44 w.heap.size ((i + 1) * 4) (L.length + 1 - (i + 1)) dc ⟨g, i * 4, none⟩ (L.length - i) sc (L.length - i) 4 _ Try.underlying38 hsz (by simp only [Nat.min_def]; split <;> omega) hfd
      (fun j u hj => by rw [Addr.add_lit, hWc]; exact hOg2.get (flat_drop RDanger.len L (by omega) hj))
      (fun j hj => by rw [hWc]; exact hO2.some (by rw [hfd] at hj; omega)) (fun j hj => by rw [hWf]; exact hO2.frozen _) (flat_one RDanger.one _)
  subst hW1
  have hE1 : ∀ x, ((w.alloc (.cells ROW 44)).drew).cell? x = (w.drew.alloc (.cells ROW 44)).cell? x := fun x => rfl
  have hE2 : ∀ x, ((w.alloc (.cells ROW 44)).drew).frozen? x = (w.drew.alloc (.cells ROW 44)).frozen? x := fun x => rfl
  have hF1 : ∀ x, (((w.alloc (.cells ROW 44)).drew.setCells w.heap.size (i * 4) d.cells).drew).cell? x = ((w.drew.alloc (.cells ROW 44)).setCells w.heap.size (i * 4) d.cells).cell? x := fun x => rfl
  have hF2 : ∀ x, (((w.alloc (.cells ROW 44)).drew.setCells w.heap.size (i * 4) d.cells).drew).frozen? x = ((w.drew.alloc (.cells ROW 44)).setCells w.heap.size (i * 4) d.cells).frozen? x := fun x => rfl
  have hOO := Lib.hid hO4
  have hgg := Lib.hid hgr
  have hB := Lib.hid hcpB
  have hA := Lib.hid hcpA
  have hR := Lib.hid hrz
  have hN := Lib.hid (ins_len L i d (by omega))
  have hGi : ¬ (G = i) := by omega
  have hGim : ¬ (G = i + 1) := by omega
  have hci : ¬ (L.length = i) := by omega
  have hz2 : ((i : Int) == (L.length : Int)) = false := beq_eq_false_iff_ne.2 (by omega)
  have hw1 : IntKind.i64.wrap ((i : Int) + 1) = (i : Int) + 1 := by rw [IntKind.wrap_i64]; omega
  have htn : ((i : Int) + 1).toNat = i + 1 := by omega
  have hb1 : (0 : Int) ≤ (i : Int) + 1 := by omega
  have hb2 : (i : Int) ≤ (L.length : Int) := by omega
  have hb3 : (i : Int) + 1 ≤ (L.length : Int) + 1 := by omega
  have hb4 : (i : Int) ≤ (L.length : Int) + 1 := by omega
  clear hO4 hgr hcpB hcpA hrz hO1 hO2 hO3 hOg hOg2 hvW hbl hROW hRs hRt hRl h2l h4 hft hfd hkk hik hold hG hO hv
  go_enter Try.func87, Try.ntmps87
  have hA1 := fun ty dc => hA.out _ hE1 hE2 ty dc
  have hB1 := fun ty dc sc => hB.out _ hF1 hF2 ty dc sc
  go_wp2_with (at_builtin; refine Lib.wpList_append_run _ rfl _ _ _ _ rfl _ _ rfl rfl _ _ (hR.out _) ?_)
  go_region_law_o (refine step_copy_runI rfl _ _ 38 38 rfl (.slice (some ⟨w.heap.size, (i + 1) * 4, none⟩) (L.length + 1 - (i + 1)) (G - (i + 1))) (.slice (some ⟨g, i * 4, none⟩) (L.length - i) (L.length - i)) (by simp [Act.eval, Act.put]) (by simp [Act.eval, Act.put]) (hB1 3 (G - (i + 1)) (L.length - i)) ?_)
  go_wp2
  go_ret
  refine ⟨_, rfl, ?_, fun B hB hB2 => ?_⟩
  · rw [setCells_drew]
    exact grown_drew hgg.out
  · rw [setCells_drew]
    exact ⟨by rw [flat_len RDanger.len, hN.out], .inr ⟨w.heap.size, G, _, rfl, hB2, hOO.out.drew⟩⟩
theorem beq_bytes {a b : ByteArray} (h : a = b) : (a.toList == b.toList) = true := by rw [h]; exact beq_self_eq_true _
theorem Dz.drew {w : World} {g : Nat} {d : RDanger} (h : Dz w g d) : Dz w.drew g d := h
theorem Dz.al {w : World} {g : Nat} {d : RDanger} (h : Dz w g d) (o : Obj) : Dz (w.alloc o) g d := h.on ((Below.refl _ _).alloc (Nat.le_refl _) _)
theorem add_flat (L : List RDanger) (d : RDanger) (k : Nat) : flat RDanger.cells (L.take k ++ d :: L.drop k) = [] ++ flat RDanger.cells (L.take k) ++ [.string d.f0, .int .i64 d.f1, .int .i64 d.f2, .int .i64 d.f3] ++ flat RDanger.cells (L.drop k) := by
  rw [flat_append, flat_cons, List.nil_append, List.append_assoc]; rfl
set_option maxHeartbeats 3200000 in
theorem spec_Add_go (L : List RDanger) (g B : Nat) (d : RDanger) (w : World) (hs : Sl w B (some ⟨g, 0, none⟩) (flat RDanger.cells L)) (hgB : g < B) (hB : B ≤ w.heap.size) (hok : ∀ a ∈ L, a.ok) (hl : L.length ≤ 1048576) (hds : d.f0.size ≤ maxLen) (hv : vDangsM L = true) (hd : d.v = true) :
    Calls Try.prog 20 #[.slice (some ⟨g, 0, none⟩) L.length L.length, .agg #[.string d.f0, .int .i64 d.f1, .int .i64 d.f2, .int .i64 d.f3]] w (AddPost L d w) := by
  obtain ⟨i0, hi, ie0, ie1, ie2⟩ := info_parts infoDang
  have hs' := Lib.hid hs
  have hok' := Lib.hid hok
  have hv' := Lib.hid hv
  have hd' := Lib.hid hd
  have hz : Hid (Dz ((w.alloc (.cells #[.string d.f0, .int .i64 d.f1, .int .i64 d.f2, .int .i64 d.f3] 44))) w.heap.size d) := Lib.hid ⟨by simp, by simp [go_sem], by simp [go_sem], by simp [go_sem], by simp [go_sem]⟩
  have hd2 : vDanger d.f0 d.f1 d.f2 d.f3 = true := hd
  clear hs hok hd
  go_enter Try.func20, Try.ntmps20
  go_wp2_with fail
  refine (spec_l14Ok L _ _ B _ (hs'.out.below ((show Below w.heap.size w _ by go_grown).mono hB)) (by simp; omega) hok'.out hl).mono ?_
  rintro e w1 ⟨rfl, hb1⟩
  rw [hv]
  have hB1 := bnext (show Below w.heap.size w ((w.alloc (.cells #[.string d.f0, .int .i64 d.f1, .int .i64 d.f2, .int .i64 d.f3] 44))) by go_grown) hb1
  have hD := hz.out.on hb1
  obtain ⟨hzl, z0, z1, z2, z3⟩ := id hD
  clear hb1 hv hz
  go_wp2_with fail
  refine (spec_l14One d.f0 hds d.f1 d.f2 d.f3 w.heap.size 0 _ ⟨hzl, z0, z1, z2, z3⟩).mono ?_
  rintro e w2 ⟨rfl, hb2⟩
  rw [hd2]
  have hB2 := bnext hB1 hb2
  have hD2 := hD.on hb2
  clear hb2 hB1 hD z0 z1 z2 z3 hzl hd2
  go_wp2_with fail
  go_loopw [6] (fun i wr => ∃ k : Nat, i = .int .i64 k ∧ k ≤ L.length ∧ k ≤ addAt d.f0 L ∧ Below w.heap.size w wr ∧ Dz wr w.heap.size d) (fun i _ => L.length - (intOf i).toNat)
  case atStart => exact ⟨0, rfl, Nat.zero_le _, Nat.zero_le _, hB2, hD2⟩
  case round =>
    clear hB2 hD2
    obtain ⟨k, rfl, hk, hka, hBr, hDr⟩ := hrel
    by_cases hlt : k < L.length
    · obtain ⟨b, o, e2, hb, he⟩ := Sl.elem RDanger.len (by decide) (hs'.out.below (hBr.mono hB)) hlt
      cases e2
      have hst := Lib.hid (fun h => addAt_step (s := d.f0) hlt rfl hka h)
      have hat := Lib.hid (fun h => addAt_at (s := d.f0) hlt rfl hka h)
      have his := Lib.hid (fun h1 h2 => addC_is (d := d) hv'.out hd'.out hlt rfl h1 h2)
      have hne0 := Lib.hid (fun (h : ¬ (L[k]).f0 = d.f0) => fun (hk : k < L.length) => h)
      obtain ⟨a, ha⟩ : ∃ a, L[k] = a := ⟨_, rfl⟩
      rw [ha] at he hst hat his
      rw [ha] at hne0
      have d0 : wr.cell? ⟨g, k * 4, none⟩ = some (.string a.f0) := by have := he 0 _ rfl; simpa [Nat.add_assoc] using this
      have hbw : g < wr.heap.size := by have := hBr.size; omega
      have hki : (k : Int) < (L.length : Int) := by omega
      obtain ⟨hzl, z0, z1, z2, z3⟩ := id hDr
      clear he
      cases h1 : ltS a.f0 d.f0
      · have hi1 := Lib.hid (hat.out h1)
        have h1' := ltS_no h1
        by_cases he : a.f0 = d.f0
        · have H := Lib.hid (his.out hi1.out he)
          have hq := beq_bytes he
          clear hst hat his he h1 hne0 ha
          go_wp2_with fail
          refine wp_region_grew (by kernel_rfl) (by kernel_rfl) ?_
          repeat (first | (go_big_quiet_step (fail)) | (quiet_step (fail)))
          refine wpQuiet_nil ?_
          rintro w8 ⟨⟨w8, hb8⟩, rfl⟩
          try dsimp only
          obtain ⟨hc8, hf8⟩ := bcell hb8
          have hD8 := hDr.on hb8
          obtain ⟨yzl, y0, y1, y2, y3⟩ := id hD8
          have d8 := (hc8 _ (k * 4) hbw).trans d0
          have hbw8 : g < w8.heap.size := Nat.lt_of_lt_of_le hbw hb8.size
          have hB8 := bnext hBr hb8
          clear hc8 hf8
          go_wp2_with fail
          refine wp_region_grew (by kernel_rfl) (by kernel_rfl) ?_
          repeat (first | (go_big_quiet_step (fail)) | (quiet_step (fail)))
          refine wpQuiet_nil ?_
          rintro _ ⟨⟨w9, hb9⟩, rfl⟩
          try dsimp only
          obtain ⟨hc9, hf9⟩ := bcell hb9
          go_wp2
          go_ret2
          exact AddPost.nil H.out (bnext hB8 hb9)
        · have hno : ∀ hk : k < L.length, ¬ L[k].f0 = d.f0 := fun hk => by rw [ha]; exact he
          have hfull := Lib.hid (fun h => addC_full hv'.out hd'.out hi1.out hno h)
          have hgo := Lib.hid (fun h => addC_ok hv'.out hd'.out hi1.out hno h)
          have hq := bytes_ne he
          clear hst hat his he h1 hno hne0 ha
          go_wp2_with fail
          refine wp_region_grew (by kernel_rfl) (by kernel_rfl) ?_
          repeat (first | (go_big_quiet_step (fail)) | (quiet_step (fail)))
          refine wpQuiet_nil ?_
          rintro w8 ⟨⟨w8, hb8⟩, rfl⟩
          try dsimp only
          obtain ⟨hc8, hf8⟩ := bcell hb8
          have hD8 := hDr.on hb8
          obtain ⟨yzl, y0, y1, y2, y3⟩ := id hD8
          have d8 := (hc8 _ (k * 4) hbw).trans d0
          have hbw8 : g < w8.heap.size := Nat.lt_of_lt_of_le hbw hb8.size
          have hB8 := bnext hBr hb8
          clear hc8 hf8
          go_wp2_with fail
          refine wp_region_grew (by kernel_rfl) (by kernel_rfl) ?_
          repeat (first | (go_big_quiet_step (fail)) | (quiet_step (fail)))
          refine wpQuiet_nil ?_
          rintro w9 ⟨⟨w8, hb9⟩, rfl⟩
          try dsimp only
          obtain ⟨hc9, hf9⟩ := bcell hb9
          have hB9 := bnext hB8 hb9
          have hD9 := hD8.on hb9
          clear hc9 hf9 hb9 hb8 hD8 hDr hBr y0 y1 y2 y3 d8 d0 z0 z1 z2 z3 hzl yzl hq h1'
          by_cases h24 : L.length = 24
          · have H := Lib.hid (hfull.out h24)
            go_wp2
            go_ret2
            exact AddPost.nil H.out hB9
          have H' := Lib.hid (hgo.out h24)
          have h24' : ((L.length : Int) == 24) = false := beq_eq_false_iff_ne.2 (by omega)
          clear hfull hgo
          have hz9 := hB9.size
          have hO0 : (w9.alloc (.cells #[] 44)).ownsRow w.heap.size 44 4 (.slice (some ⟨w9.heap.size, 0, none⟩) 0 0) 0 [] := World.ownsRow_made w9 #[] 0 hz9 (Nat.zero_le _) rfl
          have hBa0 : Below w.heap.size w (w9.alloc (.cells #[] 44)) := hB9.alloc hz9 _
          have hc0 := Lib.hid (Sl.cells (hs'.out.below (hBa0.mono hB)))
          have hl0 : (flat RDanger.cells (L.take k)).length = k * 4 := by rw [flat_len RDanger.len, List.length_take, Nat.min_eq_left (by omega)]
          have hone := Lib.hid (flat_one RDanger.one (L.take k))
          have hone2 := Lib.hid (flat_one RDanger.one (L.drop k))
          have hkI : ((k : Nat) : Int) ≤ (L.length : Int) := by omega
          have hff := Lib.hid (add_flat L d k)
          have hln := Lib.hid (ins_len L k d (by omega))
          have hfd : (flat RDanger.cells (L.drop k)).length = (L.length - k) * 4 := by rw [flat_len RDanger.len, List.length_drop]
          have hfl' := Lib.hid (fun j u (hj : (flat RDanger.cells (L.take k))[j]? = some u) => hc0.out j u (flat_take RDanger.len L k hj))
          have hdr' := Lib.hid (fun j u (hj : (flat RDanger.cells (L.drop k))[j]? = some u) => flat_drop RDanger.len L (show k ≤ L.length by omega) hj)
          obtain ⟨Xt, hXt⟩ : ∃ X, flat RDanger.cells (L.take k) = X := ⟨_, rfl⟩
          obtain ⟨Xd, hXd⟩ : ∃ X, flat RDanger.cells (L.drop k) = X := ⟨_, rfl⟩
          rw [hXt] at hl0 hone hff hfl'
          rw [hXd] at hone2 hff hfd hdr'
          clear hc0 hXt hXd
          go_wp2_with (at_builtin; refine wpList_append_own _ rfl _ _ 38 rfl w.heap.size 44 i0 (.agg #[.string ⟨#[]⟩, .int .i64 0, .int .i64 0, .int .i64 0]) 4 40 Try.underlying38 hi ie0 ie1 ie2 rfl (by decide) _ _ _ rfl hO0 ⟨g, 0, none⟩ k L.length Xt rfl hl0 hfl'.out hone.out ?c3 ?c4 ?c5 ?_)
          case c3 => unfold maxLen; omega
          case c4 => omega
          case c5 => simp; omega
          intro v1 wa hown1 hg1 _
          have hBa := hBa0.grown hg1 hBa0.size (fun q e => (hO0.lt q e).1)
          have hDa := (hD9.al (.cells #[] 44)).far hg1 (fun q e => by have e' : w9.heap.size = q := Option.some.inj e; have := hD9.1; omega)
          obtain ⟨hzl, z0, z1, z2, z3⟩ := id hDa
          have hza := hBa.size
          clear hO0 hg1 hBa0 hfl' hD9 hB9
          go_wp2_with (at_builtin; refine wpList_append_own _ rfl _ _ 38 rfl w.heap.size 44 i0 (.agg #[.string ⟨#[]⟩, .int .i64 0, .int .i64 0, .int .i64 0]) 4 40 Try.underlying38 hi ie0 ie1 ie2 rfl (by decide) _ _ _ rfl (hown1.alloc _) ⟨wa.heap.size, 0, none⟩ 1 1 [.string d.f0, .int .i64 d.f1, .int .i64 d.f2, .int .i64 d.f3] rfl rfl (new_cells wa [.string d.f0, .int .i64 d.f1, .int .i64 d.f2, .int .i64 d.f3] 44) ?c2 ?c3 ?c4 ?c5 ?_)
          case c2 => intro u hu; simp at hu; rcases hu with rfl | rfl | rfl | rfl <;> rfl
          case c3 => unfold maxLen; omega
          case c4 => omega
          case c5 => simp; omega
          intro v2 wb hown2 hg2 _
          have hBb := (show Below w.heap.size w (wa.alloc (.cells #[.string d.f0, .int .i64 d.f1, .int .i64 d.f2, .int .i64 d.f3] 44)) from hBa.alloc hza _).grown hg2 (by simp; omega) (fun q e => (hown1.lt q e).1)
          have hcb := Lib.hid (Sl.cells (hs'.out.below (hBb.mono hB)))
          have hzb := hBb.size
          clear hown1 hg2 hBa hDa z0 z1 z2 z3 hzl
          have hcl : ¬ (L.length = k) := by omega
          go_wp2_with (at_builtin; refine wpList_append_own _ rfl _ _ 38 rfl w.heap.size 44 i0 (.agg #[.string ⟨#[]⟩, .int .i64 0, .int .i64 0, .int .i64 0]) 4 40 Try.underlying38 hi ie0 ie1 ie2 rfl (by decide) _ _ _ rfl hown2 ⟨g, k * 4, none⟩ (L.length - k) (L.length - k) Xd rfl hfd ?c1 hone2.out ?c3 ?c4 ?c5 ?_)
          case c1 => (intro j u hj; rw [Addr.add_lit]; have := hcb.out _ _ (hdr'.out j u hj); rw [Addr.add_lit, Nat.zero_add] at this; exact this)
          case c3 => unfold maxLen; omega
          case c4 => omega
          case c5 => omega
          intro v3 wc hown3 hg3 _
          have hBc := hBb.grown hg3 hzb (fun q e => (hown2.lt q e).1)
          have hown4 : wc.ownsRow w.heap.size 44 4 v3 (L.take k ++ d :: L.drop k).length (flat RDanger.cells (L.take k ++ d :: L.drop k)) := by
            rw [hff.out, hln.out]
            have e : k + 1 + (L.length - k) = L.length + 1 := by omega
            first | (rw [← e]; simpa using hown3) | (rw [hnil]; simpa [hnil] using hown3)
          clear hown2 hown3 hg3
          go_wp2
          go_ret2
          exact ⟨_, by rw [H'.out.1] <;> rfl, hBc, by rw [H'.out.2]; exact Rs.of_owns hown4⟩
      · have hi1 := Lib.hid (hst.out h1)
        have h1' := ltS_yes h1
        clear hst hat his h1 hne0 ha
        go_wp2_with fail
        refine wp_region_grew (by kernel_rfl) (by kernel_rfl) ?_
        repeat (first | (go_big_quiet_step (fail)) | (quiet_step (fail)))
        refine wpQuiet_nil ?_
        rintro _ ⟨⟨w9, hb9⟩, rfl⟩
        try dsimp only
        obtain ⟨hc9, hf9⟩ := bcell hb9
        go_wp2
        go_roundw
        case rel => exact ⟨k + 1, by go_num, by omega, hi1.out, bnext hBr hb9, hDr.on hb9⟩
        case measure => simp [intOf]; omega
    · obtain rfl : k = L.length := by omega
      have hi1 : addAt d.f0 L = L.length := by have := addAt_le d.f0 L; omega
      have hno : ∀ hk : L.length < L.length, ¬ L[L.length].f0 = d.f0 := fun hk => by omega
      have hfull := Lib.hid (fun h => addC_full hv'.out hd'.out hi1 hno h)
      have hgo := Lib.hid (fun h => addC_ok hv'.out hd'.out hi1 hno h)
      have hki : ¬ (L.length : Int) < (L.length : Int) := by omega
      clear hno
      go_wp2_with fail
      refine wp_region_grew (by kernel_rfl) (by kernel_rfl) ?_
      repeat (first | (go_big_quiet_step (fail)) | (quiet_step (fail)))
      refine wpQuiet_nil ?_
      rintro w8 ⟨⟨w8, hb8⟩, rfl⟩
      try dsimp only
      obtain ⟨hc8, hf8⟩ := bcell hb8
      have hD8 := hDr.on hb8
      have hB8 := bnext hBr hb8
      clear hc8 hf8
      go_wp2_with fail
      refine wp_region_grew (by kernel_rfl) (by kernel_rfl) ?_
      repeat (first | (go_big_quiet_step (fail)) | (quiet_step (fail)))
      refine wpQuiet_nil ?_
      rintro w9 ⟨⟨w8, hb9⟩, rfl⟩
      try dsimp only
      obtain ⟨hc9, hf9⟩ := bcell hb9
      have hB9 := bnext hB8 hb9
      have hD9 := hD8.on hb9
      clear hc9 hf9 hb9 hb8 hD8 hDr hBr
      by_cases h24 : L.length = 24
      · have H := Lib.hid (hfull.out h24)
        go_wp2
        go_ret2
        exact AddPost.nil H.out hB9
      have H' := Lib.hid (hgo.out h24)
      have h24' : ((L.length : Int) == 24) = false := beq_eq_false_iff_ne.2 (by omega)
      clear hfull hgo
      have hz9 := hB9.size
      have hO0 : (w9.alloc (.cells #[] 44)).ownsRow w.heap.size 44 4 (.slice (some ⟨w9.heap.size, 0, none⟩) 0 0) 0 [] := World.ownsRow_made w9 #[] 0 hz9 (Nat.zero_le _) rfl
      have hBa0 : Below w.heap.size w (w9.alloc (.cells #[] 44)) := hB9.alloc hz9 _
      have hc0 := Lib.hid (Sl.cells (hs'.out.below (hBa0.mono hB)))
      have hl0 : (flat RDanger.cells (L.take L.length)).length = L.length * 4 := by rw [flat_len RDanger.len, List.length_take, Nat.min_eq_left (by omega)]
      have hone := Lib.hid (flat_one RDanger.one (L.take L.length))
      have hone2 := Lib.hid (flat_one RDanger.one (L.drop L.length))
      have hkI : ((L.length : Nat) : Int) ≤ (L.length : Int) := by omega
      have hff := Lib.hid (add_flat L d L.length)
      have hln := Lib.hid (ins_len L L.length d (by omega))
      have hfd : (flat RDanger.cells (L.drop L.length)).length = (L.length - L.length) * 4 := by rw [flat_len RDanger.len, List.length_drop]
      have hfl' := Lib.hid (fun j u (hj : (flat RDanger.cells (L.take L.length))[j]? = some u) => hc0.out j u (flat_take RDanger.len L L.length hj))
      have hdr' := Lib.hid (fun j u (hj : (flat RDanger.cells (L.drop L.length))[j]? = some u) => flat_drop RDanger.len L (show L.length ≤ L.length by omega) hj)
      obtain ⟨Xt, hXt⟩ : ∃ X, flat RDanger.cells (L.take L.length) = X := ⟨_, rfl⟩
      obtain ⟨Xd, hXd⟩ : ∃ X, flat RDanger.cells (L.drop L.length) = X := ⟨_, rfl⟩
      rw [hXt] at hl0 hone hff hfl'
      rw [hXd] at hone2 hff hfd hdr'
      clear hc0 hXt hXd
      go_wp2_with (at_builtin; refine wpList_append_own _ rfl _ _ 38 rfl w.heap.size 44 i0 (.agg #[.string ⟨#[]⟩, .int .i64 0, .int .i64 0, .int .i64 0]) 4 40 Try.underlying38 hi ie0 ie1 ie2 rfl (by decide) _ _ _ rfl hO0 ⟨g, 0, none⟩ L.length L.length Xt rfl hl0 hfl'.out hone.out ?c3 ?c4 ?c5 ?_)
      case c3 => unfold maxLen; omega
      case c4 => omega
      case c5 => simp; omega
      intro v1 wa hown1 hg1 _
      have hBa := hBa0.grown hg1 hBa0.size (fun q e => (hO0.lt q e).1)
      have hDa := (hD9.al (.cells #[] 44)).far hg1 (fun q e => by have e' : w9.heap.size = q := Option.some.inj e; have := hD9.1; omega)
      obtain ⟨hzl, z0, z1, z2, z3⟩ := id hDa
      have hza := hBa.size
      clear hO0 hg1 hBa0 hfl' hD9 hB9
      go_wp2_with (at_builtin; refine wpList_append_own _ rfl _ _ 38 rfl w.heap.size 44 i0 (.agg #[.string ⟨#[]⟩, .int .i64 0, .int .i64 0, .int .i64 0]) 4 40 Try.underlying38 hi ie0 ie1 ie2 rfl (by decide) _ _ _ rfl (hown1.alloc _) ⟨wa.heap.size, 0, none⟩ 1 1 [.string d.f0, .int .i64 d.f1, .int .i64 d.f2, .int .i64 d.f3] rfl rfl (new_cells wa [.string d.f0, .int .i64 d.f1, .int .i64 d.f2, .int .i64 d.f3] 44) ?c2 ?c3 ?c4 ?c5 ?_)
      case c2 => intro u hu; simp at hu; rcases hu with rfl | rfl | rfl | rfl <;> rfl
      case c3 => unfold maxLen; omega
      case c4 => omega
      case c5 => simp; omega
      intro v2 wb hown2 hg2 _
      have hBb := (show Below w.heap.size w (wa.alloc (.cells #[.string d.f0, .int .i64 d.f1, .int .i64 d.f2, .int .i64 d.f3] 44)) from hBa.alloc hza _).grown hg2 (by simp; omega) (fun q e => (hown1.lt q e).1)
      have hcb := Lib.hid (Sl.cells (hs'.out.below (hBb.mono hB)))
      have hzb := hBb.size
      clear hown1 hg2 hBa hDa z0 z1 z2 z3 hzl
      have hnil : Xd = [] := List.eq_nil_of_length_eq_zero (by rw [hfd]; omega)
      go_wp2_with (at_builtin; refine wpList_append_own _ rfl _ _ 38 rfl w.heap.size 44 i0 (.agg #[.string ⟨#[]⟩, .int .i64 0, .int .i64 0, .int .i64 0]) 4 40 Try.underlying38 hi ie0 ie1 ie2 rfl (by decide) _ _ _ rfl hown2 ⟨g, 0, none⟩ (L.length - L.length) (L.length - L.length) Xd (by simp [Act.eval, Act.put]) hfd ?c1 hone2.out ?c3 ?c4 ?c5 ?_)
      case c1 => (intro j u hj; rw [hnil] at hj; simp at hj)
      case c3 => unfold maxLen; omega
      case c4 => omega
      case c5 => omega
      intro v3 wc hown3 hg3 _
      have hBc := hBb.grown hg3 hzb (fun q e => (hown2.lt q e).1)
      have hown4 : wc.ownsRow w.heap.size 44 4 v3 (L.take L.length ++ d :: L.drop L.length).length (flat RDanger.cells (L.take L.length ++ d :: L.drop L.length)) := by
        rw [hff.out, hln.out]
        have e : L.length + 1 + (L.length - L.length) = L.length + 1 := by omega
        first | (rw [← e]; simpa using hown3) | (rw [hnil]; simpa [hnil] using hown3)
      clear hown2 hown3 hg3
      go_wp2
      go_ret2
      exact ⟨_, by rw [H'.out.1] <;> rfl, hBc, by rw [H'.out.2]; exact Rs.of_owns hown4⟩
theorem spec_Add (L : List RDanger) (g B : Nat) (d : RDanger) (w : World) (hs : Sl w B (some ⟨g, 0, none⟩) (flat RDanger.cells L)) (hgB : g < B) (hB : B ≤ w.heap.size) (hok : ∀ a ∈ L, a.ok) (hl : L.length ≤ 1048576) (hds : d.f0.size ≤ maxLen) :
    Calls Try.prog 20 #[.slice (some ⟨g, 0, none⟩) L.length L.length, .agg #[.string d.f0, .int .i64 d.f1, .int .i64 d.f2, .int .i64 d.f3]] w (AddPost L d w) := by
  cases hv : vDangsM L
  · exact spec_Add_bad L _ _ B d w hs hB hok hl hds (by rw [hv]; rfl)
  cases hd : d.v
  · exact spec_Add_bad L _ _ B d w hs hB hok hl hds (by rw [hd, Bool.and_false])
  exact spec_Add_go L g B d w hs hgB hB hok hl hds hv hd
theorem impl_Add_bad (L : List RDanger) (A : Option Addr) (c B : Nat) (d : RDanger) (w : World) (hs : Sl w B A (flat RDanger.cells L)) (hB : B ≤ w.heap.size) (hok : ∀ a ∈ L, a.ok) (hl : L.length ≤ 1048576) (hds : d.f0.size ≤ maxLen) (hv : (vDangsM L && d.v) = false) :
    Calls Try.prog 23 #[.slice A L.length c, .agg #[.string d.f0, .int .i64 d.f1, .int .i64 d.f2, .int .i64 d.f3]] w (AddPost L d w) := by
  have hs' := Lib.hid hs
  have hok' := Lib.hid hok
  have H := Lib.hid (addC_bad hv)
  have hz : Hid (Dz ((w.alloc (.cells #[.string d.f0, .int .i64 d.f1, .int .i64 d.f2, .int .i64 d.f3] 44))) w.heap.size d) := Lib.hid ⟨by simp, by simp [go_sem], by simp [go_sem], by simp [go_sem], by simp [go_sem]⟩
  clear hs hok
  rcases (by
    cases h1 : vDangsM L
    · exact Or.inl rfl
    · rw [h1] at hv; exact Or.inr ⟨rfl, hv⟩ : vDangsM L = false ∨ (vDangsM L = true ∧ d.v = false)) with h | ⟨h, h2⟩
  · clear hv
    go_enter Try.func23, Try.ntmps23
    go_wp2_with fail
    refine (impl_ValidDangers L _ _ B _ (hs'.out.below ((show Below w.heap.size w _ by go_grown).mono hB)) (by simp; omega) hok'.out hl).mono ?_
    rintro e w1 ⟨rfl, hb1⟩
    rw [h]
    have hB1 := bnext (show Below w.heap.size w ((w.alloc (.cells #[.string d.f0, .int .i64 d.f1, .int .i64 d.f2, .int .i64 d.f3] 44))) by go_grown) hb1
    go_wp2
    go_ret2
    exact AddPost.nil H.out hB1
  · have h2 : vDanger d.f0 d.f1 d.f2 d.f3 = false := h2
    clear hv
    go_enter Try.func23, Try.ntmps23
    go_wp2_with fail
    refine (impl_ValidDangers L _ _ B _ (hs'.out.below ((show Below w.heap.size w _ by go_grown).mono hB)) (by simp; omega) hok'.out hl).mono ?_
    rintro e w1 ⟨rfl, hb1⟩
    rw [h]
    have hB1 := bnext (show Below w.heap.size w ((w.alloc (.cells #[.string d.f0, .int .i64 d.f1, .int .i64 d.f2, .int .i64 d.f3] 44))) by go_grown) hb1
    have hD := hz.out.on hb1
    obtain ⟨hzl, z0, z1, z2, z3⟩ := hD
    clear hb1
    go_wp2_with fail
    refine (impl_ValidDanger d.f0 hds d.f1 d.f2 d.f3 _).mono ?_
    rintro e w2 ⟨rfl, hb2⟩
    rw [h2]
    have hB2 := bnext hB1 hb2
    go_wp2
    go_ret2
    exact AddPost.nil H.out hB2
theorem cell_onA {w w' : World} {b k : Nat} {v : Value} (hb : Below w.heap.size w w') (h : w.cell? ⟨b, k, none⟩ = some v) : w'.cell? ⟨b, k, none⟩ = some v := (hb.cell (p := ⟨b, k, none⟩) (block_lt_of_cell h)).trans h
theorem insC (L : List RDanger) (g i vb vc : Nat) (d : RDanger) (w : World) (hO : Own w g 44 (L.length * 4) (flat RDanger.cells L)) (hv : ∀ j u, d.cells[j]? = some u → w.cell? ((⟨vb, 0, none⟩ : Addr).add j) = some u) (hi : i ≤ L.length) (hl : L.length ≤ 1000) :
    Calls Try.prog 87 #[.slice (some ⟨g, 0, none⟩) L.length L.length, .int .i64 i, .slice (some ⟨vb, 0, none⟩) 1 vc] w (InsPost L g i d w) := by
  rcases Nat.lt_or_ge i L.length with h | h
  · exact ins_mid L g i vb vc d w hO (fun j u hu => by have := hv j u hu; rw [Addr.add_lit, Nat.zero_add] at this; exact this) h hl
  · obtain rfl : i = L.length := by omega
    exact ins_end L g vb vc d w hO hv hl
set_option maxHeartbeats 3200000 in
theorem impl_Add_go (L : List RDanger) (g B : Nat) (d : RDanger) (w : World) (hs : Sl w B (some ⟨g, 0, none⟩) (flat RDanger.cells L)) (hgB : g < B) (hB : B ≤ w.heap.size) (hok : ∀ a ∈ L, a.ok) (hl : L.length ≤ 1048576) (hds : d.f0.size ≤ maxLen) (hv : vDangsM L = true) (hd : d.v = true) :
    Calls Try.prog 23 #[.slice (some ⟨g, 0, none⟩) L.length L.length, .agg #[.string d.f0, .int .i64 d.f1, .int .i64 d.f2, .int .i64 d.f3]] w (AddPost L d w) := by
  have hs' := Lib.hid hs
  have hok' := Lib.hid hok
  have hv' := Lib.hid hv
  have hd' := Lib.hid hd
  have hz : Hid (Dz ((w.alloc (.cells #[.string d.f0, .int .i64 d.f1, .int .i64 d.f2, .int .i64 d.f3] 44))) w.heap.size d) := Lib.hid ⟨by simp, by simp [go_sem], by simp [go_sem], by simp [go_sem], by simp [go_sem]⟩
  have hd2 : vDanger d.f0 d.f1 d.f2 d.f3 = true := hd
  clear hs hok hd
  go_enter Try.func23, Try.ntmps23
  go_wp2_with fail
  refine (impl_ValidDangers L _ _ B _ (hs'.out.below ((show Below w.heap.size w _ by go_grown).mono hB)) (by simp; omega) hok'.out hl).mono ?_
  rintro e w1 ⟨rfl, hb1⟩
  rw [hv]
  have hB1 := bnext (show Below w.heap.size w ((w.alloc (.cells #[.string d.f0, .int .i64 d.f1, .int .i64 d.f2, .int .i64 d.f3] 44))) by go_grown) hb1
  have hD := hz.out.on hb1
  obtain ⟨hzl, z0, z1, z2, z3⟩ := id hD
  clear hb1 hv hz
  go_wp2_with fail
  refine (impl_ValidDanger d.f0 hds d.f1 d.f2 d.f3 _).mono ?_
  rintro e w2 ⟨rfl, hb2⟩
  rw [hd2]
  have hB2 := bnext hB1 hb2
  have hD2 := hD.on hb2
  clear hb2 hB1 hD z0 z1 z2 z3 hzl hd2
  go_wp2_with fail
  go_loopw [6] (fun i wr => ∃ k : Nat, i = .int .i64 k ∧ k ≤ L.length ∧ k ≤ addAt d.f0 L ∧ Below w.heap.size w wr ∧ Dz wr w.heap.size d) (fun i _ => L.length - (intOf i).toNat)
  case atStart => exact ⟨0, rfl, Nat.zero_le _, Nat.zero_le _, hB2, hD2⟩
  case round =>
    clear hB2 hD2
    obtain ⟨k, rfl, hk, hka, hBr, hDr⟩ := hrel
    by_cases hlt : k < L.length
    · obtain ⟨b, o, e2, hb, he⟩ := Sl.elem RDanger.len (by decide) (hs'.out.below (hBr.mono hB)) hlt
      cases e2
      have hst := Lib.hid (fun h => addAt_step (s := d.f0) hlt rfl hka h)
      have hat := Lib.hid (fun h => addAt_at (s := d.f0) hlt rfl hka h)
      have his := Lib.hid (fun h1 h2 => addC_is (d := d) hv'.out hd'.out hlt rfl h1 h2)
      have hne0 := Lib.hid (fun (h : ¬ (L[k]).f0 = d.f0) => fun (hk : k < L.length) => h)
      obtain ⟨a, ha⟩ : ∃ a, L[k] = a := ⟨_, rfl⟩
      rw [ha] at he hst hat his
      rw [ha] at hne0
      have d0 : wr.cell? ⟨g, k * 4, none⟩ = some (.string a.f0) := by have := he 0 _ rfl; simpa [Nat.add_assoc] using this
      have hbw : g < wr.heap.size := by have := hBr.size; omega
      have hki : (k : Int) < (L.length : Int) := by omega
      obtain ⟨hzl, z0, z1, z2, z3⟩ := id hDr
      clear he
      cases h1 : ltS a.f0 d.f0
      · have hi1 := Lib.hid (hat.out h1)
        have h1' := ltS_no h1
        by_cases he : a.f0 = d.f0
        · have H := Lib.hid (his.out hi1.out he)
          have hq := beq_bytes he
          clear hst hat his he h1 hne0 ha
          go_wp2_with fail
          refine wp_region_grew (by kernel_rfl) (by kernel_rfl) ?_
          repeat (first | (go_big_quiet_step (fail)) | (quiet_step (fail)))
          refine wpQuiet_nil ?_
          rintro w8 ⟨⟨w8, hb8⟩, rfl⟩
          try dsimp only
          obtain ⟨hc8, hf8⟩ := bcell hb8
          have hD8 := hDr.on hb8
          obtain ⟨yzl, y0, y1, y2, y3⟩ := id hD8
          have d8 := (hc8 _ (k * 4) hbw).trans d0
          have hbw8 : g < w8.heap.size := Nat.lt_of_lt_of_le hbw hb8.size
          have hB8 := bnext hBr hb8
          clear hc8 hf8
          go_wp2_with fail
          refine wp_region_grew (by kernel_rfl) (by kernel_rfl) ?_
          repeat (first | (go_big_quiet_step (fail)) | (quiet_step (fail)))
          refine wpQuiet_nil ?_
          rintro _ ⟨⟨w9, hb9⟩, rfl⟩
          try dsimp only
          obtain ⟨hc9, hf9⟩ := bcell hb9
          go_wp2
          go_ret2
          exact AddPost.nil H.out (bnext hB8 hb9)
        · have hno : ∀ hk : k < L.length, ¬ L[k].f0 = d.f0 := fun hk => by rw [ha]; exact he
          have hfull := Lib.hid (fun h => addC_full hv'.out hd'.out hi1.out hno h)
          have hgo := Lib.hid (fun h => addC_ok hv'.out hd'.out hi1.out hno h)
          have hq := bytes_ne he
          clear hst hat his he h1 hno hne0 ha
          go_wp2_with fail
          refine wp_region_grew (by kernel_rfl) (by kernel_rfl) ?_
          repeat (first | (go_big_quiet_step (fail)) | (quiet_step (fail)))
          refine wpQuiet_nil ?_
          rintro w8 ⟨⟨w8, hb8⟩, rfl⟩
          try dsimp only
          obtain ⟨hc8, hf8⟩ := bcell hb8
          have hD8 := hDr.on hb8
          obtain ⟨yzl, y0, y1, y2, y3⟩ := id hD8
          have d8 := (hc8 _ (k * 4) hbw).trans d0
          have hbw8 : g < w8.heap.size := Nat.lt_of_lt_of_le hbw hb8.size
          have hB8 := bnext hBr hb8
          clear hc8 hf8
          go_wp2_with fail
          refine wp_region_grew (by kernel_rfl) (by kernel_rfl) ?_
          repeat (first | (go_big_quiet_step (fail)) | (quiet_step (fail)))
          refine wpQuiet_nil ?_
          rintro w9 ⟨⟨w8, hb9⟩, rfl⟩
          try dsimp only
          obtain ⟨hc9, hf9⟩ := bcell hb9
          have hB9 := bnext hB8 hb9
          have hD9 := hD8.on hb9
          clear hc9 hf9 hb9 hb8 hD8 hDr hBr y0 y1 y2 y3 d8 d0 z0 z1 z2 z3 hzl yzl hq h1'
          by_cases h24 : L.length = 24
          · have H := Lib.hid (hfull.out h24)
            go_wp2
            go_ret2
            exact AddPost.nil H.out hB9
          have H' := Lib.hid (hgo.out h24)
          have h24' : ((L.length : Int) == 24) = false := beq_eq_false_iff_ne.2 (by omega)
          clear hfull hgo
          have hz9 := hB9.size
          have hD9n := hD9.1
          have hsd := Lib.hid (hs'.out.below ((show Below w.heap.size w w9.drew from hB9.trans ⟨rfl, rfl, rfl, Nat.le_refl _, fun _ _ => rfl⟩).mono hB))
          have hBd0 : Below w.heap.size w w9.drew := hB9.trans ⟨rfl, rfl, rfl, Nat.le_refl _, fun _ _ => rfl⟩
          have hln := Lib.hid (ins_len L k d (by omega))
          have hBz : B ≤ w9.drew.heap.size := Nat.le_trans hB hz9
          have hl9 : L.length ≤ 1000 := by
            have hv2 := hv'.out
            unfold vDangsM at hv2
            rw [Bool.and_eq_true] at hv2
            have := of_decide_eq_true hv2.2
            omega
          have hDr9 : Dz w9.drew w.heap.size d := hD9.drew
          have hz9d : w9.drew.heap.size = w9.heap.size := rfl
          go_wp2_with fail
          refine wp_region_held_drew (S := fun w' => Dz w' w.heap.size d) (by kernel_rfl) hDr9 (fun hHeld => ?_)
          refine wpAnyH_take (i := 0) (v := ?_) rfl (by kernel_rfl) (by kernel_rfl) (by kernel_rfl) (fun _ _ _ h => h) (Or.inl ⟨by rfl, ?_⟩) (by assumption) ?_
          rotate_left
          · (intro w9 hS9; obtain ⟨hg9, y0, y1, y2, y3⟩ := hS9; go_simp; try (with_reducible rfl))
          try simp only [Act.put, List.setIfInBounds_toArray, List.set_cons_zero, List.set_cons_succ]
          refine wpAnyH_take (i := 2) (v := ?_) rfl (by kernel_rfl) (by kernel_rfl) (by kernel_rfl) (fun _ _ _ h => h) (Or.inl ⟨by rfl, ?_⟩) (by assumption) ?_
          rotate_left
          · (intro w9 hS9; obtain ⟨hg9, y0, y1, y2, y3⟩ := hS9; go_simp; try (with_reducible rfl))
          try simp only [Act.put, List.setIfInBounds_toArray, List.set_cons_zero, List.set_cons_succ]
          refine wpAnyH_take (i := 3) (v := ?_) rfl (by kernel_rfl) (by kernel_rfl) (by kernel_rfl) (fun _ _ _ h => h) (Or.inl ⟨by rfl, ?_⟩) (by assumption) ?_
          rotate_left
          · (intro w9 hS9; obtain ⟨hg9, y0, y1, y2, y3⟩ := hS9; go_simp; try (with_reducible rfl))
          try simp only [Act.put, List.setIfInBounds_toArray, List.set_cons_zero, List.set_cons_succ]
          refine wpAnyH_ready (rs := [1, 4]) (by kernel_rfl) (by simp) ?_
          refine AllReadyH.cons rfl (fun K hK => ?_) (AllReadyH.cons rfl (fun K hK => ?_) AllReadyH.nil)
          · go_simp
            refine (clone_Danger L g 0 L.length B _ hsd.out hBz hl).mono ?_
            rintro e wa ⟨rfl, hba, hOa⟩
            have hBa := bnext hBd0 hba
            have hDa := hDr9.on hba
            have hza := hba.size
            go_wp2_with fail
            refine hK.out _ _ hDa (fun hHeld => ?_)
            clear hK K hHeld
            try simp only [Act.put, List.setIfInBounds_toArray, List.set_cons_zero, List.set_cons_succ]
            refine wpAnyH_ready (rs := [4]) (by kernel_rfl) (by simp) ?_
            refine AllReadyH.cons rfl (fun K hK => ?_) AllReadyH.nil
            go_simp
            have hDc := hDa.al (.cells #[.string d.f0, .int .i64 d.f1, .int .i64 d.f2, .int .i64 d.f3] 44)
            have hBc : Below w.heap.size w (wa.alloc (.cells #[.string d.f0, .int .i64 d.f1, .int .i64 d.f2, .int .i64 d.f3] 44)) := hBa.alloc hBa.size _
            have hOc := hOa.alloc (.cells #[.string d.f0, .int .i64 d.f1, .int .i64 d.f2, .int .i64 d.f3] 44)
            refine hK.out _ _ hDc (fun hHeld => ?_)
            clear hK K hHeld
            try simp only [Act.put, List.setIfInBounds_toArray, List.set_cons_zero, List.set_cons_succ]
            refine wpAnyH_ready (rs := [5]) (by kernel_rfl) (by simp) ?_
            refine AllReadyH.cons rfl (fun K hK => ?_) AllReadyH.nil
            go_simp
            refine (insC L _ k _ 1 d _ hOc (new_cells wa [.string d.f0, .int .i64 d.f1, .int .i64 d.f2, .int .i64 d.f3] 44) (by omega) hl9).mono ?_
            rintro e wd ⟨v, rfl, hgd, hR⟩
            have hBd := hBc.grown hgd hBc.size (fun q e => by have e' := Option.some.inj e; omega)
            have hDd := hDc.far hgd (fun q e => by have e' := Option.some.inj e; omega)
            go_wp2_with fail
            refine hK.out _ _ hDd (fun hHeld => ?_)
            clear hK K hHeld
            try simp only [Act.put, List.setIfInBounds_toArray, List.set_cons_zero, List.set_cons_succ]
            refine wpAnyH_take (i := 6) (oi := ⟨some 4, _, _, _, _, _⟩) (v := ?_) rfl (by kernel_rfl) (by kernel_rfl) (by kernel_rfl) (fun _ _ _ h => h) (Or.inl ⟨by rfl, ?_⟩) (by assumption) ?_
            rotate_left
            · (intro w9 hS9; obtain ⟨hg9, y0, y1, y2, y3⟩ := hS9; go_simp; try (with_reducible rfl))
            try simp only [Act.put, List.setIfInBounds_toArray, List.set_cons_zero, List.set_cons_succ]
            refine wpAnyH_take (i := 7) (oi := ⟨some 5, _, _, _, _, _⟩) (v := ?_) rfl (by kernel_rfl) (by kernel_rfl) (by kernel_rfl) (fun _ _ _ h => h) (Or.inl ⟨by rfl, ?_⟩) (by assumption) ?_
            rotate_left
            · (intro w9 hS9; obtain ⟨hg9, y0, y1, y2, y3⟩ := hS9; go_simp; try (with_reducible rfl))
            try simp only [Act.put, List.setIfInBounds_toArray, List.set_cons_zero, List.set_cons_succ]
            refine wpAnyH_done (by kernel_rfl) ?_ _
            go_wp2
            go_ret2
            refine ⟨v, by rw [H'.out.1] <;> rfl, hBd, ?_⟩
            rw [H'.out.2, hln.out]
            exact hR _ (by omega) hBc.size
          · go_simp
            have hDb := hDr9.al (.cells #[.string d.f0, .int .i64 d.f1, .int .i64 d.f2, .int .i64 d.f3] 44)
            have hBb : Below w.heap.size w (w9.drew.alloc (.cells #[.string d.f0, .int .i64 d.f1, .int .i64 d.f2, .int .i64 d.f3] 44)) := hBd0.alloc hBd0.size _
            have hsb := Lib.hid (hs'.out.below (hBb.mono hB))
            have hvb := Lib.hid (new_cells w9.drew [.string d.f0, .int .i64 d.f1, .int .i64 d.f2, .int .i64 d.f3] 44)
            refine hK.out _ _ hDb (fun hHeld => ?_)
            clear hK K hHeld
            try simp only [Act.put, List.setIfInBounds_toArray, List.set_cons_zero, List.set_cons_succ]
            refine wpAnyH_ready (rs := [1]) (by kernel_rfl) (by simp) ?_
            refine AllReadyH.cons rfl (fun K hK => ?_) AllReadyH.nil
            go_simp
            refine (clone_Danger L g 0 L.length B _ hsb.out (by have := hBb.size; omega) hl).mono ?_
            rintro e wc ⟨rfl, hbc, hOc⟩
            have hBc := bnext hBb hbc
            have hDc := hDb.on hbc
            have hzb := hbc.size
            have hzc := hBb.size
            have hvc : Hid (∀ j u, d.cells[j]? = some u → wc.cell? ((⟨w9.heap.size, 0, none⟩ : Addr).add j) = some u) := Lib.hid (fun j u hu => by
              have h1 := hvb.out j u hu
              rw [Addr.add_lit] at h1 ⊢
              exact cell_onA hbc h1)
            go_wp2_with fail
            refine hK.out _ _ hDc (fun hHeld => ?_)
            clear hK K hHeld
            try simp only [Act.put, List.setIfInBounds_toArray, List.set_cons_zero, List.set_cons_succ]
            refine wpAnyH_ready (rs := [5]) (by kernel_rfl) (by simp) ?_
            refine AllReadyH.cons rfl (fun K hK => ?_) AllReadyH.nil
            go_simp
            have hOc1 : Hid (Own wc (w9.heap.size + 1) 44 (L.length * 4) (flat RDanger.cells L)) := Lib.hid (by have h := hOc; rw [World.size_alloc] at h; exact h)
            have hkl : k ≤ L.length := by omega
            refine (insC L (w9.heap.size + 1) k w9.heap.size 1 d _ hOc1.out hvc.out hkl hl9).mono ?_
            rintro e wd ⟨v, rfl, hgd, hR⟩
            have hBd := hBc.grown hgd hBc.size (fun q e => by have e' := Option.some.inj e; omega)
            have hDd := hDc.far hgd (fun q e => by have e' := Option.some.inj e; omega)
            go_wp2_with fail
            refine hK.out _ _ hDd (fun hHeld => ?_)
            clear hK K hHeld
            try simp only [Act.put, List.setIfInBounds_toArray, List.set_cons_zero, List.set_cons_succ]
            refine wpAnyH_take (i := 6) (oi := ⟨some 4, _, _, _, _, _⟩) (v := ?_) rfl (by kernel_rfl) (by kernel_rfl) (by kernel_rfl) (fun _ _ _ h => h) (Or.inl ⟨by rfl, ?_⟩) (by assumption) ?_
            rotate_left
            · (intro w9 hS9; obtain ⟨hg9, y0, y1, y2, y3⟩ := hS9; go_simp; try (with_reducible rfl))
            try simp only [Act.put, List.setIfInBounds_toArray, List.set_cons_zero, List.set_cons_succ]
            refine wpAnyH_take (i := 7) (oi := ⟨some 5, _, _, _, _, _⟩) (v := ?_) rfl (by kernel_rfl) (by kernel_rfl) (by kernel_rfl) (fun _ _ _ h => h) (Or.inl ⟨by rfl, ?_⟩) (by assumption) ?_
            rotate_left
            · (intro w9 hS9; obtain ⟨hg9, y0, y1, y2, y3⟩ := hS9; go_simp; try (with_reducible rfl))
            try simp only [Act.put, List.setIfInBounds_toArray, List.set_cons_zero, List.set_cons_succ]
            refine wpAnyH_done (by kernel_rfl) ?_ _
            go_wp2
            go_ret2
            refine ⟨v, by rw [H'.out.1] <;> rfl, hBd, ?_⟩
            rw [H'.out.2, hln.out]
            exact hR _ (by omega) hBc.size
      · have hi1 := Lib.hid (hst.out h1)
        have h1' := ltS_yes h1
        clear hst hat his h1 hne0 ha
        go_wp2_with fail
        refine wp_region_grew (by kernel_rfl) (by kernel_rfl) ?_
        repeat (first | (go_big_quiet_step (fail)) | (quiet_step (fail)))
        refine wpQuiet_nil ?_
        rintro _ ⟨⟨w9, hb9⟩, rfl⟩
        try dsimp only
        obtain ⟨hc9, hf9⟩ := bcell hb9
        go_wp2
        go_roundw
        case rel => exact ⟨k + 1, by go_num, by omega, hi1.out, bnext hBr hb9, hDr.on hb9⟩
        case measure => simp [intOf]; omega
    · obtain rfl : k = L.length := by omega
      have hi1 : addAt d.f0 L = L.length := by have := addAt_le d.f0 L; omega
      have hno : ∀ hk : L.length < L.length, ¬ L[L.length].f0 = d.f0 := fun hk => by omega
      have hfull := Lib.hid (fun h => addC_full hv'.out hd'.out hi1 hno h)
      have hgo := Lib.hid (fun h => addC_ok hv'.out hd'.out hi1 hno h)
      have hki : ¬ (L.length : Int) < (L.length : Int) := by omega
      clear hno
      go_wp2_with fail
      refine wp_region_grew (by kernel_rfl) (by kernel_rfl) ?_
      repeat (first | (go_big_quiet_step (fail)) | (quiet_step (fail)))
      refine wpQuiet_nil ?_
      rintro w8 ⟨⟨w8, hb8⟩, rfl⟩
      try dsimp only
      obtain ⟨hc8, hf8⟩ := bcell hb8
      have hD8 := hDr.on hb8
      have hB8 := bnext hBr hb8
      clear hc8 hf8
      go_wp2_with fail
      refine wp_region_grew (by kernel_rfl) (by kernel_rfl) ?_
      repeat (first | (go_big_quiet_step (fail)) | (quiet_step (fail)))
      refine wpQuiet_nil ?_
      rintro w9 ⟨⟨w8, hb9⟩, rfl⟩
      try dsimp only
      obtain ⟨hc9, hf9⟩ := bcell hb9
      have hB9 := bnext hB8 hb9
      have hD9 := hD8.on hb9
      clear hc9 hf9 hb9 hb8 hD8 hDr hBr
      by_cases h24 : L.length = 24
      · have H := Lib.hid (hfull.out h24)
        go_wp2
        go_ret2
        exact AddPost.nil H.out hB9
      have H' := Lib.hid (hgo.out h24)
      have h24' : ((L.length : Int) == 24) = false := beq_eq_false_iff_ne.2 (by omega)
      clear hfull hgo
      have hz9 := hB9.size
      have hD9n := hD9.1
      have hsd := Lib.hid (hs'.out.below ((show Below w.heap.size w w9.drew from hB9.trans ⟨rfl, rfl, rfl, Nat.le_refl _, fun _ _ => rfl⟩).mono hB))
      have hBd0 : Below w.heap.size w w9.drew := hB9.trans ⟨rfl, rfl, rfl, Nat.le_refl _, fun _ _ => rfl⟩
      have hln := Lib.hid (ins_len L L.length d (by omega))
      have hBz : B ≤ w9.drew.heap.size := Nat.le_trans hB hz9
      have hl9 : L.length ≤ 1000 := by
        have hv2 := hv'.out
        unfold vDangsM at hv2
        rw [Bool.and_eq_true] at hv2
        have := of_decide_eq_true hv2.2
        omega
      have hDr9 : Dz w9.drew w.heap.size d := hD9.drew
      have hz9d : w9.drew.heap.size = w9.heap.size := rfl
      go_wp2_with fail
      refine wp_region_held_drew (S := fun w' => Dz w' w.heap.size d) (by kernel_rfl) hDr9 (fun hHeld => ?_)
      refine wpAnyH_take (i := 0) (v := ?_) rfl (by kernel_rfl) (by kernel_rfl) (by kernel_rfl) (fun _ _ _ h => h) (Or.inl ⟨by rfl, ?_⟩) (by assumption) ?_
      rotate_left
      · (intro w9 hS9; obtain ⟨hg9, y0, y1, y2, y3⟩ := hS9; go_simp; try (with_reducible rfl))
      try simp only [Act.put, List.setIfInBounds_toArray, List.set_cons_zero, List.set_cons_succ]
      refine wpAnyH_take (i := 2) (v := ?_) rfl (by kernel_rfl) (by kernel_rfl) (by kernel_rfl) (fun _ _ _ h => h) (Or.inl ⟨by rfl, ?_⟩) (by assumption) ?_
      rotate_left
      · (intro w9 hS9; obtain ⟨hg9, y0, y1, y2, y3⟩ := hS9; go_simp; try (with_reducible rfl))
      try simp only [Act.put, List.setIfInBounds_toArray, List.set_cons_zero, List.set_cons_succ]
      refine wpAnyH_take (i := 3) (v := ?_) rfl (by kernel_rfl) (by kernel_rfl) (by kernel_rfl) (fun _ _ _ h => h) (Or.inl ⟨by rfl, ?_⟩) (by assumption) ?_
      rotate_left
      · (intro w9 hS9; obtain ⟨hg9, y0, y1, y2, y3⟩ := hS9; go_simp; try (with_reducible rfl))
      try simp only [Act.put, List.setIfInBounds_toArray, List.set_cons_zero, List.set_cons_succ]
      refine wpAnyH_ready (rs := [1, 4]) (by kernel_rfl) (by simp) ?_
      refine AllReadyH.cons rfl (fun K hK => ?_) (AllReadyH.cons rfl (fun K hK => ?_) AllReadyH.nil)
      · go_simp
        refine (clone_Danger L g 0 L.length B _ hsd.out hBz hl).mono ?_
        rintro e wa ⟨rfl, hba, hOa⟩
        have hBa := bnext hBd0 hba
        have hDa := hDr9.on hba
        have hza := hba.size
        go_wp2_with fail
        refine hK.out _ _ hDa (fun hHeld => ?_)
        clear hK K hHeld
        try simp only [Act.put, List.setIfInBounds_toArray, List.set_cons_zero, List.set_cons_succ]
        refine wpAnyH_ready (rs := [4]) (by kernel_rfl) (by simp) ?_
        refine AllReadyH.cons rfl (fun K hK => ?_) AllReadyH.nil
        go_simp
        have hDc := hDa.al (.cells #[.string d.f0, .int .i64 d.f1, .int .i64 d.f2, .int .i64 d.f3] 44)
        have hBc : Below w.heap.size w (wa.alloc (.cells #[.string d.f0, .int .i64 d.f1, .int .i64 d.f2, .int .i64 d.f3] 44)) := hBa.alloc hBa.size _
        have hOc := hOa.alloc (.cells #[.string d.f0, .int .i64 d.f1, .int .i64 d.f2, .int .i64 d.f3] 44)
        refine hK.out _ _ hDc (fun hHeld => ?_)
        clear hK K hHeld
        try simp only [Act.put, List.setIfInBounds_toArray, List.set_cons_zero, List.set_cons_succ]
        refine wpAnyH_ready (rs := [5]) (by kernel_rfl) (by simp) ?_
        refine AllReadyH.cons rfl (fun K hK => ?_) AllReadyH.nil
        go_simp
        refine (insC L _ L.length _ 1 d _ hOc (new_cells wa [.string d.f0, .int .i64 d.f1, .int .i64 d.f2, .int .i64 d.f3] 44) (by omega) hl9).mono ?_
        rintro e wd ⟨v, rfl, hgd, hR⟩
        have hBd := hBc.grown hgd hBc.size (fun q e => by have e' := Option.some.inj e; omega)
        have hDd := hDc.far hgd (fun q e => by have e' := Option.some.inj e; omega)
        go_wp2_with fail
        refine hK.out _ _ hDd (fun hHeld => ?_)
        clear hK K hHeld
        try simp only [Act.put, List.setIfInBounds_toArray, List.set_cons_zero, List.set_cons_succ]
        refine wpAnyH_take (i := 6) (oi := ⟨some 4, _, _, _, _, _⟩) (v := ?_) rfl (by kernel_rfl) (by kernel_rfl) (by kernel_rfl) (fun _ _ _ h => h) (Or.inl ⟨by rfl, ?_⟩) (by assumption) ?_
        rotate_left
        · (intro w9 hS9; obtain ⟨hg9, y0, y1, y2, y3⟩ := hS9; go_simp; try (with_reducible rfl))
        try simp only [Act.put, List.setIfInBounds_toArray, List.set_cons_zero, List.set_cons_succ]
        refine wpAnyH_take (i := 7) (oi := ⟨some 5, _, _, _, _, _⟩) (v := ?_) rfl (by kernel_rfl) (by kernel_rfl) (by kernel_rfl) (fun _ _ _ h => h) (Or.inl ⟨by rfl, ?_⟩) (by assumption) ?_
        rotate_left
        · (intro w9 hS9; obtain ⟨hg9, y0, y1, y2, y3⟩ := hS9; go_simp; try (with_reducible rfl))
        try simp only [Act.put, List.setIfInBounds_toArray, List.set_cons_zero, List.set_cons_succ]
        refine wpAnyH_done (by kernel_rfl) ?_ _
        go_wp2
        go_ret2
        refine ⟨v, by rw [H'.out.1] <;> rfl, hBd, ?_⟩
        rw [H'.out.2, hln.out]
        exact hR _ (by omega) hBc.size
      · go_simp
        have hDb := hDr9.al (.cells #[.string d.f0, .int .i64 d.f1, .int .i64 d.f2, .int .i64 d.f3] 44)
        have hBb : Below w.heap.size w (w9.drew.alloc (.cells #[.string d.f0, .int .i64 d.f1, .int .i64 d.f2, .int .i64 d.f3] 44)) := hBd0.alloc hBd0.size _
        have hsb := Lib.hid (hs'.out.below (hBb.mono hB))
        have hvb := Lib.hid (new_cells w9.drew [.string d.f0, .int .i64 d.f1, .int .i64 d.f2, .int .i64 d.f3] 44)
        refine hK.out _ _ hDb (fun hHeld => ?_)
        clear hK K hHeld
        try simp only [Act.put, List.setIfInBounds_toArray, List.set_cons_zero, List.set_cons_succ]
        refine wpAnyH_ready (rs := [1]) (by kernel_rfl) (by simp) ?_
        refine AllReadyH.cons rfl (fun K hK => ?_) AllReadyH.nil
        go_simp
        refine (clone_Danger L g 0 L.length B _ hsb.out (by have := hBb.size; omega) hl).mono ?_
        rintro e wc ⟨rfl, hbc, hOc⟩
        have hBc := bnext hBb hbc
        have hDc := hDb.on hbc
        have hzb := hbc.size
        have hzc := hBb.size
        have hvc : Hid (∀ j u, d.cells[j]? = some u → wc.cell? ((⟨w9.heap.size, 0, none⟩ : Addr).add j) = some u) := Lib.hid (fun j u hu => by
          have h1 := hvb.out j u hu
          rw [Addr.add_lit] at h1 ⊢
          exact cell_onA hbc h1)
        go_wp2_with fail
        refine hK.out _ _ hDc (fun hHeld => ?_)
        clear hK K hHeld
        try simp only [Act.put, List.setIfInBounds_toArray, List.set_cons_zero, List.set_cons_succ]
        refine wpAnyH_ready (rs := [5]) (by kernel_rfl) (by simp) ?_
        refine AllReadyH.cons rfl (fun K hK => ?_) AllReadyH.nil
        go_simp
        have hOc1 : Hid (Own wc (w9.heap.size + 1) 44 (L.length * 4) (flat RDanger.cells L)) := Lib.hid (by have h := hOc; rw [World.size_alloc] at h; exact h)
        have hkl : L.length ≤ L.length := by omega
        refine (insC L (w9.heap.size + 1) L.length w9.heap.size 1 d _ hOc1.out hvc.out hkl hl9).mono ?_
        rintro e wd ⟨v, rfl, hgd, hR⟩
        have hBd := hBc.grown hgd hBc.size (fun q e => by have e' := Option.some.inj e; omega)
        have hDd := hDc.far hgd (fun q e => by have e' := Option.some.inj e; omega)
        go_wp2_with fail
        refine hK.out _ _ hDd (fun hHeld => ?_)
        clear hK K hHeld
        try simp only [Act.put, List.setIfInBounds_toArray, List.set_cons_zero, List.set_cons_succ]
        refine wpAnyH_take (i := 6) (oi := ⟨some 4, _, _, _, _, _⟩) (v := ?_) rfl (by kernel_rfl) (by kernel_rfl) (by kernel_rfl) (fun _ _ _ h => h) (Or.inl ⟨by rfl, ?_⟩) (by assumption) ?_
        rotate_left
        · (intro w9 hS9; obtain ⟨hg9, y0, y1, y2, y3⟩ := hS9; go_simp; try (with_reducible rfl))
        try simp only [Act.put, List.setIfInBounds_toArray, List.set_cons_zero, List.set_cons_succ]
        refine wpAnyH_take (i := 7) (oi := ⟨some 5, _, _, _, _, _⟩) (v := ?_) rfl (by kernel_rfl) (by kernel_rfl) (by kernel_rfl) (fun _ _ _ h => h) (Or.inl ⟨by rfl, ?_⟩) (by assumption) ?_
        rotate_left
        · (intro w9 hS9; obtain ⟨hg9, y0, y1, y2, y3⟩ := hS9; go_simp; try (with_reducible rfl))
        try simp only [Act.put, List.setIfInBounds_toArray, List.set_cons_zero, List.set_cons_succ]
        refine wpAnyH_done (by kernel_rfl) ?_ _
        go_wp2
        go_ret2
        refine ⟨v, by rw [H'.out.1] <;> rfl, hBd, ?_⟩
        rw [H'.out.2, hln.out]
        exact hR _ (by omega) hBc.size
theorem impl_Add (L : List RDanger) (g B : Nat) (d : RDanger) (w : World) (hs : Sl w B (some ⟨g, 0, none⟩) (flat RDanger.cells L)) (hgB : g < B) (hB : B ≤ w.heap.size) (hok : ∀ a ∈ L, a.ok) (hl : L.length ≤ 1048576) (hds : d.f0.size ≤ maxLen) :
    Calls Try.prog 23 #[.slice (some ⟨g, 0, none⟩) L.length L.length, .agg #[.string d.f0, .int .i64 d.f1, .int .i64 d.f2, .int .i64 d.f3]] w (AddPost L d w) := by
  cases hv : vDangsM L
  · exact impl_Add_bad L _ _ B d w hs hB hok hl hds (by rw [hv]; rfl)
  cases hd : d.v
  · exact impl_Add_bad L _ _ B d w hs hB hok hl hds (by rw [hd, Bool.and_false])
  exact impl_Add_go L g B d w hs hgB hB hok hl hds hv hd
end Go.Proofs.Ytlolkngklfabfaa
