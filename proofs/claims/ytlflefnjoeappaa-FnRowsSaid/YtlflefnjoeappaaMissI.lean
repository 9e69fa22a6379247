/-
  Contracts of the buoys that a list does not have: the program's. Under the conditions that each states.
-/
import Derived.Test.YtlflefnjoeappaaMiss
set_option linter.unusedVariables false
set_option linter.unnecessarySimpa false
set_option maxRecDepth 100000
set_option linter.unusedSimpArgs false
namespace Go.Proofs.Ytlflefnjoeappaa
open Go.RowKit BigFrame

theorem cell_grown {w w' : World} {row : Option Nat} {b o : Nat} {u : Value} (h : w.cell? ⟨b, o, none⟩ = some u) (hg : w.grownBy w' row) (hne : row ≠ some b) : w'.cell? ⟨b, o, none⟩ = some u := hg.cell h (fun e => hne e.symm)
theorem Bv.far {w w1 : World} {g : Nat} {row : Option Nat} {a : RBuoy} (h : Bv w g a) (hg : w.grownBy w1 row) (hne : row ≠ some g) : Bv w1 g a := by
  obtain ⟨h1, h2, h3, h4⟩ := h
  exact ⟨Nat.lt_of_lt_of_le h1 hg.size, cell_grown h2 hg hne, cell_grown h3 hg hne, cell_grown h4 hg hne⟩
theorem Bv.drewN {w : World} {g : Nat} {a : RBuoy} (h : Bv w g a) : Bv w.drew g a := h
set_option maxHeartbeats 1600000 in
theorem impl_near (a b : RBuoy) (g g2 : Nat) (t : Int) (w : World) (hV : Bv w g b) (hg2 : g2 < w.heap.size) (hT : w.cell? ⟨g2, 0, none⟩ = some (.int .i64 t)) (ha : vPoint a.f0 a.f1 = true) (hb : vPoint b.f0 b.f1 = true) :
    Calls Try.prog 92 #[.agg #[.int .i64 (a).f0, .int .i64 (a).f1, .int .i64 (a).f2], .pointer (some ⟨g, 0, none⟩), .pointer (some ⟨g2, 0, none⟩)] w fun e w' => e = .returned (.bool (nearB b a t)) ∧ Below w.heap.size w w' := by
  have hva := vPoint_yes ha
  have hvb := vPoint_yes hb
  obtain ⟨hvl, v0, v1, v2⟩ := id hV
  have hq := fun w => impl_Distance a.f0 a.f1 b.f0 b.f1 w hva.1 hva.2 hvb.1 hvb.2
  obtain ⟨n, hn⟩ : ∃ n, distM a.f0 a.f1 b.f0 b.f1 = n := ⟨_, rfl⟩
  rw [hn] at hq
  have hn' := Lib.hid hn
  clear hn ha hb
  by_cases hkd : a.f2 = b.f2
  · have hkb : (a.f2 == b.f2) = true := by simpa using hkd
    have hnear : Hid (nearB b a t = decide (n ≤ t)) := Lib.hid (by rw [near_same hkd, hn'.out])
    clear hkd
    go_enter Try.func92, Try.ntmps92
    go_wp2_with fail
    refine wp_region_grew (by kernel_rfl) (by kernel_rfl) ?_
    repeat (first | (go_big_quiet_step ((first | (go_at_call 93; exact grew_of (hq _))))) | (quiet_step ((first | (go_at_call 93; exact grew_of (hq _))))))
    refine wpQuiet_nil ?_
    rintro _ ⟨⟨w9, hb9⟩, rfl⟩
    try dsimp only
    obtain ⟨hc9, hf9⟩ := bcell hb9
    have hB9 := bnext (show Below w.heap.size w _ by go_grown) hb9
    clear hc9 hf9 hb9
    go_wp2
    go_ret
    exact ⟨ret_bool hnear.out.symm, hB9⟩
  · have hkb : (a.f2 == b.f2) = false := by simpa using hkd
    have hnear := Lib.hid (near_other (t := t) hkd)
    clear hkd
    go_enter Try.func92, Try.ntmps92
    go_wp2_with fail
    refine wp_region_grew (by kernel_rfl) (by kernel_rfl) ?_
    repeat (first | (go_big_quiet_step ((first | (go_at_call 93; exact grew_of (hq _))))) | (quiet_step ((first | (go_at_call 93; exact grew_of (hq _))))))
    refine wpQuiet_nil ?_
    rintro _ ⟨⟨w9, hb9⟩, rfl⟩
    try dsimp only
    obtain ⟨hc9, hf9⟩ := bcell hb9
    have hB9 := bnext (show Below w.heap.size w _ by go_grown) hb9
    clear hc9 hf9 hb9
    go_wp2
    go_ret
    exact ⟨ret_bool hnear.out.symm, hB9⟩
set_option maxHeartbeats 1600000 in
theorem impl_bindex (c1 c2 : Value) (p : RBuoy → Bool) (L : List RBuoy) (A : Option Addr) (c B : Nat) (w : World) (hs : Sl w B A (flat RBuoy.cells L)) (hB : B ≤ w.heap.size) (hl : L.length ≤ 1048576)
    (hF : ∀ (k : Nat) (w' : World), k < L.length → Below w.heap.size w w' → Calls Try.prog 92 #[.agg #[.int .i64 (L.getD k default).f0, .int .i64 (L.getD k default).f1, .int .i64 (L.getD k default).f2], c1, c2] w' fun e w'' => e = .returned (.bool (p (L.getD k default))) ∧ Below w'.heap.size w' w'') :
    Calls Try.prog 137 #[.slice A L.length c, .func (Fn.func 92) #[] #[c1, c2]] w fun e w' => ∃ r, e = .returned (.int .i64 r) ∧ Below w.heap.size w w' ∧ Found (fun j => !p (L.getD j default)) L.length r := by
  have hs' := Lib.hid hs
  have hF' := Lib.hid hF
  clear hs hF
  go_enter Try.func137, Try.ntmps137
  go_wp2
  go_loopw [8] (fun i wr => ∃ k : Nat, i = .int .i64 k ∧ k ≤ L.length ∧ Hid (∀ j, j < k → (!p (L.getD j default)) = true) ∧ Below w.heap.size w wr) (fun i _ => L.length - (intOf i).toNat)
  case atStart => exact ⟨0, rfl, Nat.zero_le _, Lib.hid (fun j hj => by omega), Below.refl _ _⟩
  case round =>
    obtain ⟨k, rfl, hk, hok, hB1⟩ := hrel
    have hS1 := hB1.size
    by_cases hlt : k < L.length
    · obtain ⟨b, o, rfl, hb, he⟩ := Sl.elem RBuoy.len (by decide) (hs'.out.below (hB1.mono hB)) hlt
      have hg := Lib.hid (getD_at hlt)
      obtain ⟨a, ha⟩ : ∃ a, L[k] = a := ⟨_, rfl⟩
      have hcall := hF'.out k wr hlt hB1
      rw [hg.out, ha] at hcall
      rw [ha] at hg he
      clear ha
      have d0 : wr.cell? ⟨b, o + k * 3, none⟩ = some (.int .i64 a.f0) := by have := he 0 _ rfl; simpa [Nat.add_assoc] using this
      have d1 : wr.cell? ⟨b, o + k * 3 + 1, none⟩ = some (.int .i64 a.f1) := by have := he 1 _ rfl; simpa [Nat.add_assoc] using this
      have d2 : wr.cell? ⟨b, o + k * 3 + 2, none⟩ = some (.int .i64 a.f2) := by have := he 2 _ rfl; simpa [Nat.add_assoc] using this
      have hki : (k : Int) < (L.length : Int) := by omega
      clear he
      go_wp2_with fail
      refine hcall.mono ?_
      rintro e w1 ⟨rfl, hb1⟩
      have hB2 := bnext hB1 hb1
      clear hb1 d0 d1 d2 hcall
      cases hoa : p a
      · have hok2 : Hid (∀ j, j < k + 1 → (!p (L.getD j default)) = true) := Lib.hid (fun j hj => by
          rcases (by omega : j < k ∨ j = k) with h | rfl
          · exact hok.out j h
          · rw [hg.out, hoa]; rfl)
        clear hok
        go_wp2
        go_roundw
        case rel => exact ⟨k + 1, by go_num, by omega, hok2, hB2⟩
        case measure => simp [intOf]; omega
      · have hft : (!p (L.getD k default)) = false := by rw [hg.out, hoa]; rfl
        have hft' := Lib.hid hft
        clear hft
        go_wp2
        go_ret
        exact ⟨_, rfl, hB2, .inr ⟨k, rfl, hlt, hft'.out, hok.out⟩⟩
    · obtain rfl : k = L.length := by omega
      go_wp2
      go_ret
      exact ⟨_, rfl, hB1, .inl ⟨rfl, hok.out⟩⟩
set_option maxHeartbeats 1600000 in
theorem impl_bindex2 (c1 c2 : Value) (p : RBuoy → Bool) (L : List RBuoy) (A : Option Addr) (c B : Nat) (w : World) (hs : Sl w B A (flat RBuoy.cells L)) (hB : B ≤ w.heap.size) (hl : L.length ≤ 1048576)
    (hF : ∀ (k : Nat) (w' : World), k < L.length → Below w.heap.size w w' → Calls Try.prog 90 #[.agg #[.int .i64 (L.getD k default).f0, .int .i64 (L.getD k default).f1, .int .i64 (L.getD k default).f2], c1, c2] w' fun e w'' => e = .returned (.bool (p (L.getD k default))) ∧ Below w'.heap.size w' w'') :
    Calls Try.prog 137 #[.slice A L.length c, .func (Fn.func 90) #[] #[c1, c2]] w fun e w' => ∃ r, e = .returned (.int .i64 r) ∧ Below w.heap.size w w' ∧ Found (fun j => !p (L.getD j default)) L.length r := by
  have hs' := Lib.hid hs
  have hF' := Lib.hid hF
  clear hs hF
  go_enter Try.func137, Try.ntmps137
  go_wp2
  go_loopw [8] (fun i wr => ∃ k : Nat, i = .int .i64 k ∧ k ≤ L.length ∧ Hid (∀ j, j < k → (!p (L.getD j default)) = true) ∧ Below w.heap.size w wr) (fun i _ => L.length - (intOf i).toNat)
  case atStart => exact ⟨0, rfl, Nat.zero_le _, Lib.hid (fun j hj => by omega), Below.refl _ _⟩
  case round =>
    obtain ⟨k, rfl, hk, hok, hB1⟩ := hrel
    have hS1 := hB1.size
    by_cases hlt : k < L.length
    · obtain ⟨b, o, rfl, hb, he⟩ := Sl.elem RBuoy.len (by decide) (hs'.out.below (hB1.mono hB)) hlt
      have hg := Lib.hid (getD_at hlt)
      obtain ⟨a, ha⟩ : ∃ a, L[k] = a := ⟨_, rfl⟩
      have hcall := hF'.out k wr hlt hB1
      rw [hg.out, ha] at hcall
      rw [ha] at hg he
      clear ha
      have d0 : wr.cell? ⟨b, o + k * 3, none⟩ = some (.int .i64 a.f0) := by have := he 0 _ rfl; simpa [Nat.add_assoc] using this
      have d1 : wr.cell? ⟨b, o + k * 3 + 1, none⟩ = some (.int .i64 a.f1) := by have := he 1 _ rfl; simpa [Nat.add_assoc] using this
      have d2 : wr.cell? ⟨b, o + k * 3 + 2, none⟩ = some (.int .i64 a.f2) := by have := he 2 _ rfl; simpa [Nat.add_assoc] using this
      have hki : (k : Int) < (L.length : Int) := by omega
      clear he
      go_wp2_with fail
      refine hcall.mono ?_
      rintro e w1 ⟨rfl, hb1⟩
      have hB2 := bnext hB1 hb1
      clear hb1 d0 d1 d2 hcall
      cases hoa : p a
      · have hok2 : Hid (∀ j, j < k + 1 → (!p (L.getD j default)) = true) := Lib.hid (fun j hj => by
          rcases (by omega : j < k ∨ j = k) with h | rfl
          · exact hok.out j h
          · rw [hg.out, hoa]; rfl)
        clear hok
        go_wp2
        go_roundw
        case rel => exact ⟨k + 1, by go_num, by omega, hok2, hB2⟩
        case measure => simp [intOf]; omega
      · have hft : (!p (L.getD k default)) = false := by rw [hg.out, hoa]; rfl
        have hft' := Lib.hid hft
        clear hft
        go_wp2
        go_ret
        exact ⟨_, rfl, hB2, .inr ⟨k, rfl, hlt, hft'.out, hok.out⟩⟩
    · obtain rfl : k = L.length := by omega
      go_wp2
      go_ret
      exact ⟨_, rfl, hB1, .inl ⟨rfl, hok.out⟩⟩
theorem any_of_found {p : RBuoy → Bool} {L : List RBuoy} {r : Int} (h : Found (fun j => !p (L.getD j default)) L.length r) : (r = -1 ∧ L.any p = false) ∨ ∃ k : Nat, r = k ∧ k < L.length ∧ L.any p = true := by
  rcases h with ⟨h1, h2⟩ | ⟨k, h1, h2, h3, _⟩
  · refine .inl ⟨h1, ?_⟩
    rw [List.any_eq_false]
    intro x hx
    obtain ⟨j, hj, rfl⟩ := List.getElem_of_mem hx
    have this : (!p (L.getD j default)) = true := h2 j hj
    rw [getD_at hj] at this
    simpa using this
  · refine .inr ⟨k, h1, h2, ?_⟩
    rw [List.any_eq_true]
    refine ⟨L[k], List.getElem_mem h2, ?_⟩
    have : (!p (L.getD k default)) = false := h3
    rw [getD_at h2] at this
    simpa using this
theorem impl_bcontains (c1 c2 : Value) (p : RBuoy → Bool) (L : List RBuoy) (A : Option Addr) (c B : Nat) (w : World) (hs : Sl w B A (flat RBuoy.cells L)) (hB : B ≤ w.heap.size) (hl : L.length ≤ 1048576)
    (hF : ∀ (k : Nat) (w' : World), k < L.length → Below w.heap.size w w' → Calls Try.prog 92 #[.agg #[.int .i64 (L.getD k default).f0, .int .i64 (L.getD k default).f1, .int .i64 (L.getD k default).f2], c1, c2] w' fun e w'' => e = .returned (.bool (p (L.getD k default))) ∧ Below w'.heap.size w' w'') :
    Calls Try.prog 91 #[.slice A L.length c, .func (Fn.func 92) #[] #[c1, c2]] w fun e w' => e = .returned (.bool (L.any p)) ∧ Below w.heap.size w w' := by
  have h := impl_bindex c1 c2 p L A c B w hs hB hl hF
  clear hF hs
  go_enter Try.func91, Try.ntmps91
  go_wp2_with fail
  refine h.mono ?_
  rintro e w1 ⟨r, rfl, hb, hr⟩
  rcases any_of_found hr with ⟨rfl, hr2⟩ | ⟨k, rfl, hk, hr2⟩
  · have e := Lib.hid hr2
    clear h hr hr2
    go_wp2
    go_ret
    exact ⟨ret_bool (by rw [e.out]), hb⟩
  · have e := Lib.hid hr2
    clear h hr hr2 hk
    go_wp2
    go_ret
    exact ⟨ret_bool (by rw [e.out]), hb⟩
/-- Whether the list has a buoy: the program's test; the list and the tolerance lie in variables. -/
theorem impl_has (L : List RBuoy) (A : Option Addr) (c B : Nat) (b : RBuoy) (t : Int) (g1 g2 : Nat) (w : World) (hs : Sl w B A (flat RBuoy.cells L)) (hB : B ≤ w.heap.size) (hl : L.length ≤ 1048576) (hv : vBuoys L = true) (hb : vPoint b.f0 b.f1 = true) (hg1 : g1 < w.heap.size) (hL : w.cell? ⟨g1, 0, none⟩ = some (.slice A L.length c)) (hg2 : g2 < w.heap.size) (hT : w.cell? ⟨g2, 0, none⟩ = some (.int .i64 t)) :
    Calls Try.prog 90 #[.agg #[.int .i64 (b).f0, .int .i64 (b).f1, .int .i64 (b).f2], .pointer (some ⟨g1, 0, none⟩), .pointer (some ⟨g2, 0, none⟩)] w fun e w' => e = .returned (.bool (hasB L b t)) ∧ Below w.heap.size w w' := by
  have hvp := buoys_pt hv
  have hs' := Lib.hid hs
  have hcall : ∀ w2, Below (w.alloc (.cells #[.int .i64 b.f0, .int .i64 b.f1, .int .i64 b.f2] 66)).heap.size (w.alloc (.cells #[.int .i64 b.f0, .int .i64 b.f1, .int .i64 b.f2] 66)) w2 → Calls Try.prog 91 #[.slice A L.length c, .func (Fn.func 92) #[] #[.pointer (some ⟨w.heap.size, 0, none⟩), .pointer (some ⟨g2, 0, none⟩)]] w2 fun e w' => e = .returned (.bool (hasB L b t)) ∧ Below w2.heap.size w2 w' := fun w2 hb2 => by
    have hV := (Bv.new w b 66).on hb2
    have hBw := bnext (show Below w.heap.size w (w.alloc (.cells #[.int .i64 b.f0, .int .i64 b.f1, .int .i64 b.f2] 66)) by go_grown) hb2
    have hT2 := cell_onN hBw hT hg2
    exact impl_bcontains _ _ (fun c => nearB b c t) L A c B w2 (hs'.out.below (hBw.mono hB)) (Nat.le_trans hB hBw.size) hl (fun k w3 hk h3 => impl_near _ b _ _ t w3 (hV.on h3) (Nat.lt_of_lt_of_le (Nat.lt_of_lt_of_le hg2 hBw.size) h3.size) (cell_onN h3 hT2 (Nat.lt_of_lt_of_le hg2 hBw.size)) (hvp k hk) hb)
  have hcall' := Lib.hid hcall
  clear hcall hs
  go_enter Try.func90, Try.ntmps90
  go_wp2_with fail
  refine (hcall'.out _ (Below.refl _ _)).mono ?_
  rintro e w1 ⟨rfl, hb1⟩
  have hB1 := bnext (show Below w.heap.size w _ by go_grown) hb1
  go_wp2
  go_ret
  exact ⟨rfl, hB1⟩
theorem zero_buoys (n : Nat) : (Builtin.zeroCells (Value.agg #[.int .i64 0, .int .i64 0, .int .i64 0]).cells n).toList.length = n * 3 ∧ ∀ u ∈ (Builtin.zeroCells (Value.agg #[.int .i64 0, .int .i64 0, .int .i64 0]).cells n).toList, u.oneCell' = true := by
  refine ⟨by rw [Array.length_toList, size_zeroCells]; rfl, fun u hu => ?_⟩
  simp only [Builtin.zeroCells, Array.toList_map, List.mem_map] at hu
  obtain ⟨i, _, rfl⟩ := hu
  have hs : (Value.agg #[.int .i64 0, .int .i64 0, .int .i64 0]).cells = #[.int .i64 0, .int .i64 0, .int .i64 0] := rfl
  rw [hs]
  have h3 : i % (#[Value.int .i64 0, .int .i64 0, .int .i64 0] : Array Value).size < 3 := Nat.mod_lt _ (by decide)
  generalize i % (#[Value.int .i64 0, .int .i64 0, .int .i64 0] : Array Value).size = k at h3
  match k, h3 with
  | 0, _ => rfl
  | 1, _ => rfl
  | 2, _ => rfl
theorem grown_none {w w' : World} {g : Nat} (hb : Below w.heap.size w w') : w.grownBy w' (some g) := ⟨hb.os, hb.tape, hb.output, hb.size, fun k hk _ => hb.block k hk⟩
theorem flat_put {M : List RBuoy} {i : Nat} (hi : i < M.length) (b : RBuoy) : (flat RBuoy.cells M).take (i * 3) ++ RBuoy.cells b ++ (flat RBuoy.cells M).drop (i * 3 + (RBuoy.cells b).length) = flat RBuoy.cells (M.take i ++ [b] ++ M.drop (i + 1)) := by
  have e : i * 3 + (RBuoy.cells b).length = (i + 1) * 3 := by rw [RBuoy.len]; omega
  rw [e, flat_tk RBuoy.len M (by omega), flat_dr RBuoy.len M (by omega), flat_append, flat_append]
  simp [flat]
def DelPost (g n' c : Nat) (M : List RBuoy) (N : Nat) (w : World) (e : Ending) (w' : World) : Prop := e = .returned (.slice (some ⟨g, 0, none⟩) n' c) ∧ w.grownBy w' (some g) ∧ Own w' g 66 N (flat RBuoy.cells M)
set_option maxHeartbeats 3200000 in
theorem impl_del (W L : List RBuoy) (t : Int) (c1 c2 : Value) (g c N : Nat) (w : World) (hO : Own w g 66 N (flat RBuoy.cells W)) (hl : W.length ≤ 1048576) (hc : W.length ≤ c)
    (hF : ∀ (k : Nat) (w' : World), k < W.length → w.grownBy w' (some g) → Calls Try.prog 90 #[.agg #[.int .i64 (W.getD k default).f0, .int .i64 (W.getD k default).f1, .int .i64 (W.getD k default).f2], c1, c2] w' fun e w'' => e = .returned (.bool (hasB L (W.getD k default) t)) ∧ Below w'.heap.size w' w'') :
    Calls Try.prog 89 #[.slice (some ⟨g, 0, none⟩) W.length c, .func (Fn.func 90) #[] #[c1, c2]] w (DelPost g (lacks W L t).length c (lacks W L t) N w) := by
  have hfi := impl_bindex2 c1 c2 (fun b => hasB L b t) W (some ⟨g, 0, none⟩) c w.heap.size w hO.sl' (Nat.le_refl _) hl (fun k w' hk hb => hF k w' hk (grown_none hb))
  obtain ⟨i0, hi0, hz0, hz1, hz2⟩ := info_parts infoBu
  have hF' := Lib.hid hF
  have hO' := Lib.hid hO
  have hall := Lib.hid (lackTo_all W L t)
  clear hF hO
  go_enter Try.func89, Try.ntmps89
  go_wp2_with fail
  refine hfi.mono ?_
  rintro e w1 ⟨r, rfl, hb1, hr⟩
  have hG1 := grown_none (g := g) hb1
  have hO1 := hO'.out.on hb1
  clear hfi hb1
  rcases hr with ⟨rfl, hr⟩ | ⟨k, rfl, hkl, hf, hpre⟩
  · have hsame : Hid (lacks W L t = W) := Lib.hid (by
      unfold lacks
      rw [List.filter_eq_self]
      intro x hx
      obtain ⟨j, hj, rfl⟩ := List.getElem_of_mem hx
      have h2 : (!hasB L (W.getD j default) t) = true := hr j hj
      rw [getD_at hj] at h2
      exact h2)
    clear hr
    go_wp2
    go_ret
    unfold DelPost
    rw [hsame.out]
    exact ⟨rfl, hG1, hO1⟩
  · have hk1 : ((k : Int) == -1) = false := beq_eq_false_iff_ne.2 (by omega)
    have hT0 : Hid (lackTo W L t (k + 1) = W.take k) := Lib.hid (by
      have hk0 : hasB L (W.getD k default) t = true := by
        have h2 : (!hasB L (W.getD k default) t) = false := hf
        simpa using h2
      rw [lackTo_drop hkl rfl hk0]
      unfold lackTo lacks
      rw [List.filter_eq_self]
      intro x hx
      obtain ⟨j, hj, rfl⟩ := List.getElem_of_mem hx
      rw [List.length_take] at hj
      have h2 : (!hasB L (W.getD j default) t) = true := hpre j (by omega)
      rw [getD_at (by omega)] at h2
      rw [List.getElem_take]
      exact h2)
    have hN : W.length * 3 ≤ N := by
      obtain ⟨_, _, _, hx, _⟩ := hO1
      rw [flat_len RBuoy.len] at hx
      exact hx
    clear hf hpre
    go_wp2_with fail
    go_loopw [5, 6] (fun iv jv wr => ∃ (i j : Nat) (M : List RBuoy), iv = .int .i64 i ∧ jv = .int .i64 j ∧ i < j ∧ j ≤ W.length ∧ Hid (M.length = W.length) ∧ Hid (M.take i = lackTo W L t j) ∧ Hid (M.drop j = W.drop j) ∧ w.grownBy wr (some g) ∧ Own wr g 66 N (flat RBuoy.cells M)) (fun _ j _ => W.length - (intOf j).toNat)
    case atStart => exact ⟨k, k + 1, W, rfl, by go_num, by omega, by omega, Lib.hid rfl, Lib.hid hT0.out.symm, Lib.hid rfl, hG1, hO1⟩
    case round =>
      clear hG1 hO1 hT0
      obtain ⟨i, j, M, rfl, rfl, hij, hj, hM, hT, hD, hG, hO⟩ := hrel
      have hS1 := hG.size
      have hgl := hO.lt
      by_cases hlt : j < W.length
      · have hjM : j < M.length := by rw [hM.out]; exact hlt
        have hel : M[j] = W[j] := by
          have h1 : (M.drop j)[0]? = (W.drop j)[0]? := by rw [hD.out]
          rw [List.getElem?_drop, List.getElem?_drop, Nat.add_zero, List.getElem?_eq_getElem hjM, List.getElem?_eq_getElem hlt] at h1
          exact Option.some.inj h1
        have hg := Lib.hid (getD_at hlt)
        obtain ⟨b, hb⟩ : ∃ b, W[j] = b := ⟨_, rfl⟩
        rw [hb] at hg hel
        obtain ⟨b', o', e', hb', he⟩ := Sl.elem RBuoy.len (by decide) hO.sl' hjM
        cases e'
        rw [hel] at he
        have d0 : wr.cell? ⟨g, j * 3, none⟩ = some (.int .i64 b.f0) := by have := he 0 _ rfl; simpa using this
        have d1 : wr.cell? ⟨g, j * 3 + 1, none⟩ = some (.int .i64 b.f1) := by have := he 1 _ rfl; simpa using this
        have d2 : wr.cell? ⟨g, j * 3 + 2, none⟩ = some (.int .i64 b.f2) := by have := he 2 _ rfl; simpa using this
        have hcall := hF'.out j
        rw [hg.out] at hcall
        have hcall' := Lib.hid hcall
        have hyes := Lib.hid (lackTo_drop (L := L) (t := t) hlt hg.out)
        have hnot := Lib.hid (lackTo_keep (L := L) (t := t) hlt hg.out)
        have hji : (j : Int) < (W.length : Int) := by omega
        have hjc : j ≤ c := by omega
        have hdj : Hid (M.drop (j + 1) = W.drop (j + 1)) := Lib.hid (by
          have := congrArg (List.drop 1) hD.out
          rw [List.drop_drop, List.drop_drop] at this
          exact this)
        clear he hb hel hcall
        go_wp2_with fail
        have hal : Below wr.heap.size wr (wr.alloc (.cells #[.int .i64 b.f0, .int .i64 b.f1, .int .i64 b.f2] 66)) := by go_grown
        have hGa := Go.Lib.grownBy_below hG hal
        have hOa := hO.on hal
        have hVa := Bv.new wr b 66
        refine (hcall'.out _ hlt hGa).mono ?_
        rintro e w3 ⟨rfl, hb3⟩
        have hG3 := Go.Lib.grownBy_below hGa hb3
        have hO3 := hOa.on hb3
        have hV3 := hVa.on hb3
        have hS3 := hb3.size
        rw [World.size_alloc] at hS3
        obtain ⟨hvl, v0, v1, v2⟩ := id hV3
        clear hal hGa hOa hVa hb3 hG hO d0 d1 d2 hD
        cases hhb : hasB L b t
        · have hiM : i < M.length := by rw [hM.out]; omega
          have hTn : Hid ((M.take i ++ [b] ++ M.drop (i + 1)).take (i + 1) = lackTo W L t (j + 1)) := Lib.hid (by
            rw [hnot.out hhb, ← hT.out]
            have hl1 : (M.take i ++ [b]).length = i + 1 := by rw [List.length_append, List.length_take, Nat.min_eq_left (by omega)]; rfl
            rw [← hl1, List.take_left])
          have hDn : Hid ((M.take i ++ [b] ++ M.drop (i + 1)).drop (j + 1) = W.drop (j + 1)) := Lib.hid (by
            have hl1 : (M.take i ++ [b]).length = i + 1 := by rw [List.length_append, List.length_take, Nat.min_eq_left (by omega)]; rfl
            rw [List.drop_append, List.drop_of_length_le (by omega), List.nil_append, List.drop_drop, ← hdj.out, hl1]
            congr 1
            omega)
          have hMn : Hid ((M.take i ++ [b] ++ M.drop (i + 1)).length = W.length) := Lib.hid (by rw [← hM.out, List.length_append, List.length_append, List.length_take, List.length_drop, Nat.min_eq_left (by omega)]; simp; omega)
          obtain ⟨u0, x0⟩ := hO3.cell (i := i * 3) (by have := hM.out; omega)
          obtain ⟨u1, x1⟩ := hO3.cell (i := i * 3 + 1) (by have := hM.out; omega)
          obtain ⟨u2, x2⟩ := hO3.cell (i := i * 3 + 2) (by have := hM.out; omega)
          have y0 := hO3.frozen (i * 3)
          have y1 := hO3.frozen (i * 3 + 1)
          have y2 := hO3.frozen (i * 3 + 2)
          have hOn : Hid (Own (w3.setCells g (i * 3) (RBuoy.cells b)) g 66 N (flat RBuoy.cells (M.take i ++ [b] ++ M.drop (i + 1)))) := Lib.hid (by
            rw [← flat_put hiM b]
            exact hO3.upds (RBuoy.cells b) (i * 3) (by rw [flat_len RBuoy.len, RBuoy.len]; omega))
          have hGn : Hid (w.grownBy (w3.setCells g (i * 3) (RBuoy.cells b)) (some g)) := Lib.hid (grown_cells _ _ hG3)
          have hii : (i : Int) < (W.length : Int) := by omega
          have hgne : wr.heap.size ≠ g := by omega
          clear hnot hyes hG3 hO3
          go_wp2
          go_roundw
          case rel => exact ⟨i + 1, j + 1, _, by go_num, by go_num, by omega, by omega, hMn, hTn, hDn, hGn.out, hOn.out⟩
          case measure => simp [intOf]; omega
        · have hTn : Hid (M.take i = lackTo W L t (j + 1)) := Lib.hid (by rw [hyes.out hhb]; exact hT.out)
          clear hnot hyes
          go_wp2
          go_roundw
          case rel => exact ⟨i, j + 1, M, rfl, by go_num, by omega, by omega, hM, hTn, hdj, hG3, hO3⟩
          case measure => simp [intOf]; omega
      · obtain rfl : j = W.length := by omega
        have hfin : Hid (M.take i = lacks W L t) := Lib.hid (by rw [hT.out, hall.out])
        have hlen : Hid ((lacks W L t).length = i) := Lib.hid (by rw [← hfin.out, List.length_take, hM.out, Nat.min_eq_left (by omega)])
        obtain ⟨hzl, hz1c⟩ := zero_buoys (W.length - i)
        obtain ⟨zs, hzs⟩ : ∃ zs : List Value, (Builtin.zeroCells (Value.agg #[.int .i64 0, .int .i64 0, .int .i64 0]).cells (W.length - i)).toList = zs := ⟨_, rfl⟩
        rw [hzs] at hzl hz1c
        have hcl : ∀ ty cc, (Builtin.clear_ #[56] ty #[.slice (some ⟨g, i * 3, none⟩) (W.length - i) cc]).run Try.prog wr = .ok (.tuple #[]) (wr.setCells g (i * 3) zs) := fun ty cc =>
          run_clear_rows wr 56 66 ty (.agg #[.int .i64 0, .int .i64 0, .int .i64 0]) zs Try.underlying56 (fun w => by simp [zeroValue, typeInfo, hi0, hz0]) g _ _ cc (by omega) hzs hz1c (fun j hj => hO.some (by have := hM.out; omega)) (fun j hj => hO.frozen _)
        have hOn : Hid (Own (wr.setCells g (i * 3) zs) g 66 N (flat RBuoy.cells (lacks W L t))) := Lib.hid (by
          have h := hO.upds zs (i * 3) (by rw [flat_len RBuoy.len, hM.out, hzl]; omega)
          rw [List.append_assoc] at h
          have h2 := Own.cut h
          rw [flat_tk RBuoy.len M (by rw [hM.out]; omega), hfin.out] at h2
          exact h2)
        have hGn : Hid (w.grownBy (wr.setCells g (i * 3) zs) (some g)) := Lib.hid (grown_cells _ _ hG)
        have hic : i ≤ c := by omega
        have hin : i ≤ W.length := by omega
        clear hzs hzl hz1c hO hG hT hD
        go_wp2
        go_ret
        unfold DelPost
        rw [hlen.out]
        exact ⟨rfl, hGn.out, hOn.out⟩
theorem owned_row {w : World} {B n : Nat} {t : TypeId} {v : Value} {xs : List Value} (h : w.ownsRow B t 3 v n xs) (hn : n ≠ 0) : ∃ g c N, v = .slice (some ⟨g, 0, none⟩) n c ∧ B ≤ g ∧ n ≤ c ∧ Own w g t N xs := by
  have h' := h
  obtain ⟨hl, ⟨_, h0⟩ | ⟨g, cap, cur, rfl, hb, hh, hnc, hm, hs, ht⟩⟩ := h
  · exact absurd h0 hn
  · obtain ⟨_, ⟨_, h0⟩ | ⟨g2, c2, N, e2, hb2, hO⟩⟩ := Rs.of_owns h'
    · exact absurd h0 hn
    · cases e2
      exact ⟨g, cap, N, rfl, hb, hnc, hO⟩
theorem buoysL_pos {nm : ByteArray} {P : List RPoint} {wd s : Int} (h : gtC nm P wd s = 0) : (buoysOf (gtL nm P wd s)).length ≠ 0 := by
  rw [buoysOf_len]
  unfold gtL
  rw [if_pos h, gates_len]
  omega
set_option maxHeartbeats 3200000 in
theorem impl_Miss_yes (nm : ByteArray) (hnm : nm.size ≤ maxLen) (P : List RPoint) (A : Option Addr) (c B : Nat) (wd s : Int) (L : List RBuoy) (A2 : Option Addr) (c2 : Nat) (t : Int) (w : World) (hP : Sl w B A (flat RPoint.cells P)) (hs : Sl w B A2 (flat RBuoy.cells L)) (hB : B ≤ w.heap.size) (hl : P.length ≤ 1048576) (hn : L.length ≤ 1048576) (hv : vChan nm P wd = true) (hv2 : vBuoys L = true) (ht : inB t 0 5000 = true) :
    Calls Try.prog 35 #[.agg #[.string nm, .slice A P.length c, .int .i64 wd], .int .i64 s, .slice A2 L.length c2, .int .i64 t] w (BuPost (gtC nm P wd s) (lacks (buoysOf (gtL nm P wd s)) L t) w) := by
  have hbu := fun w hp hB => impl_Buoys nm hnm P A c B wd s w hp hB hl
  have hle := buoysL_le nm P wd s
  have hvp := buoys_ok (nm := nm) (P := P) (wd := wd) (s := s)
  have hpos := buoysL_pos (nm := nm) (P := P) (wd := wd) (s := s)
  have hno : ¬ gtC nm P wd s = 0 → buoysOf (gtL nm P wd s) = [] := fun h => by unfold gtL; rw [if_neg h]; rfl
  have hha := fun b w g1 g2 h1 h2 h3 h4 h5 h6 h7 => impl_has L A2 c2 B b t g1 g2 w h1 h2 hn hv2 h3 h4 h5 h6 h7
  generalize buoysOf (gtL nm P wd s) = W at *
  generalize gtC nm P wd s = C at *
  have hno' := Lib.hid hno
  have hpos' := Lib.hid hpos
  have hP' := Lib.hid hP
  have hs' := Lib.hid hs
  have hbu' := Lib.hid hbu
  have hha' := Lib.hid hha
  have hvp' := Lib.hid hvp
  have hZ0 := Lib.hid (Cz.new w nm A P.length c wd 49)
  clear hno hP hs hbu hha hvp hpos
  have hin : ∀ wz, wz = ((w.alloc (.cells #[.string nm, .slice A P.length c, .int .i64 wd] 49)).alloc (.cells #[.slice A2 L.length c2] 56)).alloc (.cells #[.int .i64 t] 2) → Below w.heap.size w wz ∧ Cz wz w.heap.size nm A P.length c wd ∧ (w.heap.size + 1 < wz.heap.size ∧ wz.cell? ⟨w.heap.size + 1, 0, none⟩ = some (.slice A2 L.length c2)) ∧ w.heap.size + 2 < wz.heap.size ∧ wz.cell? ⟨w.heap.size + 2, 0, none⟩ = some (.int .i64 t) := fun wz hz => by
    subst hz
    exact ⟨by go_grown, hZ0.out.on (by go_grown), ⟨by simp, by simp [go_sem]⟩, by simp, by simp [go_sem]⟩
  obtain ⟨a1, a2, a3, a4⟩ := hin _ rfl
  clear hin hZ0
  go_enter Try.func35, Try.ntmps35
  go_wp2_with fail
  generalize ((w.alloc (.cells #[.string nm, .slice A P.length c, .int .i64 wd] 49)).alloc (.cells #[.slice A2 L.length c2] 56)).alloc (.cells #[.int .i64 t] 2) = w0 at *
  refine (impl_ValidChannel nm hnm P A c B wd _ (hP'.out.below (a1.mono hB)) (Nat.le_trans hB a1.size) hl).mono ?_
  rintro e w1 ⟨rfl, hb1⟩
  rw [hv]
  replace a1 := bnext a1 hb1
  replace a2 := a2.on hb1
  replace a3 : w.heap.size + 1 < w1.heap.size ∧ w1.cell? ⟨w.heap.size + 1, 0, none⟩ = some (.slice A2 L.length c2) := ⟨Nat.lt_of_lt_of_le a3.1 hb1.size, cell_onN hb1 a3.2 a3.1⟩
  replace a4 : w.heap.size + 2 < w1.heap.size ∧ w1.cell? ⟨w.heap.size + 2, 0, none⟩ = some (.int .i64 t) := ⟨Nat.lt_of_lt_of_le a4.1 hb1.size, cell_onN hb1 a4.2 a4.1⟩
  clear hb1 hv
  obtain ⟨x1, x2⟩ := id a3
  go_wp2_with fail
  refine (impl_ValidBuoys L A2 c2 B _ (hs'.out.below (a1.mono hB)) (Nat.le_trans hB a1.size) hn).mono ?_
  rintro e w2 ⟨rfl, hb2⟩
  rw [hv2]
  replace a1 := bnext a1 hb2
  replace a2 := a2.on hb2
  clear x1 x2
  replace a3 : w.heap.size + 1 < w2.heap.size ∧ w2.cell? ⟨w.heap.size + 1, 0, none⟩ = some (.slice A2 L.length c2) := ⟨Nat.lt_of_lt_of_le a3.1 hb2.size, cell_onN hb2 a3.2 a3.1⟩
  replace a4 : w.heap.size + 2 < w2.heap.size ∧ w2.cell? ⟨w.heap.size + 2, 0, none⟩ = some (.int .i64 t) := ⟨Nat.lt_of_lt_of_le a4.1 hb2.size, cell_onN hb2 a4.2 a4.1⟩
  clear hb2 hv2
  obtain ⟨x1, x2⟩ := id a4
  obtain ⟨hzl, z0, z1, z2⟩ := id a2
  go_wp2_with (go_at_call 82; refine (within_any _ _ _ _).mono ?_; rintro e w' ⟨rfl, rfl⟩)
  refine (hbu'.out _ (hP'.out.below (a1.mono hB)) (Nat.le_trans hB a1.size)).mono ?_
  rintro e w3 ⟨v, rfl, hb3, hR⟩
  replace a1 := bnext a1 hb3
  clear x1 x2 hzl z0 z1 z2 a2 ht
  replace a3 : w.heap.size + 1 < w3.heap.size ∧ w3.cell? ⟨w.heap.size + 1, 0, none⟩ = some (.slice A2 L.length c2) := ⟨Nat.lt_of_lt_of_le a3.1 hb3.size, cell_onN hb3 a3.2 a3.1⟩
  have hz4 := a4.1
  replace a4 : w.heap.size + 2 < w3.heap.size ∧ w3.cell? ⟨w.heap.size + 2, 0, none⟩ = some (.int .i64 t) := ⟨Nat.lt_of_lt_of_le a4.1 hb3.size, cell_onN hb3 a4.2 a4.1⟩
  clear hb3
  by_cases hC : C = 0
  rotate_left
  · have hC' : (C != 0) = true := by simpa using hC
    have hG := Lib.hid (hno'.out hC)
    clear hC
    go_wp2
    go_ret2
    exact ⟨_, rfl, a1, by rw [hG.out]; exact Rs.nil _ _ _ _⟩
  obtain ⟨g, c7, N, rfl, hgB, hnc, hO⟩ := owned_row hR (hpos'.out hC)
  subst hC
  have hdel := impl_del W L t (.pointer (some ⟨w.heap.size + 1, 0, none⟩)) (.pointer (some ⟨w.heap.size + 2, 0, none⟩)) g c7 N w3 hO (by omega) hnc (fun k w4 hk hg4 => by
    have hs4 := hg4.size
    have hBw := a1.grown hg4 a1.size (fun q e => by have := Option.some.inj e; omega)
    exact hha'.out _ w4 _ _ (hs'.out.below (hBw.mono hB)) (Nat.le_trans hB (Nat.le_trans a1.size hs4)) (hvp'.out k hk) (by omega) (cell_grown a3.2 hg4 (fun e => by have := Option.some.inj e; omega)) (by omega) (cell_grown a4.2 hg4 (fun e => by have := Option.some.inj e; omega)))
  clear hR hpos' hno'
  go_wp2_with fail
  refine hdel.mono ?_
  rintro e w5 ⟨rfl, hg5, hO5⟩
  have hB5 := a1.grown hg5 a1.size (fun q e => by have := Option.some.inj e; omega)
  go_wp2
  go_ret2
  exact ⟨_, rfl, hB5, ⟨by rw [flat_len RBuoy.len], .inr ⟨g, c7, N, rfl, by omega, hO5⟩⟩⟩
theorem impl_Missing (nm : ByteArray) (hnm : nm.size ≤ maxLen) (P : List RPoint) (A : Option Addr) (c B : Nat) (wd s : Int) (L : List RBuoy) (A2 : Option Addr) (c2 : Nat) (t : Int) (w : World) (hP : Sl w B A (flat RPoint.cells P)) (hs : Sl w B A2 (flat RBuoy.cells L)) (hB : B ≤ w.heap.size) (hl : P.length ≤ 1048576) (hn : L.length ≤ 1048576) :
    Calls Try.prog 35 #[.agg #[.string nm, .slice A P.length c, .int .i64 wd], .int .i64 s, .slice A2 L.length c2, .int .i64 t] w (BuPost (msC nm P wd s L t) (msL nm P wd s L t) w) := by
  have hP' := Lib.hid hP
  have hs' := Lib.hid hs
  have hZ0 := Lib.hid (Cz.new w nm A P.length c wd 49)
  have hin : ∀ wz, wz = ((w.alloc (.cells #[.string nm, .slice A P.length c, .int .i64 wd] 49)).alloc (.cells #[.slice A2 L.length c2] 56)).alloc (.cells #[.int .i64 t] 2) → Below w.heap.size w wz ∧ (w.heap.size + 1 < wz.heap.size ∧ wz.cell? ⟨w.heap.size + 1, 0, none⟩ = some (.slice A2 L.length c2)) ∧ w.heap.size + 2 < wz.heap.size ∧ wz.cell? ⟨w.heap.size + 2, 0, none⟩ = some (.int .i64 t) := fun wz hz => by
    subst hz
    exact ⟨by go_grown, ⟨by simp, by simp [go_sem]⟩, by simp, by simp [go_sem]⟩
  obtain ⟨a1, a3, a4⟩ := hin _ rfl
  cases hv : vChan nm P wd
  · obtain ⟨h1, h2⟩ := ms_no (s := s) (t := t) (nm := nm) (P := P) (wd := wd) (L := L) (by rw [hv]; simp)
    rw [h1, h2]
    clear h1 h2 hP hs hin
    go_enter Try.func35, Try.ntmps35
    go_wp2_with fail
    refine (impl_ValidChannel nm hnm P A c B wd _ (hP'.out.below (a1.mono hB)) (Nat.le_trans hB a1.size) hl).mono ?_
    rintro e w1 ⟨rfl, hb1⟩
    rw [hv]
    have hB1 := bnext a1 hb1
    go_wp2
    go_ret2
    exact ⟨_, rfl, hB1, Rs.nil _ _ _ _⟩
  cases hv2 : vBuoys L
  · obtain ⟨h1, h2⟩ := ms_no (s := s) (t := t) (nm := nm) (P := P) (wd := wd) (L := L) (by rw [hv2]; simp)
    rw [h1, h2]
    clear h1 h2 hP hs hin
    go_enter Try.func35, Try.ntmps35
    go_wp2_with fail
    refine (impl_ValidChannel nm hnm P A c B wd _ (hP'.out.below (a1.mono hB)) (Nat.le_trans hB a1.size) hl).mono ?_
    rintro e w1 ⟨rfl, hb1⟩
    rw [hv]
    have hB1 := bnext a1 hb1
    have x2 := cell_onN hb1 a3.2 a3.1
    clear hb1
    go_wp2_with fail
    refine (impl_ValidBuoys L A2 c2 B _ (hs'.out.below (hB1.mono hB)) (Nat.le_trans hB hB1.size) hn).mono ?_
    rintro e w2 ⟨rfl, hb2⟩
    rw [hv2]
    have hB2 := bnext hB1 hb2
    go_wp2
    go_ret2
    exact ⟨_, rfl, hB2, Rs.nil _ _ _ _⟩
  cases ht : inB t 0 5000
  · obtain ⟨h1, h2⟩ := ms_no2 (s := s) hv hv2 ht
    rw [h1, h2]
    clear h1 h2 hP hs hin
    go_enter Try.func35, Try.ntmps35
    go_wp2_with fail
    refine (impl_ValidChannel nm hnm P A c B wd _ (hP'.out.below (a1.mono hB)) (Nat.le_trans hB a1.size) hl).mono ?_
    rintro e w1 ⟨rfl, hb1⟩
    rw [hv]
    have hB1 := bnext a1 hb1
    have x2 := cell_onN hb1 a3.2 a3.1
    have x4 := cell_onN hb1 a4.2 a4.1
    have x5 := Nat.lt_of_lt_of_le a4.1 hb1.size
    clear hb1
    go_wp2_with fail
    refine (impl_ValidBuoys L A2 c2 B _ (hs'.out.below (hB1.mono hB)) (Nat.le_trans hB hB1.size) hn).mono ?_
    rintro e w2 ⟨rfl, hb2⟩
    rw [hv2]
    have hB2 := bnext hB1 hb2
    have x6 := cell_onN hb2 x4 x5
    clear hb2
    go_wp2_with (go_at_call 82; refine (within_any _ _ _ _).mono ?_; rintro e w' ⟨rfl, rfl⟩)
    go_ret2
    exact ⟨_, rfl, hB2, Rs.nil _ _ _ _⟩
  · obtain ⟨h1, h2⟩ := msL_is (s := s) hv hv2 ht
    rw [h1, h2]
    exact impl_Miss_yes nm hnm P A c B wd s L A2 c2 t w hP hs hB hl hn hv hv2 ht
end Go.Proofs.Ytlflefnjoeappaa
