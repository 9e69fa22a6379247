/-
  Contracts of the names of dangers near a point: the program's and the reference's. Each under the conditions that it states.
-/
import Derived.Test.YthjkkidcpidgdaaGreatDoorMark
import Derived.Test.YthjkkidcpidgdaaGreatDoorDangL
import Derived.Test.YthjkkidcpidgdaaGreatDoorLeading
import Derived.Test.YthjkkidcpidgdaaGreatDoorBear
set_option linter.unusedVariables false
set_option linter.unnecessarySimpa false
set_option maxRecDepth 100000
set_option linter.unusedSimpArgs false
namespace Go.Proofs.YthjkkidcpidgdaaGreatDoor
open Go.RowKit BigFrame

theorem owns_on {w w' : World} {B : Nat} {e : TypeId} {sz : Nat} {v : Value} {n : Nat} {xs : List Value} (h : w.ownsRow B e sz v n xs) (hb : Below w.heap.size w w') : w'.ownsRow B e sz v n xs := by
  refine World.ownsRow.kept (row := none) h ⟨hb.os, hb.tape, hb.output, hb.size, fun k hk _ => hb.block k hk⟩ ?_
  cases v.ownBlock
  · exact .inl rfl
  · exact .inr (by simp)
/-- The texts that a test picks out of the first k records. -/
def namesTo (f : RDanger → Bool) (L : List RDanger) (k : Nat) : List ByteArray := ((L.take k).filter f).map RDanger.f0
theorem namesTo_hit {f : RDanger → Bool} {L : List RDanger} {k : Nat} (hk : k < L.length) (h : f L[k] = true) : namesTo f L (k + 1) = namesTo f L k ++ [L[k].f0] := by
  unfold namesTo; rw [List.take_succ_eq_append_getElem hk, List.filter_append, List.map_append]; simp [h]
theorem namesTo_miss {f : RDanger → Bool} {L : List RDanger} {k : Nat} (hk : k < L.length) (h : f L[k] = false) : namesTo f L (k + 1) = namesTo f L k := by
  unfold namesTo; rw [List.take_succ_eq_append_getElem hk, List.filter_append, List.map_append]; simp [h]
theorem namesTo_le (f : RDanger → Bool) (L : List RDanger) (k : Nat) : (namesTo f L k).length ≤ k := by
  unfold namesTo; rw [List.length_map]
  exact Nat.le_trans (List.length_filter_le _ _) (by rw [List.length_take]; omega)
theorem namesTo_all (f : RDanger → Bool) (L : List RDanger) : namesTo f L L.length = (L.filter f).map RDanger.f0 := by unfold namesTo; rw [List.take_length]
theorem dangPt {s : ByteArray} {x y r : Int} (h : vDanger s x y r = true) : vPoint x y = true := by
  unfold vDanger at h; rw [Bool.and_eq_true, Bool.and_eq_true] at h; exact h.2.1
def nearD (px py : Int) (a : RDanger) : Bool := decide (distM a.f1 a.f2 px py ≤ a.f3)
theorem vDangs_at {L : List RDanger} (h : vDangsM L = true) {k : Nat} (hk : k < L.length) : vDanger L[k].f0 L[k].f1 L[k].f2 L[k].f3 = true := by
  unfold vDangsM at h
  rw [Bool.and_eq_true] at h
  have h1 : okDang L k = true := by
    cases hf : okDang L k
    · rw [allTo_hit hk hf] at h; simp at h
    · rfl
  unfold okDang at h1
  rw [Bool.and_eq_true, getD_at hk] at h1
  exact h1.1

theorem Pt.farO {w w' : World} {p : Nat} {x y : Int} {row : Option Nat} (h : Pt w p x y) (hg : w.grownBy w' row) (hne : ∀ k, row = some k → p ≠ k) : Pt w' p x y := by
  have hb : w'.heap[p]? = w.heap[p]? := hg.block p h.1 (fun e => hne p e.symm rfl)
  exact ⟨Nat.lt_of_lt_of_le h.1 hg.size, by rw [World.cell?_of_block (a := ⟨p, 0, none⟩) hb]; exact h.2.1, by rw [World.cell?_of_block (a := ⟨p, 1, none⟩) hb]; exact h.2.2⟩
theorem infoStr : (Tryz.prog.info? 9).map (fun i => (i.zero, i.size, i.bytes)) = some (some (.string ⟨#[]⟩), 1, 16) := by kernel_rfl
set_option maxHeartbeats 1600000 in
/-- The names of those that a function picks; the function, at each element, says f. -/
theorem names_at (L : List RDanger) (A : Option Addr) (c B : Nat) (f : RDanger → Bool) (gp : Nat) (w : World) (hs : Sl w B A (flat RDanger.cells L)) (hB : B ≤ w.heap.size) (hl : L.length ≤ 1048576)
    (hcl : ∀ (k : Nat) (hk : k < L.length) (w' : World), Below w.heap.size w w' → Calls Tryz.prog 51 #[.agg #[.string L[k].f0, .int .i64 L[k].f1, .int .i64 L[k].f2, .int .i64 L[k].f3], .pointer (some ⟨gp, 0, none⟩)] w' fun e w'' => e = .returned (.bool (f L[k])) ∧ Below w'.heap.size w' w'') :
    Calls Tryz.prog 37 #[.slice A L.length c, .func (.func 51) #[] #[.pointer (some ⟨gp, 0, none⟩)]] w fun e w' => ∃ v, e = .returned v ∧ Below w.heap.size w w' ∧ Rs w' w.heap.size 9 1 v (namesTo f L L.length).length ((namesTo f L L.length).map Value.string) := by
  have hs' := Lib.hid hs
  have hcl' := Lib.hid hcl
  obtain ⟨i0, hi, ie0, ie1, ie2⟩ := info_parts infoStr
  clear hs hcl
  go_enter Tryz.func37, Tryz.ntmps37
  go_wp2
  have hO0 : (w.alloc (.cells #[] 9)).ownsRow w.heap.size 9 1 (.slice (some ⟨w.heap.size, 0, none⟩) 0 0) (namesTo f L 0).length ((namesTo f L 0).map Value.string) := World.ownsRow_made w #[] 0 (by omega) (Nat.zero_le _) rfl
  have hB0 : Below w.heap.size w (w.alloc (.cells #[] 9)) := by go_grown
  go_loopw [5, 11] (fun v i wr => ∃ k : Nat, i = .int .i64 k ∧ k ≤ L.length ∧ Below w.heap.size w wr ∧ wr.ownsRow w.heap.size 9 1 v (namesTo f L k).length ((namesTo f L k).map Value.string)) (fun _ i _ => L.length - (intOf i).toNat)
  case atStart => exact ⟨0, rfl, Nat.zero_le _, hB0, hO0⟩
  case round =>
    clear hB0 hO0
    obtain ⟨k, rfl, hk, hB1, hown⟩ := hrel
    have hS1 := hB1.size
    by_cases hlt : k < L.length
    · have hh := Lib.hid (namesTo_hit (f := f) hlt)
      have hm := Lib.hid (namesTo_miss (f := f) hlt)
      have hle := namesTo_le f L k
      have hc' := Lib.hid (hcl'.out k hlt)
      obtain ⟨b, o, rfl, hb, he⟩ := Sl.elem RDanger.len (by decide) (hs'.out.below (hB1.mono hB)) hlt
      obtain ⟨a, ha⟩ : ∃ a, L[k] = a := ⟨_, rfl⟩
      rw [ha] at he hh hm hc'
      clear ha
      have d0 : wr.cell? ⟨b, o + k * 4, none⟩ = some (.string a.f0) := by have := he 0 _ rfl; simpa [Nat.add_assoc] using this
      have d1 : wr.cell? ⟨b, o + k * 4 + 1, none⟩ = some (.int .i64 a.f1) := by have := he 1 _ rfl; simpa [Nat.add_assoc] using this
      have d2 : wr.cell? ⟨b, o + k * 4 + 2, none⟩ = some (.int .i64 a.f2) := by have := he 2 _ rfl; simpa [Nat.add_assoc] using this
      have d3 : wr.cell? ⟨b, o + k * 4 + 3, none⟩ = some (.int .i64 a.f3) := by have := he 3 _ rfl; simpa [Nat.add_assoc] using this
      clear he
      have hbw : b < wr.heap.size := by omega
      go_wp2_with fail
      refine (hc'.out _ (show Below w.heap.size w _ by go_grown)).mono ?_
      rintro e w9 ⟨rfl, hb9⟩
      obtain ⟨hc9, hf9⟩ := bcell hb9
      have hz9 := hb9.size
      simp only [World.size_alloc] at hz9
      have hzl : wr.heap.size < w9.heap.size := by omega
      have hB9 := bnext (show Below w.heap.size w (wr.alloc (.cells #[.string a.f0, .int .i64 a.f1, .int .i64 a.f2, .int .i64 a.f3] 36)) by go_grown) hb9
      have hO9 := owns_on (hown.alloc (.cells #[.string a.f0, .int .i64 a.f1, .int .i64 a.f2, .int .i64 a.f3] 36)) hb9
      cases hn : f a
      · have H := Lib.hid (hm.out hn)
        go_wp2
        go_roundw
        case rel => exact ⟨k + 1, by go_num, by omega, hB9, by rw [H.out]; exact hO9⟩
        case measure => simp [intOf]; omega
      · have H := Lib.hid (hh.out hn)
        go_wp2_with (at_builtin; refine wpList_append_own _ rfl _ _ 28 rfl w.heap.size 9 i0 (.string ⟨#[]⟩) 1 16 Tryz.underlying28 hi ie0 ie1 ie2 rfl (by decide) _ _ _ rfl (hO9.alloc _) ⟨w9.heap.size, 0, none⟩ 1 1 [.string a.f0] rfl rfl ?c1 ?c2 ?c3 ?c4 ?c5 ?_)
        case c1 =>
          intro j u hj
          match j, hj with
          | 0, hj => simp at hj; subst hj; simp [Addr.add]
        case c2 => intro u hu; simp at hu; subst hu; rfl
        case c3 => unfold maxLen; omega
        case c4 => omega
        case c5 => simp; omega
        intro v' wn hown' hgrow _
        have hBn := (show Below w.heap.size w (w9.alloc (.cells #[.string a.f0] 9)) by go_grown).grown hgrow (by simp; omega) (fun q e => (hO9.lt q e).1)
        have hOn : wn.ownsRow w.heap.size 9 1 v' (namesTo f L (k + 1)).length ((namesTo f L (k + 1)).map Value.string) := by rw [H.out]; simpa using hown'
        clear hown' hgrow hB9 hO9 hb9 hown hc9 hf9
        go_wp2
        go_roundw
        case rel => exact ⟨k + 1, by go_num, by omega, hBn, hOn⟩
        case measure => simp [intOf]; omega
    · obtain rfl : k = L.length := by omega
      go_wp2
      go_ret
      exact ⟨_, rfl, hB1, Rs.of_owns hown⟩

theorem clos_DAt (s : ByteArray) (x y r px py : Int) (g : Nat) (w : World) (hp : Pt w g px py) (b1 : 0 ≤ x ∧ x ≤ 200000) (b2 : 0 ≤ y ∧ y ≤ 200000) (b3 : 0 ≤ px ∧ px ≤ 200000) (b4 : 0 ≤ py ∧ py ≤ 200000) :
    Calls Tryz.prog 51 #[.agg #[.string s, .int .i64 x, .int .i64 y, .int .i64 r], .pointer (some ⟨g, 0, none⟩)] w fun e w' => e = .returned (.bool (decide (distM x y px py ≤ r))) ∧ Below w.heap.size w w' := by
  have hpl := hp.1
  have p0 := hp.2.1
  have p1 := hp.2.2
  have hap := fun w => impl_Distance x y px py w b1 b2 b3 b4
  obtain ⟨D, hD⟩ : ∃ D, distM x y px py = D := ⟨_, rfl⟩
  rw [hD] at hap ⊢
  go_enter Tryz.func51, Tryz.ntmps51
  go_wp2_with fail
  refine wp_region_grew (by kernel_rfl) (by kernel_rfl) ?_
  repeat (first | (go_big_quiet_step ((first | (go_at_call 52; exact grew_of (hap _))))) | (quiet_step ((first | (go_at_call 52; exact grew_of (hap _))))))
  refine wpQuiet_nil ?_
  rintro w9 ⟨⟨w8, hb9⟩, rfl⟩
  try dsimp only
  obtain ⟨hc9, hf9⟩ := bcell hb9
  go_wp2
  go_ret
  exact ⟨rfl, bnext (by go_grown) hb9⟩
set_option maxHeartbeats 1600000 in
theorem impl_DAt_ok (L : List RDanger) (A : Option Addr) (c B : Nat) (px py : Int) (w : World) (hs : Sl w B A (flat RDanger.cells L)) (hB : B ≤ w.heap.size) (hok : ∀ a ∈ L, a.ok) (hl : L.length ≤ 1048576) (hv : vDangsM L = true) (hp : vPoint px py = true) :
    Calls Tryz.prog 13 #[.slice A L.length c, .agg #[.int .i64 px, .int .i64 py]] w fun e w' => ∃ v, e = .returned (.tuple #[v, .int .i64 0]) ∧ Below w.heap.size w w' ∧ Rs w' w.heap.size 9 1 v (namesTo (nearD px py) L L.length).length ((namesTo (nearD px py) L L.length).map Value.string) := by
  have hs' := Lib.hid hs
  have hok' := Lib.hid hok
  have hv' := Lib.hid hv
  have pb := vPoint_yes hp
  clear hs hok
  go_enter Tryz.func13, Tryz.ntmps13
  go_wp2_with (first | (go_at_call 34; refine (impl_ValidDangers L _ _ B _ (hs'.out.below ((show Below w.heap.size w _ by go_grown).mono hB)) (by simp; omega) hok'.out hl).mono ?_; rintro e w1 ⟨rfl, hb1⟩; have hB1 := bnext (w := w) (by go_grown) hb1; have hS1 := hB1.size; ((have hz1 : w.heap.size < w1.heap.size := by have := hb1.size; (try simp only [World.size_alloc, World.size_setCell, World.size_drew] at this); omega)); obtain ⟨hc1, hf1⟩ := bcell hb1; clear hb1) | (go_at_call 50; refine (impl_ValidPoint _ _ _).mono ?_; rintro e w1 ⟨rfl, hb1⟩; have hB1 := bnext (w := w) (by go_grown) hb1; have hS1 := hB1.size; ((have hz1 : w.heap.size < w1.heap.size := by have := hb1.size; (try simp only [World.size_alloc, World.size_setCell, World.size_drew] at this); omega)); obtain ⟨hc1, hf1⟩ := bcell hb1; clear hb1))
  have hP : Pt w1 w.heap.size px py := ⟨hz1, by simp [go_sem, *], by simp [go_sem, *]⟩
  refine (names_at L A c B (nearD px py) w.heap.size w1 (hs'.out.below (hB1.mono hB)) (by omega) hl ?_).mono ?_
  · intro k hk w' hb
    have ab := vPoint_yes (dangPt (vDangs_at hv'.out hk))
    exact clos_DAt _ _ _ _ px py _ w' (hP.on hb) ab.1 ab.2 pb.1 pb.2
  rintro e w2 ⟨v, rfl, hb2, hR⟩
  go_wp2
  go_ret2
  exact ⟨v, rfl, bnext hB1 hb2, hR.more (by omega)⟩
theorem impl_DAt_no (L : List RDanger) (A : Option Addr) (c B : Nat) (px py : Int) (w : World) (hs : Sl w B A (flat RDanger.cells L)) (hB : B ≤ w.heap.size) (hok : ∀ a ∈ L, a.ok) (hl : L.length ≤ 1048576) (hv : ¬ (vDangsM L = true ∧ vPoint px py = true)) :
    Calls Tryz.prog 13 #[.slice A L.length c, .agg #[.int .i64 px, .int .i64 py]] w fun e w' => e = .returned (.tuple #[.slice none 0 0, .int .i64 1]) ∧ Below w.heap.size w w' := by
  have hs' := Lib.hid hs
  have hok' := Lib.hid hok
  clear hs hok
  rcases (by
    cases h1 : vDangsM L
    · exact Or.inl rfl
    cases h2 : vPoint px py
    · exact Or.inr ⟨rfl, rfl⟩
    · exact absurd ⟨h1, h2⟩ hv : vDangsM L = false ∨ (vDangsM L = true ∧ vPoint px py = false)) with h | ⟨h, h2⟩
  all_goals
    clear hv
    go_enter Tryz.func13, Tryz.ntmps13
    go_wp2_with (first | (go_at_call 34; refine (impl_ValidDangers L _ _ B _ (hs'.out.below ((show Below w.heap.size w _ by go_grown).mono hB)) (by simp; omega) hok'.out hl).mono ?_; rintro e w1 ⟨rfl, hb1⟩; have hB1 := bnext (w := w) (by go_grown) hb1; have hS1 := hB1.size; ((have hz1 : w.heap.size < w1.heap.size := by have := hb1.size; (try simp only [World.size_alloc, World.size_setCell, World.size_drew] at this); omega)); obtain ⟨hc1, hf1⟩ := bcell hb1; clear hb1) | (go_at_call 50; refine (impl_ValidPoint _ _ _).mono ?_; rintro e w1 ⟨rfl, hb1⟩; have hB1 := bnext (w := w) (by go_grown) hb1; have hS1 := hB1.size; ((have hz1 : w.heap.size < w1.heap.size := by have := hb1.size; (try simp only [World.size_alloc, World.size_setCell, World.size_drew] at this); omega)); obtain ⟨hc1, hf1⟩ := bcell hb1; clear hb1))
    go_ret2
    exact ⟨rfl, by go_grown⟩
end Go.Proofs.YthjkkidcpidgdaaGreatDoor
