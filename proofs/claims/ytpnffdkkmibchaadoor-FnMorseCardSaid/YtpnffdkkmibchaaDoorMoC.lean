/-
  Contract of canSend: the program's. Under the conditions that it states.
-/
import Derived.Test.YtpnffdkkmibchaaDoorMoS
import Derived.Test.YtpnffdkkmibchaaDoorShelfR
import Derived.Lib.SplitLaws
set_option linter.unusedVariables false
set_option linter.unnecessarySimpa false
set_option maxRecDepth 100000
set_option linter.unusedSimpArgs false
namespace Go.Proofs.YtpnffdkkmibchaaDoor
open Go.RowKit BigFrame Go.Deep

/-- What strings.Split asks of the library's variables. -/
structure Env (w : World) : Prop where
  big : ∃ m, w.cell? ⟨2, 0, none⟩ = some (.int .i64 m)
theorem cell_lt {w : World} {b o : Nat} {v : Value} (h : w.cell? ⟨b, o, none⟩ = some v) : b < w.heap.size := by
  by_cases hl : b < w.heap.size
  · exact hl
  · rw [World.cell?, Array.getElem?_eq_none (by simpa using hl)] at h
    cases h
theorem Env.on {w w' : World} (h : Env w) (hb : Below w.heap.size w w') : Env w' := by
  obtain ⟨m, hm⟩ := h
  exact ⟨⟨m, (hb.cell (p := ⟨_, 0, none⟩) (cell_lt hm)).trans hm⟩⟩
/-- A text of these bytes. -/
def bs (l : List UInt8) : ByteArray := ⟨l.toArray⟩
theorem bs_size (l : List UInt8) : (bs l).size = l.length := by simp [bs, ByteArray.size]
theorem bs_data (s : ByteArray) : s = bs s.data.toList := rfl
def prts (S : List (List UInt8)) : List Value := S.map fun l => .string (bs l)
def txS (LS : List (Nat × Bool)) : ByteArray := bs (txtB LS)
theorem txS_size (LS : List (Nat × Bool)) : (txS LS).size = (txt LS).length := by unfold txS; rw [bs_size]; simp [txtB]
theorem split_vals (l : List UInt8) : (Lib.splitB ⟨#[32]⟩ 0 (Lib.countB (bs l) ⟨#[32]⟩) (bs l)).map Value.string = prts (splitL 32 l) ∧ Lib.countB (bs l) ⟨#[32]⟩ + 1 = (splitL 32 l).length := by
  have h := splitB_is 32 (bs l).size (bs l) (Nat.le_refl _)
  have h0 : (bs l).data.toList = l := rfl
  rw [h0] at h
  have e : (Lib.splitB ⟨#[32]⟩ 0 (Lib.countB (bs l) ⟨#[32]⟩) (bs l)).map Value.string = prts (splitL 32 l) := by
    rw [← h]
    unfold prts
    rw [List.map_map]
    apply List.map_congr_left
    intro a _
    rfl
  refine ⟨e, ?_⟩
  rw [← h, List.length_map]
  exact (Lib.splitB_all _ (by decide) _ _ _ rfl).symm
theorem split_len (c : UInt8) : ∀ l : List UInt8, (splitL c l).length ≤ l.length + 1
  | [] => Nat.le_refl _
  | b :: l => by
    have ih := split_len c l
    by_cases hb : b = c
    · subst hb; rw [split_hit]; simp; exact ih
    · rw [split_miss hb]
      cases hq : splitL c l with
      | nil => exact absurd hq (split_ne c l)
      | cons h t => rw [hq] at ih; simp [glue] at ih ⊢; omega
theorem split_part (c : UInt8) : ∀ l : List UInt8, ∀ p ∈ splitL c l, p.length ≤ l.length
  | [], p, hp => by simp [splitL] at hp; subst hp; exact Nat.le_refl _
  | b :: l, p, hp => by
    have ih := split_part c l
    by_cases hb : b = c
    · subst hb
      rw [split_hit] at hp
      rcases List.mem_cons.1 hp with rfl | hp
      · simp
      · have := ih p hp; simp; omega
    · rw [split_miss hb] at hp
      cases hq : splitL c l with
      | nil => exact absurd hq (split_ne c l)
      | cons h t =>
        rw [hq] at ih hp
        rcases List.mem_cons.1 (show p ∈ ([b] ++ h) :: t from hp) with rfl | hp
        · have := ih h (by simp); simp; omega
        · have := ih p (by simp [hp]); simp; omega
theorem ext_one (p : List UInt8) (j : Nat) (hj : j < p.length) : (bs p).extract j (j + 1) = bs [p[j]] := by
  rw [bs_data ((bs p).extract j (j + 1)), Lib.extract_data]
  congr 1
  show (p.drop j).take (j + 1 - j) = _
  rw [show j + 1 - j = 1 by omega, List.drop_eq_getElem_cons hj]
  rfl
theorem bs_next {P : Program} {w : World} {g j : Nat} (p : List UInt8) (ty : TypeId) (hk : w.heap[g]? = some (.stringIter (bs p) j)) (h : j < p.length) (ha : (p[j]'h).toNat < 128) : (Instr.next (.pointer (some ⟨g, 0, none⟩)) true ty).run P w = .ok (.tuple #[.bool true, .int .i64 j, .int .i32 (p[j]'h).toNat]) (w.iterAt g (bs p) (j + 1)) :=
  Lib.run_next_ascii_at w g (bs p) j ty hk (by rw [bs_size]; exact h) ha
set_option maxHeartbeats 3200000 in
theorem impl_canSend (LS : List (Nat × Bool)) (hg : goodL LS) (he : endL LS) (hl : (txt LS).length ≤ 12) (w : World) (hE : Env w) : Calls Tryd.prog 17 #[.string (txS LS)] w fun e w' => e = .returned (.bool true) ∧ Below w.heap.size w w' := by
  have hsz := txS_size LS
  have hv := split_vals (txtB LS)
  have hok := split_txt LS hg he
  have hlen := split_len 32 (txtB LS)
  have hpl := split_part 32 (txtB LS)
  have htl : (txtB LS).length = (txt LS).length := by simp [txtB]
  rw [htl] at hlen hpl
  change _ ∧ Lib.countB (txS LS) ⟨#[32]⟩ + 1 = _ at hv
  obtain ⟨s, hs⟩ : ∃ s, txS LS = s := ⟨_, rfl⟩
  have hv0 : (Lib.splitB ⟨#[32]⟩ 0 (Lib.countB s ⟨#[32]⟩) s).map Value.string = prts (splitL 32 (txtB LS)) := by rw [← hs]; exact hv.1
  have hv1 := hv.2
  rw [hs] at hsz hv1 ⊢
  obtain ⟨S, hS⟩ : ∃ S, splitL 32 (txtB LS) = S := ⟨_, rfl⟩
  rw [hS] at hv0 hv1 hok hlen hpl
  have hpl' := Lib.hid hpl
  have hok' := Lib.hid hok
  have hv1' := Lib.hid hv1
  have hs12 : s.size ≤ 12 := by omega
  have hI12 : (s.size : Int) ≤ 12 := by omega
  clear hv hS hs hok hv1 hsz htl hpl
  go_enter Tryd.func17, Tryd.ntmps17
  go_wp2_with fail
  obtain ⟨m, hm⟩ := hE.big
  refine (sr_strings_Split s ⟨#[32]⟩ m _ (by omega) hm (by decide)).mono ?_
  rintro e w1 ⟨rfl, hw1⟩
  rw [hv1'.out, hv0] at *
  have hB1 : Below w.heap.size w w1 := by rw [hw1]; go_grown
  have hz1 : w1.heap.size = w.heap.size + 1 := by rw [hw1]; simp
  have hC1 : ∀ (j : Nat) (hj : j < S.length), w1.cell? ⟨w.heap.size, j, none⟩ = some (.string (bs S[j])) := by
    intro j hj
    rw [hw1]
    have e : (prts S)[j]? = some (.string (bs S[j])) := by unfold prts; rw [List.getElem?_map, List.getElem?_eq_getElem hj]; rfl
    rw [World.cell?_alloc_new]
    simpa using e
  have hC1' := Lib.hid hC1
  have hz1' := Lib.hid hz1
  clear hw1 hC1 hm hE hv0 hz1
  go_wp2_with fail
  go_loopw [9] (fun i wr => ∃ k : Nat, i = .int .i64 k ∧ k ≤ S.length ∧ Below w1.heap.size w1 wr) (fun i _ => S.length - (intOf i).toNat)
  case atStart => exact ⟨0, rfl, Nat.zero_le _, Below.refl _ _⟩
  case round =>
    obtain ⟨k, rfl, hk, hB2⟩ := hrel
    have hS2 := hB2.size
    by_cases hlt : k < S.length
    · have d0 := ((bcell hB2).1 w.heap.size k (by have := hz1'.out; omega)).trans (hC1'.out k hlt)
      have hp := hok'.out S[k] (List.getElem_mem hlt)
      have hp12 := hpl'.out S[k] (List.getElem_mem hlt)
      obtain ⟨p, hpe⟩ : ∃ p, S[k] = p := ⟨_, rfl⟩
      rw [hpe] at d0 hp hp12
      have hp0 : 0 < p.length := List.length_pos_iff.2 hp.1
      have hne : (bs p).toList.isEmpty = false := some_text (by rw [bs_size]; omega)
      have hpz := bs_size p
      have hpa := Lib.hid hp.2
      have hgw : w.heap.size < wr.heap.size := by have := hz1'.out; omega
      clear hpe hp
      go_wp2_with fail
      obtain ⟨wo, rfl⟩ : ∃ wo, wo = wr := ⟨_, rfl⟩
      go_loopw [] (fun wr => ∃ j : Nat, wr.heap[wo.heap.size]? = some (.stringIter (bs p) j) ∧ j ≤ p.length ∧ Below w1.heap.size w1 wr) (fun wr => p.length - wr.iterPos wo.heap.size)
      case atStart => exact ⟨0, World.iter_heap wo (bs p) 0, Nat.zero_le _, bnext hB2 (below_iter _ _ _)⟩
      case round =>
        clear hB2
        obtain ⟨j, hit, hj, hB3⟩ := hrel
        have hszx : wo.heap.size < wr.heap.size := (Array.getElem?_eq_some_iff.1 hit).1
        by_cases hjl : j < p.length
        · obtain ⟨x, hx, hc⟩ := hpa.out p[j] (List.getElem_mem hjl)
          have hn := (lt_facts hx).2.2
          have hnx : ∀ ty, (Instr.next (.pointer (some ⟨wo.heap.size, 0, none⟩)) true ty).run Tryd.prog wr = _ := fun ty => bs_next p ty hit hjl (by rw [hc, hn]; omega)
          have hit2 := Lib.iterAt_heap wr wo.heap.size (bs p) j (j + 1) hit
          have hbw2 := Lib.below_iterAt hB3 (k := wo.heap.size) (by omega) (bs p) (j + 1)
          have hex : (bs p).extract j (j + 1) = lt x := by rw [ext_one p j hjl, hc]; rfl
          have hsn := sgB_some hx
          have hsg := fun w => impl_signs x hx w
          obtain ⟨u, hu⟩ : ∃ u, sgB x = u := ⟨_, rfl⟩
          obtain ⟨l, hl⟩ : ∃ l, lt x = l := ⟨_, rfl⟩
          rw [hu] at hsn hsg
          rw [hl] at hex hsg
          clear hu hc hn hl
          go_wp2_with (go_at_call 13; refine (hsg _).mono ?_; rintro e w' ⟨rfl, rfl⟩)
          go_roundw
          case rel => exact ⟨j + 1, hit2, by omega, hbw2⟩
          case measure => simp only [World.iterPos, hit2, hit]; omega
        · obtain rfl : j = p.length := by omega
          have hnx : ∀ ty, (Instr.next (.pointer (some ⟨wo.heap.size, 0, none⟩)) true ty).run Tryd.prog wr = _ := fun ty => Lib.run_next_end_at wr wo.heap.size (bs p) p.length ty hit (by rw [bs_size]; omega)
          go_wp2_with fail
          go_roundw
          case rel => exact ⟨k + 1, by go_num, by omega, hB3⟩
          case measure => simp [intOf]; omega
    · obtain rfl : k = S.length := by omega
      have hBf := bnext hB1 hB2
      have hd : decide ((s.size : Int) ≤ 12) = true := decide_eq_true hI12
      go_wp2_with (go_at_call 33; refine (impl_few _ _ _).mono ?_; rintro e w' ⟨rfl, rfl⟩)
      go_ret
      exact ⟨by simp [hI12], hBf⟩
end Go.Proofs.YtpnffdkkmibchaaDoor
