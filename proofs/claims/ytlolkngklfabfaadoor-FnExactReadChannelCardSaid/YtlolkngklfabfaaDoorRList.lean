/-
  Contracts of lists of numbers read from texts: the program's and the reference's. Under the conditions that each states.
-/
import Derived.Test.YtlolkngklfabfaaDoorRdL
import Derived.Test.YtlolkngklfabfaaDoorInts
set_option linter.unusedVariables false
set_option linter.unnecessarySimpa false
set_option maxRecDepth 100000
set_option linter.unusedSimpArgs false
namespace Go.Proofs.YtlolkngklfabfaaDoor
open Go.RowKit BigFrame

/-- A part that is a number of a list. -/
def okN (p : List UInt8) : Bool := numOk p && inB (rdV (ba p)) (-1000000000000) 1000000000000
def vN (p : List UInt8) : Int := rdV (ba p)
def rsOk (l : List UInt8) : Bool := decide (l = [45]) || (decide ((splitL 44 l).length ≤ 64) && (splitL 44 l).all okN)
def rsV (l : List UInt8) : List Int := if rsOk l then (if l = [45] then [] else (splitL 44 l).map vN) else []
theorem rs_dash : rsOk [45] = true ∧ rsV [45] = [] := ⟨rfl, rfl⟩
theorem rs_many {l : List UInt8} (h : l ≠ [45]) (h64 : 64 < (splitL 44 l).length) : rsOk l = false ∧ rsV l = [] := by
  have e : rsOk l = false := by unfold rsOk; rw [decide_eq_false h, decide_eq_false (by omega)]; rfl
  exact ⟨e, by unfold rsV; rw [e]; rfl⟩
theorem rs_bad {l : List UInt8} {k : Nat} (h : l ≠ [45]) (hk : k < (splitL 44 l).length) (hb : okN (splitL 44 l)[k] = false) : rsOk l = false ∧ rsV l = [] := by
  have e : rsOk l = false := by
    unfold rsOk
    rw [decide_eq_false h, Bool.false_or]
    have : (splitL 44 l).all okN = false := by
      rw [← Bool.not_eq_true, List.all_eq_true]
      intro ha
      have := ha _ (List.getElem_mem hk)
      rw [hb] at this; cases this
    rw [this, Bool.and_false]
  exact ⟨e, by unfold rsV; rw [e]; rfl⟩
theorem rs_good {l : List UInt8} (h : l ≠ [45]) (h64 : (splitL 44 l).length ≤ 64) (ha : ∀ (k : Nat) (hk : k < (splitL 44 l).length), okN (splitL 44 l)[k] = true) : rsOk l = true ∧ rsV l = (splitL 44 l).map vN := by
  have e : rsOk l = true := by
    unfold rsOk
    have : (splitL 44 l).all okN = true := by
      rw [List.all_eq_true]
      intro p hp
      obtain ⟨k, hk, rfl⟩ := List.mem_iff_getElem.1 hp
      exact ha k hk
    rw [this, decide_eq_true h64]; simp
  exact ⟨e, by unfold rsV; rw [e, if_neg h]; rfl⟩
theorem okN_next {S : List (List UInt8)} {k : Nat} (hk : k < S.length) (h : ∀ (j : Nat) (hj : j < S.length), j < k → okN S[j] = true) (h1 : okN S[k] = true) : ∀ (j : Nat) (hj : j < S.length), j < k + 1 → okN S[j] = true := by
  intro j hj hlt
  rcases Nat.lt_or_ge j k with h2 | h2
  · exact h j hj h2
  · obtain rfl : j = k := by omega
    exact h1
def vTo (S : List (List UInt8)) (k : Nat) : List Int := (S.take k).map vN
theorem vTo_all (S : List (List UInt8)) : vTo S S.length = S.map vN := by unfold vTo; rw [List.take_length]
theorem vN_next {S : List (List UInt8)} {k : Nat} (hk : k < S.length) : ints (vTo S (k + 1)) = ints (vTo S k) ++ [.int .i64 (vN S[k])] := by
  unfold vTo
  rw [List.take_succ_eq_append_getElem hk]
  unfold ints
  rw [List.map_append, List.map_append]
  rfl
theorem dash_list : (⟨#[45]⟩ : ByteArray).toList = [45] := by rw [ByteArray.toList_eq]
/-- A list of numbers is given, or none. -/
def RGives (l : List UInt8) (w : World) (e : Ending) (w' : World) : Prop := ∃ A c, e = .returned (.tuple #[.slice A (rsV l).length c, .bool (rsOk l)]) ∧ Sl w' w'.heap.size A (ints (rsV l)) ∧ Below w.heap.size w w'
theorem RGives.nil {l : List UInt8} {b : Bool} {w w' : World} {A : Option Addr} {c : Nat} (h : rsOk l = b ∧ rsV l = []) (hb : Below w.heap.size w w') : RGives l w (.returned (.tuple #[.slice A 0 c, .bool b])) w' :=
  ⟨A, c, by rw [h.1, h.2]; rfl, by rw [h.2]; exact fun h => absurd rfl h, hb⟩
theorem vN_has (p : List UInt8) : IntKind.i64.has (vN p) := has_of (rd_zero (l := p))
theorem rsV_has (l : List UInt8) : ∀ z ∈ rsV l, IntKind.i64.has z := by
  intro z hz
  unfold rsV at hz
  split at hz
  · split at hz
    · cases hz
    · obtain ⟨p, _, rfl⟩ := List.mem_map.1 hz
      exact vN_has p
  · cases hz
theorem infoInt2 : (Tryd.prog.info? 2).map (fun i => (i.zero, i.size, i.bytes)) = some (some (.int .i64 0), 1, 8) := by kernel_rfl

set_option maxHeartbeats 1600000 in
theorem spec_RList (s : ByteArray) (hs : s.size ≤ 1048576) (w : World) : Calls Tryd.prog 59 #[.string s] w (RGives s.data.toList w) := by
  obtain ⟨L, hL⟩ : ∃ L, s.data.toList = L := ⟨_, rfl⟩
  have hsz : s.size = L.length := by rw [← hL]; exact (Array.length_toList).symm
  by_cases hd : s = ⟨#[45]⟩
  · have e : L = [45] := by rw [← hL, hd]
    have hr : Hid (rsOk L = true ∧ rsV L = []) := Lib.hid (by rw [e]; exact rs_dash)
    have hcmp := bytes_eq hd
    rw [dash_list] at hcmp
    rw [hL]
    clear e hd
    go_enter Tryd.func59, Tryd.ntmps59
    go_wp2
    go_ret2
    exact RGives.nil hr.out (by go_grown)
  have hL45 : L ≠ [45] := fun e => hd (ba_ext (hL.trans e))
  have hcmp := bytes_ne hd
  rw [dash_list] at hcmp
  have hpl := part_len 44 L
  have hsl := split_len 44 L
  obtain ⟨S, hS⟩ : ∃ S, splitL 44 L = S := ⟨_, rfl⟩
  have hm := Lib.hid (fun h => rs_many hL45 h)
  have hbad := Lib.hid (fun k hk h => rs_bad (k := k) hL45 hk h)
  have hgood := Lib.hid (rs_good hL45)
  rw [hS] at hm hpl hsl hbad hgood
  have hpl' := Lib.hid hpl
  obtain ⟨i0, hi, ie0, ie1, ie2⟩ := info_parts infoInt2
  have hS' := Lib.hid hS
  clear hS hpl hd hL45
  rw [hL]
  go_enter Tryd.func59, Tryd.ntmps59
  go_wp2_with fail
  refine (spec_Split s hs 44 (by omega) _).mono ?_
  rintro e w1 ⟨A, cc, rfl, hA, hb1⟩
  rw [hL, show UInt8.ofNat 44 = 44 from rfl, hS'.out] at hA ⊢
  have hB1 := bnext (w := w) (by go_grown) hb1
  have hS1 := hB1.size
  clear hb1
  by_cases h64 : 64 < S.length
  · have hr := Lib.hid (hm.out h64)
    clear hA
    go_wp2
    go_ret2
    exact RGives.nil hr.out hB1
  have hA' := Lib.hid hA
  clear hA
  go_wp2_with fail
  have hO0 : (w1.alloc (.cells #[] 2)).ownsRow w1.heap.size 2 1 (.slice (some ⟨w1.heap.size, 0, none⟩) 0 0) 0 (ints (vTo S 0)) := World.ownsRow_made w1 #[] 0 (by omega) (Nat.zero_le _) rfl
  have hB0 : Below w1.heap.size w1 (w1.alloc (.cells #[] 2)) := by go_grown
  go_loopw [5, 6] (fun v i wr => ∃ k : Nat, i = .int .i64 k ∧ k ≤ S.length ∧ Hid (∀ (j : Nat) (hj : j < S.length), j < k → okN S[j] = true) ∧ Below w1.heap.size w1 wr ∧ wr.ownsRow w1.heap.size 2 1 v k (ints (vTo S k))) (fun _ i _ => S.length - (intOf i).toNat)
  case atStart => exact ⟨0, rfl, Nat.zero_le _, Lib.hid (fun j hj h => by omega), hB0, hO0⟩
  case round =>
    clear hB0 hO0
    obtain ⟨k, rfl, hk, hok, hBr, hown⟩ := hrel
    have hSr := hBr.size
    by_cases hlt : k < S.length
    · obtain ⟨g, o, rfl, hg, hcc⟩ := (hA'.out.below hBr) (by intro e; unfold partsV at e; rw [List.map_eq_nil_iff] at e; subst e; simp at hlt)
      have d0 : wr.cell? ⟨g, o + k, none⟩ = some (.string (ba S[k])) := hcc k _ (by unfold partsV; rw [List.getElem?_map, List.getElem?_eq_getElem hlt]; rfl)
      have hgw : g < wr.heap.size := by omega
      have hps := hpl'.out _ (List.getElem_mem hlt)
      have hst := Lib.hid (vN_next hlt)
      have hnx := Lib.hid (fun h => okN_next hlt hok.out h)
      have hbk := Lib.hid (hbad.out k hlt)
      obtain ⟨p, hp⟩ : ∃ p, S[k] = p := ⟨_, rfl⟩
      rw [hp] at d0 hps hst hnx hbk
      have hpv := Lib.hid (vN_has p)
      clear hcc hp
      cases h1 : numOk p
      · have hr := Lib.hid (hbk.out (by unfold okN; rw [h1]; rfl))
        go_wp2_with ((go_at_call 54; refine (spec_NumL p (by omega) _).mono ?_; rintro e w' ⟨rfl, rfl⟩))
        go_ret2
        exact RGives.nil hr.out (bnext hB1 hBr)
      cases h2 : inB (rdV (ba p)) (-1000000000000) 1000000000000
      · have hr := Lib.hid (hbk.out (by unfold okN; rw [h1, h2]; rfl))
        go_wp2_with (first | (go_at_call 54; refine (spec_NumL p (by omega) _).mono ?_; rintro e w' ⟨rfl, rfl⟩) | (go_at_call 85; refine (in_any _ _ _ _).mono ?_; rintro e w' ⟨rfl, rfl⟩))
        go_ret2
        exact RGives.nil hr.out (bnext hB1 hBr)
      have hok2 := Lib.hid (hnx.out (by unfold okN; rw [h1, h2]; rfl))
      clear hbk hnx hok
      go_wp2_with (first | (go_at_call 54; refine (spec_NumL p (by omega) _).mono ?_; rintro e w' ⟨rfl, rfl⟩) | (go_at_call 85; refine (in_any _ _ _ _).mono ?_; rintro e w' ⟨rfl, rfl⟩) | (at_builtin; refine wpList_append_own _ rfl _ _ 41 rfl w1.heap.size 2 i0 (.int .i64 0) 1 8 Tryd.underlying41 hi ie0 ie1 ie2 rfl (by decide) _ _ _ rfl (hown.alloc _) ⟨wr.heap.size, 0, none⟩ 1 1 [.int .i64 (rdV (ba p))] rfl rfl ?c1 ?c2 ?c3 ?c4 ?c5 ?_))
      case c1 =>
        intro j u hj
        match j, hj with
        | 0, hj => simp at hj; subst hj; simp [Addr.add]
      case c2 => intro u hu; simp at hu; subst hu; rfl
      case c3 => unfold maxLen; omega
      case c4 => omega
      case c5 => simp; omega
      intro v' wn hown' hgrow _
      have hBn := (show Below w1.heap.size w1 (wr.alloc (.cells #[.int .i64 (rdV (ba p))] 2)) by go_grown).grown hgrow (by simp; omega) (fun q e => (hown.lt q e).1)
      have hOn : wn.ownsRow w1.heap.size 2 1 v' (k + 1) (ints (vTo S (k + 1))) := by rw [hst.out]; exact hown'
      clear hown' hgrow hown
      go_wp2
      go_roundw
      case rel => exact ⟨k + 1, by go_num, by omega, hok2, hBn, hOn⟩
      case measure => simp [intOf]; omega
    · obtain rfl : k = S.length := by omega
      rw [vTo_all] at hown
      have hr := Lib.hid (hgood.out (by omega) (fun j hj => hok.out j hj hj))
      have e : (S.map vN).length = S.length := List.length_map ..
      obtain ⟨A2, cA, rfl, hA2⟩ := owns_any hown
      clear hown
      go_wp2
      go_ret2
      refine ⟨A2, cA, ?_, ?_, bnext hB1 hBr⟩
      · rw [hr.out.1, hr.out.2, e] <;> rfl
      · rw [hr.out.2]; exact hA2
theorem split_vals44 (s : ByteArray) : (Lib.splitB ⟨#[44]⟩ 0 (Lib.countB s ⟨#[44]⟩) s).map Value.string = partsV (splitL 44 s.data.toList) ∧ Lib.countB s ⟨#[44]⟩ + 1 = (splitL 44 s.data.toList).length := by
  have h := splitB_is 44 s.size s (Nat.le_refl _)
  have e : (Lib.splitB ⟨#[44]⟩ 0 (Lib.countB s ⟨#[44]⟩) s).map Value.string = partsV (splitL 44 s.data.toList) := by
    rw [← h]
    unfold partsV
    rw [List.map_map]
    apply List.map_congr_left
    intro a _
    rw [Function.comp, ← ba_data a]
  refine ⟨e, ?_⟩
  rw [← h, List.length_map]
  exact (Lib.splitB_all _ (by decide) _ _ _ rfl).symm
theorem owns_below {w w' : World} {B : Nat} {e : TypeId} {sz : Nat} {v : Value} {n : Nat} {xs : List Value} (h : w.ownsRow B e sz v n xs) (hb : Below w.heap.size w w') : w'.ownsRow B e sz v n xs := by
  refine World.ownsRow.kept (row := none) h ⟨hb.os, hb.tape, hb.output, hb.size, fun k hk _ => hb.block k hk⟩ ?_
  cases v.ownBlock
  · exact .inl rfl
  · exact .inr (by simp)
set_option maxHeartbeats 1600000 in
theorem impl_RList (s : ByteArray) (hs : s.size ≤ 1048576) (w : World) (hE : Env w) : Calls Tryd.prog 20 #[.string s] w (RGives s.data.toList w) := by
  obtain ⟨L, hL⟩ : ∃ L, s.data.toList = L := ⟨_, rfl⟩
  have hsz : s.size = L.length := by rw [← hL]; exact (Array.length_toList).symm
  by_cases hd : s = ⟨#[45]⟩
  · have e : L = [45] := by rw [← hL, hd]
    have hr : Hid (rsOk L = true ∧ rsV L = []) := Lib.hid (by rw [e]; exact rs_dash)
    have hcmp := bytes_eq hd
    rw [dash_list] at hcmp
    rw [hL]
    clear e hd
    go_enter Tryd.func20, Tryd.ntmps20
    go_wp2
    go_ret2
    exact RGives.nil hr.out (by go_grown)
  have hL45 : L ≠ [45] := fun e => hd (ba_ext (hL.trans e))
  have hcmp := bytes_ne hd
  rw [dash_list] at hcmp
  have hpl := part_len 44 L
  have hsl := split_len 44 L
  have hv := split_vals44 s
  rw [hL] at hv
  obtain ⟨S, hS⟩ : ∃ S, splitL 44 L = S := ⟨_, rfl⟩
  have hm := Lib.hid (fun h => rs_many hL45 h)
  have hbad := Lib.hid (fun k hk h => rs_bad (k := k) hL45 hk h)
  have hgood := Lib.hid (rs_good hL45)
  rw [hS] at hm hpl hsl hbad hgood hv
  obtain ⟨hv1, hv2⟩ := hv
  have hv2' := Lib.hid hv2
  have hpl' := Lib.hid hpl
  obtain ⟨i0, hi, ie0, ie1, ie2⟩ := info_parts infoInt2
  have hE' := Lib.hid hE
  clear hS hpl hd hL45 hv2
  rw [hL]
  go_enter Tryd.func20, Tryd.ntmps20
  go_wp2_with fail
  obtain ⟨m, hm1⟩ := (hE'.out.on (show Below w.heap.size w (w.alloc (.cells #[] 2)) by go_grown)).big
  refine (sr_strings_Split s ⟨#[44]⟩ m _ (by omega) hm1 (by decide)).mono ?_
  rintro e w1 ⟨rfl, hw1⟩
  rw [hv2'.out, hv1] at *
  have hz1 : w1.heap.size = w.heap.size + 2 := by rw [hw1]; simp
  have hB1 : Below w.heap.size w w1 := by rw [hw1]; go_grown
  have hO1 : w1.ownsRow w.heap.size 2 1 (.slice (some ⟨w.heap.size, 0, none⟩) 0 0) 0 (ints (vTo S 0)) := by rw [hw1]; exact (World.ownsRow_made w #[] 0 (by omega) (Nat.zero_le _) rfl : (w.alloc (.cells #[] 2)).ownsRow w.heap.size 2 1 _ 0 []).alloc _
  have hC1 : ∀ j u, (partsV S)[j]? = some u → w1.cell? ⟨w.heap.size + 1, j, none⟩ = some u := by
    intro j u hu
    have hsl := Sl.new (w.alloc (.cells #[] 2)) (partsV S).toArray 9
    obtain ⟨b0, o0, e0, _, hc⟩ := hsl (by intro e; have e : partsV S = [] := e; rw [e] at hu; simp at hu)
    have hc2 := hc j u hu
    rw [World.size_alloc] at e0
    cases e0
    rw [hw1]
    simpa using hc2
  have hC1' := Lib.hid hC1
  clear hw1 hC1 hm1 hE
  go_wp2_with fail
  go_loopw [4, 15] (fun v i wr => ∃ k : Nat, i = .int .i64 k ∧ k ≤ S.length ∧ k ≤ 64 ∧ Hid (∀ (j : Nat) (hj : j < S.length), j < k → okN S[j] = true) ∧ wr.ownsRow w.heap.size 2 1 v k (ints (vTo S k)) ∧ v.ownBlock ≠ some (w.heap.size + 1) ∧ w.heap.size + 2 ≤ wr.heap.size ∧ Below w.heap.size w wr ∧ Hid (∀ (j : Nat) (u : Value), (partsV S)[j]? = some u → wr.cell? ⟨w.heap.size + 1, j, none⟩ = some u)) (fun _ i _ => S.length - (intOf i).toNat)
  case atStart => exact ⟨0, rfl, Nat.zero_le _, by omega, Lib.hid (fun j hj h => by omega), hO1, by simp [Value.ownBlock], by omega, hB1, hC1'⟩
  case round =>
    clear hO1 hB1 hC1'
    obtain ⟨k, rfl, hk, hk64, hok, hown, hob, hz2, hB2, hC2⟩ := hrel
    have hS2 := hB2.size
    obtain ⟨A2, cA, rfl, hA2⟩ := owns_any hown
    by_cases hlt : k < S.length
    · have d0 : wr.cell? ⟨w.heap.size + 1, k, none⟩ = some (.string (ba S[k])) := hC2.out k _ (by unfold partsV; rw [List.getElem?_map, List.getElem?_eq_getElem hlt]; rfl)
      have hgw : w.heap.size + 1 < wr.heap.size := by omega
      have hps := hpl'.out _ (List.getElem_mem hlt)
      have hst := Lib.hid (vN_next hlt)
      have hnx := Lib.hid (fun h => okN_next hlt hok.out h)
      have hbk := Lib.hid (hbad.out k hlt)
      obtain ⟨p, hp⟩ : ∃ p, S[k] = p := ⟨_, rfl⟩
      rw [hp] at d0 hps hst hnx hbk
      have hpv := Lib.hid (vN_has p)
      clear hp hA2
      cases h1 : numOk p
      · have hr := Lib.hid (hbk.out (by unfold okN; rw [h1]; rfl))
        go_wp2_with (go_at_call 22; refine (impl_NumL p (by omega) _ (hE'.out.on hB2)).mono ?_; rintro e w2 ⟨rfl, hb2⟩)
        go_ret2
        exact RGives.nil hr.out (bnext hB2 hb2)
      cases h2 : inB (rdV (ba p)) (-1000000000000) 1000000000000
      · have hr := Lib.hid (hbk.out (by unfold okN; rw [h1, h2]; rfl))
        go_wp2_with (first | (go_at_call 22; refine (impl_NumL p (by omega) _ (hE'.out.on hB2)).mono ?_; rintro e w2 ⟨rfl, hb2⟩) | (go_at_call 37; refine (within_any _ _ _ _).mono ?_; rintro e w' ⟨rfl, rfl⟩))
        go_ret2
        exact RGives.nil hr.out (bnext hB2 hb2)
      by_cases h64 : k = 64
      · have hr := Lib.hid (hm.out (by omega))
        have t64 : ((k : Int) == 64) = true := by rw [h64]; rfl
        clear h64
        go_wp2_with (first | (go_at_call 22; refine (impl_NumL p (by omega) _ (hE'.out.on hB2)).mono ?_; rintro e w2 ⟨rfl, hb2⟩) | (go_at_call 37; refine (within_any _ _ _ _).mono ?_; rintro e w' ⟨rfl, rfl⟩))
        go_ret2
        exact RGives.nil hr.out (bnext hB2 hb2)
      have t64 : ((k : Int) == 64) = false := beq_eq_false_iff_ne.2 (by omega)
      have hok2 := Lib.hid (hnx.out (by unfold okN; rw [h1, h2]; rfl))
      clear hbk hnx hok
      go_wp2_with (first | (go_at_call 22; refine (impl_NumL p (by omega) _ (hE'.out.on hB2)).mono ?_; rintro e w2 ⟨rfl, hb2⟩) | (go_at_call 37; refine (within_any _ _ _ _).mono ?_; rintro e w' ⟨rfl, rfl⟩) | (at_builtin; refine wpList_append_own_at _ rfl _ _ 41 rfl w.heap.size 2 i0 (.int .i64 0) 1 8 Tryd.underlying41 hi ie0 ie1 ie2 rfl (by decide) _ _ _ rfl ((owns_below hown hb2).alloc _) ⟨w2.heap.size, 0, none⟩ 1 1 [.int .i64 (rdV (ba p))] rfl rfl ?c1 ?c2 ?c3 ?c4 ?c5 ?_))
      case c5 => have := hb2.size; simp; omega
      case c1 =>
        intro j u hj
        match j, hj with
        | 0, hj => simp at hj; subst hj; simp [Addr.add]
      case c2 => intro u hu; simp at hu; subst hu; rfl
      case c3 => unfold maxLen; omega
      case c4 => omega
      intro v' wn hown' hgrow _ hob'
      have hS3 := hb2.size
      have hBn := (show Below w.heap.size w (w2.alloc (.cells #[.int .i64 (rdV (ba p))] 2)) from (bnext hB2 hb2).alloc (by omega) _).grown hgrow (by simp; omega) (fun q e => (hown.lt q e).1)
      have hOn : wn.ownsRow w.heap.size 2 1 v' (k + 1) (ints (vTo S (k + 1))) := by rw [hst.out]; exact hown'
      have hon : v'.ownBlock ≠ some (w.heap.size + 1) := by
        rcases hob' with h | h
        · rw [h]; exact hob
        · rw [h]; simp; omega
      have hzn : w.heap.size + 2 ≤ wn.heap.size := by have := hgrow.size; simp at this; omega
      have hCn : Hid (∀ (j : Nat) (u : Value), (partsV S)[j]? = some u → wn.cell? ⟨w.heap.size + 1, j, none⟩ = some u) := by
        apply Lib.hid
        intro j u hu
        refine hgrow.cell ?_ (by intro e; exact hob e.symm)
        exact cell_al (cell_on hb2 (hC2.out j u hu))
      clear hown' hgrow hown hob' hob hb2
      go_wp2
      go_roundw
      case rel => exact ⟨k + 1, by go_num, by omega, by omega, hok2, hOn, hon, hzn, hBn, hCn⟩
      case measure => simp [intOf]; omega
    · obtain rfl : k = S.length := by omega
      rw [vTo_all] at hA2
      have hr := Lib.hid (hgood.out (by omega) (fun j hj => hok.out j hj hj))
      have e : (S.map vN).length = S.length := List.length_map ..
      clear hown
      go_wp2
      go_ret2
      refine ⟨A2, cA, ?_, ?_, hB2⟩
      · rw [hr.out.1, hr.out.2, e] <;> rfl
      · rw [hr.out.2]; exact hA2
end Go.Proofs.YtlolkngklfabfaaDoor
