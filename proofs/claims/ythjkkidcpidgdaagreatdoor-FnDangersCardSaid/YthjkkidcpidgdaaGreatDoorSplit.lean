/-
  Contracts of texts divided: the program's and the reference's. Under the conditions that each states.
-/
import Derived.Test.YthjkkidcpidgdaaGreatDoorRead
import Derived.Maps.AppendAt
import Derived.Lib.SplitLaws
set_option linter.unusedVariables false
set_option linter.unnecessarySimpa false
set_option maxRecDepth 100000
set_option linter.unusedSimpArgs false
namespace Go.Proofs.YthjkkidcpidgdaaGreatDoor
open Go.RowKit BigFrame

/-- A text of these bytes. -/
def ba (l : List UInt8) : ByteArray := ⟨l.toArray⟩
def partsV (S : List (List UInt8)) : List Value := S.map (fun l => .string (ba l))
theorem ba_data (s : ByteArray) : s = ba s.data.toList := ba_ext rfl
theorem ba_size (l : List UInt8) : (ba l).size = l.length := by simp [ba, ByteArray.size]
theorem ba_list (l : List UInt8) : (ba l).data.toList = l := rfl
theorem cut_is {s : ByteArray} {L : List UInt8} (hL : s.data.toList = L) (a b : Nat) : s.extract a b = ba (pre L a b) := by
  rw [ba_data (s.extract a b), Lib.extract_data, hL]
  unfold pre
  rw [List.drop_take]
theorem owns_any {w : World} {B n : Nat} {e : TypeId} {v : Value} {xs : List Value} (h : w.ownsRow B e 1 v n xs) : ∃ A c, v = .slice A n c ∧ Sl w w.heap.size A xs := by
  by_cases hn : 0 < n
  · obtain ⟨g, c, rfl, _, hs⟩ := owns_sl h hn
    exact ⟨_, c, rfl, hs⟩
  · obtain ⟨hl, h0 | ⟨g, cap, cur, rfl, hb, hh, hcn, hm, hsz, ht⟩⟩ := h
    · have e0 : xs = [] := List.eq_nil_of_length_eq_zero (by omega)
      subst e0
      obtain ⟨rfl, rfl⟩ := h0
      exact ⟨none, 0, rfl, fun hn => absurd rfl hn⟩
    · have e0 : xs = [] := List.eq_nil_of_length_eq_zero (by omega)
      subst e0
      exact ⟨_, cap, rfl, fun hn => absurd rfl hn⟩
/-- A row of texts is given. -/
def Gives (S : List (List UInt8)) (w : World) (e : Ending) (w' : World) : Prop := ∃ A c, e = .returned (.slice A S.length c) ∧ Sl w' w'.heap.size A (partsV S) ∧ Below w.heap.size w w'
theorem infoStr2 : (Tryz.prog.info? 9).map (fun i => (i.zero, i.size, i.bytes)) = some (some (.string ⟨#[]⟩), 1, 16) := by kernel_rfl
theorem glue_hit {a : List UInt8} {S : List (List UInt8)} : glue a ([] :: S) = a :: S := by simp [glue]
theorem glue_last (a : List UInt8) : glue a [[]] = [a] := by simp [glue]
theorem pre_next (L : List UInt8) (a : Nat) : pre L a a = [] := pre_self L a
theorem parts_snoc (S : List (List UInt8)) (l : List UInt8) : partsV (S ++ [l]) = partsV S ++ [.string (ba l)] := by simp [partsV]

theorem split_vals (s : ByteArray) : (Lib.splitB ⟨#[32]⟩ 0 (Lib.countB s ⟨#[32]⟩) s).map Value.string = partsV (splitL 32 s.data.toList) ∧ Lib.countB s ⟨#[32]⟩ + 1 = (splitL 32 s.data.toList).length := by
  have h := splitB_is 32 s.size s (Nat.le_refl _)
  have e : (Lib.splitB ⟨#[32]⟩ 0 (Lib.countB s ⟨#[32]⟩) s).map Value.string = partsV (splitL 32 s.data.toList) := by
    rw [← h]
    unfold partsV
    rw [List.map_map]
    apply List.map_congr_left
    intro a _
    rw [Function.comp, ← ba_data a]
  refine ⟨e, ?_⟩
  rw [← h, List.length_map]
  exact (Lib.splitB_all _ (by decide) _ _ _ rfl).symm
theorem split_len (c : UInt8) : ∀ l : List UInt8, (splitL c l).length ≤ l.length + 1
  | [] => Nat.le_refl _
  | b :: l => by
    have ih := split_len c l
    by_cases hb : b = c
    · subst hb; rw [split_hit]; simp; exact ih
    · rw [split_miss hb]
      cases hq : splitL c l with
      | nil => exact absurd hq (split_ne c l)
      | cons h t => rw [hq] at ih; simp [glue] at ih ⊢; omega
def full (p : List UInt8) : Bool := !p.isEmpty
theorem ba_empty (C : List UInt8) : (ba C).toList.isEmpty = !full C := by
  rw [ByteArray.toList_eq]
  show C.isEmpty = _
  simp [full]
theorem filt_hit {S : List (List UInt8)} {k : Nat} (h : k < S.length) (hf : full S[k] = true) : (S.take (k + 1)).filter full = (S.take k).filter full ++ [S[k]] := by
  rw [List.take_succ_eq_append_getElem h, List.filter_append]
  simp [hf]
theorem filt_miss {S : List (List UInt8)} {k : Nat} (h : k < S.length) (hf : full S[k] = false) : (S.take (k + 1)).filter full = (S.take k).filter full := by
  rw [List.take_succ_eq_append_getElem h, List.filter_append]
  simp [hf]
theorem filt_len (S : List (List UInt8)) (k : Nat) : ((S.take k).filter full).length ≤ k := by
  have h1 := List.length_filter_le full (S.take k)
  rw [List.length_take] at h1
  omega
set_option maxHeartbeats 1600000 in
theorem impl_Words (s : ByteArray) (hs : s.size ≤ 1048576) (w : World) (hE : Env w) : Calls Tryz.prog 44 #[.string s] w (Gives (wordsL s.data.toList) w) := by
  have hv := split_vals s
  have hlen := split_len 32 s.data.toList
  have hsz : s.data.toList.length = s.size := Array.length_toList
  have hW : Hid (wordsL s.data.toList = (splitL 32 s.data.toList).filter full) := Lib.hid rfl
  obtain ⟨S, hS⟩ : ∃ S, splitL 32 s.data.toList = S := ⟨_, rfl⟩
  rw [hS] at hv hlen hW
  rw [hsz] at hlen
  obtain ⟨hv1, hv2⟩ := hv
  have hv2' := Lib.hid hv2
  obtain ⟨i0, hi, ie0, ie1, ie2⟩ := info_parts infoStr2
  clear hS hsz hv2
  go_enter Tryz.func44, Tryz.ntmps44
  go_wp2_with fail
  obtain ⟨m, hm⟩ := (hE.on (show Below w.heap.size w (w.alloc (.cells #[] 9)) by go_grown)).big
  refine (sr_strings_Split s ⟨#[32]⟩ m _ (by omega) hm (by decide)).mono ?_
  rintro e w1 ⟨rfl, hw1⟩
  rw [hv2'.out, hv1] at *
  have hz1 : w1.heap.size = w.heap.size + 2 := by rw [hw1]; simp
  have hB1 : Below w.heap.size w w1 := by rw [hw1]; go_grown
  have hO1 : w1.ownsRow w.heap.size 9 1 (.slice (some ⟨w.heap.size, 0, none⟩) 0 0) 0 (partsV []) := by rw [hw1]; exact (World.ownsRow_made w #[] 0 (by omega) (Nat.zero_le _) rfl : (w.alloc (.cells #[] 9)).ownsRow w.heap.size 9 1 _ 0 []).alloc _
  have hC1 : ∀ j u, (partsV S)[j]? = some u → w1.cell? ⟨w.heap.size + 1, j, none⟩ = some u := by
    intro j u hu
    have hsl := Sl.new (w.alloc (.cells #[] 9)) (partsV S).toArray 9
    obtain ⟨b0, o0, e0, _, hc⟩ := hsl (by intro e; have e : partsV S = [] := e; rw [e] at hu; simp at hu)
    have hc2 := hc j u hu
    rw [World.size_alloc] at e0
    cases e0
    rw [hw1]
    simpa using hc2
  have hC1' := Lib.hid hC1
  clear hw1 hC1 hm hE
  go_wp2_with fail
  go_loopw [3, 5, 10] (fun v _ i wr => ∃ k : Nat, i = .int .i64 k ∧ k ≤ S.length ∧ wr.ownsRow w.heap.size 9 1 v ((S.take k).filter full).length (partsV ((S.take k).filter full)) ∧ v.ownBlock ≠ some (w.heap.size + 1) ∧ w.heap.size + 2 ≤ wr.heap.size ∧ Below w.heap.size w wr ∧ Hid (∀ (j : Nat) (u : Value), (partsV S)[j]? = some u → wr.cell? ⟨w.heap.size + 1, j, none⟩ = some u)) (fun _ _ i _ => S.length - (intOf i).toNat)
  case atStart => exact ⟨0, rfl, Nat.zero_le _, hO1, by simp [Value.ownBlock], by omega, hB1, hC1'⟩
  case round =>
    clear hO1 hB1 hC1'
    obtain ⟨k, rfl, hk, hown, hob, hz2, hB2, hC2⟩ := hrel
    have hS2 := hB2.size
    by_cases hlt : k < S.length
    · have d0 : wr.cell? ⟨w.heap.size + 1, k, none⟩ = some (.string (ba S[k])) := hC2.out k _ (by unfold partsV; rw [List.getElem?_map, List.getElem?_eq_getElem hlt]; rfl)
      have hst1 := Lib.hid (fun h => filt_hit hlt h)
      have hst2 := Lib.hid (fun h => filt_miss hlt h)
      have hfl := filt_len S k
      obtain ⟨C, hC⟩ : ∃ C, S[k] = C := ⟨_, rfl⟩
      rw [hC] at d0 hst1 hst2
      clear hC
      obtain ⟨T, hT⟩ : ∃ T, (S.take k).filter full = T := ⟨_, rfl⟩
      rw [hT] at hown hst1 hst2 hfl
      clear hT
      cases hf : full C
      · have hst := Lib.hid (hst2.out hf)
        have he : (ba C).toList.isEmpty = true := by rw [ba_empty, hf]; rfl
        clear hst1 hst2 hf
        go_wp2
        go_roundw
        case rel => exact ⟨k + 1, by go_num, by omega, by rw [hst.out]; exact hown, hob, hz2, hB2, hC2⟩
        case measure => simp [intOf]; omega
      · have hst := Lib.hid (hst1.out hf)
        have he : (ba C).toList.isEmpty = false := by rw [ba_empty, hf]; rfl
        clear hst1 hst2 hf
        go_wp2_with (at_builtin; refine wpList_append_own_at _ rfl _ _ 28 rfl w.heap.size 9 i0 (.string ⟨#[]⟩) 1 16 Tryz.underlying28 hi ie0 ie1 ie2 rfl (by decide) _ _ _ rfl (hown.alloc _) ⟨wr.heap.size, 0, none⟩ 1 1 [.string (ba C)] rfl rfl ?c1 ?c2 ?c3 ?c4 ?c5 ?_)
        case c1 =>
          intro j u hj
          match j, hj with
          | 0, hj => simp at hj; subst hj; simp [Addr.add]
        case c2 => intro u hu; simp at hu; subst hu; rfl
        case c3 => unfold maxLen; omega
        case c4 => omega
        case c5 => simp; omega
        intro v' wn hown' hgrow _ hob'
        have hBn := (show Below w.heap.size w (wr.alloc (.cells #[.string (ba C)] 9)) by go_grown).grown hgrow (by simp; omega) (fun q e => (hown.lt q e).1)
        have hOn : wn.ownsRow w.heap.size 9 1 v' (T ++ [C]).length (partsV (T ++ [C])) := by rw [parts_snoc]; simpa using hown'
        have hon : v'.ownBlock ≠ some (w.heap.size + 1) := by
          rcases hob' with h | h
          · rw [h]; exact hob
          · rw [h]; simp; omega
        have hzn : w.heap.size + 2 ≤ wn.heap.size := by have := hgrow.size; simp at this; omega
        have hCn : Hid (∀ (j : Nat) (u : Value), (partsV S)[j]? = some u → wn.cell? ⟨w.heap.size + 1, j, none⟩ = some u) := by
          apply Lib.hid
          intro j u hu
          refine hgrow.cell ?_ (by intro e; exact hob e.symm)
          rw [← hC2.out j u hu]
          exact ((Below.refl (w.heap.size + 2) wr).alloc hz2 _).cell (p := ⟨w.heap.size + 1, j, none⟩) (by simp)
        clear hown' hgrow hown hob' hob
        go_wp2
        go_roundw
        case rel => exact ⟨k + 1, by go_num, by omega, by rw [hst.out]; exact hOn, hon, hzn, hBn, hCn⟩
        case measure => simp [intOf]; omega
    · obtain rfl : k = S.length := by omega
      rw [List.take_length, ← hW.out] at hown
      obtain ⟨A, cA, rfl, hA⟩ := owns_any hown
      clear hown hob
      go_wp2
      go_ret
      exact ⟨A, cA, rfl, hA, hB2⟩
end Go.Proofs.YthjkkidcpidgdaaGreatDoor
