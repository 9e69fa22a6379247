/-
  Contracts of the text of a list of numbers: the program's and the reference's. Each under the conditions that it states.
-/
import Derived.Test.YtlolkngklfabfaaDoorTexts
import Derived.Test.YtlolkngklfabfaaDoorInts
import Derived.Lib.Join
import Derived.Test.YtlolkngklfabfaaDoorShelfJ
set_option linter.unusedVariables false
set_option linter.unnecessarySimpa false
set_option maxRecDepth 100000
set_option linter.unusedSimpArgs false
namespace Go.Proofs.YtlolkngklfabfaaDoor
open Go.RowKit BigFrame

/-- The first k numbers of a list, commas between. -/
def joinTo (L : List Int) : Nat → ByteArray
  | 0 => ⟨#[]⟩
  | k + 1 => (if k = 0 then ⟨#[]⟩ else joinTo L k ++ ⟨#[44]⟩) ++ decT (L.getD k 0)
def listT (L : List Int) : ByteArray := if L = [] then ⟨#[45]⟩ else joinTo L L.length
theorem getD_int {L : List Int} {k : Nat} (h : k < L.length) : L.getD k 0 = L[k] := by
  rw [List.getD_eq_getElem?_getD, List.getElem?_eq_getElem h]; rfl
theorem joinTo_one {L : List Int} {z : Int} (h : 0 < L.length) (hz : L[0] = z) : joinTo L 1 = ⟨#[]⟩ ++ decT z := by
  simp only [joinTo]; rw [getD_int h, hz]; rfl
theorem joinTo_step {L : List Int} {k : Nat} {z : Int} (h : k + 1 < L.length) (hz : L[k + 1] = z) : joinTo L (k + 1 + 1) = joinTo L (k + 1) ++ ⟨#[44]⟩ ++ decT z := by
  rw [joinTo, if_neg (by omega), getD_int h, hz]
theorem joinTo_size {L : List Int} (hb : ∀ z ∈ L, IntKind.i64.has z) : ∀ k, k ≤ L.length → (joinTo L k).size ≤ 22 * k
  | 0, _ => by simp [joinTo]; decide
  | k + 1, hk => by
    have ih := joinTo_size hb k (by omega)
    have hz := has_i64 (hb _ (List.getElem_mem (show k < L.length by omega)))
    have hd := decT_size hz.1 hz.2
    rw [joinTo, getD_int (by omega), ByteArray.size_append]
    split
    · have : (⟨#[]⟩ : ByteArray).size = 0 := rfl
      omega
    · rw [ByteArray.size_append]
      have : (⟨#[44]⟩ : ByteArray).size = 1 := rfl
      omega
theorem nil_app (s : ByteArray) : (⟨#[]⟩ : ByteArray) ++ s = s := by
  apply ByteArray.ext; simp [ByteArray.data_append]
theorem data_app (a b : ByteArray) : (a ++ b).data.toList = a.data.toList ++ b.data.toList := by simp [ByteArray.data_append]
/-- It is what strings.Join gives. -/
theorem joinTo_join (L : List Int) : ∀ k, k + 1 ≤ L.length → (joinTo L (k + 1)).data.toList = Lib.join (((L.take (k + 1)).map decT).map (·.data.toList)) [44]
  | 0, h => by
    obtain ⟨a, r, rfl⟩ : ∃ a r, L = a :: r := by cases L with | nil => simp at h | cons a r => exact ⟨a, r, rfl⟩
    simp only [joinTo, List.take_succ_cons, List.take_zero, List.map_cons, List.map_nil]
    rw [Lib.join_one, if_pos trivial, nil_app]
    rfl
  | k + 1, h => by
    have ih := joinTo_join L k (by omega)
    rw [joinTo, if_neg (by omega), data_app, data_app, ih, getD_int (by omega)]
    rw [show L.take (k + 1 + 1) = L.take (k + 1) ++ [L[k + 1]] from List.take_succ_eq_append_getElem (by omega)]
    obtain ⟨a, r, rfl⟩ : ∃ a r, L = a :: r := by cases L with | nil => simp at h | cons a r => exact ⟨a, r, rfl⟩
    simp only [List.take_succ_cons, List.map_append, List.map_cons, List.map_nil, List.cons_append]
    rw [Lib.join_cons, Lib.join_cons]
    simp [Lib.joinTail]
theorem listT_join {L : List Int} (h : L ≠ []) : listT L = ⟨(Lib.join ((L.map decT).map (·.data.toList)) [44]).toArray⟩ := by
  unfold listT
  rw [if_neg h]
  obtain ⟨k, hk⟩ : ∃ k, L.length = k + 1 := ⟨L.length - 1, by have := List.length_pos_iff.2 h; omega⟩
  have e := joinTo_join L k (by omega)
  rw [← hk, List.take_length] at e
  rw [← e, hk]

theorem infoStr : (Tryd.prog.info? 9).map (fun i => (i.zero, i.size, i.bytes)) = some (some (.string ⟨#[]⟩), 1, 16) := by kernel_rfl
theorem listT_lib {L : List Int} (hb : ∀ z ∈ L, IntKind.i64.has z) (hl : L.length ≤ 64) (h : L ≠ []) : (Lib.join ((L.map decT).map (·.data.toList)) [44]).length ≤ 2000 := by
  have e := listT_join h
  have hs := joinTo_size hb L.length (Nat.le_refl _)
  unfold listT at e
  rw [if_neg h] at e
  rw [e] at hs
  have : (ByteArray.mk (Lib.join ((L.map decT).map (·.data.toList)) [44]).toArray).size = (Lib.join ((L.map decT).map (·.data.toList)) [44]).length := by simp [ByteArray.size]
  omega
set_option maxHeartbeats 1600000 in
theorem impl_List (L : List Int) (A : Option Addr) (c B : Nat) (w : World) (hs : Sl w B A (ints L)) (hB : B ≤ w.heap.size) (hb : ∀ z ∈ L, inB z (-1000000000000) 1000000000000 = true) (hl : L.length ≤ 64) (h0 : L ≠ []) (ht : Tab w) : Calls Tryd.prog 21 #[.slice A L.length c] w fun e w' => e = .returned (.string (listT L)) ∧ Below w.heap.size w w' := by
  have hb2 : ∀ z ∈ L, IntKind.i64.has z := fun z hz => by
    have := inB_yes.1 (hb z hz)
    simp [IntKind.has, IntKind.min, IntKind.max, IntKind.signed, IntKind.bits]
    omega
  have hX := Lib.hid (listT_join h0)
  have hXl := Lib.hid (listT_lib hb2 hl h0)
  have hs' := Lib.hid hs
  have hb' := Lib.hid hb
  have ht' := Lib.hid ht
  have hp : 0 < L.length := List.length_pos_iff.2 h0
  have hp' : ((L.length : Int) == 0) = false := beq_eq_false_iff_ne.2 (by omega)
  have h64 : decide ((L.length : Int) ≤ 64) = true := decide_eq_true (by omega)
  obtain ⟨i0, hi, ie0, ie1, ie2⟩ := info_parts infoStr
  clear hs hb hb2 ht h0
  go_enter Tryd.func21, Tryd.ntmps21
  go_wp2_with (go_at_call 42; refine (impl_few _ _ _).mono ?_; rintro e w' ⟨rfl, rfl⟩)
  have hO0 : (w.alloc (.cells #[] 9)).ownsRow w.heap.size 9 1 (.slice (some ⟨w.heap.size, 0, none⟩) 0 0) 0 (((L.take 0).map decT).map Value.string) := World.ownsRow_made w #[] 0 (by omega) (Nat.zero_le _) rfl
  have hB0 : Below w.heap.size w (w.alloc (.cells #[] 9)) := by go_grown
  go_loopw [3, 5, 16] (fun v _ i wr => ∃ k : Nat, i = .int .i64 k ∧ k ≤ L.length ∧ Below w.heap.size w wr ∧ wr.ownsRow w.heap.size 9 1 v k (((L.take k).map decT).map Value.string)) (fun _ _ i _ => L.length - (intOf i).toNat)
  case atStart => exact ⟨0, rfl, Nat.zero_le _, hB0, hO0⟩
  case round =>
    clear hB0 hO0
    obtain ⟨k, rfl, hk, hB1, hown⟩ := hrel
    have hS1 := hB1.size
    by_cases hlt : k < L.length
    · obtain ⟨b, o, rfl, hbb, hc⟩ := (hs'.out.below (hB1.mono hB)) (by intro e; unfold ints at e; rw [List.map_eq_nil_iff] at e; subst e; simp at hlt)
      have d0 : wr.cell? ⟨b, o + k, none⟩ = some (.int .i64 L[k]) := hc k _ (by unfold ints; rw [List.getElem?_map, List.getElem?_eq_getElem hlt]; rfl)
      have hbw : b < wr.heap.size := by omega
      have hz0 := hb'.out _ (List.getElem_mem hlt)
      have hst := Lib.hid (show (L.take (k + 1)).map decT = (L.take k).map decT ++ [decT L[k]] by rw [List.take_succ_eq_append_getElem hlt, List.map_append]; rfl)
      obtain ⟨z, hz⟩ : ∃ z, L[k] = z := ⟨_, rfl⟩
      rw [hz] at d0 hz0 hst
      have hzb := inB_yes.1 hz0
      clear hc hz
      go_wp2_with (go_at_call 37; refine (within_any _ _ _ _).mono ?_; rintro e w' ⟨rfl, rfl⟩)
      refine (impl_Dec z (by omega) (by omega) _ (ht'.out.on hB1)).mono ?_
      rintro e w9 ⟨rfl, hb9⟩
      have hB9 := bnext hB1 hb9
      have hO9 := owns_on hown hb9
      have hz9 := hb9.size
      go_wp2_with (at_builtin; refine wpList_append_own _ rfl _ _ 56 rfl w.heap.size 9 i0 (.string ⟨#[]⟩) 1 16 Tryd.underlying56 hi ie0 ie1 ie2 rfl (by decide) _ _ _ rfl (hO9.alloc _) ⟨w9.heap.size, 0, none⟩ 1 1 [.string (decT z)] rfl rfl ?c1 ?c2 ?c3 ?c4 ?c5 ?_)
      case c1 =>
        intro j u hj
        match j, hj with
        | 0, hj => simp at hj; subst hj; simp [Addr.add]
      case c2 => intro u hu; simp at hu; subst hu; rfl
      case c3 => unfold maxLen; omega
      case c4 => omega
      case c5 => simp; omega
      intro v' wn hown' hgrow _
      have hBn := (show Below w.heap.size w (w9.alloc (.cells #[.string (decT z)] 9)) by go_grown).grown hgrow (by simp; omega) (fun q e => (hO9.lt q e).1)
      have hOn : wn.ownsRow w.heap.size 9 1 v' (k + 1) (((L.take (k + 1)).map decT).map Value.string) := by rw [hst.out]; simpa using hown'
      clear hown' hgrow hB9 hO9 hb9 hown
      go_wp2
      go_roundw
      case rel => exact ⟨k + 1, by go_num, by omega, hBn, hOn⟩
      case measure => simp [intOf]; omega
    · obtain rfl : k = L.length := by omega
      rw [List.take_length] at hown
      obtain ⟨g, cD, rfl, hbg, hSl⟩ := owns_sl hown hp
      obtain ⟨bb, oo, e0, hbb, hcc⟩ := hSl (by intro e; rw [List.map_eq_nil_iff, List.map_eq_nil_iff] at e; subst e; simp at hp)
      cases e0
      have hcap : L.length ≤ cD := by
        obtain ⟨_, h | ⟨g', cap, cur, e, _, _, hcn, _⟩⟩ := hown
        · cases h.1
        · cases e; exact hcn
      have hJ := sj_strings_Join g 0 cD (L.map decT) ⟨#[44]⟩ wr (fun j x hx => hcc j _ (by rw [List.getElem?_map, hx]; rfl)) hbb (by rw [List.length_map]; omega) (by rw [List.length_map]; omega) (Nat.le_trans hXl.out (by omega))
      rw [List.length_map] at hJ
      clear hcc
      have hJ' := Lib.hid hJ
      clear hJ
      go_wp2_with fail
      refine (hJ'.out).mono ?_
      rintro e w9 ⟨rfl, hb9⟩
      go_wp2
      go_ret
      exact ⟨ret_str (by rw [hX.out]; first | rfl | rw [List.map_map]), bnext hB1 hb9⟩
end Go.Proofs.YtlolkngklfabfaaDoor
