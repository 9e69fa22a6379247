/-
  Contracts of numbers read from texts: the program's and the reference's. Under no condition but those that each states (the library's own variables as they stand at the start).
-/
import Derived.Test.YtpnffdkkmibchaaGreatDoorDec
import Derived.Test.YtpnffdkkmibchaaGreatDoorText1
import Derived.Test.YtpnffdkkmibchaaGreatDoorShelfR
import Derived.Test.YtpnffdkkmibchaaGreatDoorNumP
import Derived.Test.YtpnffdkkmibchaaGreatDoorSplitP
import Derived.Lib.ParseIntBTie
import Derived.Lib.SmallJoins
import Derived.Laws.Cover1
set_option linter.unusedVariables false
set_option linter.unnecessarySimpa false
set_option maxRecDepth 100000
set_option linter.unusedSimpArgs false
namespace Go.Proofs.YtpnffdkkmibchaaGreatDoor
open Go.RowKit BigFrame

theorem var_on {w w' : World} (hb : Below w.heap.size w w') {name : String} {g : Nat} (hg : Tryz.prog.globalNamed name = some g) {cs : Array Value} (h : w.var? Tryz.prog name = some cs) : w'.var? Tryz.prog name = some cs := by
  unfold World.var? at h ⊢
  simp only [hg, Option.bind_some] at h ⊢
  by_cases hl : g < w.heap.size
  · rw [hb.block _ hl]
    exact h
  · rw [Array.getElem?_eq_none (by omega)] at h
    cases h
/-- What the readers ask of the library's variables. -/
structure Env (w : World) : Prop where
  tab : Tab w
  syn : ∃ tp p, w.var? Tryz.prog "strconv.ErrSyntax" = some #[.iface tp p]
  ran : ∃ tp p, w.var? Tryz.prog "strconv.ErrRange" = some #[.iface tp p]
  big : ∃ m, w.cell? ⟨1, 0, none⟩ = some (.int .i64 m)
theorem cell_lt {w : World} {b o : Nat} {v : Value} (h : w.cell? ⟨b, o, none⟩ = some v) : b < w.heap.size := by
  by_cases hl : b < w.heap.size
  · exact hl
  · rw [World.cell?, Array.getElem?_eq_none (by simpa using hl)] at h
    cases h
theorem synVar : Tryz.prog.globalNamed "strconv.ErrSyntax" = some 2 := by kernel_rfl
theorem ranVar : Tryz.prog.globalNamed "strconv.ErrRange" = some 3 := by kernel_rfl
theorem Env.on {w w' : World} (h : Env w) (hb : Below w.heap.size w w') : Env w' := by
  obtain ⟨ht, ⟨tp, p, hs⟩, ⟨tq, q, hr⟩, ⟨m, hm⟩⟩ := h
  exact ⟨ht.on hb, ⟨tp, p, var_on hb synVar hs⟩, ⟨tq, q, var_on hb ranVar hr⟩, ⟨m, (hb.cell (p := ⟨_, 0, none⟩) (cell_lt hm)).trans hm⟩⟩

/-- The number that a text gives; 0 if none. -/
def rdV (s : ByteArray) : Int := if numOk s.data.toList then numV s.data.toList else 0
def rdOk (s : ByteArray) : Bool := numOk s.data.toList
theorem trim_is (l : List UInt8) : Lib.trimPrefix l [45] = trimL l := by
  unfold Lib.trimPrefix trimL Lib.hasPrefix
  cases l with
  | nil => rfl
  | cons a r =>
    by_cases h : a = 45
    · subst h; rfl
    · simp [h, show ¬ (45 : UInt8) = a from fun e => h e.symm]
theorem bytes_eq {a b : ByteArray} (h : a = b) : (a.toList == b.toList) = true := by rw [h]; exact beq_self_eq_true _
theorem ba_ext {a : ByteArray} {l : List UInt8} (h : a.data.toList = l) : a = ⟨l.toArray⟩ := by
  obtain ⟨⟨x⟩⟩ := a
  subst h
  rfl
theorem trim_call (s : ByteArray) (w : World) : Calls Tryz.prog 54 #[.string s, .string ⟨#[45]⟩] w fun e w' => e = .returned (.string ⟨(trimL s.data.toList).toArray⟩) ∧ w = w' := by
  refine (sr_strings_TrimPrefix s ⟨#[45]⟩ w).mono ?_
  rintro e w1 ⟨rfl, rfl⟩
  exact ⟨by rw [show (⟨#[45]⟩ : ByteArray).data.toList = [45] from rfl, trim_is], rfl⟩
theorem impl_RDec (s : ByteArray) (hs : s.size ≤ 281474976710656) (w : World) (hE : Env w) : Calls Tryz.prog 33 #[.string s] w fun e w' => e = .returned (.tuple #[.int .i64 (rdV s), .bool (rdOk s)]) ∧ Below w.heap.size w w' := by
  have htl : (trimL s.data.toList).length ≤ s.size := trim_len _
  by_cases hlen : (trimL s.data.toList).length ≤ 18
  · have hno : ¬ (18 : Int) < ((trimL s.data.toList).length : Int) := by omega
    cases hp : Lib.parseIntB 64 s.data.toList with
    | ok v =>
      have hb := Lib.parseIntB_bounds hp
      obtain ⟨hb0, hb1⟩ : -9223372036854775808 ≤ v ∧ v ≤ 9223372036854775807 := by
        have e : ((2 ^ (64 - 1) : Nat) : Int) = 9223372036854775808 := by decide
        rw [e] at hb
        omega
      by_cases heq : decT v = s
      · have e1 : s.data.toList = Lib.itoa v := by rw [← heq]; rfl
        have e2 := itoa_num (v := v) (by rw [← e1]; exact hlen)
        have hok : Hid (rdV s = v ∧ rdOk s = true) := Lib.hid ⟨by unfold rdV; rw [e1, if_pos e2.1, e2.2], by unfold rdOk; rw [e1, e2.1]⟩
        have hcmp := bytes_eq heq
        clear e1 e2 hb heq
        go_enter Tryz.func33, Tryz.ntmps33
        go_wp2_with first
          | (go_at_call 54; refine (trim_call s _).mono ?_; rintro e w' ⟨rfl, rfl⟩)
          | (go_at_call 55; refine (sr_strconv_ParseInt_10_at64_ok s (by omega) v hp _).mono ?_; rintro e w1 ⟨rfl, hw1⟩; have hB1 : Below w.heap.size w w1 := (by rcases hw1 with rfl | ⟨t, rfl⟩ <;> first | exact Below.refl _ _ | exact Lib.bytesWorld_below _ _ _); clear hw1)
          | (go_at_call 28; refine (impl_Dec v hb0 hb1 _ (hE.tab.on hB1)).mono ?_; rintro e w2 ⟨rfl, hb2⟩)
        all_goals (go_ret2; exact ⟨by rw [hok.out.1, hok.out.2] <;> rfl, bnext hB1 hb2⟩)
      · have hno2 : Hid (rdV s = 0 ∧ rdOk s = false) := by
          have h0 : numOk s.data.toList = false := by
            rw [← Bool.not_eq_true]
            intro h
            rw [num_parse h] at hp
            cases hp
            exact heq (ba_ext (num_itoa h).symm).symm
          exact Lib.hid ⟨by unfold rdV; rw [h0]; rfl, h0⟩
        have hcmp := bytes_ne heq
        clear hb heq
        go_enter Tryz.func33, Tryz.ntmps33
        go_wp2_with first
          | (go_at_call 54; refine (trim_call s _).mono ?_; rintro e w' ⟨rfl, rfl⟩)
          | (go_at_call 55; refine (sr_strconv_ParseInt_10_at64_ok s (by omega) v hp _).mono ?_; rintro e w1 ⟨rfl, hw1⟩; have hB1 : Below w.heap.size w w1 := (by rcases hw1 with rfl | ⟨t, rfl⟩ <;> first | exact Below.refl _ _ | exact Lib.bytesWorld_below _ _ _); clear hw1)
          | (go_at_call 28; refine (impl_Dec v hb0 hb1 _ (hE.tab.on hB1)).mono ?_; rintro e w2 ⟨rfl, hb2⟩)
        all_goals (go_ret2; exact ⟨by rw [hno2.out.1, hno2.out.2] <;> rfl, bnext hB1 hb2⟩)
    | «syntax» =>
      have hno2 : Hid (rdV s = 0 ∧ rdOk s = false) := by
        have h0 : numOk s.data.toList = false := by
          rw [← Bool.not_eq_true]
          intro h
          rw [num_parse h] at hp
          cases hp
        exact Lib.hid ⟨by unfold rdV; rw [h0]; rfl, h0⟩
      obtain ⟨tp, p, hv⟩ := hE.syn
      go_enter Tryz.func33, Tryz.ntmps33
      go_wp2_with first
        | (go_at_call 54; refine (trim_call s _).mono ?_; rintro e w' ⟨rfl, rfl⟩)
        | (go_at_call 55; refine (sr_strconv_ParseInt_10_at64_syntax_var s hs hp tp p _ hv).mono ?_; rintro e w1 ⟨Nn, rfl, _, _, hB1⟩)
      all_goals (go_ret2; exact ⟨by rw [hno2.out.1, hno2.out.2] <;> rfl, hB1⟩)
    | range =>
      have hno2 : Hid (rdV s = 0 ∧ rdOk s = false) := by
        have h0 : numOk s.data.toList = false := by
          rw [← Bool.not_eq_true]
          intro h
          rw [num_parse h] at hp
          cases hp
        exact Lib.hid ⟨by unfold rdV; rw [h0]; rfl, h0⟩
      obtain ⟨tp, p, hv⟩ := hE.ran
      go_enter Tryz.func33, Tryz.ntmps33
      go_wp2_with first
        | (go_at_call 54; refine (trim_call s _).mono ?_; rintro e w' ⟨rfl, rfl⟩)
        | (go_at_call 55; refine (sr_strconv_ParseInt_10_at64_range_var s hs hp tp p _ hv).mono ?_; rintro e w1 ⟨Nn, rfl, _, _, hB1⟩)
      all_goals (go_ret2; exact ⟨by rw [hno2.out.1, hno2.out.2] <;> rfl, hB1⟩)
  · have hno : (18 : Int) < ((trimL s.data.toList).length : Int) := by omega
    have hno2 : Hid (rdV s = 0 ∧ rdOk s = false) := by
      have h0 : numOk s.data.toList = false := by
        rw [← Bool.not_eq_true]
        intro h
        exact hlen (numOk_yes h).2.1
      exact Lib.hid ⟨by unfold rdV; rw [h0]; rfl, h0⟩
    go_enter Tryz.func33, Tryz.ntmps33
    go_wp2_with (go_at_call 54; refine (trim_call s _).mono ?_; rintro e w' ⟨rfl, rfl⟩)
    all_goals (go_ret2; exact ⟨by rw [hno2.out.1, hno2.out.2] <;> rfl, Below.refl _ _⟩)
def pre (L : List UInt8) (a j : Nat) : List UInt8 := (L.take j).drop a
theorem pre_step {L : List UInt8} {a j : Nat} (h : a ≤ j) (hj : j < L.length) : pre L a (j + 1) = pre L a j ++ [L[j]] := by
  unfold pre
  rw [List.take_succ_eq_append_getElem hj, List.drop_append_of_le_length (by simp; omega)]
theorem pre_self (L : List UInt8) (a : Nat) : pre L a a = [] := by
  unfold pre
  exact List.drop_eq_nil_of_le (by rw [List.length_take]; omega)
theorem pre_all {L : List UInt8} {a j : Nat} (h : L.length ≤ j) : pre L a j = L.drop a := by
  unfold pre
  rw [List.take_of_length_le h]
theorem pre_small {L : List UInt8} {a j : Nat} (h : L.length ≤ a + 18) (hj : j < L.length) (ha : a ≤ j) (hd : ∀ c ∈ pre L a j, isD c = true) : valA 0 (pre L a j) ≤ 100000000000000000 := by
  have h1 := valA_lt _ hd 0
  have h2 : (pre L a j).length ≤ 17 := by unfold pre; rw [List.length_drop, List.length_take]; omega
  have h3 : 10 ^ (pre L a j).length ≤ 10 ^ 17 := Nat.pow_le_pow_right (by decide) h2
  omega
theorem byte_list {s : ByteArray} {L : List UInt8} (hL : s.data.toList = L) {k : Nat} (h : k < s.size) (h2 : k < L.length) : ∃ b : Nat, (s[k]'h).toNat = b ∧ b < 256 ∧ (L[k]).toNat = b := by
  subst hL
  exact ⟨_, rfl, (s[k]'h).toNat_lt, rfl⟩
theorem rd_no {s : ByteArray} {L : List UInt8} (hL : s.data.toList = L) (h : numOk L ≠ true) : Hid (rdV s = 0 ∧ rdOk s = false) := by
  have h0 : numOk s.data.toList = false := by rw [hL]; exact Bool.not_eq_true _ |>.mp h
  exact Lib.hid ⟨by unfold rdV; rw [h0]; rfl, h0⟩
theorem rd_yes {s : ByteArray} {L : List UInt8} (hL : s.data.toList = L) (h : numOk L = true) {v : Int} (hv : numV L = v) : Hid (rdV s = v ∧ rdOk s = true) := by
  have h0 : numOk s.data.toList = true := by rw [hL]; exact h
  exact Lib.hid ⟨by unfold rdV; rw [h0, hL]; exact hv, h0⟩
end Go.Proofs.YtpnffdkkmibchaaGreatDoor
