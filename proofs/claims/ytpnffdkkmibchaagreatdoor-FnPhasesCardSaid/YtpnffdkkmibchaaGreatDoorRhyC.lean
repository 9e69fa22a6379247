/-
  Contracts of the comparison of colors and of rows of colors: the library's. Each under the conditions that it states.
-/
import Derived.Test.YtpnffdkkmibchaaGreatDoorRhyN
import Derived.Laws.Cover1
set_option linter.unusedVariables false
set_option linter.unnecessarySimpa false
set_option maxRecDepth 100000
set_option linter.unusedSimpArgs false
namespace Go.Proofs.YtpnffdkkmibchaaGreatDoor
open Go.RowKit BigFrame Go.Deep

theorem nm_list {a : Nat} (h : a ≠ 0) : (nm a).toList = [a.toUInt8] := by unfold nm; rw [if_neg h, ByteArray.toList_eq]
theorem nm_list0 : (nm 0).toList = [] := by unfold nm; rw [if_pos rfl, ByteArray.toList_eq]
theorem less_nm {a b : Nat} (ha : a < 256) (hb : b < 256) : Op.bytesLess (nm a).toList (nm b).toList = decide (a < b) := by
  by_cases h1 : a = 0
  · subst h1
    by_cases h2 : b = 0
    · subst h2; rw [nm_list0]; rfl
    · rw [nm_list0, nm_list h2, decide_eq_true (by omega)]; rfl
  · by_cases h2 : b = 0
    · subst h2; rw [nm_list0, nm_list h1, decide_eq_false (by omega)]; rfl
    · rw [nm_list h1, nm_list h2]
      have e : (a.toUInt8 < b.toUInt8) ↔ a < b := by
        rw [UInt8.lt_iff_toNat_lt]
        simp
        omega
      simp only [Op.bytesLess]
      by_cases h : a < b
      · rw [decide_eq_true h]
        simp [e.2 h]
      · rw [decide_eq_false h]
        have : ¬ a.toUInt8 < b.toUInt8 := fun q => h (e.1 q)
        simp [this, Op.bytesLess]
theorem eq_nm {a b : Nat} (ha : a < 256) (hb : b < 256) : ((nm a).toList == (nm b).toList) = decide (a = b) := by
  by_cases h : a = b
  · subst h; simp
  · rw [decide_eq_false h]; exact bytes_ne (fun e => h (nm_inj ha hb e))
def cmpc (a b : Nat) : Int := if a < b then -1 else if b < a then 1 else 0
theorem lib_isNaN (s : ByteArray) (w : World) : Calls Tryz.prog 89 #[.string s] w fun e w' => e = .returned (.bool false) ∧ w = w' := by
  go_enter Tryz.func89, Tryz.ntmps89
  go_wp2
  go_ret
  exact ⟨by simp, rfl⟩
set_option maxHeartbeats 800000 in
theorem lib_cmp {a b : Nat} (ha : a < 256) (hb : b < 256) (w : World) : Calls Tryz.prog 67 #[.string (nm a), .string (nm b)] w fun e w' => e = .returned (.int .i64 (cmpc a b)) ∧ w = w' := by
  have h1 := less_nm ha hb
  have h2 := eq_nm ha hb
  obtain ⟨x, hx⟩ : ∃ x, nm a = x := ⟨_, rfl⟩
  obtain ⟨y, hy⟩ : ∃ y, nm b = y := ⟨_, rfl⟩
  rw [hx, hy] at h1 h2
  rw [hx, hy]
  clear hx hy
  rcases Nat.lt_trichotomy a b with h | h | h
  · have hm : Hid (cmpc a b = -1) := Lib.hid (by unfold cmpc; rw [if_pos h])
    rw [decide_eq_true h] at h1
    clear h h2
    go_enter Tryz.func67, Tryz.ntmps67
    go_wp2_with (go_at_call 89; refine (lib_isNaN _ _).mono ?_; rintro e w' ⟨rfl, rfl⟩)
    go_ret
    exact ⟨ret_int hm.out.symm, rfl⟩
  · have hm : Hid (cmpc a b = 0) := Lib.hid (by unfold cmpc; rw [if_neg (by omega), if_neg (by omega)])
    rw [decide_eq_false (by omega)] at h1
    rw [decide_eq_true h] at h2
    clear h
    go_enter Tryz.func67, Tryz.ntmps67
    go_wp2_with (go_at_call 89; refine (lib_isNaN _ _).mono ?_; rintro e w' ⟨rfl, rfl⟩)
    go_ret
    exact ⟨ret_int hm.out.symm, rfl⟩
  · have hm : Hid (cmpc a b = 1) := Lib.hid (by unfold cmpc; rw [if_neg (by omega), if_pos h])
    rw [decide_eq_false (by omega)] at h1
    rw [decide_eq_false (by omega)] at h2
    clear h
    go_enter Tryz.func67, Tryz.ntmps67
    go_wp2_with (go_at_call 89; refine (lib_isNaN _ _).mono ?_; rintro e w' ⟨rfl, rfl⟩)
    go_ret
    exact ⟨ret_int hm.out.symm, rfl⟩
set_option maxHeartbeats 1600000 in
theorem lib_Compare (U V : List Nat) (A A2 : Option Addr) (c c2 B n : Nat) (w : World) (hs : Sl w B A (cls U)) (hs2 : Sl w B A2 (cls V)) (hB : B ≤ w.heap.size) (hU : U.length = n) (hV : V.length = n) (hn : 0 < n) (hl : n ≤ 1000) (hcu : codes U) (hcv : codes V) : Calls Tryz.prog 52 #[.slice A n c, .slice A2 n c2] w fun e w' => ∃ r : Int, (r < 0 ↔ ltF n (cyc U) (cyc V)) ∧ e = .returned (.int .i64 r) ∧ Below w.heap.size w w' := by
  obtain ⟨b, o, rfl, hb, he⟩ := cls_w hs hB (by omega)
  obtain ⟨d, q, rfl, hd, hf⟩ := cls_w hs2 hB (by omega)
  rw [hU] at he
  rw [hV] at hf
  have he' := Lib.hid he
  have hf' := Lib.hid hf
  have hcu' := Lib.hid hcu
  have hcv' := Lib.hid hcv
  clear hs hs2 he hf hcu hcv hU hV
  go_enter Tryz.func52, Tryz.ntmps52
  go_wp2
  go_loopw [11] (fun i wr => ∃ k : Nat, i = .int .i64 k ∧ k ≤ n ∧ Hid (∀ j, j < k → cyc U j = cyc V j) ∧ Below w.heap.size w wr) (fun i _ => n - (intOf i).toNat)
  case atStart => exact ⟨0, rfl, Nat.zero_le _, Lib.hid (fun j hj => absurd hj (Nat.not_lt_zero _)), by go_grown⟩
  case round =>
    obtain ⟨k, rfl, hk, hv, hB1⟩ := hrel
    have hS1 := hB1.size
    by_cases hlt : k < n
    · have dp := he'.out wr hB1 k hlt
      have dq := hf'.out wr hB1 k hlt
      have c1 := codes_cyc hcu'.out k
      have c2' := codes_cyc hcv'.out k
      obtain ⟨x, hx⟩ : ∃ x, cyc U k = x := ⟨_, rfl⟩
      obtain ⟨y, hy⟩ : ∃ y, cyc V k = y := ⟨_, rfl⟩
      have hxy := Lib.hid (show ltF n (cyc U) (cyc V) ↔ (if x = y then ltF n (cyc U) (cyc V) else x < y) by
        by_cases h : x = y
        · rw [if_pos h]
        · rw [if_neg h]
          constructor
          · rintro ⟨j, j1, j2, j3⟩
            rcases Nat.lt_trichotomy j k with h1 | h1 | h1
            · rw [hv.out j h1] at j3; omega
            · rw [h1, hx, hy] at j3; exact j3
            · exact absurd (by rw [← hx, ← hy]; exact j2 k h1) h
          · intro h1
            exact ⟨k, hlt, hv.out, by rw [hx, hy]; exact h1⟩)
      have hstep := Lib.hid (show x = y → ∀ j, j < k + 1 → cyc U j = cyc V j from fun h j hj => by
        rcases (by omega : j < k ∨ j = k) with h1 | rfl
        · exact hv.out j h1
        · rw [hx, hy]; exact h)
      rw [hx] at dp c1
      rw [hy] at dq c2'
      clear hx hy
      by_cases h : x = y
      · have hm : Hid (cmpc x y = 0) := Lib.hid (by unfold cmpc; rw [if_neg (by omega), if_neg (by omega)])
        have hst2 := Lib.hid (hstep.out h)
        clear h
        go_wp2_with fail
        refine (lib_cmp c1 c2' _).mono ?_
        rintro e w1 ⟨rfl, rfl⟩
        rw [hm.out]
        go_wp2
        go_roundw
        case rel => exact ⟨k + 1, by go_num, by omega, hst2, hB1⟩
        case measure => simp [intOf]; omega
      · have hr := Lib.hid (show cmpc x y < 0 ↔ ltF n (cyc U) (cyc V) by
          rw [hxy.out, if_neg h]
          unfold cmpc
          split
          · constructor <;> intro _ <;> omega
          · split <;> (constructor <;> intro _ <;> omega))
        have hz : ((cmpc x y) == 0) = false := beq_eq_false_iff_ne.2 (by unfold cmpc; split <;> (try split) <;> omega)
        clear h
        go_wp2_with fail
        refine (lib_cmp c1 c2' _).mono ?_
        rintro e w1 ⟨rfl, rfl⟩
        generalize cmpc x y = z at hr hz
        go_wp2
        go_ret
        exact ⟨z, hr.out, rfl, hB1⟩
    · obtain rfl : k = n := by omega
      have hno := Lib.hid (show ((0 : Int) < 0 ↔ ltF k (cyc U) (cyc V)) by
        constructor
        · intro h; omega
        · rintro ⟨j, j1, _, j3⟩
          rw [hv.out j j1] at j3; omega)
      go_wp2
      go_ret
      exact ⟨0, hno.out, rfl, hB1⟩
end Go.Proofs.YtpnffdkkmibchaaGreatDoor
