/-
  FaultText: the program's function returns what the reference's returns, for all arguments. Under no condition; the library's table of powers of ten reads as its text lays it (the card ties it).
-/
import Derived.Test.YtlolkngklfabfaaDoorTexts
import Derived.Test.YtlolkngklfabfaaDoorNames
import Derived.Test.YtlolkngklfabfaaDoorTie
import Derived.Test.YtlolkngklfabfaaDoorCards
import Derived.LaidMore
import Derived.Lay
import Derived.SevenTiedAt
import Derived.Stop.LaidErr
import Derived.MakeChecks
import Derived.Deep.RegionHeld3
set_option linter.unusedVariables false
set_option linter.unnecessarySimpa false
set_option maxRecDepth 100000
set_option linter.unusedSimpArgs false
namespace Go.Proofs.YtlolkngklfabfaaDoor
open Go.RowKit BigFrame

/-- A region's condition may grow on the way. -/
theorem wpAnyH_more {P : Program} {ops : Array Oper} {Q : Exit → Act → World → Prop} {md : Region.Mode} {S S' : World → Prop} (hS : ∀ w, S' w → S w) : ∀ (fuel : Nat) (listed : Array Bool) (a : Act) (w : World), wpAnyH P md ops Q S' fuel listed a w → wpAnyH P md ops Q S fuel listed a w
  | 0, _, _, _, h => h
  | fuel + 1, _, _, _, h => ⟨h.1, fun i hi => wpOp_mono (fun a' w' h' => ⟨hS _ h'.1, wpAnyH_more hS fuel _ a' w' h'.2⟩) (h.2 i hi)⟩

def faultT (a : Int) (X : ByteArray) (f u : Int) : ByteArray := decT a ++ ⟨#[32]⟩ ++ X ++ ⟨#[32]⟩ ++ decT f ++ ⟨#[32]⟩ ++ decT u
def vFault (a k f u : Int) : Bool := inB a 1 9999 && (inB k 1 4 && (inB f 0 143999999 && (u == -1 || inB u (f + 1) 143999999)))
def faultX (a k f u : Int) : ByteArray := if vFault a k f u then faultT a (pickS k faultNames) f u else ⟨#[]⟩
/-- A fault in memory. -/
def Ft (w : World) (g : Nat) (a k f u : Int) : Prop := g < w.heap.size ∧ w.cell? ⟨g, 0, none⟩ = some (.int .i64 a) ∧ w.cell? ⟨g, 1, none⟩ = some (.int .i64 k) ∧ w.cell? ⟨g, 2, none⟩ = some (.int .i64 f) ∧ w.cell? ⟨g, 3, none⟩ = some (.int .i64 u)
theorem kind_name {a k f u : Int} (h : vFault a k f u = true) : (1 ≤ k ∧ k ≤ 4) ∧ (pickS k faultNames).size ≤ 10 := by
  unfold vFault at h
  simp only [Bool.and_eq_true] at h
  have hk := inB_yes.1 h.2.1
  refine ⟨hk, ?_⟩
  have hc : k = 1 ∨ k = 2 ∨ k = 3 ∨ k = 4 := by omega
  rcases hc with rfl | rfl | rfl | rfl <;> decide
theorem Ft.on {w w' : World} {g : Nat} {a k f u : Int} (h : Ft w g a k f u) (hb : Below w.heap.size w w') : Ft w' g a k f u := by
  obtain ⟨hg, c0, c1, c2, c3⟩ := h
  obtain ⟨hc, _⟩ := bcell hb
  exact ⟨Nat.lt_of_lt_of_le hg hb.size, (hc _ _ hg).trans c0, (hc _ _ hg).trans c1, (hc _ _ hg).trans c2, (hc _ _ hg).trans c3⟩

def names4 : List ByteArray := [⟨#[111, 117, 116]⟩, ⟨#[114, 104, 121, 116, 104, 109]⟩, ⟨#[112, 108, 97, 99, 101]⟩, ⟨#[115, 111, 117, 110, 100]⟩]
theorem spec_names (w : World) : Calls Tryd.prog 55 #[] w fun e w' => e = .returned (.slice (some ⟨w.heap.size, 0, none⟩) 4 4) ∧ Below w.heap.size w w' ∧ w.heap.size < w'.heap.size ∧ ∀ (j : Nat) (x : ByteArray), names4[j]? = some x → w'.cell? ⟨w.heap.size, j, none⟩ = some (.string x) := by
  have hs := Sl.new w #[.string ⟨#[111, 117, 116]⟩, .string ⟨#[114, 104, 121, 116, 104, 109]⟩, .string ⟨#[112, 108, 97, 99, 101]⟩, .string ⟨#[115, 111, 117, 110, 100]⟩] 9
  go_enter Tryd.func55, Tryd.ntmps55
  go_wp2
  go_ret
  refine ⟨rfl, by go_grown, by simp, fun j x hj => ?_⟩
  obtain ⟨b, o, e, hb, hc⟩ := hs (by simp)
  cases e
  have := hc j (.string x) (by
    show (names4.map Value.string)[j]? = _
    rw [List.getElem?_map, hj]; rfl)
  simpa using this
theorem vF_spec (a k f u : Int) : vFault a k f u = (inB a 1 9999 && (inB k 1 4 && (inB f 0 143999999 && (u == -1 || (inB u 0 143999999 && decide (f < u)))))) := by
  unfold vFault
  by_cases hf : 0 ≤ f ∧ f ≤ 143999999
  · have e : inB u (f + 1) 143999999 = (inB u 0 143999999 && decide (f < u)) := by
      unfold inB
      rw [Bool.eq_iff_iff]
      simp
      omega
    rw [e]
  · rw [inB_un hf]; simp
theorem number_any (n : Int) (w : World) : Calls Tryd.prog 78 #[.int .i64 n] w fun e w' => e = .returned (.bool (inB n 1 9999)) ∧ w = w' := by (go_enter Tryd.func78, Tryd.ntmps78; go_wp2_with (go_at_call 85; refine (in_any _ _ _ _).mono ?_; rintro e w' ⟨rfl, rfl⟩); go_ret; exact ⟨rfl, rfl⟩)
theorem kind_any (n : Int) (w : World) : Calls Tryd.prog 79 #[.int .i64 n] w fun e w' => e = .returned (.bool (inB n 1 4)) ∧ w = w' := by (go_enter Tryd.func79, Tryd.ntmps79; go_wp2_with (go_at_call 85; refine (in_any _ _ _ _).mono ?_; rintro e w' ⟨rfl, rfl⟩); go_ret; exact ⟨rfl, rfl⟩)
theorem time_any (n : Int) (w : World) : Calls Tryd.prog 80 #[.int .i64 n] w fun e w' => e = .returned (.bool (inB n 0 143999999)) ∧ w = w' := by (go_enter Tryd.func80, Tryd.ntmps80; go_wp2_with (go_at_call 85; refine (in_any _ _ _ _).mono ?_; rintro e w' ⟨rfl, rfl⟩); go_ret; exact ⟨rfl, rfl⟩)
set_option maxHeartbeats 1600000 in
theorem spec_faultOne (a k f u : Int) (g : Nat) (w : World) (hF : Ft w g a k f u) : Calls Tryd.prog 56 #[.pointer (some ⟨g, 0, none⟩)] w fun e w' => e = .returned (.bool (vFault a k f u)) ∧ Below w.heap.size w w' := by
  obtain ⟨hg, c0, c1, c2, c3⟩ := hF
  have hs := vF_spec a k f u
  cases h1 : inB a 1 9999
  · have hm : Hid (vFault a k f u = false) := by apply Lib.hid; rw [hs, h1]; rfl
    clear hs
    go_enter Tryd.func56, Tryd.ntmps56
    go_wp2_with fail
    refine wp_region_grew (by kernel_rfl) (by kernel_rfl) ?_
    repeat (first | (go_big_quiet_step ((first | (go_at_call 78; exact grew_same (number_any _ _)) | (go_at_call 79; exact grew_same (kind_any _ _)) | (go_at_call 80; exact grew_same (time_any _ _))))) | (quiet_step ((first | (go_at_call 78; exact grew_same (number_any _ _)) | (go_at_call 79; exact grew_same (kind_any _ _)) | (go_at_call 80; exact grew_same (time_any _ _))))))
    refine wpQuiet_nil ?_
    rintro _ ⟨⟨w9, hb9⟩, rfl⟩
    try dsimp only
    obtain ⟨hc9, hf9⟩ := bcell hb9
    go_wp2
    go_ret
    exact ⟨ret_bool hm.out.symm, hb9⟩
  cases h2 : inB k 1 4
  · have hm : Hid (vFault a k f u = false) := by apply Lib.hid; rw [hs, h1, h2]; rfl
    clear hs
    go_enter Tryd.func56, Tryd.ntmps56
    go_wp2_with fail
    refine wp_region_grew (by kernel_rfl) (by kernel_rfl) ?_
    repeat (first | (go_big_quiet_step ((first | (go_at_call 78; exact grew_same (number_any _ _)) | (go_at_call 79; exact grew_same (kind_any _ _)) | (go_at_call 80; exact grew_same (time_any _ _))))) | (quiet_step ((first | (go_at_call 78; exact grew_same (number_any _ _)) | (go_at_call 79; exact grew_same (kind_any _ _)) | (go_at_call 80; exact grew_same (time_any _ _))))))
    refine wpQuiet_nil ?_
    rintro _ ⟨⟨w9, hb9⟩, rfl⟩
    try dsimp only
    obtain ⟨hc9, hf9⟩ := bcell hb9
    go_wp2
    go_ret
    exact ⟨ret_bool hm.out.symm, hb9⟩
  cases h3 : inB f 0 143999999
  · have hm : Hid (vFault a k f u = false) := by apply Lib.hid; rw [hs, h1, h2, h3]; rfl
    clear hs
    go_enter Tryd.func56, Tryd.ntmps56
    go_wp2_with fail
    refine wp_region_grew (by kernel_rfl) (by kernel_rfl) ?_
    repeat (first | (go_big_quiet_step ((first | (go_at_call 78; exact grew_same (number_any _ _)) | (go_at_call 79; exact grew_same (kind_any _ _)) | (go_at_call 80; exact grew_same (time_any _ _))))) | (quiet_step ((first | (go_at_call 78; exact grew_same (number_any _ _)) | (go_at_call 79; exact grew_same (kind_any _ _)) | (go_at_call 80; exact grew_same (time_any _ _))))))
    refine wpQuiet_nil ?_
    rintro _ ⟨⟨w9, hb9⟩, rfl⟩
    try dsimp only
    obtain ⟨hc9, hf9⟩ := bcell hb9
    go_wp2
    go_ret
    exact ⟨ret_bool hm.out.symm, hb9⟩
  cases h4 : (u == -1)
  rotate_left
  · have hm : Hid (vFault a k f u = true) := by apply Lib.hid; rw [hs, h1, h2, h3, h4]; rfl
    clear hs
    go_enter Tryd.func56, Tryd.ntmps56
    go_wp2_with fail
    refine wp_region_grew (by kernel_rfl) (by kernel_rfl) ?_
    repeat (first | (go_big_quiet_step ((first | (go_at_call 78; exact grew_same (number_any _ _)) | (go_at_call 79; exact grew_same (kind_any _ _)) | (go_at_call 80; exact grew_same (time_any _ _))))) | (quiet_step ((first | (go_at_call 78; exact grew_same (number_any _ _)) | (go_at_call 79; exact grew_same (kind_any _ _)) | (go_at_call 80; exact grew_same (time_any _ _))))))
    refine wpQuiet_nil ?_
    rintro _ ⟨⟨w9, hb9⟩, rfl⟩
    try dsimp only
    obtain ⟨hc9, hf9⟩ := bcell hb9
    go_wp2
    go_ret
    exact ⟨ret_bool hm.out.symm, hb9⟩
  cases h5 : inB u 0 143999999
  · have hm : Hid (vFault a k f u = false) := by apply Lib.hid; rw [hs, h1, h2, h3, h4, h5]; rfl
    clear hs
    go_enter Tryd.func56, Tryd.ntmps56
    go_wp2_with fail
    refine wp_region_grew (by kernel_rfl) (by kernel_rfl) ?_
    repeat (first | (go_big_quiet_step ((first | (go_at_call 78; exact grew_same (number_any _ _)) | (go_at_call 79; exact grew_same (kind_any _ _)) | (go_at_call 80; exact grew_same (time_any _ _))))) | (quiet_step ((first | (go_at_call 78; exact grew_same (number_any _ _)) | (go_at_call 79; exact grew_same (kind_any _ _)) | (go_at_call 80; exact grew_same (time_any _ _))))))
    refine wpQuiet_nil ?_
    rintro _ ⟨⟨w9, hb9⟩, rfl⟩
    try dsimp only
    obtain ⟨hc9, hf9⟩ := bcell hb9
    go_wp2
    go_ret
    exact ⟨ret_bool hm.out.symm, hb9⟩
  cases h6 : decide (f < u)
  · have hm : Hid (vFault a k f u = false) := by apply Lib.hid; rw [hs, h1, h2, h3, h4, h5, h6]; rfl
    clear hs
    go_enter Tryd.func56, Tryd.ntmps56
    go_wp2_with fail
    refine wp_region_grew (by kernel_rfl) (by kernel_rfl) ?_
    repeat (first | (go_big_quiet_step ((first | (go_at_call 78; exact grew_same (number_any _ _)) | (go_at_call 79; exact grew_same (kind_any _ _)) | (go_at_call 80; exact grew_same (time_any _ _))))) | (quiet_step ((first | (go_at_call 78; exact grew_same (number_any _ _)) | (go_at_call 79; exact grew_same (kind_any _ _)) | (go_at_call 80; exact grew_same (time_any _ _))))))
    refine wpQuiet_nil ?_
    rintro _ ⟨⟨w9, hb9⟩, rfl⟩
    try dsimp only
    obtain ⟨hc9, hf9⟩ := bcell hb9
    go_wp2
    go_ret
    exact ⟨ret_bool hm.out.symm, hb9⟩
  · have hm : Hid (vFault a k f u = true) := by apply Lib.hid; rw [hs, h1, h2, h3, h4, h5, h6]; rfl
    clear hs
    go_enter Tryd.func56, Tryd.ntmps56
    go_wp2_with fail
    refine wp_region_grew (by kernel_rfl) (by kernel_rfl) ?_
    repeat (first | (go_big_quiet_step ((first | (go_at_call 78; exact grew_same (number_any _ _)) | (go_at_call 79; exact grew_same (kind_any _ _)) | (go_at_call 80; exact grew_same (time_any _ _))))) | (quiet_step ((first | (go_at_call 78; exact grew_same (number_any _ _)) | (go_at_call 79; exact grew_same (kind_any _ _)) | (go_at_call 80; exact grew_same (time_any _ _))))))
    refine wpQuiet_nil ?_
    rintro _ ⟨⟨w9, hb9⟩, rfl⟩
    try dsimp only
    obtain ⟨hc9, hf9⟩ := bcell hb9
    go_wp2
    go_ret
    exact ⟨ret_bool hm.out.symm, hb9⟩
theorem isNumber_any (n : Int) (w : World) : Calls Tryd.prog 81 #[.int .i64 n] w fun e w' => e = .returned (.bool (inB n 1 9999)) ∧ w = w' := by (go_enter Tryd.func81, Tryd.ntmps81; go_wp2_with (go_at_call 37; refine (within_any _ _ _ _).mono ?_; rintro e w' ⟨rfl, rfl⟩); go_ret; exact ⟨rfl, rfl⟩)
theorem isKind_any (n : Int) (w : World) : Calls Tryd.prog 82 #[.int .i64 n] w fun e w' => e = .returned (.bool (inB n 1 4)) ∧ w = w' := by (go_enter Tryd.func82, Tryd.ntmps82; go_wp2_with (go_at_call 37; refine (within_any _ _ _ _).mono ?_; rintro e w' ⟨rfl, rfl⟩); go_ret; exact ⟨rfl, rfl⟩)
theorem isTime_any (n : Int) (w : World) : Calls Tryd.prog 83 #[.int .i64 n] w fun e w' => e = .returned (.bool (inB n 0 143999999)) ∧ w = w' := by (go_enter Tryd.func83, Tryd.ntmps83; go_wp2_with (go_at_call 37; refine (within_any _ _ _ _).mono ?_; rintro e w' ⟨rfl, rfl⟩); go_ret; exact ⟨rfl, rfl⟩)
theorem impl_faultOne (a k f u : Int) (w : World) : Calls Tryd.prog 57 #[.agg #[.int .i64 a, .int .i64 k, .int .i64 f, .int .i64 u]] w fun e w' => e = .returned (.bool (vFault a k f u)) ∧ Below w.heap.size w w' := by
  cases h1 : inB a 1 9999
  · have hm : Hid (vFault a k f u = false) := by apply Lib.hid; unfold vFault; rw [h1]; rfl
    go_enter Tryd.func57, Tryd.ntmps57
    go_wp2_with (first | (go_at_call 81; refine (isNumber_any _ _).mono ?_; rintro e w' ⟨rfl, rfl⟩) | (go_at_call 82; refine (isKind_any _ _).mono ?_; rintro e w' ⟨rfl, rfl⟩) | (go_at_call 83; refine (isTime_any _ _).mono ?_; rintro e w' ⟨rfl, rfl⟩) | (go_at_call 37; refine (within_any _ _ _ _).mono ?_; rintro e w' ⟨rfl, rfl⟩))
    go_ret
    exact ⟨ret_bool hm.out.symm, by go_grown⟩
  cases h2 : inB k 1 4
  · have hm : Hid (vFault a k f u = false) := by apply Lib.hid; unfold vFault; rw [h1, h2]; rfl
    go_enter Tryd.func57, Tryd.ntmps57
    go_wp2_with (first | (go_at_call 81; refine (isNumber_any _ _).mono ?_; rintro e w' ⟨rfl, rfl⟩) | (go_at_call 82; refine (isKind_any _ _).mono ?_; rintro e w' ⟨rfl, rfl⟩) | (go_at_call 83; refine (isTime_any _ _).mono ?_; rintro e w' ⟨rfl, rfl⟩) | (go_at_call 37; refine (within_any _ _ _ _).mono ?_; rintro e w' ⟨rfl, rfl⟩))
    go_ret
    exact ⟨ret_bool hm.out.symm, by go_grown⟩
  cases h3 : inB f 0 143999999
  · have hm : Hid (vFault a k f u = false) := by apply Lib.hid; unfold vFault; rw [h1, h2, h3]; rfl
    go_enter Tryd.func57, Tryd.ntmps57
    go_wp2_with (first | (go_at_call 81; refine (isNumber_any _ _).mono ?_; rintro e w' ⟨rfl, rfl⟩) | (go_at_call 82; refine (isKind_any _ _).mono ?_; rintro e w' ⟨rfl, rfl⟩) | (go_at_call 83; refine (isTime_any _ _).mono ?_; rintro e w' ⟨rfl, rfl⟩) | (go_at_call 37; refine (within_any _ _ _ _).mono ?_; rintro e w' ⟨rfl, rfl⟩))
    go_ret
    exact ⟨ret_bool hm.out.symm, by go_grown⟩
  have hfb := inB_yes.1 h3
  cases h4 : (u == -1)
  rotate_left
  · have hm : Hid (vFault a k f u = true) := by apply Lib.hid; unfold vFault; rw [h1, h2, h3, h4]; rfl
    go_enter Tryd.func57, Tryd.ntmps57
    go_wp2_with (first | (go_at_call 81; refine (isNumber_any _ _).mono ?_; rintro e w' ⟨rfl, rfl⟩) | (go_at_call 82; refine (isKind_any _ _).mono ?_; rintro e w' ⟨rfl, rfl⟩) | (go_at_call 83; refine (isTime_any _ _).mono ?_; rintro e w' ⟨rfl, rfl⟩) | (go_at_call 37; refine (within_any _ _ _ _).mono ?_; rintro e w' ⟨rfl, rfl⟩))
    go_ret
    exact ⟨ret_bool hm.out.symm, by go_grown⟩
  cases h5 : inB u (f + 1) 143999999
  · have hm : Hid (vFault a k f u = false) := by apply Lib.hid; unfold vFault; rw [h1, h2, h3, h4, h5]; rfl
    go_enter Tryd.func57, Tryd.ntmps57
    go_wp2_with (first | (go_at_call 81; refine (isNumber_any _ _).mono ?_; rintro e w' ⟨rfl, rfl⟩) | (go_at_call 82; refine (isKind_any _ _).mono ?_; rintro e w' ⟨rfl, rfl⟩) | (go_at_call 83; refine (isTime_any _ _).mono ?_; rintro e w' ⟨rfl, rfl⟩) | (go_at_call 37; refine (within_any _ _ _ _).mono ?_; rintro e w' ⟨rfl, rfl⟩))
    go_ret
    exact ⟨ret_bool hm.out.symm, by go_grown⟩
  · have hm : Hid (vFault a k f u = true) := by apply Lib.hid; unfold vFault; rw [h1, h2, h3, h4, h5]; rfl
    go_enter Tryd.func57, Tryd.ntmps57
    go_wp2_with (first | (go_at_call 81; refine (isNumber_any _ _).mono ?_; rintro e w' ⟨rfl, rfl⟩) | (go_at_call 82; refine (isKind_any _ _).mono ?_; rintro e w' ⟨rfl, rfl⟩) | (go_at_call 83; refine (isTime_any _ _).mono ?_; rintro e w' ⟨rfl, rfl⟩) | (go_at_call 37; refine (within_any _ _ _ _).mono ?_; rintro e w' ⟨rfl, rfl⟩))
    go_ret
    exact ⟨ret_bool hm.out.symm, by go_grown⟩
set_option maxHeartbeats 1600000 in
theorem impl_FaultText (a k f u : Int) (ha : IntKind.i64.has a) (hf : IntKind.i64.has f) (hu : IntKind.i64.has u) (w : World) (ht : Tab w) : Calls Tryd.prog 32 #[.agg #[.int .i64 a, .int .i64 k, .int .i64 f, .int .i64 u]] w fun e w' => e = .returned (.string (faultX a k f u)) ∧ Below w.heap.size w w' := by
  have ht' := Lib.hid ht
  clear ht
  cases hv : vFault a k f u
  · have hX : Hid (faultX a k f u = ⟨#[]⟩) := by apply Lib.hid; unfold faultX; rw [hv]; rfl
    go_enter Tryd.func32, Tryd.ntmps32
    go_wp2_with fail
    refine (impl_faultOne a k f u _).mono ?_
    rintro e w1 ⟨rfl, hb1⟩
    rw [hv]
    go_wp2
    go_ret
    exact ⟨ret_str hX.out.symm, bnext (by go_grown) hb1⟩
  · have hX : Hid (faultX a k f u = faultT a (pickS k faultNames) f u) := by apply Lib.hid; unfold faultX; rw [hv]; rfl
    obtain ⟨hk, hs⟩ := kind_name hv
    have hN := fun w => impl_FaultName k w
    obtain ⟨X, hXX⟩ : ∃ X, pickS k faultNames = X := ⟨_, rfl⟩
    rw [hXX] at hX hs hN
    clear hXX
    unfold faultT at hX
    have ha' := has_i64 ha
    have hf' := has_i64 hf
    have hu' := has_i64 hu
    have s1 := decT_size ha'.1 ha'.2
    have s2 := decT_size hf'.1 hf'.2
    have s3 := decT_size hu'.1 hu'.2
    have q1 := noB (n := (decT a).size + 1) (by omega)
    have q2 := noB (n := (decT a).size + 1 + X.size) (by omega)
    have q3 := noB (n := (decT a).size + 1 + X.size + 1) (by omega)
    have q4 := noB (n := (decT a).size + 1 + X.size + 1 + (decT f).size) (by omega)
    have q5 := noB (n := (decT a).size + 1 + X.size + 1 + (decT f).size + 1) (by omega)
    have q6 := noB (n := (decT a).size + 1 + X.size + 1 + (decT f).size + 1 + (decT u).size) (by omega)
    go_enter Tryd.func32, Tryd.ntmps32
    go_wp2_with fail
    refine (impl_faultOne a k f u _).mono ?_
    rintro e w1 ⟨rfl, hb1⟩
    rw [hv]
    have hB1 := bnext (show Below w.heap.size w ((w.alloc (.cells #[.int .i64 a, .int .i64 k, .int .i64 f, .int .i64 u] 23))) by go_grown) hb1
    have hS1 := hb1.size
    simp only [World.size_alloc] at hS1
    have hz1 : w.heap.size < w1.heap.size := by omega
    have hT : Hid (Tab w1) := Lib.hid (ht'.out.on hB1)
    obtain ⟨hc1, hf1⟩ := bcell hb1
    clear hb1
    go_wp2_with fail
    refine wp_region_grew (by kernel_rfl) (by kernel_rfl) ?_
    repeat (first | (go_big_quiet_step ((first | (go_at_call 23; exact grew_of (impl_Dec _ (by omega) (by omega) _ (hT.out.on (Grew.below _)))) | (go_at_call 58; exact grew_of (hN _))))) | (quiet_step ((first | (go_at_call 23; exact grew_of (impl_Dec _ (by omega) (by omega) _ (hT.out.on (Grew.below _)))) | (go_at_call 58; exact grew_of (hN _))))))
    refine wpQuiet_nil ?_
    rintro _ ⟨⟨w9, hb9⟩, rfl⟩
    try dsimp only
    obtain ⟨hc9, hf9⟩ := bcell hb9
    go_wp2
    go_ret
    exact ⟨ret_str hX.out.symm, bnext hB1 hb9⟩
end Go.Proofs.YtlolkngklfabfaaDoor
