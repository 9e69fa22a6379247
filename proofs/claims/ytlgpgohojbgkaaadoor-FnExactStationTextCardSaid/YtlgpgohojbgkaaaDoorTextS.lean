/-
  StationText: the program's function returns what the reference's returns, for all arguments. Under no condition; the library's table of powers of ten reads as its text lays it (the card ties it).
-/
import Derived.Test.YtlgpgohojbgkaaaDoorListT
import Derived.Test.YtlgpgohojbgkaaaDoorStation
import Derived.Test.YtlgpgohojbgkaaaDoorTie
import Derived.Test.YtlgpgohojbgkaaaDoorCards
import Derived.LaidMore
import Derived.Lay
import Derived.SevenTiedAt
import Derived.Stop.LaidErr
import Derived.MakeChecks
import Derived.StillTailTactics
set_option linter.unusedVariables false
set_option linter.unnecessarySimpa false
set_option maxRecDepth 100000
set_option linter.unusedSimpArgs false
namespace Go.Proofs.YtlgpgohojbgkaaaDoor
open Go.RowKit BigFrame

def statX (a b c d f : Int) : ByteArray := if vStation a b c d f then listT [a, b, c, d, f] else ⟨#[]⟩
theorem has5_all {a b c d f : Int} (b1 : IntKind.i64.has a) (b2 : IntKind.i64.has b) (b3 : IntKind.i64.has c) (b4 : IntKind.i64.has d) (b5 : IntKind.i64.has f) : ∀ z ∈ [a, b, c, d, f], IntKind.i64.has z := by
  intro z hz
  simp at hz
  rcases hz with rfl | rfl | rfl | rfl | rfl <;> assumption
theorem sl_new5 (w : World) (a b c d f : Int) (t : TypeId) : Sl (w.alloc (.cells #[.int .i64 a, .int .i64 b, .int .i64 c, .int .i64 d, .int .i64 f] t)) (w.heap.size + 1) (some ⟨w.heap.size, 0, none⟩) (ints [a, b, c, d, f]) := Sl.new w _ t
theorem spec_statText (a b c d f : Int) (b1 : IntKind.i64.has a) (b2 : IntKind.i64.has b) (b3 : IntKind.i64.has c) (b4 : IntKind.i64.has d) (b5 : IntKind.i64.has f) (g : Nat) (w : World) (hg : g < w.heap.size) (c0 : w.cell? ⟨g, 0, none⟩ = some (.int .i64 a)) (c1 : w.cell? ⟨g, 1, none⟩ = some (.int .i64 b)) (c2 : w.cell? ⟨g, 2, none⟩ = some (.int .i64 c)) (c3 : w.cell? ⟨g, 3, none⟩ = some (.int .i64 d)) (c4 : w.cell? ⟨g, 4, none⟩ = some (.int .i64 f)) :
    Calls Tryd.prog 57 #[.pointer (some ⟨g, 0, none⟩)] w fun e w' => e = .returned (.string (listT [a, b, c, d, f])) ∧ Below w.heap.size w w' := by
  have hL := fun (w1 : World) => spec_List [a, b, c, d, f] (some ⟨w1.heap.size, 0, none⟩) 5 (w1.heap.size + 1) (w1.alloc (.cells #[.int .i64 a, .int .i64 b, .int .i64 c, .int .i64 d, .int .i64 f] 2)) (sl_new5 w1 a b c d f _) (by simp) (has5_all b1 b2 b3 b4 b5) (by simp)
  have hL' := Lib.hid hL
  clear hL
  go_enter Tryd.func57, Tryd.ntmps57
  go_wp2_with fail
  go_still_tail 20, (by kernel_rfl)
  change wpList _ _ _ _ _ w.drew
  obtain ⟨w2, hw2⟩ : ∃ w2, w2 = w.drew := ⟨_, rfl⟩
  rw [← hw2]
  have hB2 : Below w.heap.size w w2 := by rw [hw2]; go_grown
  have hS2 := hB2.size
  clear hw2
  go_wp2_with fail
  refine (hL'.out w2).mono ?_
  rintro e w3 ⟨rfl, hb3⟩
  go_wp2
  go_ret
  exact ⟨rfl, bnext (show Below w.heap.size w (w2.alloc (.cells #[.int .i64 a, .int .i64 b, .int .i64 c, .int .i64 d, .int .i64 f] 2)) by go_grown) hb3⟩
theorem spec_StationText (a b c d f : Int) (b1 : IntKind.i64.has a) (b2 : IntKind.i64.has b) (b3 : IntKind.i64.has c) (b4 : IntKind.i64.has d) (b5 : IntKind.i64.has f) (w : World) : Calls Tryd.prog 19 #[.agg #[.int .i64 a, .int .i64 b, .int .i64 c, .int .i64 d, .int .i64 f]] w fun e w' => e = .returned (.string (statX a b c d f)) ∧ Below w.heap.size w w' := by
  cases hv : vStation a b c d f
  · have hX : Hid (statX a b c d f = ⟨#[]⟩) := by apply Lib.hid; unfold statX; rw [hv]; rfl
    go_enter Tryd.func19, Tryd.ntmps19
    go_wp2_with fail
    refine (spec_l19Ok a b c d f _ _ (by simp [go_sem]) (by simp [go_sem]) (by simp [go_sem]) (by simp [go_sem]) (by simp [go_sem])).mono ?_
    rintro e w1 ⟨rfl, rfl⟩
    rw [hv]
    go_wp2
    go_ret
    exact ⟨ret_str hX.out.symm, by go_grown⟩
  · have hX : Hid (statX a b c d f = listT [a, b, c, d, f]) := by apply Lib.hid; unfold statX; rw [hv]; rfl
    go_enter Tryd.func19, Tryd.ntmps19
    go_wp2_with fail
    refine (spec_l19Ok a b c d f _ _ (by simp [go_sem]) (by simp [go_sem]) (by simp [go_sem]) (by simp [go_sem]) (by simp [go_sem])).mono ?_
    rintro e w1 ⟨rfl, rfl⟩
    rw [hv]
    go_wp2_with fail
    refine (spec_statText a b c d f b1 b2 b3 b4 b5 _ _ (by simp) (by simp [go_sem]) (by simp [go_sem]) (by simp [go_sem]) (by simp [go_sem]) (by simp [go_sem])).mono ?_
    rintro e w2 ⟨rfl, hb2⟩
    go_wp2
    go_ret
    exact ⟨ret_str hX.out.symm, bnext (by go_grown) hb2⟩
theorem stat_in {a b c d f : Int} (h : vStation a b c d f = true) : ∀ z ∈ [a, b, c, d, f], inB z (-1000000000000) 1000000000000 = true := by
  unfold vStation at h
  simp only [Bool.and_eq_true] at h
  obtain ⟨h1, h2, h3, h4, h5⟩ := h
  have h1 := inB_yes.1 h1
  have h2 := inB_yes.1 h2
  have h3 := inB_yes.1 h3
  have h4 := inB_yes.1 h4
  have h5 := inB_yes.1 h5
  intro z hz
  simp at hz
  rcases hz with rfl | rfl | rfl | rfl | rfl <;> exact inB_mk (by omega) (by omega)
theorem impl_StationText (a b c d f : Int) (w : World) (ht : Tab w) : Calls Tryd.prog 21 #[.agg #[.int .i64 a, .int .i64 b, .int .i64 c, .int .i64 d, .int .i64 f]] w fun e w' => e = .returned (.string (statX a b c d f)) ∧ Below w.heap.size w w' := by
  have ht' := Lib.hid ht
  clear ht
  cases hv : vStation a b c d f
  · have hX : Hid (statX a b c d f = ⟨#[]⟩) := by apply Lib.hid; unfold statX; rw [hv]; rfl
    go_enter Tryd.func21, Tryd.ntmps21
    go_wp2_with fail
    refine (impl_ValidStation a b c d f _).mono ?_
    rintro e w1 ⟨rfl, hb1⟩
    rw [hv]
    go_wp2
    go_ret
    exact ⟨ret_str hX.out.symm, bnext (by go_grown) hb1⟩
  · have hX : Hid (statX a b c d f = listT [a, b, c, d, f]) := by apply Lib.hid; unfold statX; rw [hv]; rfl
    have hin := Lib.hid (stat_in hv)
    go_enter Tryd.func21, Tryd.ntmps21
    go_wp2_with fail
    refine (impl_ValidStation a b c d f _).mono ?_
    rintro e w1 ⟨rfl, hb1⟩
    rw [hv]
    have hB1 := bnext (show Below w.heap.size w (w.alloc (.cells #[.int .i64 a, .int .i64 b, .int .i64 c, .int .i64 d, .int .i64 f] 49)) by go_grown) hb1
    have hS1 := hb1.size
    simp only [World.size_alloc] at hS1
    have hz1 : w.heap.size < w1.heap.size := by omega
    obtain ⟨hc1, hf1⟩ := bcell hb1
    clear hb1
    go_wp2_with fail
    refine (impl_List [a, b, c, d, f] (some ⟨w1.heap.size, 0, none⟩) 5 (w1.heap.size + 1) _ (sl_new5 w1 a b c d f _) (by simp) hin.out (by simp) (by simp) (ht'.out.on (show Below w.heap.size w (w1.alloc (.cells #[.int .i64 a, .int .i64 b, .int .i64 c, .int .i64 d, .int .i64 f] 2)) by go_grown))).mono ?_
    rintro e w2 ⟨rfl, hb2⟩
    go_wp2
    go_ret
    exact ⟨ret_str hX.out.symm, bnext (show Below w.heap.size w (w1.alloc (.cells #[.int .i64 a, .int .i64 b, .int .i64 c, .int .i64 d, .int .i64 f] 2)) by go_grown) hb2⟩

theorem own : ownKnob Tryd.prog.godebug = none := by kernel_rfl
theorem laidOut : laidOutB Tryd.prog = true := by kernel_rfl
theorem stat_tab {W : World} (h : laidMetH Tryd.prog Rows.fnExactStationTextRow.laid W) : Tab W := by
  rw [MakeChecks.laidMetH_plain _ _ _ (by kernel_rfl)] at h
  exact Lib.tabIs_of_head tabVar (by kernel_rfl) Tryd.underlying183 Tryd.underlying138 (by kernel_rfl) (by kernel_rfl) h.tail.tail
namespace fnExactStationText
open Go.ChangeShapes Go.WideShapes Go.ChangeAt Go.RowKit
set_option linter.unusedVariables false
set_option maxHeartbeats 1600000 in
theorem walk (W : World) (a0_0 : Int) (wa0_0 : IntKind.i64.has a0_0) (a0_1 : Int) (wa0_1 : IntKind.i64.has a0_1) (a0_2 : Int) (wa0_2 : IntKind.i64.has a0_2) (a0_3 : Int) (wa0_3 : IntKind.i64.has a0_3) (a0_4 : Int) (wa0_4 : IntKind.i64.has a0_4) (hL : laidMetH Tryd.prog Rows.fnExactStationTextRow.laid W) :
    Calls Tryd.prog 6 #[.agg #[.int .i64 a0_0, .int .i64 a0_1, .int .i64 a0_2, .int .i64 a0_3, .int .i64 a0_4]] W fun e w' => e = .returned (.bool true) ∧ Below W.heap.size W w' := by
  revert W
  intro w hL
  have ht := Lib.hid (stat_tab hL)
  clear hL
  go_enter Tryd.func6, Tryd.ntmps6
  go_wp2_with (first | (go_at_call 20; refine (toStation_any _ _ _ _ _ _).mono ?_; rintro e w1 ⟨rfl, hb1⟩; have hB1 := bnext (w := w) (by go_grown) hb1; have hS1 := hB1.size; ((have hz1 : w.heap.size < w1.heap.size := by have := hb1.size; (try simp only [World.size_alloc, World.size_setCell, World.size_drew] at this); omega)); obtain ⟨hc1, hf1⟩ := bcell hb1; clear hb1) | (go_at_call 19; refine (spec_StationText _ _ _ _ _ wa0_0 wa0_1 wa0_2 wa0_3 wa0_4 _).mono ?_; rintro e w1 ⟨rfl, hb1⟩; have hB1 := bnext (w := w) (by go_grown) hb1; have hS1 := hB1.size; ((have hz1 : w.heap.size < w1.heap.size := by have := hb1.size; (try simp only [World.size_alloc, World.size_setCell, World.size_drew] at this); omega)); obtain ⟨hc1, hf1⟩ := bcell hb1; clear hb1) | (go_at_call 21; refine (impl_StationText _ _ _ _ _ _ (ht.out.on (by go_grown))).mono ?_; rintro e w1 ⟨rfl, hb1⟩; have hB1 := bnext (w := w) (by go_grown) hb1; have hS1 := hB1.size; ((have hz1 : w.heap.size < w1.heap.size := by have := hb1.size; (try simp only [World.size_alloc, World.size_setCell, World.size_drew] at this); omega)); obtain ⟨hc1, hf1⟩ := bcell hb1; clear hb1))
  go_ret
  exact ⟨rfl, by go_grown⟩

theorem lifted (os : Os) (started : os.Started) (H : Type) (enc : TypeId × Value → H) :
    ReturnsInHanded {} Tryd.checked os 6 .any (fun w args => (Rows.fnExactStationTextSpec.pre enc Tryd.prog Tryd.f6 Rows.fnExactStationTextRow.domain false w args ∧ laidMetH Tryd.prog Rows.fnExactStationTextRow.laid w) ∧ sizedMet enc Tryd.prog Tryd.f6 (OpenSpec.ofChange Rows.fnExactStationTextSpec) false w args) (Rows.fnExactStationTextSpec.post enc Tryd.prog Tryd.f6 false true false false) := by
  refine returnsInHanded_of_change_and (C := Tryd.checked) (X := fun w _ => laidMetH Tryd.prog Rows.fnExactStationTextRow.laid w) (fun _ _ _ hh h => h.of_heap hh) own started (by kernel_rfl) Tryd.func6
    (ChangeSpec.witness_shaped (enc := enc) (C := Tryd.checked) (os := os) (X := fun w _ => laidMetH Tryd.prog Rows.fnExactStationTextRow.laid w) false (World.laidAll Tryd.prog os Rows.fnExactStationTextRow.laid) #[.agg #[.int .i64 0, .int .i64 0, .int .i64 0, .int .i64 0, .int .i64 0]] 8 (World.laidAll_os _ _ _)
      (World.shaped_of_ZipB (by kernel_rfl) (by kernel_rfl)) (by kernel_rfl) (by kernel_rfl) (by kernel_rfl)
      (by rw [MakeChecks.laidMetH_plain _ _ _ (by kernel_rfl)]; exact laidMet_laidAll _ (by kernel_rfl) (by kernel_rfl))) ?_
  intro W base args ds gs before hval0 hW hcnd _ hL _
  have hval : ∀ (j : Nat) t v, Tryd.f6.params[j]? = some t → args[j]? = some v → Value.okWide Tryd.prog W .any base t v := hval0
  have hW' := hW
  obtain ⟨p, q, hA0, hV, rfl, hfz, hnd⟩ := hW
  have hA : DataW.TrodAll enc Tryd.prog W 0 (fun _ => true) true Tryd.f6.params.toList args.toList ds p := hA0
  rw [Tryd.params6] at hA hval
  obtain ⟨v0, vs0, d0, ds0, p0, q0, hargs, rfl, rfl, h0, r0⟩ := trodAll_cons hA
  obtain ⟨rfl, rfl, rfl⟩ := trodAll_nil r0
  obtain rfl : args = #[v0] := by cases args; simp_all
  have g0 := h0
  obtain ⟨rfl, rfl⟩ := trodVars_none hV
  clear hA0 hval0
  simp only [List.append_nil] at hW'
  have hlt : ∀ x ∈ p0, x.block < W.heap.size := fun x hx => by simpa using hW'.lt x (by simpa using hx)
  obtain ⟨cs0, rfl, k0_0⟩ := open_struct Tryd.underlying47 (ts := [2, 2, 2, 2, 2]) (by kernel_rfl) (hval 0 47 _ rfl rfl)
  obtain ⟨c0_0, cs0_0, rfl, q0_0, k0_1⟩ := okCells_cons k0_0
  obtain ⟨c0_1, cs0_1, rfl, q0_1, k0_2⟩ := okCells_cons k0_1
  obtain ⟨c0_2, cs0_2, rfl, q0_2, k0_3⟩ := okCells_cons k0_2
  obtain ⟨c0_3, cs0_3, rfl, q0_3, k0_4⟩ := okCells_cons k0_3
  obtain ⟨c0_4, cs0_4, rfl, q0_4, k0_5⟩ := okCells_cons k0_4
  obtain rfl := okCells_nil k0_5
  obtain ⟨a0_0, rfl, wa0_0⟩ := cell_int Tryd.underlying2 q0_0
  obtain ⟨a0_1, rfl, wa0_1⟩ := cell_int Tryd.underlying2 q0_1
  obtain ⟨a0_2, rfl, wa0_2⟩ := cell_int Tryd.underlying2 q0_2
  obtain ⟨a0_3, rfl, wa0_3⟩ := cell_int Tryd.underlying2 q0_3
  obtain ⟨a0_4, rfl, wa0_4⟩ := cell_int Tryd.underlying2 q0_4
  refine (walk W a0_0 wa0_0 a0_1 wa0_1 a0_2 wa0_2 a0_3 wa0_3 a0_4 wa0_4 hL).mono fun e W' ⟨he, hg⟩ => ?_
  subst he
  exact ⟨_, rfl, post_below (pa := _) hW' (trodAll_cons_mk (shut_bool Tryd.underlying4 _) trodAll_mk0) (trodAll_cons_mk (Below.trod laidOut (by kernel_rfl) (of_decide_eq_true (by kernel_rfl)) g0 hg (fun x hx => hlt x (by simp [hx]))) trodAll_mk0) rfl (by simp) hg⟩

theorem over : Rows.fnExactStationTextRow.holds Tryd.pinned (OpenSpec.ofChange Rows.fnExactStationTextSpec) :=
  OpenClaim.holds_of_wide 6 Tryd.f6 rfl rfl rfl rfl rfl rfl rfl ⟨rfl, rfl, rfl, rfl, rfl⟩ rfl rfl rfl rfl rfl (by kernel_rfl) Tryd.func6 (by kernel_rfl)
    (of_decide_eq_true (by kernel_rfl)) (by unfold Func.isWrapper; first | (rw [if_pos (by decide +kernel)]; kernel_rfl) | (rw [if_neg (by decide +kernel)]; exact ⟨rfl, rfl⟩))
    (fun os started H enc _ => lifted os started H enc)

theorem proved : Rows.FnExactStationTextCardSaid :=
  Claim7.holds_tied_plain_at .later [] [.data, .data, .data] true (true, "5071906fd05b8f218cdc652544452a051fd326819706c99f5e79965e5702fabb") true over (fun _ h => by cases h) (by kernel_rfl) (fun _ h => by cases h) fnExactStationText_row_tie rfl ⟨rfl, rfl⟩ (by kernel_rfl) rfl
    (fun f fn hf hfn => by
      obtain rfl : f = 6 := Option.some.inj ((show Tryd.prog.funcNamed "loop.example/g00953/laws.FnExactStationText" = some 6 by kernel_rfl).symm.trans hf) |>.symm
      obtain rfl : fn = Tryd.f6 := (Option.some.inj (Tryd.func6.symm.trans hfn)).symm
      exact ⟨by kernel_rfl, fun j t ht => by
        rw [Tryd.params6] at ht
        have hm : t ∈ [47] := by simpa using Array.mem_of_getElem? ht
        have hall : ([47].all fun u => !Tryd.prog.wantsStandIn u) = true := by kernel_rfl
        exact (show Tryd.prog.wantsStandIn t = false by simpa using List.all_eq_true.1 hall t hm)⟩)
    (by kernel_rfl)
#print axioms proved
end fnExactStationText

end Go.Proofs.YtlgpgohojbgkaaaDoor
