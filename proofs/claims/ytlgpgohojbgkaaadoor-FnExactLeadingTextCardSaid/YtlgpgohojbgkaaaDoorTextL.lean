/-
  LeadingText: the program's function returns what the reference's returns, for all arguments. Under no condition; the library's table of powers of ten reads as its text lays it (the card ties it).
-/
import Derived.Test.YtlgpgohojbgkaaaDoorTexts
import Derived.Test.YtlgpgohojbgkaaaDoorTie
import Derived.Test.YtlgpgohojbgkaaaDoorCards
import Derived.LaidMore
import Derived.Lay
import Derived.SevenTiedAt
import Derived.Stop.LaidErr
import Derived.MakeChecks
set_option linter.unusedVariables false
set_option linter.unnecessarySimpa false
set_option maxRecDepth 100000
set_option linter.unusedSimpArgs false
namespace Go.Proofs.YtlgpgohojbgkaaaDoor
open Go.RowKit BigFrame

def leadT (x1 y1 x2 y2 lo hi : Int) : ByteArray := ptT x1 y1 ++ ⟨#[32]⟩ ++ ptT x2 y2 ++ ⟨#[32]⟩ ++ decT lo ++ ⟨#[32]⟩ ++ decT hi
def leadX (x1 y1 x2 y2 lo hi : Int) : ByteArray := if vLead x1 y1 x2 y2 lo hi then leadT x1 y1 x2 y2 lo hi else ⟨#[]⟩
set_option maxHeartbeats 1600000 in
theorem spec_leadText (x1 y1 x2 y2 lo hi : Int) (b1 : IntKind.i64.has x1) (b2 : IntKind.i64.has y1) (b3 : IntKind.i64.has x2) (b4 : IntKind.i64.has y2) (b5 : IntKind.i64.has lo) (b6 : IntKind.i64.has hi) (g : Nat) (w : World) (hg : g < w.heap.size) (c0 : w.cell? ⟨g, 0, none⟩ = some (.int .i64 x1)) (c1 : w.cell? ⟨g, 1, none⟩ = some (.int .i64 y1)) (c2 : w.cell? ⟨g, 2, none⟩ = some (.int .i64 x2)) (c3 : w.cell? ⟨g, 3, none⟩ = some (.int .i64 y2)) (c4 : w.cell? ⟨g, 4, none⟩ = some (.int .i64 lo)) (c5 : w.cell? ⟨g, 5, none⟩ = some (.int .i64 hi)) :
    Calls Tryd.prog 50 #[.pointer (some ⟨g, 0, none⟩)] w fun e w' => e = .returned (.string (leadT x1 y1 x2 y2 lo hi)) ∧ Below w.heap.size w w' := by
  have b5' := has_i64 b5
  have b6' := has_i64 b6
  have s1 := ptT_size b1 b2
  have s2 := ptT_size b3 b4
  have s3 := decT_size b5'.1 b5'.2
  have s4 := decT_size b6'.1 b6'.2
  have q1 := noB (n := (ptT x1 y1).size + 1) (by omega)
  have q2 := noB (n := (ptT x1 y1).size + 1 + (ptT x2 y2).size) (by omega)
  have q3 := noB (n := (ptT x1 y1).size + 1 + (ptT x2 y2).size + 1) (by omega)
  have q4 := noB (n := (ptT x1 y1).size + 1 + (ptT x2 y2).size + 1 + (decT lo).size) (by omega)
  have q5 := noB (n := (ptT x1 y1).size + 1 + (ptT x2 y2).size + 1 + (decT lo).size + 1) (by omega)
  have q6 := noB (n := (ptT x1 y1).size + 1 + (ptT x2 y2).size + 1 + (decT lo).size + 1 + (decT hi).size) (by omega)
  unfold leadT
  go_enter Tryd.func50, Tryd.ntmps50
  go_wp2_with fail
  refine wp_region_grew (by kernel_rfl) (by kernel_rfl) ?_
  repeat (first | (go_big_quiet_step ((first | (go_at_call 106; exact grew_of (spec_ptText _ _ (by assumption) (by assumption) _)) | (go_at_call 98; exact grew_of (spec_Dec _ (by omega) (by omega) _))))) | (quiet_step ((first | (go_at_call 106; exact grew_of (spec_ptText _ _ (by assumption) (by assumption) _)) | (go_at_call 98; exact grew_of (spec_Dec _ (by omega) (by omega) _))))))
  refine wpQuiet_nil ?_
  rintro _ ⟨⟨w9, hb9⟩, rfl⟩
  try dsimp only
  obtain ⟨hc9, hf9⟩ := bcell hb9
  go_wp2
  go_ret
  exact ⟨rfl, hb9⟩
theorem spec_LeadingText (x1 y1 x2 y2 lo hi : Int) (b1 : IntKind.i64.has x1) (b2 : IntKind.i64.has y1) (b3 : IntKind.i64.has x2) (b4 : IntKind.i64.has y2) (b5 : IntKind.i64.has lo) (b6 : IntKind.i64.has hi) (w : World) : Calls Tryd.prog 12 #[.agg #[.int .i64 x1, .int .i64 y1, .int .i64 x2, .int .i64 y2, .int .i64 lo, .int .i64 hi]] w fun e w' => e = .returned (.string (leadX x1 y1 x2 y2 lo hi)) ∧ Below w.heap.size w w' := by
  cases hv : vLead x1 y1 x2 y2 lo hi
  · have hX : Hid (leadX x1 y1 x2 y2 lo hi = ⟨#[]⟩) := by apply Lib.hid; unfold leadX; rw [hv]; rfl
    go_enter Tryd.func12, Tryd.ntmps12
    go_wp2_with fail
    refine (spec_l15Ok x1 y1 x2 y2 lo hi _ _ (by simp) (by simp [go_sem]) (by simp [go_sem]) (by simp [go_sem]) (by simp [go_sem]) (by simp [go_sem]) (by simp [go_sem])).mono ?_
    rintro e w1 ⟨rfl, hb1⟩
    rw [hv]
    go_wp2
    go_ret
    exact ⟨ret_str hX.out.symm, bnext (by go_grown) hb1⟩
  · have hX : Hid (leadX x1 y1 x2 y2 lo hi = leadT x1 y1 x2 y2 lo hi) := by apply Lib.hid; unfold leadX; rw [hv]; rfl
    go_enter Tryd.func12, Tryd.ntmps12
    go_wp2_with fail
    refine (spec_l15Ok x1 y1 x2 y2 lo hi _ _ (by simp) (by simp [go_sem]) (by simp [go_sem]) (by simp [go_sem]) (by simp [go_sem]) (by simp [go_sem]) (by simp [go_sem])).mono ?_
    rintro e w1 ⟨rfl, hb1⟩
    rw [hv]
    obtain ⟨hc1, _⟩ := bcell hb1
    have hs1 := hb1.size
    simp only [World.size_alloc] at hs1
    go_wp2_with fail
    refine (spec_leadText x1 y1 x2 y2 lo hi b1 b2 b3 b4 b5 b6 _ _ (by omega) ((hc1 _ _ (by simp)).trans (by simp [go_sem])) ((hc1 _ _ (by simp)).trans (by simp [go_sem])) ((hc1 _ _ (by simp)).trans (by simp [go_sem])) ((hc1 _ _ (by simp)).trans (by simp [go_sem])) ((hc1 _ _ (by simp)).trans (by simp [go_sem])) ((hc1 _ _ (by simp)).trans (by simp [go_sem]))).mono ?_
    rintro e w2 ⟨rfl, hb2⟩
    go_wp2
    go_ret
    exact ⟨ret_str hX.out.symm, bnext (bnext (by go_grown) hb1) hb2⟩
theorem vLead_pts {x1 y1 x2 y2 lo hi : Int} (h : vLead x1 y1 x2 y2 lo hi = true) : vPoint x1 y1 = true ∧ vPoint x2 y2 = true := by
  unfold vLead at h
  simp only [Bool.and_eq_true] at h
  exact ⟨by simp_all, by simp_all⟩
set_option maxHeartbeats 1600000 in
theorem impl_LeadingText (x1 y1 x2 y2 lo hi : Int) (b1 : IntKind.i64.has x1) (b2 : IntKind.i64.has y1) (b3 : IntKind.i64.has x2) (b4 : IntKind.i64.has y2) (b5 : IntKind.i64.has lo) (b6 : IntKind.i64.has hi) (w : World) (ht : Tab w) : Calls Tryd.prog 14 #[.agg #[.int .i64 x1, .int .i64 y1, .int .i64 x2, .int .i64 y2, .int .i64 lo, .int .i64 hi]] w fun e w' => e = .returned (.string (leadX x1 y1 x2 y2 lo hi)) ∧ Below w.heap.size w w' := by
  have ht' := Lib.hid ht
  clear ht
  cases hv : vLead x1 y1 x2 y2 lo hi
  · have hX : Hid (leadX x1 y1 x2 y2 lo hi = ⟨#[]⟩) := by apply Lib.hid; unfold leadX; rw [hv]; rfl
    go_enter Tryd.func14, Tryd.ntmps14
    go_wp2_with fail
    refine (impl_ValidLeading x1 y1 x2 y2 lo hi _).mono ?_
    rintro e w1 ⟨rfl, hb1⟩
    rw [hv]
    go_wp2
    go_ret
    exact ⟨ret_str hX.out.symm, bnext (by go_grown) hb1⟩
  · have hX : Hid (leadX x1 y1 x2 y2 lo hi = leadT x1 y1 x2 y2 lo hi) := by apply Lib.hid; unfold leadX; rw [hv]; rfl
    obtain ⟨hp1, hp2⟩ := vLead_pts hv
    unfold leadT at hX
    have b5' := has_i64 b5
    have b6' := has_i64 b6
    have s1 := ptT_size b1 b2
    have s2 := ptT_size b3 b4
    have s3 := decT_size b5'.1 b5'.2
    have s4 := decT_size b6'.1 b6'.2
    have q1 := noB (n := (ptT x1 y1).size + 1) (by omega)
    have q2 := noB (n := (ptT x1 y1).size + 1 + (ptT x2 y2).size) (by omega)
    have q3 := noB (n := (ptT x1 y1).size + 1 + (ptT x2 y2).size + 1) (by omega)
    have q4 := noB (n := (ptT x1 y1).size + 1 + (ptT x2 y2).size + 1 + (decT lo).size) (by omega)
    have q5 := noB (n := (ptT x1 y1).size + 1 + (ptT x2 y2).size + 1 + (decT lo).size + 1) (by omega)
    have q6 := noB (n := (ptT x1 y1).size + 1 + (ptT x2 y2).size + 1 + (decT lo).size + 1 + (decT hi).size) (by omega)
    go_enter Tryd.func14, Tryd.ntmps14
    go_wp2_with fail
    refine (impl_ValidLeading x1 y1 x2 y2 lo hi _).mono ?_
    rintro e w1 ⟨rfl, hb1⟩
    have hB1 := bnext (show Below w.heap.size w ((w.alloc (.cells #[.int .i64 x1, .int .i64 y1, .int .i64 x2, .int .i64 y2, .int .i64 lo, .int .i64 hi] 35))) by go_grown) hb1
    have hS1 := hb1.size
    simp only [World.size_alloc] at hS1
    have hz1 : w.heap.size < w1.heap.size := by omega
    have hT : Hid (Tab w1) := Lib.hid (ht'.out.on hB1)
    obtain ⟨hc1, hf1⟩ := bcell hb1
    clear hb1
    go_wp2_with fail
    refine wp_region_grew (by kernel_rfl) (by kernel_rfl) ?_
    repeat (first | (go_big_quiet_step ((first | (go_at_call 34; exact grew_of (impl_ptText _ _ (by assumption) (by assumption) (by assumption) _ (hT.out.on (Grew.below _)))) | (go_at_call 47; exact grew_of (impl_Dec _ (by omega) (by omega) _ (hT.out.on (Grew.below _))))))) | (quiet_step ((first | (go_at_call 34; exact grew_of (impl_ptText _ _ (by assumption) (by assumption) (by assumption) _ (hT.out.on (Grew.below _)))) | (go_at_call 47; exact grew_of (impl_Dec _ (by omega) (by omega) _ (hT.out.on (Grew.below _))))))))
    refine wpQuiet_nil ?_
    rintro _ ⟨⟨w9, hb9⟩, rfl⟩
    try dsimp only
    obtain ⟨hc9, hf9⟩ := bcell hb9
    go_wp2
    go_ret
    exact ⟨ret_str hX.out.symm, bnext hB1 hb9⟩

theorem own : ownKnob Tryd.prog.godebug = none := by kernel_rfl
theorem laidOut : laidOutB Tryd.prog = true := by kernel_rfl
theorem lead_tab {W : World} (h : laidMetH Tryd.prog Rows.fnExactLeadingTextRow.laid W) : Tab W := by
  rw [MakeChecks.laidMetH_plain _ _ _ (by kernel_rfl)] at h
  exact Lib.tabIs_of_head tabVar (by kernel_rfl) Tryd.underlying183 Tryd.underlying138 (by kernel_rfl) (by kernel_rfl) h.tail.tail
namespace fnExactLeadingText
open Go.ChangeShapes Go.WideShapes Go.ChangeAt Go.RowKit
set_option linter.unusedVariables false
set_option maxHeartbeats 1600000 in
theorem walk (W : World) (a0_0 : Int) (wa0_0 : IntKind.i64.has a0_0) (a0_1 : Int) (wa0_1 : IntKind.i64.has a0_1) (a0_2 : Int) (wa0_2 : IntKind.i64.has a0_2) (a0_3 : Int) (wa0_3 : IntKind.i64.has a0_3) (a0_4 : Int) (wa0_4 : IntKind.i64.has a0_4) (a0_5 : Int) (wa0_5 : IntKind.i64.has a0_5) (hL : laidMetH Tryd.prog Rows.fnExactLeadingTextRow.laid W) :
    Calls Tryd.prog 4 #[.agg #[.int .i64 a0_0, .int .i64 a0_1, .int .i64 a0_2, .int .i64 a0_3, .int .i64 a0_4, .int .i64 a0_5]] W fun e w' => e = .returned (.bool true) ∧ Below W.heap.size W w' := by
  revert W
  intro w hL
  have ht := Lib.hid (lead_tab hL)
  clear hL
  go_enter Tryd.func4, Tryd.ntmps4
  go_wp2_with (first | (go_at_call 13; refine (toLeading_any _ _ _ _ _ _ _).mono ?_; rintro e w1 ⟨rfl, hb1⟩; have hB1 := bnext (w := w) (by go_grown) hb1; have hS1 := hB1.size; ((have hz1 : w.heap.size < w1.heap.size := by have := hb1.size; (try simp only [World.size_alloc, World.size_setCell, World.size_drew] at this); omega)); obtain ⟨hc1, hf1⟩ := bcell hb1; clear hb1) | (go_at_call 12; refine (spec_LeadingText _ _ _ _ _ _ wa0_0 wa0_1 wa0_2 wa0_3 wa0_4 wa0_5 _).mono ?_; rintro e w1 ⟨rfl, hb1⟩; have hB1 := bnext (w := w) (by go_grown) hb1; have hS1 := hB1.size; ((have hz1 : w.heap.size < w1.heap.size := by have := hb1.size; (try simp only [World.size_alloc, World.size_setCell, World.size_drew] at this); omega)); obtain ⟨hc1, hf1⟩ := bcell hb1; clear hb1) | (go_at_call 14; refine (impl_LeadingText _ _ _ _ _ _ wa0_0 wa0_1 wa0_2 wa0_3 wa0_4 wa0_5 _ (ht.out.on (by go_grown))).mono ?_; rintro e w1 ⟨rfl, hb1⟩; have hB1 := bnext (w := w) (by go_grown) hb1; have hS1 := hB1.size; ((have hz1 : w.heap.size < w1.heap.size := by have := hb1.size; (try simp only [World.size_alloc, World.size_setCell, World.size_drew] at this); omega)); obtain ⟨hc1, hf1⟩ := bcell hb1; clear hb1))
  go_ret
  exact ⟨rfl, by go_grown⟩

theorem lifted (os : Os) (started : os.Started) (H : Type) (enc : TypeId × Value → H) :
    ReturnsInHanded {} Tryd.checked os 4 .any (fun w args => (Rows.fnExactLeadingTextSpec.pre enc Tryd.prog Tryd.f4 Rows.fnExactLeadingTextRow.domain false w args ∧ laidMetH Tryd.prog Rows.fnExactLeadingTextRow.laid w) ∧ sizedMet enc Tryd.prog Tryd.f4 (OpenSpec.ofChange Rows.fnExactLeadingTextSpec) false w args) (Rows.fnExactLeadingTextSpec.post enc Tryd.prog Tryd.f4 false true false false) := by
  refine returnsInHanded_of_change_and (C := Tryd.checked) (X := fun w _ => laidMetH Tryd.prog Rows.fnExactLeadingTextRow.laid w) (fun _ _ _ hh h => h.of_heap hh) own started (by kernel_rfl) Tryd.func4
    (ChangeSpec.witness_shaped (enc := enc) (C := Tryd.checked) (os := os) (X := fun w _ => laidMetH Tryd.prog Rows.fnExactLeadingTextRow.laid w) false (World.laidAll Tryd.prog os Rows.fnExactLeadingTextRow.laid) #[.agg #[.int .i64 0, .int .i64 0, .int .i64 0, .int .i64 0, .int .i64 0, .int .i64 0]] 8 (World.laidAll_os _ _ _)
      (World.shaped_of_ZipB (by kernel_rfl) (by kernel_rfl)) (by kernel_rfl) (by kernel_rfl) (by kernel_rfl)
      (by rw [MakeChecks.laidMetH_plain _ _ _ (by kernel_rfl)]; exact laidMet_laidAll _ (by kernel_rfl) (by kernel_rfl))) ?_
  intro W base args ds gs before hval0 hW hcnd _ hL _
  have hval : ∀ (j : Nat) t v, Tryd.f4.params[j]? = some t → args[j]? = some v → Value.okWide Tryd.prog W .any base t v := hval0
  have hW' := hW
  obtain ⟨p, q, hA0, hV, rfl, hfz, hnd⟩ := hW
  have hA : DataW.TrodAll enc Tryd.prog W 0 (fun _ => true) true Tryd.f4.params.toList args.toList ds p := hA0
  rw [Tryd.params4] at hA hval
  obtain ⟨v0, vs0, d0, ds0, p0, q0, hargs, rfl, rfl, h0, r0⟩ := trodAll_cons hA
  obtain ⟨rfl, rfl, rfl⟩ := trodAll_nil r0
  obtain rfl : args = #[v0] := by cases args; simp_all
  have g0 := h0
  obtain ⟨rfl, rfl⟩ := trodVars_none hV
  clear hA0 hval0
  simp only [List.append_nil] at hW'
  have hlt : ∀ x ∈ p0, x.block < W.heap.size := fun x hx => by simpa using hW'.lt x (by simpa using hx)
  obtain ⟨cs0, rfl, k0_0⟩ := open_struct Tryd.underlying31 (ts := [2, 2, 2, 2, 2, 2]) (by kernel_rfl) (hval 0 31 _ rfl rfl)
  obtain ⟨c0_0, cs0_0, rfl, q0_0, k0_1⟩ := okCells_cons k0_0
  obtain ⟨c0_1, cs0_1, rfl, q0_1, k0_2⟩ := okCells_cons k0_1
  obtain ⟨c0_2, cs0_2, rfl, q0_2, k0_3⟩ := okCells_cons k0_2
  obtain ⟨c0_3, cs0_3, rfl, q0_3, k0_4⟩ := okCells_cons k0_3
  obtain ⟨c0_4, cs0_4, rfl, q0_4, k0_5⟩ := okCells_cons k0_4
  obtain ⟨c0_5, cs0_5, rfl, q0_5, k0_6⟩ := okCells_cons k0_5
  obtain rfl := okCells_nil k0_6
  obtain ⟨a0_0, rfl, wa0_0⟩ := cell_int Tryd.underlying2 q0_0
  obtain ⟨a0_1, rfl, wa0_1⟩ := cell_int Tryd.underlying2 q0_1
  obtain ⟨a0_2, rfl, wa0_2⟩ := cell_int Tryd.underlying2 q0_2
  obtain ⟨a0_3, rfl, wa0_3⟩ := cell_int Tryd.underlying2 q0_3
  obtain ⟨a0_4, rfl, wa0_4⟩ := cell_int Tryd.underlying2 q0_4
  obtain ⟨a0_5, rfl, wa0_5⟩ := cell_int Tryd.underlying2 q0_5
  refine (walk W a0_0 wa0_0 a0_1 wa0_1 a0_2 wa0_2 a0_3 wa0_3 a0_4 wa0_4 a0_5 wa0_5 hL).mono fun e W' ⟨he, hg⟩ => ?_
  subst he
  exact ⟨_, rfl, post_below (pa := _) hW' (trodAll_cons_mk (shut_bool Tryd.underlying4 _) trodAll_mk0) (trodAll_cons_mk (Below.trod laidOut (by kernel_rfl) (of_decide_eq_true (by kernel_rfl)) g0 hg (fun x hx => hlt x (by simp [hx]))) trodAll_mk0) rfl (by simp) hg⟩

theorem over : Rows.fnExactLeadingTextRow.holds Tryd.pinned (OpenSpec.ofChange Rows.fnExactLeadingTextSpec) :=
  OpenClaim.holds_of_wide 4 Tryd.f4 rfl rfl rfl rfl rfl rfl rfl ⟨rfl, rfl, rfl, rfl, rfl⟩ rfl rfl rfl rfl rfl (by kernel_rfl) Tryd.func4 (by kernel_rfl)
    (of_decide_eq_true (by kernel_rfl)) (by unfold Func.isWrapper; first | (rw [if_pos (by decide +kernel)]; kernel_rfl) | (rw [if_neg (by decide +kernel)]; exact ⟨rfl, rfl⟩))
    (fun os started H enc _ => lifted os started H enc)

theorem proved : Rows.FnExactLeadingTextCardSaid :=
  Claim7.holds_tied_plain_at .later [] [.data, .data, .data] true (true, "5071906fd05b8f218cdc652544452a051fd326819706c99f5e79965e5702fabb") true over (fun _ h => by cases h) (by kernel_rfl) (fun _ h => by cases h) fnExactLeadingText_row_tie rfl ⟨rfl, rfl⟩ (by kernel_rfl) rfl
    (fun f fn hf hfn => by
      obtain rfl : f = 4 := Option.some.inj ((show Tryd.prog.funcNamed "loop.example/g00953/laws.FnExactLeadingText" = some 4 by kernel_rfl).symm.trans hf) |>.symm
      obtain rfl : fn = Tryd.f4 := (Option.some.inj (Tryd.func4.symm.trans hfn)).symm
      exact ⟨by kernel_rfl, fun j t ht => by
        rw [Tryd.params4] at ht
        have hm : t ∈ [31] := by simpa using Array.mem_of_getElem? ht
        have hall : ([31].all fun u => !Tryd.prog.wantsStandIn u) = true := by kernel_rfl
        exact (show Tryd.prog.wantsStandIn t = false by simpa using List.all_eq_true.1 hall t hm)⟩)
    (by kernel_rfl)
#print axioms proved
end fnExactLeadingText

end Go.Proofs.YtlgpgohojbgkaaaDoor
