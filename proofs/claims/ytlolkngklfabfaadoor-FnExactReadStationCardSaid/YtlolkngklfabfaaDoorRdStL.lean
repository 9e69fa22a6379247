/-
  ReadStation: the program's function returns what the reference's returns, for all arguments. Under no condition; the library's variables read as their texts lay them (the card ties them).
-/
import Derived.Test.YtlolkngklfabfaaDoorRdSt
import Derived.Test.YtlolkngklfabfaaDoorEnv
set_option linter.unusedVariables false
set_option linter.unnecessarySimpa false
set_option maxRecDepth 100000
set_option linter.unusedSimpArgs false
namespace Go.Proofs.YtlolkngklfabfaaDoor
open Go.RowKit BigFrame

set_option maxHeartbeats 1600000 in
theorem eqStation_same (f0 : Int) (f1 : Int) (f2 : Int) (f3 : Int) (f4 : Int) (w : World) : Calls Tryd.prog 12 #[.agg #[.int .i64 f0, .int .i64 f1, .int .i64 f2, .int .i64 f3, .int .i64 f4], .agg #[.int .i64 f0, .int .i64 f1, .int .i64 f2, .int .i64 f3, .int .i64 f4]] w fun e w' => e = .returned (.bool true) ∧ Below w.heap.size w w' := by
  go_enter Tryd.func12, Tryd.ntmps12
  go_wp2
  all_goals (go_ret; exact ⟨rfl, by go_grown⟩)
namespace fnExactReadStation
open Go.ChangeShapes Go.WideShapes Go.ChangeAt Go.RowKit
set_option linter.unusedVariables false
set_option maxHeartbeats 1600000 in
theorem walk (W : World) (a0 : ByteArray) (wa0 : a0.size ≤ maxLen) (hE : Env W) :
    Calls Tryd.prog 4 #[.string a0] W fun e w' => e = .returned (.bool true) ∧ Below W.heap.size W w' := by
  revert W
  intro w hE
  by_cases hl : a0.size ≤ 1048576
  · obtain ⟨x1, x2, x3, x4, x5, ok, hr, hi⟩ : ∃ x1 x2 x3 x4 x5 ok, (∀ w, Calls Tryd.prog 10 #[.string a0] w fun e w' => e = .returned (.tuple #[.agg #[.int .i64 x1, .int .i64 x2, .int .i64 x3, .int .i64 x4, .int .i64 x5], .bool ok]) ∧ Below w.heap.size w w') ∧ ∀ w, Env w → Calls Tryd.prog 11 #[.string a0] w fun e w' => e = .returned (.tuple #[.agg #[.int .i64 x1, .int .i64 x2, .int .i64 x3, .int .i64 x4, .int .i64 x5], .bool ok]) ∧ Below w.heap.size w w' := ⟨_, _, _, _, _, _, fun w => spec_RStat a0 hl w, fun w hE => impl_RStat a0 hl w hE⟩
    have hE' := Lib.hid hE
    have hl2 : ¬ (1048576 : Int) < (a0.size : Int) := by omega
    clear hE
    go_enter Tryd.func4, Tryd.ntmps4
    go_wp2_with fail
    refine (hr _).mono ?_
    rintro e w1 ⟨rfl, hb1⟩
    have hB1 := bnext (w := w) (by go_grown) hb1
    clear hb1
    go_wp2_with fail
    refine (hi _ (hE'.out.on (by first | exact hB1.alloc hB1.size _ | go_grown))).mono ?_
    rintro e w2 ⟨rfl, hb2⟩
    have hB2 := bnext (hB1.alloc hB1.size (.cells #[.int .i64 x1, .int .i64 x2, .int .i64 x3, .int .i64 x4, .int .i64 x5] 29)) hb2
    have c0 : w2.cell? ⟨w1.heap.size, 0, none⟩ = some (.int .i64 x1) := cell_on hb2 (by simp)
    have c1 : w2.cell? ⟨w1.heap.size, 1, none⟩ = some (.int .i64 x2) := cell_on hb2 (by simp)
    have c2 : w2.cell? ⟨w1.heap.size, 2, none⟩ = some (.int .i64 x3) := cell_on hb2 (by simp)
    have c3 : w2.cell? ⟨w1.heap.size, 3, none⟩ = some (.int .i64 x4) := cell_on hb2 (by simp)
    have c4 : w2.cell? ⟨w1.heap.size, 4, none⟩ = some (.int .i64 x5) := cell_on hb2 (by simp)
    have hz2 := hb2.size
    rw [World.size_alloc] at hz2
    have hz : w1.heap.size < w2.heap.size := by omega
    have hbb : (ok != ok) = false := by simp
    clear hb2
    go_wp2_with fail
    refine (eqStation_same x1 x2 x3 x4 x5 _).mono ?_
    rintro e w3 ⟨rfl, hb3⟩
    have hB3 := bnext (hB2.alloc hB2.size _) hb3
    clear hb3
    go_wp2
    go_ret
    exact ⟨rfl, hB3⟩
  · have hl2 : (1048576 : Int) < (a0.size : Int) := by omega
    go_enter Tryd.func4, Tryd.ntmps4
    go_wp2
    go_ret
    exact ⟨rfl, by go_grown⟩

theorem lifted (os : Os) (started : os.Started) (H : Type) (enc : TypeId × Value → H) :
    ReturnsInHanded {} Tryd.checked os 4 .any (fun w args => (Rows.fnExactReadStationSpec.pre enc Tryd.prog Tryd.f4 Rows.fnExactReadStationRow.domain false w args ∧ laidMetH Tryd.prog Rows.fnExactReadStationRow.laid w) ∧ sizedMet enc Tryd.prog Tryd.f4 (OpenSpec.ofChange Rows.fnExactReadStationSpec) false w args) (Rows.fnExactReadStationSpec.post enc Tryd.prog Tryd.f4 false true false false) := by
  refine change_sh (C := Tryd.checked) (X := fun w _ => laidMetH Tryd.prog Rows.fnExactReadStationRow.laid w) (fun _ _ _ hh h => h.of_heap hh) own started (by kernel_rfl) Tryd.func4
    (ChangeSpec.witness_shaped (enc := enc) (C := Tryd.checked) (os := os) (X := fun w _ => laidMetH Tryd.prog Rows.fnExactReadStationRow.laid w) false (World.laidAll Tryd.prog os Rows.fnExactReadStationRow.laid) #[.string ⟨#[]⟩] 8 (World.laidAll_os _ _ _)
      (World.shaped_of_ZipB (by kernel_rfl) (by kernel_rfl)) (by kernel_rfl) (by kernel_rfl) (by kernel_rfl)
      (by rw [MakeChecks.laidMetH_plain _ _ _ (by kernel_rfl)]; exact laidMet_laidAll _ (by kernel_rfl) (by kernel_rfl))) ?_
  intro W base args ds gs before hval0 hW hcnd _ hsh hL _
  have hval : ∀ (j : Nat) t v, Tryd.f4.params[j]? = some t → args[j]? = some v → Value.okWide Tryd.prog W .any base t v := hval0
  have hW' := hW
  obtain ⟨p, q, hA0, hV, rfl, hfz, hnd⟩ := hW
  have hA : DataW.TrodAll enc Tryd.prog W 0 (fun _ => true) true Tryd.f4.params.toList args.toList ds p := hA0
  rw [Tryd.params4] at hA hval
  obtain ⟨v0, vs0, d0, ds0, p0, q0, hargs, rfl, rfl, h0, r0⟩ := trodAll_cons hA
  obtain ⟨rfl, rfl, rfl⟩ := trodAll_nil r0
  obtain rfl : args = #[v0] := by cases args; simp_all
  have g0 := h0
  obtain ⟨rfl, rfl⟩ := trodVars_none hV
  clear hA0 hval0
  simp only [List.append_nil] at hW'
  have hlt : ∀ x ∈ p0, x.block < W.heap.size := fun x hx => by simpa using hW'.lt x (by simpa using hx)
  obtain ⟨a0, rfl, wa0⟩ := value_string Tryd.underlying9 (hval 0 9 _ rfl rfl)
  refine (walk W a0 wa0 (env_of hsh hL)).mono fun e W' ⟨he, hg⟩ => ?_
  subst he
  exact ⟨_, rfl, post_below (pa := _) hW' (trodAll_cons_mk (shut_bool Tryd.underlying4 _) trodAll_mk0) (trodAll_cons_mk (Below.trod laidOut (by kernel_rfl) (of_decide_eq_true (by kernel_rfl)) g0 hg (fun x hx => hlt x (by simp [hx]))) trodAll_mk0) rfl (by simp) hg⟩

theorem over : Rows.fnExactReadStationRow.holds Tryd.pinned (OpenSpec.ofChange Rows.fnExactReadStationSpec) :=
  OpenClaim.holds_of_wide 4 Tryd.f4 rfl rfl rfl rfl rfl rfl rfl ⟨rfl, rfl, rfl, rfl, rfl⟩ rfl rfl rfl rfl rfl (by kernel_rfl) Tryd.func4 (by kernel_rfl)
    (of_decide_eq_true (by kernel_rfl)) (by unfold Func.isWrapper; first | (rw [if_pos (by decide +kernel)]; kernel_rfl) | (rw [if_neg (by decide +kernel)]; exact ⟨rfl, rfl⟩))
    (fun os started H enc _ => lifted os started H enc)

theorem proved : Rows.FnExactReadStationCardSaid :=
  Claim7.holds_tied_plain_at .later [] [.data, .data, .data, .data, .sentinel, .sentinel, .pinned] true (true, "45b96a5e8dfd957f5c94c1e4d35eac3eda632ca058f13002aff17f858640a35d") true over (fun _ h => by cases h) (by kernel_rfl) (fun _ h => by cases h) fnExactReadStation_row_tie rfl ⟨rfl, rfl⟩ (by kernel_rfl) rfl
    (fun f fn hf hfn => by
      obtain rfl : f = 4 := Option.some.inj ((show Tryd.prog.funcNamed "loop.example/g00953/laws.FnExactReadStation" = some 4 by kernel_rfl).symm.trans hf) |>.symm
      obtain rfl : fn = Tryd.f4 := (Option.some.inj (Tryd.func4.symm.trans hfn)).symm
      exact ⟨by kernel_rfl, fun j t ht => by
        rw [Tryd.params4] at ht
        have hm : t ∈ [9] := by simpa using Array.mem_of_getElem? ht
        have hall : ([9].all fun u => !Tryd.prog.wantsStandIn u) = true := by kernel_rfl
        exact (show Tryd.prog.wantsStandIn t = false by simpa using List.all_eq_true.1 hall t hm)⟩)
    (by kernel_rfl)
#print axioms proved
end fnExactReadStation

end Go.Proofs.YtlolkngklfabfaaDoor
