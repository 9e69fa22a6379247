/-
  ReadChannel: the program's function returns what the reference's returns, in a row of its own, for all arguments. Under no condition; the library's variables read as their texts lay them (the card ties them).
-/
import Derived.Test.YtlolkngklfabfaaDoorRdCR
import Derived.Test.YtlolkngklfabfaaDoorEnv
set_option linter.unusedVariables false
set_option linter.unnecessarySimpa false
set_option maxRecDepth 100000
set_option linter.unusedSimpArgs false
namespace Go.Proofs.YtlolkngklfabfaaDoor
open Go.RowKit BigFrame

def CrQ (s : ByteArray) (P : List RPoint) (wd : Int) (ok : Bool) (w : World) (e : Ending) (w' : World) : Prop := ∃ v, e = .returned (.tuple #[.agg #[.string s, v, .int .i64 wd], .bool ok]) ∧ Below w.heap.size w w' ∧ Rs w' w.heap.size 74 2 v P.length (flat RPoint.cells P)
theorem crP_le (L : List UInt8) : (crP L).length ≤ 1048576 := by
  cases h : crOk L
  · rw [(cr_no h).2.1]; exact Nat.zero_le _
  · obtain ⟨_, a, b, R, hS, hR, _⟩ := cr_words h
    rw [(cr_yes h hS).2.1, List.length_map]
    omega
theorem Cz.far {w w' : World} {row : Option Nat} {g : Nat} {s : ByteArray} {A : Option Addr} {n c : Nat} {wd : Int} (h : Cz w g s A n c wd) (hg : w.grownBy w' row) (hne : row ≠ some g) : Cz w' g s A n c wd := by
  obtain ⟨h1, c0, c1, c2⟩ := h
  exact ⟨Nat.lt_of_lt_of_le h1 hg.size, hg.cell c0 (fun e => hne e.symm), hg.cell c1 (fun e => hne e.symm), hg.cell c2 (fun e => hne e.symm)⟩
theorem markChan_any (s : ByteArray) (B e : Nat) (A : Option Addr) (c n : Nat) (wd : Int) (xs : List Value) (k0 : Nat) (w : World) (h : Rs w B e 2 (.slice A n c) n xs) (hn : n ≤ 1048576) (h0 : 1 ≤ k0) (h1 : k0 ≤ 100000000) : Calls Tryd.prog 28 #[.agg #[.string s, .slice A n c, .int .i64 wd], .int .i64 k0] w fun e' w' => e' = .returned (.int .i64 ((k0 : Int) + (n : Int) * 2)) ∧ w.grownBy w' (Value.slice A n c).ownBlock ∧ Rs w' B e 2 (.slice A n c) n (marks ssPoint k0 (n * 2)) := by
  have h' := Lib.hid h
  have hbl := Lib.hid h.block
  clear h
  go_enter Tryd.func28, Tryd.ntmps28
  go_wp2_with fail
  refine (markPointS_any B e (.slice A n c) n xs k0 _ (h'.out.on (by go_grown)) hn h0 h1).mono ?_
  rintro e w1 ⟨rfl, hg, hR⟩
  go_wp2
  go_ret
  have hs := hg.size
  rw [World.size_alloc] at hs
  refine ⟨rfl, ⟨hg.os, hg.tape, hg.output, by omega, fun k hk hne => (hg.block k (by rw [World.size_alloc]; omega) hne).trans ((show Below w.heap.size w _ by go_grown).block k hk)⟩, hR⟩
theorem heldChan_any (s : ByteArray) (B e : Nat) (A : Option Addr) (c n : Nat) (wd : Int) (k0 : Nat) (w : World) (h : Rs w B e 2 (.slice A n c) n (marks ssPoint k0 (n * 2))) (hn : n ≤ 1048576) (h0 : 1 ≤ k0) (h1 : k0 ≤ 100000000) : Calls Tryd.prog 29 #[.agg #[.string s, .slice A n c, .int .i64 wd], .int .i64 k0] w fun e w' => e = .returned (.int .i64 ((k0 : Int) + (n : Int) * 2)) ∧ Below w.heap.size w w' := by
  have h' := Lib.hid h
  clear h
  go_enter Tryd.func29, Tryd.ntmps29
  go_wp2_with fail
  refine (heldPointS_any B e (.slice A n c) n k0 _ (h'.out.on (by go_grown)) hn h0 h1).mono ?_
  rintro e w1 ⟨rfl, hb⟩
  have hB := bnext (w := w) (by go_grown) hb
  have hnn : ¬ ((k0 : Int) + (n : Int) * 2 < 0) := by omega
  go_wp2
  go_ret
  exact ⟨rfl, hB⟩
theorem eqChan_rs (s : ByteArray) (P : List RPoint) (A A2 : Option Addr) (c c2 B B2 e e2 : Nat) (wd : Int) (w : World) (h : Rs w B e 2 (.slice A P.length c) P.length (flat RPoint.cells P)) (h2 : Rs w B2 e2 2 (.slice A2 P.length c2) P.length (flat RPoint.cells P)) (hl : P.length ≤ 1048576) : Calls Tryd.prog 27 #[.agg #[.string s, .slice A P.length c, .int .i64 wd], .agg #[.string s, .slice A2 P.length c2, .int .i64 wd]] w fun e w' => e = .returned (.bool true) ∧ Below w.heap.size w w' := by
  obtain ⟨A', c', e1, hs⟩ := h.sl
  obtain ⟨A2', c2', e2, hs2⟩ := h2.sl
  cases e1
  cases e2
  exact eqChannel_same s P A A2 c c2 w.heap.size wd w hs hs2 (Nat.le_refl _) hl
namespace fnExactReadChannel
open Go.ChangeShapes Go.WideShapes Go.ChangeAt Go.RowKit
set_option linter.unusedVariables false
set_option maxHeartbeats 3200000 in
theorem walk (W : World) (a0 : ByteArray) (wa0 : a0.size ≤ maxLen) (hE : Env W) :
    Calls Tryd.prog 6 #[.string a0] W fun e w' => e = .returned (.bool true) ∧ Below W.heap.size W w' := by
  revert W
  intro w hE
  by_cases hl : a0.size ≤ 1048576
  · obtain ⟨s, P, wd, ok, hsp, him, hP⟩ : ∃ s P wd ok, (∀ w, Calls Tryd.prog 25 #[.string a0] w (CrQ s P wd ok w)) ∧ (∀ w, Env w → Calls Tryd.prog 26 #[.string a0] w (CrQ s P wd ok w)) ∧ P.length ≤ 1048576 := ⟨_, _, _, _, fun w => spec_RChan a0 hl w, fun w hE => impl_RChan a0 hl w hE, crP_le _⟩
    have hE' := Lib.hid hE
    have hl2 : ¬ (1048576 : Int) < (a0.size : Int) := by omega
    have hbb : (ok != ok) = false := by simp
    clear hE hl
    go_enter Tryd.func6, Tryd.ntmps6
    go_wp2_with fail
    refine (hsp _).mono ?_
    rintro e w1 ⟨v1, rfl, hb1, hS⟩
    have hBc := bnext (Below.refl w.heap.size w) hb1
    have hbS := hS.block
    obtain ⟨A1, c1, rfl, _⟩ := hS.sl
    clear hb1
    have hZ3 := Cz.new w1 s A1 P.length c1 wd 51
    have hs1 := hBc.size
    go_wp2_with fail
    have hal : Below w1.heap.size w1 (w1.alloc (.cells #[.string s, .slice A1 P.length c1, .int .i64 wd] 51)) := by go_grown
    replace hBc := hBc.alloc hBc.size (.cells #[.string s, .slice A1 P.length c1, .int .i64 wd] 51)
    replace hS := hS.on hal
    refine (him _ (hE'.out.on hBc)).mono ?_
    rintro e w2 ⟨v2, rfl, hb2, hG⟩
    have hs2 := hb2.size
    rw [World.size_alloc] at hs2
    replace hBc := bnext hBc hb2
    replace hZ3 := hZ3.on hb2
    replace hS := hS.on hb2
    have hbG := hG.block
    rw [World.size_alloc] at hbG
    obtain ⟨A2, c2, rfl, _⟩ := hG.sl
    clear hb2
    obtain ⟨hZ3l, hZ3a, hZ3b, hZ3c⟩ := id hZ3
    have hZ5 := Cz.new w2 s A2 P.length c2 wd 51
    go_wp2_with fail
    have hal : Below w2.heap.size w2 (w2.alloc (.cells #[.string s, .slice A2 P.length c2, .int .i64 wd] 51)) := by go_grown
    replace hBc := hBc.alloc hBc.size (.cells #[.string s, .slice A2 P.length c2, .int .i64 wd] 51)
    replace hS := hS.on hal
    replace hG := hG.on hal
    replace hZ3 := hZ3.on hal
    clear hZ3l hZ3a hZ3b hZ3c
    refine (eqChan_rs s P A2 A1 c2 c1 _ _ _ _ wd _ hG hS hP).mono ?_
    rintro e w3 ⟨rfl, hb3⟩
    have hs3 := hb3.size
    rw [World.size_alloc] at hs3
    replace hBc := bnext hBc hb3
    replace hS := hS.on hb3
    replace hG := hG.on hb3
    replace hZ3 := hZ3.on hb3
    replace hZ5 := hZ5.on hb3
    clear hb3
    obtain ⟨hZ5l, hZ5a, hZ5b, hZ5c⟩ := id hZ5
    go_wp2_with fail
    clear hZ5l hZ5a hZ5b hZ5c
    refine (markChan_any s _ _ A2 c2 P.length wd _ 1 _ hG hP (by omega) (by omega)).mono ?_
    rintro e w4 ⟨rfl, hg4, hR⟩
    have hs4 := hg4.size
    replace hBc := hBc.grown hg4 hBc.size (fun k e => by have := (hbG _ e).1; omega)
    replace hS := hS.far hg4 (fun k e q => by have := (hbG _ e).1; have := (hbS _ q).2; omega)
    replace hZ3 := hZ3.far hg4 (fun e => by have := (hbG _ e).1; omega)
    replace hZ5 := hZ5.far hg4 (fun e => by have := (hbG _ e).2; omega)
    clear hg4 hG
    obtain ⟨hZ5l, hZ5a, hZ5b, hZ5c⟩ := id hZ5
    go_wp2_with fail
    clear hZ5l hZ5a hZ5b hZ5c
    refine (heldChan_any s _ _ A2 c2 P.length wd 1 _ hR hP (by omega) (by omega)).mono ?_
    rintro e w5 ⟨rfl, hb5⟩
    have hs5 := hb5.size
    replace hBc := bnext hBc hb5
    replace hS := hS.on hb5
    replace hR := hR.on hb5
    replace hZ3 := hZ3.on hb5
    replace hZ5 := hZ5.on hb5
    clear hb5
    go_wp2_with fail
    refine (him _ (hE'.out.on hBc)).mono ?_
    rintro e w6 ⟨v6, rfl, hb6, hH⟩
    have hs6 := hb6.size
    replace hBc := bnext hBc hb6
    replace hS := hS.on hb6
    replace hR := hR.on hb6
    replace hZ3 := hZ3.on hb6
    replace hZ5 := hZ5.on hb6
    obtain ⟨A6, c6, rfl, _⟩ := hH.sl
    clear hb6
    obtain ⟨hZ3l, hZ3a, hZ3b, hZ3c⟩ := id hZ3
    go_wp2_with fail
    have hal : Below w6.heap.size w6 (w6.alloc (.cells #[.string s, .slice A6 P.length c6, .int .i64 wd] 51)) := by go_grown
    replace hBc := hBc.alloc hBc.size (.cells #[.string s, .slice A6 P.length c6, .int .i64 wd] 51)
    replace hS := hS.on hal
    replace hR := hR.on hal
    replace hH := hH.on hal
    replace hZ5 := hZ5.on hal
    clear hZ3l hZ3a hZ3b hZ3c
    refine (eqChan_rs s P A6 A1 c6 c1 _ _ _ _ wd _ hH hS hP).mono ?_
    rintro e w7 ⟨rfl, hb7⟩
    replace hBc := bnext hBc hb7
    replace hR := hR.on hb7
    replace hZ5 := hZ5.on hb7
    clear hb7
    obtain ⟨hZ5l, hZ5a, hZ5b, hZ5c⟩ := id hZ5
    go_wp2_with fail
    refine (heldChan_any s _ _ A2 c2 P.length wd 1 _ hR hP (by omega) (by omega)).mono ?_
    rintro e w8 ⟨rfl, hb8⟩
    replace hBc := bnext hBc hb8
    go_wp2
    go_ret
    exact ⟨rfl, hBc⟩
  · have hl2 : (1048576 : Int) < (a0.size : Int) := by omega
    go_enter Tryd.func6, Tryd.ntmps6
    go_wp2
    go_ret
    exact ⟨rfl, by go_grown⟩

theorem lifted (os : Os) (started : os.Started) (H : Type) (enc : TypeId × Value → H) :
    ReturnsInHanded {} Tryd.checked os 6 .any (fun w args => (Rows.fnExactReadChannelSpec.pre enc Tryd.prog Tryd.f6 Rows.fnExactReadChannelRow.domain false w args ∧ laidMetH Tryd.prog Rows.fnExactReadChannelRow.laid w) ∧ sizedMet enc Tryd.prog Tryd.f6 (OpenSpec.ofChange Rows.fnExactReadChannelSpec) false w args) (Rows.fnExactReadChannelSpec.post enc Tryd.prog Tryd.f6 false true false false) := by
  refine change_sh (C := Tryd.checked) (X := fun w _ => laidMetH Tryd.prog Rows.fnExactReadChannelRow.laid w) (fun _ _ _ hh h => h.of_heap hh) own started (by kernel_rfl) Tryd.func6
    (ChangeSpec.witness_shaped (enc := enc) (C := Tryd.checked) (os := os) (X := fun w _ => laidMetH Tryd.prog Rows.fnExactReadChannelRow.laid w) false (World.laidAll Tryd.prog os Rows.fnExactReadChannelRow.laid) #[.string ⟨#[]⟩] 8 (World.laidAll_os _ _ _)
      (World.shaped_of_ZipB (by kernel_rfl) (by kernel_rfl)) (by kernel_rfl) (by kernel_rfl) (by kernel_rfl)
      (by rw [MakeChecks.laidMetH_plain _ _ _ (by kernel_rfl)]; exact laidMet_laidAll _ (by kernel_rfl) (by kernel_rfl))) ?_
  intro W base args ds gs before hval0 hW hcnd _ hsh hL _
  have hval : ∀ (j : Nat) t v, Tryd.f6.params[j]? = some t → args[j]? = some v → Value.okWide Tryd.prog W .any base t v := hval0
  have hW' := hW
  obtain ⟨p, q, hA0, hV, rfl, hfz, hnd⟩ := hW
  have hA : DataW.TrodAll enc Tryd.prog W 0 (fun _ => true) true Tryd.f6.params.toList args.toList ds p := hA0
  rw [Tryd.params6] at hA hval
  obtain ⟨v0, vs0, d0, ds0, p0, q0, hargs, rfl, rfl, h0, r0⟩ := trodAll_cons hA
  obtain ⟨rfl, rfl, rfl⟩ := trodAll_nil r0
  obtain rfl : args = #[v0] := by cases args; simp_all
  have g0 := h0
  obtain ⟨rfl, rfl⟩ := trodVars_none hV
  clear hA0 hval0
  simp only [List.append_nil] at hW'
  have hlt : ∀ x ∈ p0, x.block < W.heap.size := fun x hx => by simpa using hW'.lt x (by simpa using hx)
  obtain ⟨a0, rfl, wa0⟩ := value_string Tryd.underlying9 (hval 0 9 _ rfl rfl)
  refine (walk W a0 wa0 (env_of hsh hL)).mono fun e W' ⟨he, hg⟩ => ?_
  subst he
  exact ⟨_, rfl, post_below (pa := _) hW' (trodAll_cons_mk (shut_bool Tryd.underlying4 _) trodAll_mk0) (trodAll_cons_mk (Below.trod laidOut (by kernel_rfl) (of_decide_eq_true (by kernel_rfl)) g0 hg (fun x hx => hlt x (by simp [hx]))) trodAll_mk0) rfl (by simp) hg⟩

theorem over : Rows.fnExactReadChannelRow.holds Tryd.pinned (OpenSpec.ofChange Rows.fnExactReadChannelSpec) :=
  OpenClaim.holds_of_wide 6 Tryd.f6 rfl rfl rfl rfl rfl rfl rfl ⟨rfl, rfl, rfl, rfl, rfl⟩ rfl rfl rfl rfl rfl (by kernel_rfl) Tryd.func6 (by kernel_rfl)
    (of_decide_eq_true (by kernel_rfl)) (by unfold Func.isWrapper; first | (rw [if_pos (by decide +kernel)]; kernel_rfl) | (rw [if_neg (by decide +kernel)]; exact ⟨rfl, rfl⟩))
    (fun os started H enc _ => lifted os started H enc)

theorem proved : Rows.FnExactReadChannelCardSaid :=
  Claim7.holds_tied_plain_at .later [] [.data, .data, .data, .data, .sentinel, .sentinel, .pinned] true (true, "45b96a5e8dfd957f5c94c1e4d35eac3eda632ca058f13002aff17f858640a35d") true over (fun _ h => by cases h) (by kernel_rfl) (fun _ h => by cases h) fnExactReadChannel_row_tie rfl ⟨rfl, rfl⟩ (by kernel_rfl) rfl
    (fun f fn hf hfn => by
      obtain rfl : f = 6 := Option.some.inj ((show Tryd.prog.funcNamed "loop.example/g00953/laws.FnExactReadChannel" = some 6 by kernel_rfl).symm.trans hf) |>.symm
      obtain rfl : fn = Tryd.f6 := (Option.some.inj (Tryd.func6.symm.trans hfn)).symm
      exact ⟨by kernel_rfl, fun j t ht => by
        rw [Tryd.params6] at ht
        have hm : t ∈ [9] := by simpa using Array.mem_of_getElem? ht
        have hall : ([9].all fun u => !Tryd.prog.wantsStandIn u) = true := by kernel_rfl
        exact (show Tryd.prog.wantsStandIn t = false by simpa using List.all_eq_true.1 hall t hm)⟩)
    (by kernel_rfl)
#print axioms proved
end fnExactReadChannel

end Go.Proofs.YtlolkngklfabfaaDoor
