/-
  FnMorse: letters and their signs lead to each other, and what is sent is read. Under no condition; the library's variables are tied to the program's text.
-/
import Derived.Test.YtpnffdkkmibchaaDoorMoG
import Derived.Test.YtpnffdkkmibchaaDoorR8
import Derived.Test.YtpnffdkkmibchaaDoorTie
import Derived.Test.YtpnffdkkmibchaaDoorCards
import Derived.HandedShaped
import Derived.LaidMore
import Derived.Lay
import Derived.SevenTiedAt
import Derived.MakeChecks
import Derived.Shelf.Vars
set_option linter.unusedVariables false
set_option linter.unnecessarySimpa false
set_option maxRecDepth 100000
set_option linter.unusedSimpArgs false
namespace Go.Proofs.YtpnffdkkmibchaaDoor
open Go.RowKit BigFrame

theorem change_sh {H : Type} {enc : TypeId × Value → H} {a : Assume} {C : Checked} {os : Os} {f : FuncId} {fn : Func} {s : ChangeSpec} {conds : List PathCond} {apart fresh handsOn again : Bool} {X : World → Array Value → Prop}
    (hX : ∀ (w w' : World) (args : Array Value), w.heap = w'.heap → X w args → X w' args)
    (own : ownKnob C.prog.godebug = none) (started : os.Started) (noInit : C.prog.inits.idxOf? f = none) (hfn : C.prog.funcs[f]? = some fn)
    (witness : ∃ (w : World) (tape : Tape) (i : Input), w.os = os ∧ (w.forCall tape i).Shaped C.prog ∧ i.vars = [] ∧ Input.okWide C.prog (w.forCall tape i) .any w.heap.size f i ∧
      ((s.pre enc C.prog fn conds apart (w.forCall tape i).memory i.args ∧ X (w.forCall tape i).memory i.args) ∧ sizedMet enc C.prog fn (OpenSpec.ofChange s) apart (w.forCall tape i).memory i.args) ∧ a.holds C.prog (lone (Frame.enter C.prog f i.args .normal) [] (w.forCall tape i)))
    (contract : ∀ (W : World) (base : Nat) (args : Array Value) (ds gs : List (DataW H)) (before : List MemPlace),
      (∀ (j : Nat) t v, fn.params[j]? = some t → args[j]? = some v → Value.okWide C.prog W .any base t v) →
      DataW.Whole enc C.prog fn.params.toList s.vars apart W args.toList ds gs before →
      conds.all (PathCond.test C.prog ⟨fn.params.toList, ds, s.plain.varTypes C.prog, gs⟩) = true →
      (DataW.weightsEach C.prog (fn.params.toList ++ s.plain.varTypes C.prog) (ds ++ gs)).all (· ≤ reachBytes) = true → W.ShapedOpen C.prog → X W args →
      a.holds C.prog (lone (Frame.enter C.prog f args .normal) [] W) →
      Calls C.prog f args W fun e W' => ∃ v, e = .returned v ∧ s.post enc C.prog fn apart fresh handsOn again W args v W') :
    ReturnsInHanded a C os f .any (fun w args => (s.pre enc C.prog fn conds apart w args ∧ X w args) ∧ sizedMet enc C.prog fn (OpenSpec.ofChange s) apart w args) (s.post enc C.prog fn apart fresh handsOn again) := by
  refine returnsInHanded_of_calls own started noInit witness ?_
  intro w tape i _ hsh _ hok hpre hholds
  obtain ⟨_, _, _, fn', hfn', _, _, _, _, hval⟩ := hok
  have e : fn' = fn := Option.some.inj (hfn'.symm.trans hfn)
  subst e
  obtain ⟨⟨⟨ds, gs, before, hw, hc⟩, hx⟩, hz⟩ := hpre
  have hw' := DataW.Whole.of_heap (w' := w.forCall tape i) (by rfl) hw
  refine (contract (w.forCall tape i) w.heap.size i.args ds gs before hval hw' hc (hz.weights hw) hsh (hX _ _ _ (by rfl) hx) hholds).mono fun e W' ⟨v, he, hp⟩ => ?_
  subst he
  exact ChangeSpec.post_blind hp
theorem own : ownKnob Tryd.prog.godebug = none := by kernel_rfl
theorem laidOut : laidOutB Tryd.prog = true := by kernel_rfl
theorem env_of {W : World} (hsh : W.ShapedOpen Tryd.prog) (h : laidMetH Tryd.prog Rows.fnMorseRow.laid W) : Env W :=
  ⟨cell_of_shapedOpen_int (zero := #[.int .i64 0]) (t := 3) hsh (of_decide_eq_true (by kernel_rfl)) (by kernel_rfl) rfl (by kernel_rfl) (by kernel_rfl) Tryd.underlying3⟩
theorem send_bd {u c : Nat} {LS : List (Nat × Bool)} (hg : goodL LS) (he : endL LS) (hl : (txt LS).length ≤ 12) : 0 < (send u c (txt LS)).1.length ∧ (send u c (txt LS)).1.length ≤ 200 := by
  have h := congrArg List.length (send_end u c hg he)
  have hL : 1 ≤ LS.length := by obtain ⟨A, x, rfl⟩ := he; simp
  have hL2 := (txt_len LS).1
  have key : ∀ M : List (Nat × Bool), goodL M → 2 * M.length ≤ (M.flatMap fun p => chunk u c (sg p.1) ++ [(0, (if p.2 then 7 else 3) * u)]).length ∧ (M.flatMap fun p => chunk u c (sg p.1) ++ [(0, (if p.2 then 7 else 3) * u)]).length ≤ 8 * M.length := fun M => by
    induction M with
    | nil => intro _; exact ⟨Nat.le_refl _, Nat.le_refl _⟩
    | cons p M ih =>
      intro hM
      have hx : p.1 < 26 := hM p List.mem_cons_self
      have hs := sg_len hx
      have hc := chunk_len u c (sg p.1) (fun e => by rw [e] at hs; simp at hs)
      have := ih (fun q hq => hM q (List.mem_cons_of_mem _ hq))
      rw [List.flatMap_cons, List.length_append, List.length_append, List.length_singleton, List.length_cons]
      omega
  have := key LS hg
  rw [List.length_append, List.length_singleton] at h
  omega
theorem send_one (u c : Nat) {x : Nat} (hx : x < 26) : (send u c (txt [(x, false)])).1 = chunk u c (sg x) := by
  show (chr u c ([], 0) (65 + x)).1 = _
  rw [chr_letter hx]
  rfl
theorem sumJ_step (J : List (Nat × Nat)) (k : Nat) (h : k < J.length) : sumJ (J.take (k + 1)) = sumJ (J.take k) + J[k].2 := by
  unfold sumJ
  rw [List.take_succ_eq_append_getElem h, List.map_append, List.sum_append]
  simp
theorem sumJ_le (J : List (Nat × Nat)) (h : ∀ p ∈ J, p.2 ≤ 150) : sumJ J ≤ 150 * J.length := by
  induction J with
  | nil => exact Nat.le_refl _
  | cons p J ih =>
    have h1 := h p List.mem_cons_self
    have h2 := ih (fun q hq => h q (List.mem_cons_of_mem _ hq))
    unfold sumJ at h2 ⊢
    simp only [List.map_cons, List.sum_cons, List.length_cons]
    omega
namespace fnMorse
open Go.ChangeShapes Go.WideShapes Go.ChangeAt Go.RowKit
set_option linter.unusedVariables false
set_option maxHeartbeats 6400000 in
theorem walk (W : World) (A0 : Option Addr) (c0 : Nat) (L0 : List Int) (s0 : Sl W W.heap.size A0 (bytesL L0)) (b0 : ∀ z ∈ L0, IntKind.u8.has z) (m0 : L0.length ≤ maxLen) (A1 : Option Addr) (c1 : Nat) (L1 : List Int) (s1 : Sl W W.heap.size A1 (bytesL L1)) (b1 : ∀ z ∈ L1, IntKind.u8.has z) (m1 : L1.length ≤ maxLen) (hE : Env W) :
    Calls Tryd.prog 3 #[.slice A0 L0.length c0, .slice A1 L1.length c1] W fun e w' => e = .returned (.bool true) ∧ Below W.heap.size W w' := by
  have hE' := Lib.hid hE
  have S0 := Lib.hid s0
  have U0 := Lib.hid b0
  have S1 := Lib.hid s1
  have U1 := Lib.hid b1
  clear hE s0 s1 b0 b1
  by_cases hlong : 1048576 < L0.length ∨ 1048576 < L1.length
  · have hb : (decide (1048576 < L0.length) || decide (1048576 < L1.length)) = true := by simpa using hlong
    have hL : ∀ w, Calls Tryd.prog 4 #[.slice A0 L0.length c0, .slice A1 L1.length c1] w fun e w' => e = .returned (.bool true) ∧ w = w' := fun w => by have h := long8_any L0.length L1.length c0 c1 A0 A1 w m0 m1; rw [hb] at h; exact h
    revert W
    intro w hE' S0 S1
    go_enter Tryd.func3, Tryd.ntmps3
    go_wp2_with (go_at_call 4; refine (hL _).mono ?_; rintro e w' ⟨rfl, rfl⟩)
    go_ret
    exact ⟨rfl, Below.refl _ _⟩
  have hb : (decide (1048576 < L0.length) || decide (1048576 < L1.length)) = false := by simpa using hlong
  have hL : ∀ w, Calls Tryd.prog 4 #[.slice A0 L0.length c0, .slice A1 L1.length c1] w fun e w' => e = .returned (.bool false) ∧ w = w' := fun w => by have h := long8_any L0.length L1.length c0 c1 A0 A1 w m0 m1; rw [hb] at h; exact h
  have n0 : L0.length ≤ 1048576 := by omega
  have n1 : L1.length ≤ 1048576 := by omega
  clear hb hlong
  revert W
  intro w hE' S0 S1
  go_enter Tryd.func3, Tryd.ntmps3
  go_wp2_with (go_at_call 4; refine (hL _).mono ?_; rintro e w' ⟨rfl, rfl⟩)
  refine (r8At_any L1 A1 c1 w.heap.size 0 26 _ S1.out U1.out n1 (by omega) (by omega)).mono ?_
  rintro e w' ⟨r, hr, rfl, rfl⟩
  have hcv := conv_byteM w (65 + r)
  obtain ⟨x, hx, rfl, hlt⟩ := lt_of hr
  rw [hlt] at hcv
  have hBa : Below w.heap.size w (w.alloc (.cells #[.int .u8 (65 + (x : Int))] 5)) := by go_grown
  have hMo := fun w => impl_MorseOf x hx w
  have hLe := fun w => impl_LetterOf x hx w
  have hLi := fun w => impl_Like x hx w
  have hML := fun w => impl_MLen x hx w
  have hsl := sg_len hx
  have hsB := sgB_size x
  have hle1 : (lt x).size = 1 := rfl
  have hg1 : goodL [(x, false)] := fun p hp => by rw [List.mem_singleton] at hp; rw [hp]; exact hx
  have he1 : endL [(x, false)] := ⟨[], x, rfl⟩
  have hS1 := Lib.hid (fun (u : Nat) (hu : 1 ≤ u ∧ u ≤ 50) (w : World) (hE : Env w) => impl_Send [(x, false)] u 87 hg1 he1 (show 1 ≤ 12 by omega) hu (by show colorM ⟨#[87]⟩ = true; unfold colorM; rw [ByteArray.toList_eq]; decide) w hE)
  have hcl := Lib.hid (fun u : Nat => chunk_len u 87 (sg x) (fun e => by rw [e] at hsl; simp at hsl))
  have hsc := Lib.hid (fun u : Nat => sum_chunk u 87 (sg x) (fun e => by rw [e] at hsl; simp at hsl))
  have hso := Lib.hid (fun u : Nat => send_one u 87 hx)
  have hcb := Lib.hid (fun (u : Nat) (hu : 1 ≤ u ∧ u ≤ 50) => chunk_bd (c := 87) hu (sg x))
  have hmlv : Hid (mlen (sg x) = (sg x).length - 1 + unSum (sg x)) := Lib.hid rfl
  have hml12 : mlen (sg x) ≤ 20 := by have := unSum_le (sg x); have := hmlv.out; omega
  have hlxS : Hid (txS [(x, false)] = lt x) := Lib.hid rfl
  obtain ⟨l, hl⟩ : ∃ l, lt x = l := ⟨_, rfl⟩
  obtain ⟨S, hS⟩ : ∃ S, sgB x = S := ⟨_, rfl⟩
  obtain ⟨ml, hml⟩ : ∃ ml, mlen (sg x) = ml := ⟨_, rfl⟩
  rw [hl] at hcv hMo hLe hML hle1 hlxS
  rw [hS] at hMo hLe hLi hsB
  rw [hml] at hML hml12 hmlv
  clear hl hS hml hlt hr hg1 he1
  go_wp2_with (go_at_call 6; refine (hMo _).mono ?_; rintro e w' ⟨rfl, rfl⟩)
  refine (hLe _).mono ?_
  rintro e w2 ⟨rfl, hb2⟩
  have hB2 := bnext hBa hb2
  go_wp2_with fail
  refine (hLi _).mono ?_
  rintro e w3 ⟨lk, hk1, hk2, rfl, hb3⟩
  have hB3 := bnext hB2 hb3
  go_wp2_with fail
  refine (hML _).mono ?_
  rintro e w4 ⟨rfl, hb4⟩
  have hB4 := bnext hB3 hb4
  clear hBa hb2 hB2 hb3 hB3 hb4 hMo hLe hLi hML hcv
  have hS14 := Lib.hid (S1.out.below hB4)
  go_wp2_with fail
  refine (r8At_any L1 A1 c1 w.heap.size 1 50 _ hS14.out U1.out n1 (by omega) (by omega)).mono ?_
  rintro e w' ⟨r, hr, rfl, rfl⟩
  obtain ⟨q, hq, rfl⟩ : ∃ q : Nat, q < 50 ∧ r = q := ⟨r.toNat, by omega, by omega⟩
  obtain ⟨u, hu1, hu2⟩ : ∃ u : Nat, 1 + (q : Int) = u ∧ (1 ≤ u ∧ u ≤ 50) := ⟨1 + q, by omega, by omega⟩
  have hSd := hS1.out u hu2
  rw [hlxS.out] at hSd
  have hE4 := Lib.hid (hE'.out.on hB4)
  clear hr hS14 S1 hS1
  go_wp2_with fail
  try rw [hu1]
  refine (hSd _ hE4.out).mono ?_
  rintro e w5 ⟨v, rfl, hb5, hown⟩
  rw [hso.out u] at hown
  have hJl := hcl.out u
  have hJs := hsc.out u
  have hJb := hcb.out u hu2
  have hB5 := bnext hB4 hb5
  obtain ⟨J, hJ⟩ : ∃ J, chunk u 87 (sg x) = J := ⟨_, rfl⟩
  rw [hJ] at hown hJl hJs hJb
  rw [← hmlv.out] at hJs
  obtain ⟨A2, c2, rfl, hslJ⟩ := (Rs.of_owns hown).sl
  obtain ⟨b, o, rfl, hb, he⟩ := jc_w hslJ (Nat.le_refl _) (show 0 < J.length by omega)
  have he' := Lib.hid he
  have hJb' := Lib.hid hJb
  have hSJ := sumJ_le J (fun p hp => (hJb p hp).2)
  have hmu2 : ml * u ≤ 20 * 50 := Nat.mul_le_mul hml12 hu2.2
  have hmu : (ml : Int) * (u : Int) = ((ml * u : Nat) : Int) := by rw [Int.natCast_mul]
  obtain ⟨y, hy⟩ : ∃ y, ml * u = y := ⟨_, rfl⟩
  rw [hy] at hmu hmu2 hJs
  have hlen : ((J.length : Int) == 2 * (S.size : Int) - 1) = true := beq_iff_eq.2 (by omega)
  have hJ8 : J.length ≤ 7 := by omega
  have hJs' := Lib.hid hJs
  have hS5 := hB5.size
  clear hown hslJ he hJb hSd hJ hcl hsc hso hcb hb5 hJs hy hSJ hml12 hmlv hB4 hE4
  go_wp2_with fail
  go_loopw [17, 18] (fun sv iv wr => ∃ k : Nat, sv = .int .i64 ((sumJ (J.take k) : Nat) : Int) ∧ iv = .int .i64 k ∧ k ≤ J.length ∧ w5 = wr) (fun _ iv _ => J.length - (intOf iv).toNat)
  case atStart => exact ⟨0, rfl, rfl, Nat.zero_le _, rfl⟩
  case round =>
    obtain ⟨k, rfl, rfl, hk, rfl⟩ := hrel
    by_cases hlt : k < J.length
    · have d1 := (he'.out w5 (Below.refl _ _) k hlt).2
      have hbd := hJb'.out _ (List.getElem_mem hlt)
      have hst := Lib.hid (sumJ_step J k hlt)
      have hsb := sumJ_le (J.take k) (fun p hp => (hJb'.out p (List.mem_of_mem_take hp)).2)
      have hkl : (J.take k).length = k := by rw [List.length_take]; omega
      rw [hkl] at hsb
      obtain ⟨a, ha⟩ : ∃ a, (J[k]).2 = a := ⟨_, rfl⟩
      obtain ⟨T, hT⟩ : ∃ T, sumJ (J.take k) = T := ⟨_, rfl⟩
      rw [ha] at d1 hbd hst
      rw [hT] at hst hsb ⊢
      clear ha hT hkl
      go_wp2_with fail
      go_roundw
      case rel => exact ⟨k + 1, by rw [hst.out]; go_num, by go_num, by omega, by first | rfl | trivial⟩
      case measure => simp [intOf]; omega
    · obtain rfl : k = J.length := by omega
      rw [List.take_length, hJs'.out]
      clear he' hJb' hb
      go_wp2_with fail
      refine (r8_text L0 A0 c0 w.heap.size _ (S0.out.below hB5) hB5.size U0.out n0).mono ?_
      rintro e w6 ⟨LS, ⟨hg, he, hl12⟩, rfl, hb6⟩
      have hB6 := bnext hB5 hb6
      have hE6 := Lib.hid (hE'.out.on hB6)
      have hS2 := Lib.hid (fun (w : World) (hE : Env w) => impl_Send LS u 82 hg he hl12 hu2 (by show colorM ⟨#[82]⟩ = true; unfold colorM; rw [ByteArray.toList_eq]; decide) w hE)
      have hbd := send_bd (u := u) (c := 82) hg he hl12
      have hR2 := Lib.hid (fun (A : Option Addr) (c : Nat) (w : World) (hE : Env w) (hs : Sl w w.heap.size A (jc (send u 82 (txt LS)).1)) => impl_ReadSig LS (send u 82 (txt LS)).1 A c w.heap.size u hg he hl12 hu2 (rd_send u hg he) hbd.1 hbd.2 w hE hs (Nat.le_refl _))
      have htz := txS_size LS
      obtain ⟨R, hR⟩ : ∃ R, txS LS = R := ⟨_, rfl⟩
      obtain ⟨K, hK⟩ : ∃ K, (send u 82 (txt LS)).1 = K := ⟨_, rfl⟩
      rw [hR] at hS2 hR2 htz ⊢
      rw [hK] at hS2 hR2 hbd
      clear hR hK hg he hb6
      have hS6 := hB6.size
      go_wp2_with fail
      refine (hS2.out _ hE6.out).mono ?_
      rintro e w7 ⟨v, rfl, hb7, hown⟩
      have hB7 := bnext hB6 hb7
      obtain ⟨A3, c3, rfl, hslK⟩ := (Rs.of_owns hown).sl
      have hslK' := Lib.hid hslK
      have hE7 := Lib.hid (hE'.out.on hB7)
      clear hown hslK hb7 hS2
      go_wp2_with fail
      refine (hR2.out A3 c3 _ hE7.out hslK'.out).mono ?_
      rintro e w8 ⟨rfl, hb8⟩
      have hB8 := bnext hB7 hb8
      clear hb8 hR2
      go_wp2_with fail
      go_ret
      exact ⟨by simp, hB8⟩

theorem lifted (os : Os) (started : os.Started) (H : Type) (enc : TypeId × Value → H) :
    ReturnsInHanded {} Tryd.checked os 3 .any (fun w args => (Rows.fnMorseSpec.pre enc Tryd.prog Tryd.f3 Rows.fnMorseRow.domain false w args ∧ laidMetH Tryd.prog Rows.fnMorseRow.laid w) ∧ sizedMet enc Tryd.prog Tryd.f3 (OpenSpec.ofChange Rows.fnMorseSpec) false w args) (Rows.fnMorseSpec.post enc Tryd.prog Tryd.f3 false true false false) := by
  refine change_sh (C := Tryd.checked) (X := fun w _ => laidMetH Tryd.prog Rows.fnMorseRow.laid w) (fun _ _ _ hh h => h.of_heap hh) own started (by kernel_rfl) Tryd.func3
    (ChangeSpec.witness_shaped (enc := enc) (C := Tryd.checked) (os := os) (X := fun w _ => laidMetH Tryd.prog Rows.fnMorseRow.laid w) false (World.laidAll Tryd.prog os Rows.fnMorseRow.laid) #[.slice none 0 0, .slice none 0 0] 8 (World.laidAll_os _ _ _)
      (World.shaped_of_ZipB (by kernel_rfl) (by kernel_rfl)) (by kernel_rfl) (by kernel_rfl) (by kernel_rfl)
      (by rw [MakeChecks.laidMetH_plain _ _ _ (by kernel_rfl)]; exact laidMet_laidAll _ (by kernel_rfl) (by kernel_rfl))) ?_
  intro W base args ds gs before hval0 hW hcnd _ hsh hL _
  have hval : ∀ (j : Nat) t v, Tryd.f3.params[j]? = some t → args[j]? = some v → Value.okWide Tryd.prog W .any base t v := hval0
  have hW' := hW
  obtain ⟨p, q, hA0, hV, rfl, hfz, hnd⟩ := hW
  have hA : DataW.TrodAll enc Tryd.prog W 0 (fun _ => true) true Tryd.f3.params.toList args.toList ds p := hA0
  rw [Tryd.params3] at hA hval
  obtain ⟨v0, vs0, d0, ds0, p0, q0, hargs, rfl, rfl, h0, r0⟩ := trodAll_cons hA
  obtain ⟨v1, vs1, d1, ds1, p1, q1, rfl, rfl, rfl, h1, r1⟩ := trodAll_cons r0
  obtain ⟨rfl, rfl, rfl⟩ := trodAll_nil r1
  obtain rfl : args = #[v0, v1] := by cases args; simp_all
  have g0 := h0
  have g1 := h1
  obtain ⟨rfl, rfl⟩ := trodVars_none hV
  clear hA0 hval0
  simp only [List.append_nil] at hW'
  have hlt : ∀ x ∈ p0 ++ (p1), x.block < W.heap.size := fun x hx => by simpa using hW'.lt x (by simpa using hx)
  obtain ⟨fu0, hf0⟩ := h0
  obtain ⟨A0, c0, L0, hv0, s0, b0, m0⟩ := open_row8 Tryd.underlying22 Tryd.underlying5 (by kernel_rfl) hf0
  obtain ⟨va0, vl0, vc0, rfl⟩ := Go.WideShapes.okWide_slice Tryd.underlying22 (hval 0 22 _ rfl rfl)
  obtain ⟨rfl, rfl, rfl⟩ : A0 = va0 ∧ L0.length = vl0 ∧ c0 = vc0 := by have := hv0; simp [Value.cells] at this; exact ⟨this.1.symm, this.2.1.symm, this.2.2.symm⟩
  obtain ⟨fu1, hf1⟩ := h1
  obtain ⟨A1, c1, L1, hv1, s1, b1, m1⟩ := open_row8 Tryd.underlying22 Tryd.underlying5 (by kernel_rfl) hf1
  obtain ⟨va1, vl1, vc1, rfl⟩ := Go.WideShapes.okWide_slice Tryd.underlying22 (hval 1 22 _ rfl rfl)
  obtain ⟨rfl, rfl, rfl⟩ : A1 = va1 ∧ L1.length = vl1 ∧ c1 = vc1 := by have := hv1; simp [Value.cells] at this; exact ⟨this.1.symm, this.2.1.symm, this.2.2.symm⟩
  refine (walk W A0 c0 L0 s0 b0 m0 A1 c1 L1 s1 b1 m1 (env_of hsh hL)).mono fun e W' ⟨he, hg⟩ => ?_
  subst he
  exact ⟨_, rfl, post_below (pa := _) hW' (trodAll_cons_mk (shut_bool Tryd.underlying4 _) trodAll_mk0) (trodAll_cons_mk (Below.trod laidOut (by kernel_rfl) (of_decide_eq_true (by kernel_rfl)) g0 hg (fun x hx => hlt x (by simp [hx]))) (trodAll_cons_mk (Below.trod laidOut (by kernel_rfl) (of_decide_eq_true (by kernel_rfl)) g1 hg (fun x hx => hlt x (by simp [hx]))) trodAll_mk0)) rfl (by simp) hg⟩

theorem over : Rows.fnMorseRow.holds Tryd.pinned (OpenSpec.ofChange Rows.fnMorseSpec) :=
  OpenClaim.holds_of_wide 3 Tryd.f3 rfl rfl rfl rfl rfl rfl rfl ⟨rfl, rfl, rfl, rfl, rfl⟩ rfl rfl rfl rfl rfl (by kernel_rfl) Tryd.func3 (by kernel_rfl)
    (of_decide_eq_true (by kernel_rfl)) (by unfold Func.isWrapper; first | (rw [if_pos (by decide +kernel)]; kernel_rfl) | (rw [if_neg (by decide +kernel)]; exact ⟨rfl, rfl⟩))
    (fun os started H enc _ => lifted os started H enc)

theorem proved : Rows.FnMorseCardSaid :=
  Claim7.holds_tied_plain_at .later [] [.data, .pinned] true (true, "91e57c36c76285d80b35c66e80f3bf2d3e3d21169d53f1d910aff363be915755") false over (fun _ h => by cases h) (by kernel_rfl) (fun _ h => by cases h) fnMorse_row_tie rfl ⟨rfl, rfl⟩ (by kernel_rfl) rfl
    (fun f fn hf hfn => by
      obtain rfl : f = 3 := Option.some.inj ((show Tryd.prog.funcNamed "loop.example/g00953/laws.FnMorse" = some 3 by kernel_rfl).symm.trans hf) |>.symm
      obtain rfl : fn = Tryd.f3 := (Option.some.inj (Tryd.func3.symm.trans hfn)).symm
      exact ⟨by kernel_rfl, fun j t ht => by
        rw [Tryd.params3] at ht
        have hm : t ∈ [22, 22] := by simpa using Array.mem_of_getElem? ht
        have hall : ([22, 22].all fun u => !Tryd.prog.wantsStandIn u) = true := by kernel_rfl
        exact (show Tryd.prog.wantsStandIn t = false by simpa using List.all_eq_true.1 hall t hm)⟩)
    (by kernel_rfl)
#print axioms proved
end fnMorse

end Go.Proofs.YtpnffdkkmibchaaDoor
