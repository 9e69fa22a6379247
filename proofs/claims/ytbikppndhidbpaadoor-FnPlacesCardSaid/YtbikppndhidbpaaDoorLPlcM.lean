/-
  FnPlaces: distances are symmetric and satisfy the inequality of triangles up to their rounding, points between two ends are the same from both ends, and the nearest point is nearest; the text of a point is read back. Under no condition; the library's variables read as their texts lay them (the card ties them).
-/
import Derived.Test.YtbikppndhidbpaaDoorBase
import Derived.Test.YtbikppndhidbpaaDoorFlat
import Derived.Test.YtbikppndhidbpaaDoorRdL
import Derived.Test.YtbikppndhidbpaaDoorRdD
import Derived.Test.YtbikppndhidbpaaDoorTexts
import Derived.Test.YtbikppndhidbpaaDoorPlc
import Derived.Test.YtbikppndhidbpaaDoorPlD
import Derived.Test.YtbikppndhidbpaaDoorEnv
/-
  Contracts of the laws' own helpers that choose numbers by bytes. Under the conditions that each states.
-/
set_option linter.unusedVariables false
set_option linter.unnecessarySimpa false
set_option maxRecDepth 100000
set_option linter.unusedSimpArgs false
namespace Go.Proofs.YtbikppndhidbpaaDoor
open Go.RowKit BigFrame

theorem b10Long_any (n c : Nat) (A : Option Addr) (w : World) (hn : n ≤ maxLen) : Calls Tryd.prog 16 #[.slice A n c] w fun e w' => e = .returned (.bool (decide (1048576 < n))) ∧ w = w' := by
  have hn2 : n ≤ 9223372036854775807 := by simpa [maxLen, IntKind.max, IntKind.bits, IntKind.signed] using hn
  by_cases h : 1048576 < n
  · go_enter Tryd.func16, Tryd.ntmps16
    go_wp2
    go_ret
    exact ⟨ret_bool (by simp; omega), rfl⟩
  · go_enter Tryd.func16, Tryd.ntmps16
    go_wp2
    go_ret
    exact ⟨ret_bool (by simp; omega), rfl⟩
end Go.Proofs.YtbikppndhidbpaaDoor

/-
  Rows of bytes that came in. Under the conditions that each states.
-/
set_option linter.unusedVariables false
set_option linter.unnecessarySimpa false
set_option maxRecDepth 100000
set_option linter.unusedSimpArgs false
namespace Go.Proofs.YtbikppndhidbpaaDoor
open Go.RowKit BigFrame Go.Deep

def bytesL (L : List Int) : List Value := L.map (Value.int .u8)
section
variable {H : Type} {enc : TypeId × Value → H} {P : Program} {w : World} {spare : Nat → Bool} {held : Bool}
theorem trod_one_u8 {i : TypeId} (hi : P.underlying i = some (.int .u8)) {m : Nat} {c : List Value} {y : DataW H × List MemPlace} {b : Nat} (h : DataW.trod enc P w b spare held m i c = some y) : ∃ a : Int, c = [.int .u8 a] ∧ IntKind.u8.has a := by
  have h' := h
  obtain ⟨z, e, _, q⟩ := DataW.trod_int hi h'
  exact ⟨z, e, by simpa [Lit.wf, IntKind.has] using q⟩
theorem flat_u8 (L : List Int) : flat (fun a : Int => [Value.int .u8 a]) L = bytesL L := by
  induction L with
  | nil => rfl
  | cons a L ih => rw [flat_cons, ih]; rfl
theorem open_row8 {t i : TypeId} {fuel : Nat} {cs : List Value} {x : DataW H × List MemPlace} (ht : P.underlying t = some (.slice i)) (hi : P.underlying i = some (.int .u8)) (hC : P.cellsOf i = 1) (h : DataW.trod enc P w 0 spare held fuel t cs = some x) :
    ∃ (A : Option Addr) (c : Nat) (L : List Int), cs = [.slice A L.length c] ∧ Sl w w.heap.size A (bytesL L) ∧ (∀ a ∈ L, IntKind.u8.has a) ∧ L.length ≤ maxLen := by
  obtain ⟨A, c, L, e, hs, hb, hl⟩ := open_flat (fun a : Int => [Value.int .u8 a]) IntKind.u8.has (fun _ => rfl) (by decide) ht hC (fun _ _ _ h => trod_one_u8 hi h) h
  exact ⟨A, c, L, e, by rw [← flat_u8]; exact hs, hb, hl⟩
end
end Go.Proofs.YtbikppndhidbpaaDoor

/-
  Plain words: the numeral of a number is read back; parts that are joined are parted again. Under the conditions that each states.
-/
set_option linter.unusedVariables false
set_option maxRecDepth 100000
set_option linter.unusedSimpArgs false
namespace Go.Proofs.YtbikppndhidbpaaDoor
open Go.RowKit BigFrame

theorem dig_len : ∀ (n u : Nat), u < 10 ^ n → (Lib.decDigits u).length ≤ n + 1
  | 0, u, h => by
    have : u = 0 := by simpa using h
    subst this
    rw [Lib.decDigits]; simp
  | n + 1, u, h => by
    rw [Lib.decDigits]
    split
    · simp
    · rw [List.length_append, List.length_singleton]
      have h2 : u / 10 < 10 ^ n := by rw [Nat.pow_succ] at h; omega
      have := dig_len n (u / 10) h2
      omega
theorem itoa_len {v : Int} (h1 : -100000000000000000 < v) (h2 : v < 100000000000000000) : (trimL (Lib.itoa v)).length ≤ 18 := by
  unfold Lib.itoa
  by_cases hv : v < 0
  · rw [if_pos hv]
    have ht : trimL (45 :: Lib.decDigits v.natAbs) = Lib.decDigits v.natAbs := rfl
    rw [ht]
    have := dig_len 17 v.natAbs (by have : (10 : Nat) ^ 17 = 100000000000000000 := rfl; omega)
    omega
  · rw [if_neg hv]
    have ht : trimL (Lib.decDigits v.toNat) = Lib.decDigits v.toNat := by unfold trimL; rw [if_neg (dig_no45 _)]
    rw [ht]
    have := dig_len 17 v.toNat (by have : (10 : Nat) ^ 17 = 100000000000000000 := rfl; omega)
    omega
theorem num_back {v : Int} (h1 : -100000000000000000 < v) (h2 : v < 100000000000000000) : numOk (Lib.itoa v) = true ∧ numV (Lib.itoa v) = v := itoa_num (itoa_len h1 h2)
theorem dec_back {v : Int} (h1 : -100000000000000000 < v) (h2 : v < 100000000000000000) : rdOk (decT v) = true ∧ rdV (decT v) = v := by
  obtain ⟨n1, n2⟩ := num_back h1 h2
  have e : (decT v).data.toList = Lib.itoa v := rfl
  have hk : rdOk (decT v) = true := by
    show numOk (decT v).data.toList = true
    rw [e]; exact n1
  refine ⟨hk, ?_⟩
  unfold rdV
  rw [e, n1]
  exact n2
theorem split_parts (c : UInt8) : ∀ (P : List (List UInt8)), P ≠ [] → (∀ p ∈ P, c ∉ p) → splitL c (Lib.join P [c]) = P
  | [], h, _ => absurd rfl h
  | [p], _, h => by
    rw [Lib.join_one, split_free (h p (by simp))]
  | p :: q :: P, _, h => by
    have ih := split_parts c (q :: P) (by simp) (fun x hx => h x (by simp at hx ⊢; right; exact hx))
    have e : Lib.join (p :: q :: P) [c] = p ++ c :: Lib.join (q :: P) [c] := by
      rw [Lib.join_cons, Lib.join_cons]
      simp [Lib.joinTail]
    rw [e, split_app _ (h p (by simp)), ih]
theorem owns_below {w w' : World} {B : Nat} {e : TypeId} {sz : Nat} {v : Value} {n : Nat} {xs : List Value} (h : w.ownsRow B e sz v n xs) (hb : Below w.heap.size w w') : w'.ownsRow B e sz v n xs := by
  refine World.ownsRow.kept (row := none) h ⟨hb.os, hb.tape, hb.output, hb.size, fun k hk _ => hb.block k hk⟩ ?_
  cases v.ownBlock
  · exact .inl rfl
  · exact .inr (by simp)
end Go.Proofs.YtbikppndhidbpaaDoor

/-
  Plain words: the texts of points and dangers are read back as what they are texts of. Under the conditions that each states.
-/
set_option linter.unusedVariables false
set_option maxRecDepth 100000
set_option linter.unusedSimpArgs false
namespace Go.Proofs.YtbikppndhidbpaaDoor
open Go.RowKit BigFrame

theorem dec_list (v : Int) : (decT v).data.toList = Lib.itoa v := rfl
theorem dec_bk {v : Int} (h1 : -100000000000000000 < v) (h2 : v < 100000000000000000) : numOk (decT v).data.toList = true ∧ numV (decT v).data.toList = v ∧ rdV (ba (decT v).data.toList) = v := by
  rw [dec_list]
  obtain ⟨a, b⟩ := num_back h1 h2
  refine ⟨a, b, ?_⟩
  unfold rdV
  rw [ba_list, a, b]
  rfl
theorem pt_list (x y : Int) : (ptT x y).data.toList = (decT x).data.toList ++ 44 :: (decT y).data.toList := by
  unfold ptT
  simp [ByteArray.data_append]
theorem pt_back {x y : Int} (h : vPoint x y = true) : rpOk (ptT x y).data.toList = true ∧ rpX (ptT x y).data.toList = x ∧ rpY (ptT x y).data.toList = y := by
  have hv := vPoint_yes h
  obtain ⟨a1, a2, _⟩ := dec_bk (v := x) (by omega) (by omega)
  obtain ⟨b1, b2, _⟩ := dec_bk (v := y) (by omega) (by omega)
  have hs : splitL 44 (ptT x y).data.toList = [(decT x).data.toList, (decT y).data.toList] := by
    rw [pt_list, split_app _ (num_free a1 44 (by decide) (by decide)), split_free (num_free b1 44 (by decide) (by decide))]
  obtain ⟨e1, e2⟩ := rp_two hs
  have hk : rpOk (ptT x y).data.toList = true := by
    unfold rpOk
    rw [e1, e2, a1, b1, a2, b2, h]
    rfl
  refine ⟨hk, ?_, ?_⟩
  · unfold rpX; rw [hk, e1, a2]; rfl
  · unfold rpY; rw [hk, e2, b2]; rfl
end Go.Proofs.YtbikppndhidbpaaDoor

set_option linter.unusedVariables false
set_option linter.unnecessarySimpa false
set_option maxRecDepth 100000
set_option linter.unusedSimpArgs false
namespace Go.Proofs.YtbikppndhidbpaaDoor
open Go.RowKit BigFrame Go.Deep
theorem gap_facts {a b c d p q : Int} (h : v3 a b c d p q = true) : gapV a b c d p q ≤ dstV a b p q ∧ gapV a b c d p q ≤ dstV c d p q := by
  obtain ⟨h1, h2, h3⟩ := v3_yes h
  have e1 : vPoint2 a b p q = true := by unfold vPoint2; rw [h1, h3]; rfl
  have e2 : vPoint2 c d p q = true := by unfold vPoint2; rw [h2, h3]; rfl
  unfold gapV dstV
  rw [h, e1, e2]
  exact ⟨gap_le_one _ _ _ _ _ _, gap_le_two _ _ _ _ _ _⟩
theorem bet_facts {a b c d i n : Int} (h : betC a b c d i n = 0) : dstV a b c d ≤ dstV a b (betX a b c d i n) (betY a b c d i n) + dstV (betX a b c d i n) (betY a b c d i n) c d + 1 ∧ gapV a b c d (betX a b c d i n) (betY a b c d i n) = 0 := by
  obtain ⟨h1, h2, h3, h4⟩ := bet_ok h
  unfold betX betY
  rw [h]
  simp only [if_true]
  have hin := btw_in (lo := 0) (hi := 200000) (by omega) h4.1 h4.2 (vp_bd h1).1 (vp_bd h1).2 (vp_bd h2).1 (vp_bd h2).2
  have hp : vPoint (btwM a b c d i n).1 (btwM a b c d i n).2 = true := by unfold vPoint; rw [inB_mk hin.1.1 hin.1.2, inB_mk hin.2.1 hin.2.2]; rfl
  constructor
  · have e1 : vPoint2 a b c d = true := by unfold vPoint2; rw [h1, h2]; rfl
    have e2 : vPoint2 a b (btwM a b c d i n).1 (btwM a b c d i n).2 = true := by unfold vPoint2; rw [h1, hp]; rfl
    have e3 : vPoint2 (btwM a b c d i n).1 (btwM a b c d i n).2 c d = true := by unfold vPoint2; rw [h2, hp]; rfl
    unfold dstV
    rw [e1, e2, e3]
    exact dist_tri _ _ _ _ _ _
  · have e1 : v3 a b c d (btwM a b c d i n).1 (btwM a b c d i n).2 = true := by unfold v3; rw [h1, h2, hp]; rfl
    unfold gapV
    rw [e1]
    exact gap_btw h3.1 h4.1 h4.2
theorem c1_has {x : Int} (h : c1B x) : -1 ≤ x ∧ x ≤ 200001 := h
set_option maxHeartbeats 400000 in
theorem fnPlaces.env_of {W : World} (hsh : W.ShapedOpen Tryd.prog) (h : laidMetH Tryd.prog Rows.fnPlacesRow.laid W) : Env W := by
  rw [MakeChecks.laidMetH_plain _ _ _ (by kernel_rfl)] at h
  have hT : Tab W := Lib.tabIs_of_head tabVar (by kernel_rfl) Tryd.underlying190 Tryd.underlying134 (by kernel_rfl) (by kernel_rfl) h.tail.tail
  obtain ⟨a0, s0, hv0, -, -, -⟩ := laid_sentinel h.tail.tail.tail ranVar (by kernel_rfl) Tryd.underlying138 rowErr Tryd.underlying195 Tryd.underlying197 rfl rfl Tryd.underlying9 (by kernel_rfl) (by kernel_rfl)
  obtain ⟨a1, s1, hv1, -, -, -⟩ := laid_sentinel h.tail.tail.tail.tail synVar (by kernel_rfl) Tryd.underlying138 rowErr Tryd.underlying195 Tryd.underlying197 rfl rfl Tryd.underlying9 (by kernel_rfl) (by kernel_rfl)
  exact ⟨hT, ⟨_, _, hv1⟩, ⟨_, _, hv0⟩, cell_of_shapedOpen_int (zero := #[.int .i64 0]) (t := 3) hsh (of_decide_eq_true (by kernel_rfl)) (by kernel_rfl) rfl (by kernel_rfl) (by kernel_rfl) Tryd.underlying3⟩
namespace fnPlaces
open Go.ChangeShapes Go.WideShapes Go.ChangeAt Go.RowKit
set_option linter.unusedVariables false
set_option maxHeartbeats 3200000 in
theorem walk (W : World) (A0 : Option Addr) (c0 : Nat) (L0 : List Int) (s0 : Sl W W.heap.size A0 (bytesL L0)) (b0 : ∀ z ∈ L0, IntKind.u8.has z) (m0 : L0.length ≤ maxLen) (A1 : Option Addr) (c1 : Nat) (L1 : List Int) (s1 : Sl W W.heap.size A1 (bytesL L1)) (b1 : ∀ z ∈ L1, IntKind.u8.has z) (m1 : L1.length ≤ maxLen) (hE : Env W) :
    Calls Tryd.prog 4 #[.slice A0 L0.length c0, .slice A1 L1.length c1] W fun e w' => e = .returned (.bool true) ∧ Below W.heap.size W w' := by
  by_cases hl0 : 1048576 < L0.length
  · go_enter Tryd.func4, Tryd.ntmps4
    go_wp2_with (first | (go_at_call 16; refine (b10Long_any _ _ _ _ (by assumption)).mono ?_; rintro e w' ⟨rfl, rfl⟩))
    go_ret
    exact ⟨rfl, Below.refl _ _⟩
  by_cases hl1 : 1048576 < L1.length
  · go_enter Tryd.func4, Tryd.ntmps4
    go_wp2_with (first | (go_at_call 16; refine (b10Long_any _ _ _ _ (by assumption)).mono ?_; rintro e w' ⟨rfl, rfl⟩))
    go_ret
    exact ⟨rfl, Below.refl _ _⟩
  have S0 := Lib.hid s0
  have S1 := Lib.hid s1
  have U0 := Lib.hid b0
  have U1 := Lib.hid b1
  have hE' := Lib.hid hE
  clear s0 s1 b0 b1 hE
  go_enter Tryd.func4, Tryd.ntmps4
  go_wp2_with (go_at_call 16; refine (b10Long_any _ _ _ _ (by assumption)).mono ?_; rintro e w' ⟨rfl, rfl⟩)
  refine (draw_btw L0 _ _ W.heap.size _ S0.out (Nat.le_refl _) U0.out (by omega)).mono ?_
  rintro e w1 ⟨ax, ay, bx, by_, i, n, ha, hb, hi, hn, rfl, hb1⟩
  go_upto_region 4 with fail
  refine wp_atB ?_
  intro w2 hw2
  have hB2 : Below W.heap.size W w2 := by rw [hw2]; exact bnext hb1 (by go_grown)
  obtain ⟨ga, hga⟩ : ∃ ga, w1.heap.size = ga := ⟨_, rfl⟩
  have pa : PtB w2 ga ax ay := by rw [hw2, ← hga]; exact ⟨by simp; omega, by simp [go_sem], by simp [go_sem]⟩
  have pb : PtB w2 (ga + 1) bx by_ := by rw [hw2, ← hga]; exact ⟨by simp, by simp [go_sem], by simp [go_sem]⟩
  clear hw2 hb1
  have hbet := fun w => impl_Bet ax ay bx by_ i n w
  have hbet2 := fun w => impl_Bet bx by_ ax ay (n - i) n w
  obtain ⟨y1, y2, y3⟩ := bet_symm ax ay bx by_ i n
  simp only [y1, y2, y3] at hbet2
  have hfac := Lib.hid (@bet_facts ax ay bx by_ i n)
  have hd1 := fun w => impl_DistV ax ay bx by_ w
  have hd2 := fun w => impl_DistV bx by_ ax ay w
  simp only [dstV_symm bx by_ ax ay] at hd2
  obtain ⟨C, hC⟩ : ∃ C, betC ax ay bx by_ i n = C := ⟨_, rfl⟩
  obtain ⟨X, hX⟩ : ∃ X, betX ax ay bx by_ i n = X := ⟨_, rfl⟩
  obtain ⟨Y, hY⟩ : ∃ Y, betY ax ay bx by_ i n = Y := ⟨_, rfl⟩
  simp only [hC, hX, hY] at hbet hbet2 hfac
  have hd3 := fun w => impl_DistV ax ay X Y w
  have hd4 := fun w => impl_DistV X Y bx by_ w
  have hgp := fun w => impl_GapV ax ay bx by_ X Y w
  have bd1 := dstV_bd ax ay bx by_
  have bd3 := dstV_bd ax ay X Y
  have bd4 := dstV_bd X Y bx by_
  generalize dstV ax ay bx by_ = D at hd1 hd2 hfac bd1
  generalize dstV ax ay X Y = D3 at hd3 hfac bd3
  generalize dstV X Y bx by_ = D4 at hd4 hfac bd4
  generalize gapV ax ay bx by_ X Y = G at hgp hfac
  clear hC hX hY y1 y2 y3
  obtain ⟨_, x0, x1⟩ := id pa
  obtain ⟨_, x2, x3⟩ := id pb
  try rw [hga]
  go_wp2_with fail
  refine (hbet _).mono ?_
  rintro e w3 ⟨rfl, hb3⟩
  have hB3 := bnext hB2 hb3
  replace pa := pa.on hb3
  replace pb := pb.on hb3
  clear hb3 x0 x1 x2 x3 hbet hB2
  go_upto_region 5 with fail
  refine wp_atB ?_
  intro w4 hw4
  have hb4 : Below w3.heap.size w3 w4 := by rw [hw4]; go_grown
  obtain ⟨gp, hgpe⟩ : ∃ gp, w3.heap.size = gp := ⟨_, rfl⟩
  have pp : PtB w4 gp X Y := by rw [hw4, ← hgpe]; exact ⟨by simp, by simp, by simp⟩
  have hB4 := bnext hB3 hb4
  replace pa := pa.on hb4
  replace pb := pb.on hb4
  clear hw4 hb4 hB3
  obtain ⟨_, x0, x1⟩ := id pa
  obtain ⟨_, x2, x3⟩ := id pb
  try rw [hgpe]
  go_wp2_with fail
  refine (hbet2 _).mono ?_
  rintro e w5 ⟨rfl, hb5⟩
  have hB5 := bnext hB4 hb5
  replace pa := pa.on hb5
  replace pb := pb.on hb5
  replace pp := pp.on hb5
  clear hb5 x0 x1 x2 x3 hbet2 hB4
  go_upto_region 6 with fail
  refine wp_atB ?_
  intro w6 hw6
  have hb6 : Below w5.heap.size w5 w6 := by rw [hw6]; go_grown
  obtain ⟨gq, hgq⟩ : ∃ gq, w5.heap.size = gq := ⟨_, rfl⟩
  have pq : PtB w6 gq X Y := by rw [hw6, ← hgq]; exact ⟨by simp, by simp, by simp⟩
  have hB6 := bnext hB5 hb6
  replace pa := pa.on hb6
  replace pb := pb.on hb6
  replace pp := pp.on hb6
  clear hw6 hb6 hB5
  obtain ⟨_, x0, x1⟩ := id pa
  obtain ⟨_, x2, x3⟩ := id pb
  obtain ⟨_, x4, x5⟩ := id pp
  obtain ⟨_, x6, x7⟩ := id pq
  try rw [hgq]
  clear hga hgpe hgq
  go_cut [71] (fun v wx => v = .bool false ∧ ∃ wz, wz = wx ∧ Below w6.heap.size w6 wz)
  case first =>
    refine wp_region_grew (by kernel_rfl) (by kernel_rfl) ?_
    repeat (first | (go_big_quiet_step ((first | (go_at_call 19; with_reducible exact grew_of (hd1 _)) | (go_at_call 19; with_reducible exact grew_of (hd2 _))))) | (quiet_step ((first | (go_at_call 19; with_reducible exact grew_of (hd1 _)) | (go_at_call 19; with_reducible exact grew_of (hd2 _))))))
    refine wpQuiet_nil ?_
    rintro _ ⟨⟨w7, hb7⟩, rfl⟩
    try dsimp only
    obtain ⟨hc7, hf7⟩ := bcell hb7
    go_wp2_with fail
    go_meet
    exact ⟨rfl, _, rfl, hb7⟩
  case rest =>
    obtain ⟨rfl, w7, rfl, hb7⟩ := hcut
    have hB7 := bnext hB6 hb7
    replace pa := pa.on hb7
    replace pb := pb.on hb7
    replace pp := pp.on hb7
    clear hb7 x0 x1 x2 x3 x4 x5 x6 x7 hd2 hB6 pq
    obtain ⟨_, x0, x1⟩ := id pa
    obtain ⟨_, x2, x3⟩ := id pb
    obtain ⟨_, x4, x5⟩ := id pp
    go_upto_region 8 with fail
    go_cut [94] (fun v wx => v = .bool false ∧ ∃ wz, wz = wx ∧ Below w7.heap.size w7 wz)
    case first =>
      by_cases hC : C = 0
      · subst hC
        obtain ⟨f1, rfl⟩ := hfac.out rfl
        have f2 : decide (D3 + D4 + 1 < D) = false := decide_eq_false (by omega)
        clear hfac f1
        refine wp_region_grew (by kernel_rfl) (by kernel_rfl) ?_
        repeat (first | (go_big_quiet_step ((first | (go_at_call 20; exact grew_of (hgp _)) | (go_at_call 19; with_reducible exact grew_of (hd1 _)) | (go_at_call 19; with_reducible exact grew_of (hd3 _)) | (go_at_call 19; with_reducible exact grew_of (hd4 _))))) | (quiet_step ((first | (go_at_call 20; exact grew_of (hgp _)) | (go_at_call 19; with_reducible exact grew_of (hd1 _)) | (go_at_call 19; with_reducible exact grew_of (hd3 _)) | (go_at_call 19; with_reducible exact grew_of (hd4 _))))))
        refine wpQuiet_nil ?_
        rintro _ ⟨⟨w8, hb8⟩, rfl⟩
        try dsimp only
        obtain ⟨hc8, hf8⟩ := bcell hb8
        go_wp2_with fail
        go_meet
        exact ⟨rfl, _, rfl, hb8⟩
      · have hC2 : (C == 0) = false := beq_eq_false_iff_ne.2 hC
        clear hfac
        refine wp_region_grew (by kernel_rfl) (by kernel_rfl) ?_
        repeat (first | (go_big_quiet_step (fail)) | (quiet_step (fail)))
        refine wpQuiet_nil ?_
        rintro _ ⟨⟨w8, hb8⟩, rfl⟩
        try dsimp only
        obtain ⟨hc8, hf8⟩ := bcell hb8
        go_wp2_with fail
        go_meet
        exact ⟨rfl, _, rfl, hb8⟩
    case rest =>
      obtain ⟨rfl, w8, rfl, hb8⟩ := hcut
      have hB8 := bnext hB7 hb8
      clear hb8 x0 x1 x2 x3 x4 x5 hd1 hd3 hd4 hgp hB7 hfac pa pb pp bd1 bd3 bd4 hi hn ha hb
      go_wp2_with fail
      refine (draw_dts L1 _ _ W.heap.size _ (S1.out.below hB8) hB8.size U1.out (by omega)).mono ?_
      rintro e w9 ⟨x1, y1, x2, y2, x3, y3, hx1, hx2, hx3, rfl, hb9⟩
      have hB9 := bnext hB8 hb9
      go_upto_region 11 with fail
      refine wp_atB ?_
      intro w10 hw10
      have hB10 : Below W.heap.size W w10 := by rw [hw10]; exact bnext hB9 (by go_grown)
      obtain ⟨ga, hga⟩ : ∃ ga, w9.heap.size = ga := ⟨_, rfl⟩
      have pa : PtB w10 ga x1 y1 := by rw [hw10, ← hga]; exact ⟨by simp; omega, by simp [go_sem], by simp [go_sem]⟩
      have pb : PtB w10 (ga + 1) x2 y2 := by rw [hw10, ← hga]; exact ⟨by simp, by simp [go_sem], by simp [go_sem]⟩
      have pp : PtB w10 (ga + 1 + 1) x3 y3 := by rw [hw10, ← hga]; exact ⟨by simp, by simp [go_sem], by simp [go_sem]⟩
      clear hw10 hb9 hB9 hB8
      have hg1 := fun w => impl_GapV x1 y1 x2 y2 x3 y3 w
      have hg2 := fun w => impl_GapV x2 y2 x1 y1 x3 y3 w
      simp only [gapV_symm x2 y2 x1 y1 x3 y3] at hg2
      have hs1 := fun w => impl_SidV x1 y1 x2 y2 x3 y3 w
      have hs2 := fun w => impl_SidV x2 y2 x1 y1 x3 y3 w
      simp only [sidV_symm x1 y1 x2 y2 x3 y3] at hs1
      have sb := sidV_bd x2 y2 x1 y1 x3 y3
      have gb := gapV_nonneg x1 y1 x2 y2 x3 y3
      have gf := Lib.hid (@gap_facts x1 y1 x2 y2 x3 y3)
      have hd1 := fun w => impl_DistV x1 y1 x3 y3 w
      have hd2 := fun w => impl_DistV x2 y2 x3 y3 w
      have hv1 := fun w => spec_VPoint x1 y1 w
      have hv2 := fun w => spec_VPoint x2 y2 w
      have hv3 := fun w => spec_VPoint x3 y3 w
      generalize gapV x1 y1 x2 y2 x3 y3 = G at hg1 hg2 gb gf
      generalize sidV x2 y2 x1 y1 x3 y3 = T at hs1 hs2 sb
      generalize dstV x1 y1 x3 y3 = D1 at hd1 gf
      generalize dstV x2 y2 x3 y3 = D2 at hd2 gf
      have gf' : Hid (vPoint x1 y1 = true → vPoint x2 y2 = true → vPoint x3 y3 = true → G ≤ D1 ∧ G ≤ D2) := Lib.hid (fun a b c => gf.out (by unfold v3; rw [a, b, c]; rfl))
      generalize vPoint x1 y1 = u1 at hv1 gf'
      generalize vPoint x2 y2 = u2 at hv2 gf'
      generalize vPoint x3 y3 = u3 at hv3 gf'
      have gb2 : decide (G < 0) = false := decide_eq_false (by omega)
      clear gf
      obtain ⟨_, z0, z1⟩ := id pa
      obtain ⟨_, z2, z3⟩ := id pb
      obtain ⟨_, z4, z5⟩ := id pp
      try rw [hga]
      go_wp2_with fail
      refine (hg1 _).mono ?_
      rintro e w11 ⟨rfl, hb11⟩
      have hB11 := bnext hB10 hb11
      replace pa := pa.on hb11
      replace pb := pb.on hb11
      replace pp := pp.on hb11
      clear hb11 z0 z1 z2 z3 z4 z5 hg1 hB10 hga
      obtain ⟨_, z0, z1⟩ := id pa
      obtain ⟨_, z2, z3⟩ := id pb
      obtain ⟨_, z4, z5⟩ := id pp
      go_upto_region 12 with fail
      go_cut [152] (fun v wx => v = .bool false ∧ ∃ wz, wz = wx ∧ Below w11.heap.size w11 wz)
      case first =>
        cases u1
        · refine wp_region_grew (by kernel_rfl) (by kernel_rfl) ?_
          repeat (first | (go_big_quiet_step ((first | (go_at_call 20; with_reducible exact grew_of (hg2 _)) | (go_at_call 23; with_reducible exact grew_of (hs1 _)) | (go_at_call 23; with_reducible exact grew_of (hs2 _)) | (go_at_call 22; with_reducible exact grew_of (hv1 _)) | (go_at_call 22; with_reducible exact grew_of (hv2 _)) | (go_at_call 22; with_reducible exact grew_of (hv3 _)) | (go_at_call 19; with_reducible exact grew_of (hd1 _)) | (go_at_call 19; with_reducible exact grew_of (hd2 _))))) | (quiet_step ((first | (go_at_call 20; with_reducible exact grew_of (hg2 _)) | (go_at_call 23; with_reducible exact grew_of (hs1 _)) | (go_at_call 23; with_reducible exact grew_of (hs2 _)) | (go_at_call 22; with_reducible exact grew_of (hv1 _)) | (go_at_call 22; with_reducible exact grew_of (hv2 _)) | (go_at_call 22; with_reducible exact grew_of (hv3 _)) | (go_at_call 19; with_reducible exact grew_of (hd1 _)) | (go_at_call 19; with_reducible exact grew_of (hd2 _))))))
          refine wpQuiet_nil ?_
          rintro _ ⟨⟨w9, hb9⟩, rfl⟩
          try dsimp only
          obtain ⟨hc9, hf9⟩ := bcell hb9
          go_wp2_with fail
          go_meet
          exact ⟨rfl, _, rfl, hb9⟩
        cases u2
        · refine wp_region_grew (by kernel_rfl) (by kernel_rfl) ?_
          repeat (first | (go_big_quiet_step ((first | (go_at_call 20; with_reducible exact grew_of (hg2 _)) | (go_at_call 23; with_reducible exact grew_of (hs1 _)) | (go_at_call 23; with_reducible exact grew_of (hs2 _)) | (go_at_call 22; with_reducible exact grew_of (hv1 _)) | (go_at_call 22; with_reducible exact grew_of (hv2 _)) | (go_at_call 22; with_reducible exact grew_of (hv3 _)) | (go_at_call 19; with_reducible exact grew_of (hd1 _)) | (go_at_call 19; with_reducible exact grew_of (hd2 _))))) | (quiet_step ((first | (go_at_call 20; with_reducible exact grew_of (hg2 _)) | (go_at_call 23; with_reducible exact grew_of (hs1 _)) | (go_at_call 23; with_reducible exact grew_of (hs2 _)) | (go_at_call 22; with_reducible exact grew_of (hv1 _)) | (go_at_call 22; with_reducible exact grew_of (hv2 _)) | (go_at_call 22; with_reducible exact grew_of (hv3 _)) | (go_at_call 19; with_reducible exact grew_of (hd1 _)) | (go_at_call 19; with_reducible exact grew_of (hd2 _))))))
          refine wpQuiet_nil ?_
          rintro _ ⟨⟨w9, hb9⟩, rfl⟩
          try dsimp only
          obtain ⟨hc9, hf9⟩ := bcell hb9
          go_wp2_with fail
          go_meet
          exact ⟨rfl, _, rfl, hb9⟩
        cases u3
        · refine wp_region_grew (by kernel_rfl) (by kernel_rfl) ?_
          repeat (first | (go_big_quiet_step ((first | (go_at_call 20; with_reducible exact grew_of (hg2 _)) | (go_at_call 23; with_reducible exact grew_of (hs1 _)) | (go_at_call 23; with_reducible exact grew_of (hs2 _)) | (go_at_call 22; with_reducible exact grew_of (hv1 _)) | (go_at_call 22; with_reducible exact grew_of (hv2 _)) | (go_at_call 22; with_reducible exact grew_of (hv3 _)) | (go_at_call 19; with_reducible exact grew_of (hd1 _)) | (go_at_call 19; with_reducible exact grew_of (hd2 _))))) | (quiet_step ((first | (go_at_call 20; with_reducible exact grew_of (hg2 _)) | (go_at_call 23; with_reducible exact grew_of (hs1 _)) | (go_at_call 23; with_reducible exact grew_of (hs2 _)) | (go_at_call 22; with_reducible exact grew_of (hv1 _)) | (go_at_call 22; with_reducible exact grew_of (hv2 _)) | (go_at_call 22; with_reducible exact grew_of (hv3 _)) | (go_at_call 19; with_reducible exact grew_of (hd1 _)) | (go_at_call 19; with_reducible exact grew_of (hd2 _))))))
          refine wpQuiet_nil ?_
          rintro _ ⟨⟨w9, hb9⟩, rfl⟩
          try dsimp only
          obtain ⟨hc9, hf9⟩ := bcell hb9
          go_wp2_with fail
          go_meet
          exact ⟨rfl, _, rfl, hb9⟩
        obtain ⟨f1, f2⟩ := gf'.out rfl rfl rfl
        have f3 : decide (D1 < G) = false := decide_eq_false (by omega)
        have f4 : decide (D2 < G) = false := decide_eq_false (by omega)
        refine wp_region_grew (by kernel_rfl) (by kernel_rfl) ?_
        repeat (first | (go_big_quiet_step ((first | (go_at_call 20; with_reducible exact grew_of (hg2 _)) | (go_at_call 23; with_reducible exact grew_of (hs1 _)) | (go_at_call 23; with_reducible exact grew_of (hs2 _)) | (go_at_call 22; with_reducible exact grew_of (hv1 _)) | (go_at_call 22; with_reducible exact grew_of (hv2 _)) | (go_at_call 22; with_reducible exact grew_of (hv3 _)) | (go_at_call 19; with_reducible exact grew_of (hd1 _)) | (go_at_call 19; with_reducible exact grew_of (hd2 _))))) | (quiet_step ((first | (go_at_call 20; with_reducible exact grew_of (hg2 _)) | (go_at_call 23; with_reducible exact grew_of (hs1 _)) | (go_at_call 23; with_reducible exact grew_of (hs2 _)) | (go_at_call 22; with_reducible exact grew_of (hv1 _)) | (go_at_call 22; with_reducible exact grew_of (hv2 _)) | (go_at_call 22; with_reducible exact grew_of (hv3 _)) | (go_at_call 19; with_reducible exact grew_of (hd1 _)) | (go_at_call 19; with_reducible exact grew_of (hd2 _))))))
        refine wpQuiet_nil ?_
        rintro _ ⟨⟨w9, hb9⟩, rfl⟩
        try dsimp only
        obtain ⟨hc9, hf9⟩ := bcell hb9
        go_wp2_with fail
        go_meet
        exact ⟨rfl, _, rfl, hb9⟩
      case rest =>
        obtain ⟨rfl, w12, rfl, hb12⟩ := hcut
        have hB12 := bnext hB11 hb12
        clear hb12 z0 z1 z2 z3 z4 z5 hg2 hs1 hs2 hd1 hd2 hv1 hv2 hv3 hB11 gf' gb gb2 sb pa pb pp hx1 hx2 hx3
        go_wp2_with fail
        refine (draw_near L1 _ _ W.heap.size _ (S1.out.below hB12) hB12.size U1.out (by omega)).mono ?_
        rintro e w13 ⟨P, v, x, y, hxy, hP, hPl, rfl, hb13, hR⟩
        have hB13 := bnext hB12 hb13
        obtain ⟨A2, c2, rfl, hsl⟩ := hR.sl
        clear hb13 hB12 hR
        go_upto_region 15 with fail
        refine wp_atB ?_
        intro w14 hw14
        have hb14 : Below w13.heap.size w13 w14 := by rw [hw14]; go_grown
        obtain ⟨gc, hgc⟩ : ∃ gc, w13.heap.size = gc := ⟨_, rfl⟩
        have pc : PtB w14 gc x y := by rw [hw14, ← hgc]; exact ⟨by simp, by simp, by simp⟩
        have hB14 := bnext hB13 hb14
        replace hsl := (hsl.below hb14).more hb14.size
        clear hw14 hb14 hB13
        obtain ⟨_, q0, q1⟩ := id pc
        try rw [hgc]
        go_wp2_with fail
        refine (impl_Nearest P A2 c2 _ x y _ hsl (Nat.le_refl _) (by omega)).mono ?_
        rintro e w15 ⟨k, cd, rfl, hb15, hcase⟩
        have hB15 := bnext hB14 hb15
        replace pc := pc.on hb15
        replace hsl := (hsl.below hb15).more hb15.size
        clear hb15 hB14 q0 q1 hgc
        obtain ⟨_, q0, q1⟩ := id pc
        rcases hcase with ⟨hcd, rfl⟩ | ⟨rfl, hn⟩
        · have hc2 : (cd != 0) = true := by simpa using hcd
          go_wp2_with fail
          go_ret
          exact ⟨rfl, hB15⟩
        obtain ⟨hv, hall, m, rfl, hm, hmin⟩ := hn
        have hmi : (m : Int) < (P.length : Int) := by omega
        have hmin' := Lib.hid hmin
        have hall' := Lib.hid hall
        have hsl' := Lib.hid hsl
        have hback := Lib.hid (pt_back hv)
        clear hmin hall hsl
        have hxyb := Lib.hid (vp_bd hv)
        have hv' := Lib.hid hv
        clear hv
        go_wp2_with fail
        go_loopw [21] (fun i wr => ∃ q : Nat, i = .int .i64 q ∧ q ≤ P.length ∧ Below w15.heap.size w15 wr) (fun i _ => P.length - (intOf i).toNat)
        case atStart => exact ⟨0, rfl, Nat.zero_le _, Below.refl _ _⟩
        case round =>
          obtain ⟨q, rfl, hq, hbr⟩ := hrel
          have hBr := bnext hB15 hbr
          have hslr := (hsl'.out.below hbr).more hbr.size
          replace pc := pc.on hbr
          clear q0 q1 hB15
          obtain ⟨hpz, q0, q1⟩ := id pc
          by_cases hlt : q < P.length
          · obtain ⟨g, o, rfl, hg, he⟩ := Sl.elem RPoint.len (by decide) hslr hlt
            obtain ⟨g', o', e', _, he2⟩ := Sl.elem RPoint.len (by decide) hslr hm
            cases e'
            have hm1 := hall'.out _ (List.getElem_mem hlt)
            have hm2 := hall'.out _ (List.getElem_mem hm)
            have e1 : sqP P x y q = sqM (P[q]).f0 (P[q]).f1 x y := by unfold sqP; rw [List.getD_eq_getElem?_getD, List.getElem?_eq_getElem hlt]; rfl
            have e2 : sqP P x y m = sqM (P[m]).f0 (P[m]).f1 x y := by unfold sqP; rw [List.getD_eq_getElem?_getD, List.getElem?_eq_getElem hm]; rfl
            have hle := hmin'.out q hlt
            rw [e1, e2] at hle
            obtain ⟨a, ha⟩ : ∃ a, P[q] = a := ⟨_, rfl⟩
            obtain ⟨d, hd⟩ : ∃ d, P[m] = d := ⟨_, rfl⟩
            rw [ha] at he hm1 hle
            rw [hd] at he2 hm2 hle
            clear ha hd e1 e2
            have d0 : wr.cell? ⟨g, o + q * 2, none⟩ = some (.int .i64 a.f0) := by have := he 0 _ rfl; simpa [Nat.add_assoc] using this
            have d1 : wr.cell? ⟨g, o + q * 2 + 1, none⟩ = some (.int .i64 a.f1) := by have := he 1 _ rfl; simpa [Nat.add_assoc] using this
            have n0 : wr.cell? ⟨g, o + m * 2, none⟩ = some (.int .i64 d.f0) := by have := he2 0 _ rfl; simpa [Nat.add_assoc] using this
            have n1 : wr.cell? ⟨g, o + m * 2 + 1, none⟩ = some (.int .i64 d.f1) := by have := he2 1 _ rfl; simpa [Nat.add_assoc] using this
            clear he he2
            have hs1 := fun w => spec_DistV a.f0 a.f1 x y w hm1 hv'.out
            have hs2 := fun w => spec_DistV d.f0 d.f1 x y w hm2 hv'.out
            have hdl : distM d.f0 d.f1 x y ≤ distM a.f0 a.f1 x y := rootM_mono hle
            generalize distM a.f0 a.f1 x y = s1 at hs1 hdl
            generalize distM d.f0 d.f1 x y = s2 at hs2 hdl
            have hdf : decide (s1 < s2) = false := decide_eq_false (by omega)
            have hgw : g < wr.heap.size := by omega
            have hki : (q : Int) < (P.length : Int) := by omega
            clear hle hm1 hm2 hdl
            go_wp2_with fail
            refine wp_region_grew (by kernel_rfl) (by kernel_rfl) ?_
            repeat (first | (go_big_quiet_step ((first | (go_at_call 26; with_reducible exact grew_of (hs1 _)) | (go_at_call 26; with_reducible exact grew_of (hs2 _))))) | (quiet_step ((first | (go_at_call 26; with_reducible exact grew_of (hs1 _)) | (go_at_call 26; with_reducible exact grew_of (hs2 _))))))
            refine wpQuiet_nil ?_
            rintro _ ⟨⟨w9, hb9⟩, rfl⟩
            try dsimp only
            obtain ⟨hc9, hf9⟩ := bcell hb9
            go_wp2_with fail
            go_roundw
            case rel => exact ⟨q + 1, by go_num, by omega, bnext hbr hb9⟩
            case measure => simp [intOf]; omega
          · obtain rfl : q = P.length := by omega
            have hhx : IntKind.i64.has x := has_of (by have := hxyb.out; omega)
            have hhy : IntKind.i64.has y := has_of (by have := hxyb.out; omega)
            have hps := ptT_size hhx hhy
            go_wp2_with fail
            refine (impl_ptText x y hv'.out hhx hhy _ (hE'.out.on hBr).tab).mono ?_
            rintro e w16 ⟨rfl, hb16⟩
            have hB16 := bnext hBr hb16
            replace pc := pc.on hb16
            clear hb16 hBr q0 q1 hbr
            obtain ⟨_, q0, q1⟩ := id pc
            go_wp2_with fail
            refine (impl_RPt (ptT x y) (by omega) _ (hE'.out.on hB16)).mono ?_
            rintro e w17 ⟨rfl, hb17⟩
            rw [hback.out.1, hback.out.2.1, hback.out.2.2]
            have hB17 := bnext hB16 hb17
            replace pc := pc.on hb17
            clear hb17 hB16 q0 q1
            obtain ⟨_, q0, q1⟩ := id pc
            go_wp2_with fail
            go_ret
            exact ⟨by simp, bnext hB17 (by go_grown)⟩

theorem lifted (os : Os) (started : os.Started) (H : Type) (enc : TypeId × Value → H) :
    ReturnsInHanded {} Tryd.checked os 4 .any (fun w args => (Rows.fnPlacesSpec.pre enc Tryd.prog Tryd.f4 Rows.fnPlacesRow.domain false w args ∧ laidMetH Tryd.prog Rows.fnPlacesRow.laid w) ∧ sizedMet enc Tryd.prog Tryd.f4 (OpenSpec.ofChange Rows.fnPlacesSpec) false w args) (Rows.fnPlacesSpec.post enc Tryd.prog Tryd.f4 false true false false) := by
  refine change_sh (C := Tryd.checked) (X := fun w _ => laidMetH Tryd.prog Rows.fnPlacesRow.laid w) (fun _ _ _ hh h => h.of_heap hh) own started (by kernel_rfl) Tryd.func4
    (ChangeSpec.witness_shaped (enc := enc) (C := Tryd.checked) (os := os) (X := fun w _ => laidMetH Tryd.prog Rows.fnPlacesRow.laid w) false (World.laidAll Tryd.prog os Rows.fnPlacesRow.laid) #[.slice none 0 0, .slice none 0 0] 8 (World.laidAll_os _ _ _)
      (World.shaped_of_ZipB (by kernel_rfl) (by kernel_rfl)) (by kernel_rfl) (by kernel_rfl) (by kernel_rfl)
      (by rw [MakeChecks.laidMetH_plain _ _ _ (by kernel_rfl)]; exact laidMet_laidAll _ (by kernel_rfl) (by kernel_rfl))) ?_
  intro W base args ds gs before hval0 hW hcnd _ hsh hL _
  have hval : ∀ (j : Nat) t v, Tryd.f4.params[j]? = some t → args[j]? = some v → Value.okWide Tryd.prog W .any base t v := hval0
  have hW' := hW
  obtain ⟨p, q, hA0, hV, rfl, hfz, hnd⟩ := hW
  have hA : DataW.TrodAll enc Tryd.prog W 0 (fun _ => true) true Tryd.f4.params.toList args.toList ds p := hA0
  rw [Tryd.params4] at hA hval
  obtain ⟨v0, vs0, d0, ds0, p0, q0, hargs, rfl, rfl, h0, r0⟩ := trodAll_cons hA
  obtain ⟨v1, vs1, d1, ds1, p1, q1, rfl, rfl, rfl, h1, r1⟩ := trodAll_cons r0
  obtain ⟨rfl, rfl, rfl⟩ := trodAll_nil r1
  obtain rfl : args = #[v0, v1] := by cases args; simp_all
  have g0 := h0
  have g1 := h1
  obtain ⟨rfl, rfl⟩ := trodVars_none hV
  clear hA0 hval0
  simp only [List.append_nil] at hW'
  have hlt : ∀ x ∈ p0 ++ (p1), x.block < W.heap.size := fun x hx => by simpa using hW'.lt x (by simpa using hx)
  obtain ⟨fu0, hf0⟩ := h0
  obtain ⟨A0, c0, L0, hv0, s0, b0, m0⟩ := open_row8 Tryd.underlying22 Tryd.underlying5 (by kernel_rfl) hf0
  obtain ⟨va0, vl0, vc0, rfl⟩ := Go.WideShapes.okWide_slice Tryd.underlying22 (hval 0 22 _ rfl rfl)
  obtain ⟨rfl, rfl, rfl⟩ : A0 = va0 ∧ L0.length = vl0 ∧ c0 = vc0 := by have := hv0; simp [Value.cells] at this; exact ⟨this.1.symm, this.2.1.symm, this.2.2.symm⟩
  obtain ⟨fu1, hf1⟩ := h1
  obtain ⟨A1, c1, L1, hv1, s1, b1, m1⟩ := open_row8 Tryd.underlying22 Tryd.underlying5 (by kernel_rfl) hf1
  obtain ⟨va1, vl1, vc1, rfl⟩ := Go.WideShapes.okWide_slice Tryd.underlying22 (hval 1 22 _ rfl rfl)
  obtain ⟨rfl, rfl, rfl⟩ : A1 = va1 ∧ L1.length = vl1 ∧ c1 = vc1 := by have := hv1; simp [Value.cells] at this; exact ⟨this.1.symm, this.2.1.symm, this.2.2.symm⟩
  refine (walk W A0 c0 L0 s0 b0 m0 A1 c1 L1 s1 b1 m1 (env_of hsh hL)).mono fun e W' ⟨he, hg⟩ => ?_
  subst he
  exact ⟨_, rfl, post_below (pa := _) hW' (trodAll_cons_mk (shut_bool Tryd.underlying4 _) trodAll_mk0) (trodAll_cons_mk (Below.trod laidOut (by kernel_rfl) (of_decide_eq_true (by kernel_rfl)) g0 hg (fun x hx => hlt x (by simp [hx]))) (trodAll_cons_mk (Below.trod laidOut (by kernel_rfl) (of_decide_eq_true (by kernel_rfl)) g1 hg (fun x hx => hlt x (by simp [hx]))) trodAll_mk0)) rfl (by simp) hg⟩

theorem over : Rows.fnPlacesRow.holds Tryd.pinned (OpenSpec.ofChange Rows.fnPlacesSpec) :=
  OpenClaim.holds_of_wide 4 Tryd.f4 rfl rfl rfl rfl rfl rfl rfl ⟨rfl, rfl, rfl, rfl, rfl⟩ rfl rfl rfl rfl rfl (by kernel_rfl) Tryd.func4 (by kernel_rfl)
    (of_decide_eq_true (by kernel_rfl)) (by unfold Func.isWrapper; first | (rw [if_pos (by decide +kernel)]; kernel_rfl) | (rw [if_neg (by decide +kernel)]; exact ⟨rfl, rfl⟩))
    (fun os started H enc _ => lifted os started H enc)

theorem proved : Rows.FnPlacesCardSaid :=
  Claim7.holds_tied_plain_at .later [] [.data, .data, .data, .sentinel, .sentinel] true (true, "e54f5df195bea41d14e2fbc87614cac5e33ca53fba120000ed3c95be4f5f1514") true over (fun _ h => by cases h) (by kernel_rfl) (fun _ h => by cases h) fnPlaces_row_tie rfl ⟨rfl, rfl⟩ (by kernel_rfl) rfl
    (fun f fn hf hfn => by
      obtain rfl : f = 4 := Option.some.inj ((show Tryd.prog.funcNamed "loop.example/g00953/laws.FnPlaces" = some 4 by kernel_rfl).symm.trans hf) |>.symm
      obtain rfl : fn = Tryd.f4 := (Option.some.inj (Tryd.func4.symm.trans hfn)).symm
      exact ⟨by kernel_rfl, fun j t ht => by
        rw [Tryd.params4] at ht
        have hm : t ∈ [22, 22] := by simpa using Array.mem_of_getElem? ht
        have hall : ([22, 22].all fun u => !Tryd.prog.wantsStandIn u) = true := by kernel_rfl
        exact (show Tryd.prog.wantsStandIn t = false by simpa using List.all_eq_true.1 hall t hm)⟩)
    (by kernel_rfl)
#print axioms proved
end fnPlaces

end Go.Proofs.YtbikppndhidbpaaDoor
