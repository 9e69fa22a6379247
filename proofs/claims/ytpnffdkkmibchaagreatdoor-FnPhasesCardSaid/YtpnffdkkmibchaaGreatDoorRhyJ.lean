/-
  Contracts of the joining of equal tenths to phases: the program's and the reference's. Each under the conditions that it states.
-/
import Derived.Test.YtpnffdkkmibchaaGreatDoorRhyL
import Derived.Laws.BytesString
import Derived.Laws.OwnMore
set_option linter.unusedVariables false
set_option linter.unnecessarySimpa false
set_option maxRecDepth 100000
set_option linter.unusedSimpArgs false
namespace Go.Proofs.YtpnffdkkmibchaaGreatDoor
open Go.RowKit BigFrame Go.Deep

theorem conv_byteR (w : World) (x : Int) : (convert 22 9 (.slice (some ⟨w.heap.size, 0, none⟩) 1 1)).run Tryz.prog (w.alloc (.cells #[.int .u8 x] 5)) = .ok (.string ⟨#[UInt8.ofNat x.toNat]⟩) (w.alloc (.cells #[.int .u8 x] 5)) := by
  rw [run_convert_bytes_string _ _ _ 5 _ _ _ Tryz.underlying22 Tryz.underlying5 Tryz.underlying9]
  rw [run_bytesToString _ _ _ _ [x] (by simp [go_sem])]
  rfl
theorem spec_Name (c : Nat) (hc : c < 256) (w : World) : Calls Tryz.prog 82 #[.int .u8 c] w fun e w' => e = .returned (.string (nm c)) ∧ Below w.heap.size w w' := by
  by_cases h : c = 0
  · subst h
    exact spec_Name0 w
  · have hm : Hid (nm c = ⟨#[UInt8.ofNat ((c : Int)).toNat]⟩) := Lib.hid (by unfold nm; rw [if_neg h]; rfl)
    have hcv := conv_byteR w (c : Int)
    have hne : ((c : Int) == 0) = false := beq_eq_false_iff_ne.2 (by omega)
    obtain ⟨z, hz⟩ : ∃ z : Int, (c : Int) = z := ⟨_, rfl⟩
    rw [hz] at hm hcv hne ⊢
    clear hz h
    go_enter Tryz.func82, Tryz.ntmps82
    go_wp2
    go_ret
    exact ⟨ret_str hm.out.symm, by go_grown⟩
def jc (J : List (Nat × Nat)) : List Value := J.flatMap fun p => [.string (nm p.1), .int .i64 (p.2 : Int)]
theorem jc_len (J : List (Nat × Nat)) : (jc J).length = J.length * 2 := by
  induction J with
  | nil => rfl
  | cons p J ih => unfold jc at *; rw [List.flatMap_cons, List.length_append, ih, List.length_cons]; simp; omega
theorem jc_snoc (J : List (Nat × Nat)) (c m : Nat) : jc (J ++ [(c, m)]) = jc J ++ [.string (nm c), .int .i64 (m : Int)] := by unfold jc; rw [List.flatMap_append]; rfl
theorem jc_last (o : List (Nat × Nat)) (c m : Nat) : (jc (o ++ [(c, m)]))[o.length * 2]? = some (.string (nm c)) ∧ (jc (o ++ [(c, m)]))[o.length * 2 + 1]? = some (.int .i64 (m : Int)) := by
  rw [jc_snoc]
  constructor
  · rw [List.getElem?_append_right (by rw [jc_len]; omega), jc_len]; simp
  · rw [List.getElem?_append_right (by rw [jc_len]; omega), jc_len]; simp
theorem jc_set (o : List (Nat × Nat)) (c m : Nat) : (jc (o ++ [(c, m)])).set (o.length * 2 + 1) (.int .i64 ((m + 1 : Nat) : Int)) = jc (o ++ [(c, m + 1)]) := by
  rw [jc_snoc, jc_snoc, List.set_append_right _ _ (by rw [jc_len]; omega), jc_len]
  simp
/-- The runs of the first j letters from number i on. -/
def runs (f : Nat → Nat) (i j : Nat) : List (Nat × Nat) := joinM ((List.range j).map (rt f i))
theorem runs_step (f : Nat → Nat) (i j : Nat) : runs f i (j + 1) = joinStep (runs f i j) (f (i + j)) := by
  unfold runs
  rw [List.range_succ, List.map_append, List.map_cons, List.map_nil, join_snoc]; rfl
theorem runs_len (f : Nat → Nat) (i j : Nat) : (runs f i j).length ≤ j := by
  have := join_len ((List.range j).map (rt f i))
  simpa [runs] using this
theorem join_codes {W : List Nat} (h : codes W) : ∀ p ∈ joinM W, p.1 < 256 := by
  have key : ∀ (V : List Nat) (out : List (Nat × Nat)), codes V → (∀ p ∈ out, p.1 < 256) → ∀ p ∈ V.foldl joinStep out, p.1 < 256 := fun V => by
    induction V with
    | nil => intro out _ h; exact h
    | cons c V ih =>
      intro out hV hout
      rw [List.foldl_cons]
      refine ih _ (fun x hx => hV x (List.mem_cons_of_mem _ hx)) (fun p hp => ?_)
      rcases step_cases out c with ⟨o, m, e1, e2⟩ | ⟨_, e2⟩
      · rw [e2] at hp
        rcases List.mem_append.1 hp with h1 | h1
        · exact hout p (by rw [e1]; exact List.mem_append_left _ h1)
        · rw [List.mem_singleton] at h1; rw [h1]; exact hV c List.mem_cons_self
      · rw [e2] at hp
        rcases List.mem_append.1 hp with h1 | h1
        · exact hout p h1
        · rw [List.mem_singleton] at h1; rw [h1]; exact hV c List.mem_cons_self
  exact key W [] h (fun p hp => by cases hp)
theorem runs_codes {W : List Nat} (h : codes W) (i j : Nat) : ∀ p ∈ runs (cyc W) i j, p.1 < 256 :=
  join_codes (fun c hc => by
    obtain ⟨k, _, rfl⟩ := List.mem_map.1 hc
    exact codes_cyc h _)
theorem join_cnt (W : List Nat) : ∀ p ∈ joinM W, p.2 ≤ W.length := by
  have key : ∀ (V : List Nat) (N : Nat) (out : List (Nat × Nat)), (∀ p ∈ out, p.2 ≤ N) → ∀ p ∈ V.foldl joinStep out, p.2 ≤ N + V.length := fun V => by
    induction V with
    | nil => intro N out h; exact h
    | cons c V ih =>
      intro N out hout p hp
      rw [List.foldl_cons] at hp
      have := ih (N + 1) (joinStep out c) (fun p hp => by
        rcases step_cases out c with ⟨o, m, e1, e2⟩ | ⟨_, e2⟩
        · rw [e2] at hp
          rcases List.mem_append.1 hp with h1 | h1
          · have := hout p (by rw [e1]; exact List.mem_append_left _ h1); omega
          · rw [List.mem_singleton] at h1
            have := hout (c, m) (by rw [e1]; simp)
            rw [h1]; simp at this ⊢; omega
        · rw [e2] at hp
          rcases List.mem_append.1 hp with h1 | h1
          · have := hout p h1; omega
          · rw [List.mem_singleton] at h1; rw [h1]; simp) p hp
      rw [List.length_cons]; omega
  intro p hp
  have := key W 0 [] (fun p hp => by cases hp) p hp
  omega
theorem runs_cnt (f : Nat → Nat) (i j : Nat) : ∀ p ∈ runs f i j, p.2 ≤ j := fun p hp => by
  have := join_cnt ((List.range j).map (rt f i)) p hp
  simpa using this
theorem infoPh : (Tryz.prog.info? 51).map (fun i => (i.zero, i.size, i.bytes)) = some (some (.agg #[.string ⟨#[]⟩, .int .i64 0]), 2, 24) := by kernel_rfl
set_option maxHeartbeats 3200000 in
theorem spec_Join (W : List Nat) (A : Option Addr) (c B i : Nat) (w : World) (hs : Sl w B A (bts W)) (hB : B ≤ w.heap.size) (hcd : codes W) (hW : 0 < W.length) (hl : W.length ≤ 1000) (hi' : i ≤ 1000) : Calls Tryz.prog 61 #[.slice A W.length c, .int .i64 i] w fun e w' => ∃ v, e = .returned v ∧ Below w.heap.size w w' ∧ w'.ownsRow w.heap.size 51 2 v (runs (cyc W) i W.length).length (jc (runs (cyc W) i W.length)) := by
  obtain ⟨b, o, rfl, hb, he⟩ := bts_w hs hB hW
  have he' := Lib.hid he
  have hcd' := Lib.hid hcd
  obtain ⟨i0, hi, ie0, ie1, ie2⟩ := info_parts infoPh
  clear hs he hcd
  go_enter Tryz.func61, Tryz.ntmps61
  go_wp2
  have hO0 : (w.alloc (.cells #[] 51)).ownsRow w.heap.size 51 2 (.slice (some ⟨w.heap.size, 0, none⟩) 0 0) (runs (cyc W) i 0).length (jc (runs (cyc W) i 0)) := World.ownsRow_made w #[] 0 (Nat.le_refl _) (Nat.zero_le _) rfl
  have hBa : Below w.heap.size w (w.alloc (.cells #[] 51)) := by go_grown
  go_loopw [5, 6] (fun v q wr => ∃ j : Nat, q = .int .i64 j ∧ j ≤ W.length ∧ Below w.heap.size w wr ∧ wr.ownsRow w.heap.size 51 2 v (runs (cyc W) i j).length (jc (runs (cyc W) i j))) (fun _ q _ => W.length - (intOf q).toNat)
  case atStart => exact ⟨0, rfl, Nat.zero_le _, hBa, hO0⟩
  case round =>
    clear hBa hO0
    obtain ⟨j, rfl, hj, hB1, hown⟩ := hrel
    by_cases hlt : j < W.length
    · obtain ⟨r, hr⟩ : ∃ r, (i + j) % W.length = r := ⟨_, rfl⟩
      have hrl : r < W.length := by rw [← hr]; exact Nat.mod_lt _ hW
      have m1 : ((i : Int) + (j : Int)).tmod (W.length : Int) = (r : Int) := tmod_nat (a := i + j) hr
      have m3 : ((i : Int) + (j : Int)) % (W.length : Int) = (r : Int) := by rw [← hr]; simp
      have dp := he'.out wr hB1 r hrl
      rw [show cyc W r = cyc W (i + j) by rw [← hr, cyc_mod]] at dp
      have hc6 := codes_cyc hcd'.out (i + j)
      have hst := Lib.hid (runs_step (cyc W) i j)
      have hjl := runs_len (cyc W) i j
      have hjcd := Lib.hid (runs_codes hcd'.out i j)
      have hjcnt := Lib.hid (runs_cnt (cyc W) i j)
      obtain ⟨x, hx⟩ : ∃ x, cyc W (i + j) = x := ⟨_, rfl⟩
      obtain ⟨J, hJ⟩ : ∃ J, runs (cyc W) i j = J := ⟨_, rfl⟩
      rw [hx] at dp hc6 hst
      rw [hJ] at hown hst hjl hjcd hjcnt
      clear hr hx hJ
      go_wp2_with fail
      refine (spec_Name x hc6 _).mono ?_
      rintro e w1 ⟨rfl, hb1⟩
      have hB2 := bnext hB1 hb1
      replace hown := owns_onR hown hb1
      clear dp hb1 hB1 m1 m3
      rcases step_cases J x with ⟨P, m, rfl, e2⟩ | ⟨hno, e2⟩
      · have hjl2 : P.length + 1 ≤ j := by simpa using hjl
        clear hjl
        have hmc : m ≤ j := hjcnt.out (x, m) (by simp)
        have hlen : (P ++ [(x, m)]).length = P.length + 1 := by simp
        have hlast := jc_last P (x) m
        rw [hlen] at hown
        obtain ⟨hll, ⟨rfl, h0⟩ | ⟨g, cap, cur, rfl, hgb, hh, hcs, hcm, hsz, hat⟩⟩ := id hown
        · omega
        clear hll hh hcs hcm hsz hat
        have z0 := hown.cellAt (P.length * 2) (by omega)
        have z1 := hown.cellAt (P.length * 2 + 1) (by omega)
        rw [hlast.1] at z0
        rw [hlast.2] at z1
        have z2 := hown.frozenAt (P.length * 2 + 1)
        have hgl := (hown.lt g rfl).2
        clear hlast hlen
        have hset := Lib.hid (jc_set P x m)
        have hJ2 := Lib.hid e2
        obtain ⟨q, hq⟩ : ∃ q, P.length = q := ⟨_, rfl⟩
        have hq' := Lib.hid hq
        rw [hq] at hown z0 z1 z2 hjl2 hset ⊢
        obtain ⟨s, hs1⟩ : ∃ s, nm x = s := ⟨_, rfl⟩
        rw [hs1] at z0 ⊢
        clear hq hs1 e2
        have hown := Lib.hid hown
        go_wp2_with fail
        go_roundw
        case rel =>
          have hstd := hown.out.stored (q * 2 + 1) (.int .i64 ((m + 1 : Nat) : Int))
          have hnum : ((m : Int) + 1) = ((m + 1 : Nat) : Int) := by omega
          refine ⟨j + 1, by go_num, by omega, ?_, ?_⟩
          · first | exact hB2.setCell hgb _ | go_grown
          · rw [hst.out, hJ2.out, List.length_append, hq'.out, ← hset.out]
            exact hstd.1
        case measure => simp [intOf]; omega
      · have hS2 := hB2.size
        have hJ2 := Lib.hid e2
        clear e2
        rcases List.eq_nil_or_concat J with rfl | ⟨P, ⟨d, m⟩, rfl⟩
        · clear hno
          obtain ⟨A9, c9, e9, -⟩ := (Rs.of_owns hown).sl
          subst e9
          go_wp2_with (at_builtin; refine wpList_append_own _ rfl _ _ 24 rfl (w.heap.size) 51 i0 (.agg #[.string ⟨#[]⟩, .int .i64 0]) 2 24 Tryz.underlying24 hi ie0 ie1 ie2 rfl (by decide) _ _ _ rfl (hown.alloc _) ⟨w1.heap.size, 0, none⟩ 1 1 [.string (nm x), .int .i64 1] rfl rfl ?pc1 ?pc2 ?pc3 ?pc4 ?pc5 ?_)
          case pc1 =>
            intro j u hj
            match j, hj with
            | 0, hj => obtain rfl := Option.some.inj hj; simp [Addr.add, go_sem]
            | 1, hj => obtain rfl := Option.some.inj hj; simp [Addr.add, go_sem]
          case pc2 => intro u hu; simp at hu; rcases hu with rfl | rfl <;> rfl
          case pc3 => unfold maxLen; omega
          case pc4 => omega
          case pc5 => first | omega | (simp; omega)
          intro v' wn hown' hgrow _
          have hBn := (show Below w.heap.size w (w1.alloc (.cells #[.string (nm x), .int .i64 1] 51)) by go_grown).grown hgrow (by simp; omega) (fun q e => by have := (hown.lt q e).1; omega)
          clear hown hgrow
          go_wp2
          go_roundw
          case rel => exact ⟨j + 1, by go_num, by omega, hBn, by rw [hst.out, hJ2.out, List.length_append, jc_snoc]; exact hown'⟩
          case measure => simp [intOf]; omega
        · rw [List.concat_eq_append] at hown hJ2 hjcd hjl hno hst hjcnt
          have hdx := hno P d m rfl
          have hd6 : d < 256 := hjcd.out (d, m) (by simp)
          have hx1 := bytes_ne (fun e => hdx (nm_inj hd6 hc6 e))
          have hown0 := Lib.hid hown
          have hlen : (P ++ [(d, m)]).length = P.length + 1 := by simp
          have hlast := jc_last P (d) m
          rw [hlen] at hown
          obtain ⟨hll, ⟨rfl, h0⟩ | ⟨g, cap, cur, rfl, hgb, hh, hcs, hcm, hsz, hat⟩⟩ := id hown
          · omega
          clear hll hh hcs hcm hsz hat
          have z0 := hown.cellAt (P.length * 2) (by omega)
          have z1 := hown.cellAt (P.length * 2 + 1) (by omega)
          rw [hlast.1] at z0
          rw [hlast.2] at z1
          have z2 := hown.frozenAt (P.length * 2 + 1)
          have hgl := (hown.lt g rfl).2
          clear hlast hlen
          have hjl3 : P.length + 1 ≤ j := by simpa using hjl
          have hq' : Hid ((P ++ [(d, m)]).length = P.length + 1) := Lib.hid (by simp)
          obtain ⟨s, hs1⟩ : ∃ s, nm d = s := ⟨_, rfl⟩
          rw [hs1] at z0 hx1
          clear hs1 hno hjl
          go_wp2_with (at_builtin; refine wpList_append_own _ rfl _ _ 24 rfl (w.heap.size) 51 i0 (.agg #[.string ⟨#[]⟩, .int .i64 0]) 2 24 Tryz.underlying24 hi ie0 ie1 ie2 rfl (by decide) _ _ _ rfl (hown.alloc _) ⟨w1.heap.size, 0, none⟩ 1 1 [.string (nm x), .int .i64 1] rfl rfl ?qc1 ?qc2 ?qc3 ?qc4 ?qc5 ?_)
          case qc1 =>
            intro j u hj
            match j, hj with
            | 0, hj => obtain rfl := Option.some.inj hj; simp [Addr.add, go_sem]
            | 1, hj => obtain rfl := Option.some.inj hj; simp [Addr.add, go_sem]
          case qc2 => intro u hu; simp at hu; rcases hu with rfl | rfl <;> rfl
          case qc3 => unfold maxLen; omega
          case qc4 => omega
          case qc5 => first | omega | (simp; omega)
          intro v' wn hown' hgrow _
          have hBn := (show Below w.heap.size w (w1.alloc (.cells #[.string (nm x), .int .i64 1] 51)) by go_grown).grown hgrow (by simp; omega) (fun q e => by have := (hown.lt q e).1; omega)
          clear hown hgrow z0 z1 z2
          go_wp2
          go_roundw
          case rel => exact ⟨j + 1, by go_num, by omega, hBn, by rw [hst.out, hJ2.out, List.length_append, hq'.out, jc_snoc]; exact hown'⟩
          case measure => simp [intOf]; omega
    · obtain rfl : j = W.length := by omega
      go_wp2
      go_ret
      exact ⟨_, rfl, hB1, hown⟩
set_option maxHeartbeats 3200000 in
theorem impl_Join (W : List Nat) (A : Option Addr) (c B : Nat) (w : World) (hs : Sl w B A (cls W)) (hB : B ≤ w.heap.size) (hcd : codes W) (hW : 0 < W.length) (hl : W.length ≤ 1000) : Calls Tryz.prog 24 #[.slice A W.length c] w fun e w' => ∃ v, e = .returned v ∧ Below w.heap.size w w' ∧ w'.ownsRow w.heap.size 51 2 v (runs (cyc W) 0 W.length).length (jc (runs (cyc W) 0 W.length)) := by
  obtain ⟨b, o, rfl, hb, he⟩ := cls_w hs hB hW
  have he' := Lib.hid he
  have hcd' := Lib.hid hcd
  obtain ⟨i0, hi, ie0, ie1, ie2⟩ := info_parts infoPh
  clear hs he hcd
  go_enter Tryz.func24, Tryz.ntmps24
  go_wp2
  have hO0 : (w.alloc (.cells #[] 51)).ownsRow w.heap.size 51 2 (.slice (some ⟨w.heap.size, 0, none⟩) 0 0) (runs (cyc W) 0 0).length (jc (runs (cyc W) 0 0)) := World.ownsRow_made w #[] 0 (Nat.le_refl _) (Nat.zero_le _) rfl
  have hBa : Below w.heap.size w (w.alloc (.cells #[] 51)) := by go_grown
  go_loopw [3, 10] (fun v q wr => ∃ j : Nat, q = .int .i64 j ∧ j ≤ W.length ∧ Below w.heap.size w wr ∧ wr.ownsRow w.heap.size 51 2 v (runs (cyc W) 0 j).length (jc (runs (cyc W) 0 j))) (fun _ q _ => W.length - (intOf q).toNat)
  case atStart => exact ⟨0, rfl, Nat.zero_le _, hBa, hO0⟩
  case round =>
    clear hBa hO0
    obtain ⟨j, rfl, hj, hB2, hown⟩ := hrel
    by_cases hlt : j < W.length
    · have dp := he'.out wr hB2 j hlt
      have hc6 := codes_cyc hcd'.out j
      have hst0 := runs_step (cyc W) 0 j
      rw [Nat.zero_add] at hst0
      have hst := Lib.hid hst0
      have hjl := runs_len (cyc W) 0 j
      have hjcd := Lib.hid (runs_codes hcd'.out 0 j)
      have hjcnt := Lib.hid (runs_cnt (cyc W) 0 j)
      have hbw : b < wr.heap.size := by have := hB2.size; omega
      obtain ⟨x, hx⟩ : ∃ x, cyc W j = x := ⟨_, rfl⟩
      obtain ⟨J, hJ⟩ : ∃ J, runs (cyc W) 0 j = J := ⟨_, rfl⟩
      rw [hx] at dp hc6 hst
      rw [hJ] at hown hst hjl hjcd hjcnt
      clear hst0 hx hJ
      rcases step_cases J x with ⟨P, m, rfl, e2⟩ | ⟨hno, e2⟩
      · have hjl2 : P.length + 1 ≤ j := by simpa using hjl
        clear hjl
        obtain ⟨s, hs1⟩ : ∃ s, nm x = s := ⟨_, rfl⟩
        have hmc : m ≤ j := hjcnt.out (x, m) (by simp)
        have hlen : (P ++ [(x, m)]).length = P.length + 1 := by simp
        have hlast := jc_last P (x) m
        rw [hlen] at hown
        obtain ⟨hll, ⟨rfl, h0⟩ | ⟨g, cap, cur, rfl, hgb, hh, hcs, hcm, hsz, hat⟩⟩ := id hown
        · omega
        clear hll hh hcs hcm hsz hat
        have z0 := hown.cellAt (P.length * 2) (by omega)
        have z1 := hown.cellAt (P.length * 2 + 1) (by omega)
        rw [hlast.1] at z0
        rw [hlast.2] at z1
        have z2 := hown.frozenAt (P.length * 2 + 1)
        have hgl := (hown.lt g rfl).2
        clear hlast hlen
        have hset := Lib.hid (jc_set P x m)
        have hJ2 := Lib.hid e2
        obtain ⟨q, hq⟩ : ∃ q, P.length = q := ⟨_, rfl⟩
        have hq' := Lib.hid hq
        rw [hq] at hown z0 z1 z2 hjl2 hset ⊢
        rw [hs1] at z0 dp
        clear hq hs1 e2
        have hown := Lib.hid hown
        go_wp2_with fail
        go_roundw
        case rel =>
          have hstd := hown.out.stored (q * 2 + 1) (.int .i64 ((m + 1 : Nat) : Int))
          have hnum : ((m : Int) + 1) = ((m + 1 : Nat) : Int) := by omega
          refine ⟨j + 1, by go_num, by omega, ?_, ?_⟩
          · first | exact hB2.setCell hgb _ | go_grown
          · rw [hst.out, hJ2.out, List.length_append, hq'.out, ← hset.out]
            exact hstd.1
        case measure => simp [intOf]; omega
      · have hS2 := hB2.size
        have hJ2 := Lib.hid e2
        clear e2
        rcases List.eq_nil_or_concat J with rfl | ⟨P, ⟨d, m⟩, rfl⟩
        · clear hno
          obtain ⟨A9, c9, e9, -⟩ := (Rs.of_owns hown).sl
          subst e9
          go_wp2_with (at_builtin; refine wpList_append_own _ rfl _ _ 24 rfl (w.heap.size) 51 i0 (.agg #[.string ⟨#[]⟩, .int .i64 0]) 2 24 Tryz.underlying24 hi ie0 ie1 ie2 rfl (by decide) _ _ _ rfl (hown.alloc _) ⟨wr.heap.size, 0, none⟩ 1 1 [.string (nm x), .int .i64 1] rfl rfl ?pc1 ?pc2 ?pc3 ?pc4 ?pc5 ?_)
          case pc1 =>
            intro j u hj
            match j, hj with
            | 0, hj => obtain rfl := Option.some.inj hj; simp [Addr.add, go_sem]
            | 1, hj => obtain rfl := Option.some.inj hj; simp [Addr.add, go_sem]
          case pc2 => intro u hu; simp at hu; rcases hu with rfl | rfl <;> rfl
          case pc3 => unfold maxLen; omega
          case pc4 => omega
          case pc5 => first | omega | (simp; omega)
          intro v' wn hown' hgrow _
          have hBn := (show Below w.heap.size w (wr.alloc (.cells #[.string (nm x), .int .i64 1] 51)) by go_grown).grown hgrow (by simp; omega) (fun q e => by have := (hown.lt q e).1; omega)
          clear hown hgrow
          go_wp2
          go_roundw
          case rel => exact ⟨j + 1, by go_num, by omega, hBn, by rw [hst.out, hJ2.out, List.length_append, jc_snoc]; exact hown'⟩
          case measure => simp [intOf]; omega
        · rw [List.concat_eq_append] at hown hJ2 hjcd hjl hno hst hjcnt
          have hdx := hno P d m rfl
          have hd6 : d < 256 := hjcd.out (d, m) (by simp)
          have hx1 := bytes_ne (fun e => hdx (nm_inj hd6 hc6 e))
          have hown0 := Lib.hid hown
          have hlen : (P ++ [(d, m)]).length = P.length + 1 := by simp
          have hlast := jc_last P (d) m
          rw [hlen] at hown
          obtain ⟨hll, ⟨rfl, h0⟩ | ⟨g, cap, cur, rfl, hgb, hh, hcs, hcm, hsz, hat⟩⟩ := id hown
          · omega
          clear hll hh hcs hcm hsz hat
          have z0 := hown.cellAt (P.length * 2) (by omega)
          have z1 := hown.cellAt (P.length * 2 + 1) (by omega)
          rw [hlast.1] at z0
          rw [hlast.2] at z1
          have z2 := hown.frozenAt (P.length * 2 + 1)
          have hgl := (hown.lt g rfl).2
          clear hlast hlen
          have hjl3 : P.length + 1 ≤ j := by simpa using hjl
          have hq' : Hid ((P ++ [(d, m)]).length = P.length + 1) := Lib.hid (by simp)
          obtain ⟨s, hs1⟩ : ∃ s, nm d = s := ⟨_, rfl⟩
          rw [hs1] at z0 hx1
          clear hs1 hno hjl
          go_wp2_with (at_builtin; refine wpList_append_own _ rfl _ _ 24 rfl (w.heap.size) 51 i0 (.agg #[.string ⟨#[]⟩, .int .i64 0]) 2 24 Tryz.underlying24 hi ie0 ie1 ie2 rfl (by decide) _ _ _ rfl (hown.alloc _) ⟨wr.heap.size, 0, none⟩ 1 1 [.string (nm x), .int .i64 1] rfl rfl ?qc1 ?qc2 ?qc3 ?qc4 ?qc5 ?_)
          case qc1 =>
            intro j u hj
            match j, hj with
            | 0, hj => obtain rfl := Option.some.inj hj; simp [Addr.add, go_sem]
            | 1, hj => obtain rfl := Option.some.inj hj; simp [Addr.add, go_sem]
          case qc2 => intro u hu; simp at hu; rcases hu with rfl | rfl <;> rfl
          case qc3 => unfold maxLen; omega
          case qc4 => omega
          case qc5 => first | omega | (simp; omega)
          intro v' wn hown' hgrow _
          have hBn := (show Below w.heap.size w (wr.alloc (.cells #[.string (nm x), .int .i64 1] 51)) by go_grown).grown hgrow (by simp; omega) (fun q e => by have := (hown.lt q e).1; omega)
          clear hown hgrow z0 z1 z2
          go_wp2
          go_roundw
          case rel => exact ⟨j + 1, by go_num, by omega, hBn, by rw [hst.out, hJ2.out, List.length_append, hq'.out, jc_snoc]; exact hown'⟩
          case measure => simp [intOf]; omega
    · obtain rfl : j = W.length := by omega
      go_wp2
      go_ret
      exact ⟨_, rfl, hB2, hown⟩
end Go.Proofs.YtpnffdkkmibchaaGreatDoor
