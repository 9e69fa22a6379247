/-
  Contract of SendText: the program's, at a text that can be sent. Under the conditions that it states.
-/
import Derived.Test.YtpnffdkkmibchaaDoorMoR
import Derived.Maps.AppendAt
set_option linter.unusedVariables false
set_option linter.unnecessarySimpa false
set_option maxRecDepth 100000
set_option linter.unusedSimpArgs false
namespace Go.Proofs.YtpnffdkkmibchaaDoor
open Go.RowKit BigFrame Go.Deep

/-- The color of a number; the cells of a row of phases. -/
def nm (c : Nat) : ByteArray := if c = 0 then ⟨#[]⟩ else ⟨#[c.toUInt8]⟩
def jc (J : List (Nat × Nat)) : List Value := J.flatMap fun p => [.string (nm p.1), .int .i64 (p.2 : Int)]
theorem jc_len (J : List (Nat × Nat)) : (jc J).length = J.length * 2 := by
  induction J with
  | nil => rfl
  | cons p J ih => have e : jc (p :: J) = .string (nm p.1) :: .int .i64 (p.2 : Int) :: jc J := rfl; rw [e]; simp [ih]; omega
theorem jc_snoc (J : List (Nat × Nat)) (c m : Nat) : jc (J ++ [(c, m)]) = jc J ++ [.string (nm c), .int .i64 (m : Int)] := by unfold jc; rw [List.flatMap_append]; rfl
theorem infoPh : (Tryd.prog.info? 33).map (fun i => (i.zero, i.size, i.bytes)) = some (some (.agg #[.string ⟨#[]⟩, .int .i64 0]), 2, 24) := by kernel_rfl
theorem owns_onM {w w' : World} {B : Nat} {e : TypeId} {sz : Nat} {v : Value} {n : Nat} {xs : List Value} (h : w.ownsRow B e sz v n xs) (hb : Below w.heap.size w w') : w'.ownsRow B e sz v n xs := by
  refine World.ownsRow.kept (row := none) h ⟨hb.os, hb.tape, hb.output, hb.size, fun k hk _ => hb.block k hk⟩ ?_
  cases v.ownBlock
  · exact .inl rfl
  · exact .inr (by simp)
/-- A block that is no row of this kind is not the row's block. -/
theorem owns_ne {w : World} {B sz n g : Nat} {e : TypeId} {v : Value} {xs : List Value} {o : Obj} (h : w.ownsRow B e sz v n xs) (hi : w.heap[g]? = some o) (hne : ∀ cur, o ≠ .cells cur e (0, 0)) : v.ownBlock ≠ some g := by
  obtain ⟨_, ⟨rfl, _⟩ | ⟨k, cap, cur, rfl, hb, hh, _⟩⟩ := h
  · intro e; cases e
  · intro e
    have e' : k = g := Option.some.inj e
    subst e'
    rw [hh] at hi
    exact hne cur (Option.some.inj hi).symm
theorem grown_iter (w : World) (g : Nat) (s : ByteArray) (p : Nat) : w.grownBy (w.iterAt g s p) (some g) := ⟨rfl, rfl, rfl, by rw [Lib.iterAt_size]; exact Nat.le_refl _, fun k hk hne => Lib.iterAt_other w g k s p (fun e => hne (by rw [e]))⟩
theorem owns_iter {w : World} {B sz n g : Nat} {e : TypeId} {v : Value} {xs : List Value} {s : ByteArray} {p : Nat} (h : w.ownsRow B e sz v n xs) (hi : w.heap[g]? = some (.stringIter s p)) (p' : Nat) : (w.iterAt g s p').ownsRow B e sz v n xs :=
  World.ownsRow.kept h (grown_iter w g s p') (.inr (owns_ne h hi (fun cur e => by cases e)))
theorem conv_obj (w : World) (σ : List UInt8) : ∃ (c : Nat) (w' : World) (o : Obj), (convert 9 22 (.string ⟨σ.toArray⟩)).run Tryd.prog w = .ok (.slice (some ⟨w.heap.size, 0, none⟩) σ.length c) w' ∧ Below w.heap.size w w' ∧ w'.heap.size = w.heap.size + 1 ∧ w'.heap[w.heap.size]? = some o ∧ (∀ cur, o ≠ .cells cur 33 (0, 0)) ∧ ∀ (wx : World), wx.heap[w.heap.size]? = some o → ∀ (j : Nat) (hj : j < σ.length), wx.cell? ⟨w.heap.size, j, none⟩ = some (.int .u8 (σ[j]'hj).toNat) := by
  have hsz : (⟨σ.toArray⟩ : ByteArray).size = σ.length := by show σ.toArray.size = _; simp
  refine ⟨grownCap w σ.length 0 5, Lib.bytesWorld w 5 ⟨σ.toArray⟩, _, ?_, ?_, ?_, Lib.bytesWorld_at_new _ _ _, ?_, fun wx hx j hj => ?_⟩
  · rw [Lib.run_convert_string_bytes (u := .string) w _ _ 5 _ Tryd.underlying9 Tryd.underlying22 Tryd.underlying5, hsz]
  · exact ⟨rfl, rfl, rfl, by rw [Lib.bytesWorld_size]; omega, fun k hk => Lib.bytesWorld_at_old _ _ _ k hk⟩
  · exact Lib.bytesWorld_size _ _ _
  · intro cur e
    injection e with e1 e2
    exact absurd e2 (by decide)
  · have h1 := Lib.bytesWorld_cell w 5 ⟨σ.toArray⟩ j (by rw [hsz]; exact hj)
    rw [World.cell?_of_block (w := Lib.bytesWorld w 5 ⟨σ.toArray⟩) (a := ⟨w.heap.size, j, none⟩) (hx.trans (Lib.bytesWorld_at_new _ _ _).symm), h1]
    simp [List.getD_eq_getElem?_getD, List.getElem?_eq_getElem hj]
theorem isUnit_yes (u : Nat) (h : 1 ≤ u ∧ u ≤ 50) (w : World) : Calls Tryd.prog 19 #[.int .i64 u] w fun e w' => e = .returned (.bool true) ∧ w = w' := by
  have h1 : inB (u : Int) 1 50 = true := inB_mk (by omega) (by omega)
  go_enter Tryd.func19, Tryd.ntmps19
  go_wp2_with (go_at_call 35; refine (within_any _ _ _ _).mono ?_; rintro e w' ⟨rfl, rfl⟩)
  go_ret
  exact ⟨rfl, rfl⟩
theorem kept_obj {w wn : World} {v : Value} {g : Nat} {o X : Obj} (hi : w.heap[g]? = some o) (hg : (w.alloc X).grownBy wn v.ownBlock) (hne : v.ownBlock ≠ some g) : wn.heap[g]? = some o := by
  have hlt : g < w.heap.size := (Array.getElem?_eq_some_iff.1 hi).1
  rw [hg.block g (by simp; omega) (fun e => hne e.symm), Below.heap_alloc w X g hlt]
  exact hi
def stJ (u c : Nat) (T : List Nat) (j : Nat) : List (Nat × Nat) × Nat := (T.take j).foldl (chr u c) ([], 0)
theorem stJ_step {u c : Nat} {T : List Nat} {j : Nat} (h : j < T.length) : stJ u c T (j + 1) = chr u c (stJ u c T j) T[j] := by
  unfold stJ
  rw [List.take_succ_eq_append_getElem h, List.foldl_append]
  rfl
theorem fold_step {u c : Nat} {σ : List UInt8} {k : Nat} (h : k < σ.length) (st : List (Nat × Nat) × Nat) : (σ.take (k + 1)).foldl (sgn u c) st = sgn u c ((σ.take k).foldl (sgn u c) st) σ[k] := by
  rw [List.take_succ_eq_append_getElem h, List.foldl_append]
  rfl
theorem txt_at {LS : List (Nat × Bool)} (h : goodL LS) : ∀ b ∈ txt LS, b = 32 ∨ ∃ x, x < 26 ∧ b = 65 + x := fun b hb => by
  obtain ⟨p, hp, hb⟩ := List.mem_flatMap.1 hb
  rcases List.mem_cons.1 hb with rfl | hb
  · exact Or.inr ⟨p.1, h p hp, rfl⟩
  · split at hb
    · rw [List.mem_singleton] at hb; exact Or.inl hb
    · cases hb
set_option maxHeartbeats 6400000 in
theorem impl_Send (LS : List (Nat × Bool)) (u c : Nat) (hg : goodL LS) (he : endL LS) (hl : (txt LS).length ≤ 12) (hu : 1 ≤ u ∧ u ≤ 50) (hc : colorM (nm c) = true) (w : World) (hE : Env w) : Calls Tryd.prog 10 #[.string (txS LS), .string (nm c), .int .i64 u] w fun e w' => ∃ v, e = .returned (.tuple #[v, .int .i64 0]) ∧ Below w.heap.size w w' ∧ w'.ownsRow w.heap.size 33 2 v (send u c (txt LS)).1.length (jc (send u c (txt LS)).1) := by
  obtain ⟨i0, hi, ie0, ie1, ie2⟩ := info_parts infoPh
  have hCan := fun w hE => impl_canSend LS hg he hl w hE
  have hcz : (nm c).size ≤ maxLen := by
    have : (nm c).size ≤ 1 := by unfold nm; split <;> first | decide | exact Nat.le_refl _
    unfold maxLen; omega
  have hCol : ∀ w, Calls Tryd.prog 18 #[.string (nm c)] w fun e w' => e = .returned (.bool true) ∧ w = w' := fun w => by rw [← hc]; exact impl_isColor (nm c) hcz w
  have hU := fun w => isUnit_yes u hu w
  have hsz := txS_size LS
  have htx := Lib.hid (txt_at hg)
  have hel : ∀ (j : Nat) (h : j < (txt LS).length), ∃ h2 : j < (txS LS).size, ((txS LS)[j]'h2).toNat = (txt LS)[j] := fun j h => by
    refine ⟨by omega, ?_⟩
    have e : ((txS LS)[j]'(by omega)) = (txt LS)[j].toUInt8 := by show (txtB LS).toArray[j]'(by simpa [txtB] using h) = _; simp [txtB]
    rw [e]
    rcases htx.out _ (List.getElem_mem h) with h1 | ⟨x, hx, h1⟩
    · rw [h1]; rfl
    · rw [h1]; exact (lt_facts hx).2.2
  have hel' := Lib.hid hel
  have hex : ∀ (j : Nat) (h : j < (txt LS).length), (txS LS).extract j (j + 1) = bs [(txt LS)[j].toUInt8] := fun j h => by
    have := ext_one (txtB LS) j (by simpa [txtB] using h)
    rw [show txS LS = bs (txtB LS) from rfl, this]
    simp [txtB]
  have hex' := Lib.hid hex
  have hsend : Hid (send u c (txt LS) = stJ u c (txt LS) (txt LS).length) := Lib.hid (by unfold stJ send; rw [List.take_length])
  obtain ⟨s, hs⟩ : ∃ s, txS LS = s := ⟨_, rfl⟩
  obtain ⟨T, hT⟩ : ∃ T, txt LS = T := ⟨_, rfl⟩
  obtain ⟨q, hq⟩ : ∃ q, nm c = q := ⟨_, rfl⟩
  have hq' := Lib.hid hq
  rw [hs] at hCan hsz hel' hex' ⊢
  rw [hT] at hsz htx hel' hex' hl hsend ⊢
  rw [hq] at hCol ⊢
  have hsl : (s.size : Int) ≤ 12 := by omega
  clear hel hex hs hT hq hg he hc hcz
  go_enter Tryd.func10, Tryd.ntmps10
  go_wp2_with fail
  refine (hCan _ hE).mono ?_
  rintro e w1 ⟨rfl, hb1⟩
  go_wp2_with (first | (go_at_call 18; refine (hCol _).mono ?_; rintro e w' ⟨rfl, rfl⟩) | (go_at_call 19; refine (hU _).mono ?_; rintro e w' ⟨rfl, rfl⟩))
  have hz1 := hb1.size
  have hO0 : (w1.alloc (.cells #[] 33)).ownsRow w.heap.size 33 2 (.slice (some ⟨w1.heap.size, 0, none⟩) 0 0) (stJ u c T 0).1.length (jc (stJ u c T 0).1) := World.ownsRow_made w1 #[] 0 hb1.size (Nat.zero_le _) rfl
  have hB1 : Below w.heap.size w (w1.alloc (.cells #[] 33)) := by go_grown
  have hl8 : T.length ≤ 12 := hl
  have hitr : ((w1.alloc (.cells #[] 33)).iter s 0).heap[w1.heap.size + 1]? = some (.stringIter s 0) := by
    have := World.iter_heap (w1.alloc (.cells #[] 33)) s 0
    rwa [World.size_alloc] at this
  have hOi := owns_onM hO0 (below_iter _ s 0)
  have hBi := bnext hB1 (below_iter _ s 0)
  clear hO0 hB1 hb1 hCan
  obtain ⟨gi, hgi⟩ : ∃ gi, w1.heap.size + 1 = gi := ⟨_, rfl⟩
  have hgw : w.heap.size < gi := by omega
  rw [hgi] at hitr
  try rw [hgi]
  go_loopw [8, 9] (fun v p wr => ∃ (j m : Nat) (O : List (Nat × Nat)), p = .int .i64 m ∧ wr.heap[gi]? = some (.stringIter s j) ∧ (j ≤ T.length ∧ m ≤ 7 ∧ O.length ≤ 8 * j) ∧ Hid (stJ u c T j = (O, m)) ∧ Below w.heap.size w wr ∧ wr.ownsRow w.heap.size 33 2 v O.length (jc O)) (fun _ _ wr => T.length - wr.iterPos gi)
  case atStart => exact ⟨0, 0, [], rfl, hitr, ⟨Nat.zero_le _, by omega, by simp⟩, Lib.hid rfl, hBi, hOi⟩
  case round =>
    clear hitr hOi hBi
    obtain ⟨j, m, O, rfl, hit, ⟨hj, hm, hOl⟩, hst, hB2, hown⟩ := hrel
    have hS2 := hB2.size
    have hgr : gi < wr.heap.size := (Array.getElem?_eq_some_iff.1 hit).1
    by_cases hlt : j < T.length
    · obtain ⟨hjs, hb⟩ := hel'.out j hlt
      have hx0 := hex'.out j hlt
      have hstep := stJ_step (u := u) (c := c) hlt
      rw [hst.out] at hstep
      have hit2 := Lib.iterAt_heap wr gi s j (j + 1) hit
      have hB3 := Lib.below_iterAt hB2 (k := gi) (by omega) s (j + 1)
      have hown3 := owns_iter hown hit (j + 1)
      have hz3 := Lib.iterAt_size wr gi s (j + 1)
      rcases htx.out T[j] (List.getElem_mem hlt) with h32 | ⟨x, hx, hxe⟩
      · rw [h32] at hb hstep
        have hnx : ∀ ty, (Instr.next (.pointer (some ⟨gi, 0, none⟩)) true ty).run Tryd.prog wr = _ := fun ty => Lib.run_next_ascii_at wr gi s j ty hit hjs (by omega)
        have hst2 := Lib.hid hstep
        clear hx0 hstep hz3
        go_wp2_with fail
        go_roundw
        case rel => exact ⟨j + 1, 7, O, rfl, hit2, ⟨by omega, by omega, by omega⟩, hst2, hB3, hown3⟩
        case measure => simp only [World.iterPos, hit2, hit]; omega
      · rw [hxe] at hb hstep hx0
        have hnx : ∀ ty, (Instr.next (.pointer (some ⟨gi, 0, none⟩)) true ty).run Tryd.prog wr = _ := fun ty => Lib.run_next_ascii_at wr gi s j ty hit hjs (by omega)
        obtain ⟨w3, hw3⟩ : ∃ w3, w3 = wr.iterAt gi s (j + 1) := ⟨_, rfl⟩
        rw [← hw3] at hnx hit2 hB3 hown3 hz3
        obtain ⟨cc, w4, o, hcv, hb4, hz4, ho, hon, hcell⟩ := conv_obj w3 (sg x)
        have hcv : (convert 9 22 (.string (sgB x))).run Tryd.prog w3 = .ok (.slice (some ⟨w3.heap.size, 0, none⟩) (sg x).length cc) w4 := hcv
        have hx1 : s.extract j (j + 1) = lt x := hx0
        have hsg := fun w => impl_signs x hx w
        have hlx : (lt x).size = 1 := rfl
        have hit4 := (hb4.block gi (by rw [hz3]; exact hgr)).trans hit2
        have hown4 := owns_onM hown3 hb4
        have hB4 := bnext hB3 hb4
        have hσl := sg_len hx
        have hcl := chr_letter (u := u) (c := c) hx (O, m)
        have hfs := Lib.hid (fold_sgn u c (sg x) (O, m) (fun e => by rw [e] at hσl; simp at hσl))
        rw [hcl] at hstep
        have hst2 := Lib.hid hstep
        obtain ⟨l, hl⟩ : ∃ l, lt x = l := ⟨_, rfl⟩
        obtain ⟨S, hS⟩ : ∃ S, sgB x = S := ⟨_, rfl⟩
        obtain ⟨σ, hσ⟩ : ∃ σ, sg x = σ := ⟨_, rfl⟩
        obtain ⟨gb, hgb⟩ : ∃ gb, w3.heap.size = gb := ⟨_, rfl⟩
        rw [hl] at hx1 hsg hlx
        rw [hS] at hcv hsg
        rw [hσ] at hcv hcell hσl hst2 hfs
        rw [hgb] at hcv ho hcell hz4
        have hcell' := Lib.hid hcell
        have hon' := Lib.hid hon
        have hgbw : w.heap.size < gb := by omega
        have hgbr : gb < w4.heap.size := by omega
        have hjI : (j : Int) < 12 := by omega
        have hit0 := hit
        clear hw3 hx0 hl hS hσ hgb hcell hon hstep hcl hown hown3 hB3 hit2 hB2 hit hb4 hz4 hgr hS2
        go_wp2_with (go_at_call 13; refine (hsg _).mono ?_; rintro e w' ⟨rfl, rfl⟩)
        go_loopw [8, 9, 42] (fun v p i wr => ∃ (k m' : Nat) (O' : List (Nat × Nat)), p = .int .i64 m' ∧ i = .int .i64 k ∧ wr.heap[gi]? = some (.stringIter s (j + 1)) ∧ wr.heap[gb]? = some o ∧ (k ≤ σ.length ∧ m' ≤ 7 ∧ O'.length ≤ 8 * j + 2 * k) ∧ Hid ((σ.take k).foldl (sgn u c) (O, m) = (O', m')) ∧ Below w.heap.size w wr ∧ wr.ownsRow w.heap.size 33 2 v O'.length (jc O')) (fun _ _ i _ => σ.length - (intOf i).toNat)
        case atStart => exact ⟨0, m, O, rfl, rfl, hit4, ho, ⟨Nat.zero_le _, hm, by omega⟩, Lib.hid rfl, hB4, hown4⟩
        case round =>
          clear hit4 ho hB4 hown4 hcv hnx
          obtain ⟨k, m', O', rfl, rfl, hit, ho, ⟨hk, hm', hOl'⟩, hfd, hB5, hown⟩ := hrel
          have hS5 := hB5.size
          have hgw5 : gb < wr.heap.size := (Array.getElem?_eq_some_iff.1 ho).1
          by_cases hkl : k < σ.length
          · have d0 := hcell'.out wr ho k hkl
            have hstp := fold_step (u := u) (c := c) hkl (O, m)
            rw [hfd.out] at hstp
            have hun := un_bd σ[k]
            have hUn := fun w => impl_units σ[k] w
            obtain ⟨s2, hs2⟩ : ∃ s2, σ[k] = s2 := ⟨_, rfl⟩
            rw [hs2] at d0 hstp hun hUn
            obtain ⟨n, hn⟩ : ∃ n, un s2 = n := ⟨_, rfl⟩
            unfold sgn at hstp
            rw [hn] at hstp hun hUn
            have hn1 : 1 * u ≤ n * u := Nat.mul_le_mul_right u hun.1
            have hn3 : n * u ≤ 3 * 50 := Nat.mul_le_mul hun.2 hu.2
            have hm3 : m' * u ≤ 7 * 50 := Nat.mul_le_mul hm' hu.2
            have hnu : (n : Int) * (u : Int) = ((n * u : Nat) : Int) := by rw [Int.natCast_mul]
            have hmu : (m' : Int) * (u : Int) = ((m' * u : Nat) : Int) := by rw [Int.natCast_mul]
            obtain ⟨y, hy⟩ : ∃ y, n * u = y := ⟨_, rfl⟩
            obtain ⟨z, hz⟩ : ∃ z, m' * u = z := ⟨_, rfl⟩
            rw [hy] at hnu hn1 hn3 hstp
            rw [hz] at hmu hm3
            clear hs2 hn hun hy
            by_cases hmp : 0 < m'
            · rw [if_pos hmp, hz] at hstp
              have hstp' := Lib.hid hstp
              have hne1 := owns_ne hown hit (fun cur e => by cases e)
              have hne2 := owns_ne hown ho hon'.out
              have hmI : 0 < (m' : Int) := by omega
              clear hstp hz
              go_wp2_with (at_builtin; refine wpList_append_own _ rfl _ _ 29 rfl (w.heap.size) 33 i0 (.agg #[.string ⟨#[]⟩, .int .i64 0]) 2 24 Tryd.underlying29 hi ie0 ie1 ie2 rfl (by decide) _ _ _ rfl (hown.alloc _) ⟨wr.heap.size, 0, none⟩ 1 1 [.string (⟨#[]⟩), .int .i64 (z)] rfl rfl ?pc1 ?pc2 ?pc3 ?pc4 ?pc5 ?_)
              try (case pc1 =>
                  intro j u hj
                  match j, hj with
                  | 0, hj => obtain rfl := Option.some.inj hj; simp [Addr.add, go_sem]
                  | 1, hj => obtain rfl := Option.some.inj hj; simp [Addr.add, go_sem, *])
              try (case pc2 => first | exact ⟨rfl, rfl⟩ | (intro u hu; simp at hu; rcases hu with rfl | rfl <;> rfl))
              case pc3 => unfold maxLen; omega
              case pc4 => omega
              case pc5 => first | omega | (simp; omega)
              intro v1 wn hown1 hgrow _
              have hitn := kept_obj hit hgrow hne1
              have hoN := kept_obj ho hgrow hne2
              have hB6 := (show Below w.heap.size w (wr.alloc (.cells #[.string ⟨#[]⟩, .int .i64 (z : Int)] 33)) by go_grown).grown hgrow (by simp; omega) (fun q e => by have := (hown.lt q e).1; omega)
              have hownP : wn.ownsRow w.heap.size 33 2 v1 (O' ++ [(0, z)]).length (jc (O' ++ [(0, z)])) := by rw [jc_snoc, List.length_append]; exact hown1
              have hPl : (O' ++ [(0, z)]).length = O'.length + 1 := by simp
              obtain ⟨P, hP⟩ : ∃ P, O' ++ [(0, z)] = P := ⟨_, rfl⟩
              rw [hP] at hownP hPl hstp'
              have hPl2 : P.length ≤ 8 * j + 2 * k + 1 := by omega
              have hne3 := owns_ne hownP hitn (fun cur e => by cases e)
              have hne4 := owns_ne hownP hoN hon'.out
              have hSn := hB6.size
              clear hown1 hgrow hown hit ho hne1 hne2 hP hPl d0 hB5 hS5 hmu
              go_wp2_with (first | (go_at_call 16; refine (hUn _).mono ?_; rintro e w' ⟨rfl, rfl⟩) | (at_builtin; refine wpList_append_own _ rfl _ _ 29 rfl (w.heap.size) 33 i0 (.agg #[.string ⟨#[]⟩, .int .i64 0]) 2 24 Tryd.underlying29 hi ie0 ie1 ie2 rfl (by decide) _ _ _ rfl (hownP.alloc _) ⟨wn.heap.size, 0, none⟩ 1 1 [.string (q), .int .i64 (y)] rfl rfl ?sc1 ?sc2 ?sc3 ?sc4 ?sc5 ?_))
              try (case sc1 =>
                  intro j u hj
                  match j, hj with
                  | 0, hj => obtain rfl := Option.some.inj hj; simp [Addr.add, go_sem]
                  | 1, hj => obtain rfl := Option.some.inj hj; simp [Addr.add, go_sem, *])
              try (case sc2 => first | exact ⟨rfl, rfl⟩ | (intro u hu; simp at hu; rcases hu with rfl | rfl <;> rfl))
              case sc3 => unfold maxLen; omega
              case sc4 => omega
              case sc5 => first | omega | (simp; omega)
              intro v2 wm hown2 hgrow2 _
              have hit2 := kept_obj hitn hgrow2 hne3
              have ho2 := kept_obj hoN hgrow2 hne4
              have hB6 := (show Below w.heap.size w (wn.alloc (.cells #[.string q, .int .i64 (y : Int)] 33)) by go_grown).grown hgrow2 (by simp; omega) (fun q e => by have := (hownP.lt q e).1; omega)
              have hown9 : wm.ownsRow w.heap.size 33 2 v2 (P ++ [(c, y)]).length (jc (P ++ [(c, y)])) := by rw [jc_snoc, List.length_append, hq'.out]; exact hown2
              clear hgrow2 hown2
              go_wp2
              go_roundw
              case rel => exact ⟨k + 1, 1, P ++ [(c, y)], rfl, by go_num, hit2, ho2, ⟨by omega, by omega, by simp; omega⟩, hstp', hB6, hown9⟩
              case measure => simp [intOf]; omega
            · rw [if_neg hmp] at hstp
              have hstp' := Lib.hid hstp
              have hmI : ¬ 0 < (m' : Int) := by omega
              have hne1 := owns_ne hown hit (fun cur e => by cases e)
              have hne2 := owns_ne hown ho hon'.out
              have hPl2 : O'.length ≤ 8 * j + 2 * k + 1 := by omega
              have hB6 := hB5
              clear hstp hz hmu
              go_wp2_with (first | (go_at_call 16; refine (hUn _).mono ?_; rintro e w' ⟨rfl, rfl⟩) | (at_builtin; refine wpList_append_own _ rfl _ _ 29 rfl (w.heap.size) 33 i0 (.agg #[.string ⟨#[]⟩, .int .i64 0]) 2 24 Tryd.underlying29 hi ie0 ie1 ie2 rfl (by decide) _ _ _ rfl (hown.alloc _) ⟨wr.heap.size, 0, none⟩ 1 1 [.string (q), .int .i64 (y)] rfl rfl ?sc1 ?sc2 ?sc3 ?sc4 ?sc5 ?_))
              try (case sc1 =>
                  intro j u hj
                  match j, hj with
                  | 0, hj => obtain rfl := Option.some.inj hj; simp [Addr.add, go_sem]
                  | 1, hj => obtain rfl := Option.some.inj hj; simp [Addr.add, go_sem, *])
              try (case sc2 => first | exact ⟨rfl, rfl⟩ | (intro u hu; simp at hu; rcases hu with rfl | rfl <;> rfl))
              case sc3 => unfold maxLen; omega
              case sc4 => omega
              case sc5 => first | omega | (simp; omega)
              intro v2 wm hown2 hgrow2 _
              have hit2 := kept_obj hit hgrow2 hne1
              have ho2 := kept_obj ho hgrow2 hne2
              have hB6 := (show Below w.heap.size w (wr.alloc (.cells #[.string q, .int .i64 (y : Int)] 33)) by go_grown).grown hgrow2 (by simp; omega) (fun q e => by have := (hown.lt q e).1; omega)
              have hown9 : wm.ownsRow w.heap.size 33 2 v2 (O' ++ [(c, y)]).length (jc (O' ++ [(c, y)])) := by rw [jc_snoc, List.length_append, hq'.out]; exact hown2
              clear hgrow2 hown2
              go_wp2
              go_roundw
              case rel => exact ⟨k + 1, 1, O' ++ [(c, y)], rfl, by go_num, hit2, ho2, ⟨by omega, by omega, by simp; omega⟩, hstp', hB6, hown9⟩
              case measure => simp [intOf]; omega
          · obtain rfl : k = σ.length := by omega
            have hO2 : Hid (stJ u c T (j + 1) = (O', 3) ∧ O'.length ≤ 8 * (j + 1)) := by
              have e := hfd.out
              rw [List.take_length, hfs.out] at e
              exact Lib.hid ⟨by rw [hst2.out, (Prod.mk.inj e).1], by omega⟩
            go_wp2_with fail
            go_roundw
            case rel => exact ⟨j + 1, 3, O', rfl, hit, ⟨by omega, by omega, hO2.out.2⟩, Lib.hid hO2.out.1, hB5, hown⟩
            case measure => simp only [World.iterPos, hit, hit0]; omega
    · obtain rfl : j = T.length := by omega
      have hnx : ∀ ty, (Instr.next (.pointer (some ⟨gi, 0, none⟩)) true ty).run Tryd.prog wr = _ := fun ty => Lib.run_next_end_at wr gi s T.length ty hit (by omega)
      have hfin : Hid ((send u c T).1 = O) := Lib.hid (by rw [hsend.out, hst.out])
      go_wp2_with fail
      go_ret2
      exact ⟨_, rfl, hB2, by rw [hfin.out]; exact hown⟩
end Go.Proofs.YtpnffdkkmibchaaDoor
