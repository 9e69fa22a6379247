/-
  Contract of rhythms that are alike: the program's. Under the conditions that it states.
-/
import Derived.Test.YtpnffdkkmibchaaRhyF
import Derived.StillTailTactics
set_option linter.unusedVariables false
set_option linter.unnecessarySimpa false
set_option maxRecDepth 100000
set_option linter.unusedSimpArgs false
namespace Go.Proofs.Ytpnffdkkmibchaa
open Go.RowKit BigFrame Go.Deep

theorem norm_join {P : List RPhase} {M : List Nat} (h : MinW (tns P) M) : NormR P (runs (cyc M) 0 M.length) := by
  refine ⟨M, h, ?_⟩
  have e : (List.range M.length).map (rt (cyc M) 0) = M := rotL_zero M
  unfold runs
  rw [e]
theorem jc_drop {J : List (Nat × Nat)} {i : Nat} (hi : i ≤ J.length) : jc (J.drop i) = (jc J).drop (i * 2) := by
  have h1 : jc J = jc (J.take i) ++ jc (J.drop i) := by rw [← jc_app, List.take_append_drop]
  have h2 : (jc (J.take i)).length = i * 2 := by rw [jc_len, List.length_take]; congr 1; omega
  rw [h1, ← h2, List.drop_left]
theorem jc_take {J : List (Nat × Nat)} {i : Nat} (hi : i ≤ J.length) : jc (J.take i) = (jc J).take (i * 2) := by
  have h1 : jc J = jc (J.take i) ++ jc (J.drop i) := by rw [← jc_app, List.take_append_drop]
  have h2 : (jc (J.take i)).length = i * 2 := by rw [jc_len, List.length_take]; congr 1; omega
  rw [h1, ← h2, List.take_left]
theorem jc_drop_sl {w : World} {B b o : Nat} {J : List (Nat × Nat)} (h : Sl w B (some ⟨b, o, none⟩) (jc J)) {i : Nat} (hi : i ≤ J.length) : Sl w B (some ⟨b, o + i * 2, none⟩) (jc (J.drop i)) := fun hne => by
  have hne2 : jc J ≠ [] := fun e => hne (by rw [jc_drop hi, e]; simp)
  obtain ⟨b', o', e, hb, hc⟩ := h hne2
  cases e
  refine ⟨b, o + i * 2, rfl, hb, fun j u hu => ?_⟩
  have := hc (i * 2 + j) u (by rw [jc_drop hi, List.getElem?_drop] at hu; exact hu)
  rwa [← Nat.add_assoc] at this
theorem owns_slc {w : World} {B : Nat} {e : TypeId} {sz : Nat} {v : Value} {n : Nat} {xs : List Value} (h : w.ownsRow B e sz v n xs) : ∃ A c, v = .slice A n c ∧ n ≤ c ∧ Sl w w.heap.size A xs := by
  obtain ⟨A, c, rfl, hsl⟩ := (Rs.of_owns h).sl
  refine ⟨A, c, rfl, ?_, hsl⟩
  obtain ⟨hl, ⟨h1, h2⟩ | ⟨g, cap, cur, h1, hb, hh, hcs, hcm, hsz, hat⟩⟩ := h
  · injection h1; omega
  · injection h1; omega
theorem getD_rot {K : List (Nat × Nat)} {q k : Nat} (hq : q < K.length) (hk : k < K.length) : (K.drop q ++ K.take q).getD k (0, 0) = K.getD ((q + k) % K.length) (0, 0) := by
  rw [List.getD_eq_getElem?_getD, List.getD_eq_getElem?_getD]
  congr 1
  have hd : (K.drop q).length = K.length - q := List.length_drop
  by_cases h : k < K.length - q
  · rw [List.getElem?_append_left (by omega), List.getElem?_drop, Nat.mod_eq_of_lt (by omega)]
  · rw [List.getElem?_append_right (by omega), hd, List.getElem?_take, if_pos (by omega)]
    have e : (q + k) % K.length = k - (K.length - q) := by
      rw [show q + k = (k - (K.length - q)) + K.length by omega, Nat.add_mod_right, Nat.mod_eq_of_lt (by omega)]
    rw [e]
theorem allTo_cong {f g : Nat → Bool} : ∀ n : Nat, (∀ k, k < n → f k = g k) → allTo f n = allTo g n
  | 0, _ => rfl
  | n + 1, h => by
    unfold allTo
    rw [allTo_cong n (fun k hk => h k (by omega)), h n (by omega)]
theorem alike_rot {tol : Int} {J K : List (Nat × Nat)} {q : Nat} (hl : J.length = K.length) (hq : q < K.length) : allTo (alikeP tol J (K.drop q ++ K.take q)) J.length = closeAt tol J K q :=
  allTo_cong _ fun k hk => by unfold alikeP; rw [getD_rot hq (by omega)]
theorem goodJ_rot {K : List (Nat × Nat)} {q : Nat} (h : goodJ K) : goodJ (K.drop q ++ K.take q) := fun p hp => by
  rcases List.mem_append.1 hp with hp | hp
  · exact h p (List.mem_of_mem_drop hp)
  · exact h p (List.mem_of_mem_take hp)
set_option maxHeartbeats 3200000 in
theorem impl_closeR (P Q : List RPhase) (A A2 : Option Addr) (c c2 B : Nat) (tol : Int) (w : World) (hs : Sl w B A (flat RPhase.cells P)) (hs2 : Sl w B A2 (flat RPhase.cells Q)) (hB : B ≤ w.heap.size) (hv : vPhases P = true) (hv2 : vPhases Q = true) : Calls Try.prog 16 #[.slice A P.length c, .slice A2 Q.length c2, .int .i64 tol] w fun e w' => ∃ J K, (NormR P J ∧ NormR Q K) ∧ e = .returned (.bool (closeM tol J K)) ∧ Below w.heap.size w w' := by
  have hs' := Lib.hid hs
  have hs2' := Lib.hid hs2
  have hv' := Lib.hid hv
  have hv2' := Lib.hid hv2
  clear hs hs2 hv hv2
  go_enter Try.func16, Try.ntmps16
  go_wp2_with fail
  have hBa : Below w.heap.size w (w.alloc (.cells #[.int .i64 tol] 2)) := by go_grown
  have hTa : (w.alloc (.cells #[.int .i64 tol] 2)).cell? ⟨w.heap.size, 0, none⟩ = some (.int .i64 tol) := by rw [World.cell?_alloc_new]; rfl
  refine (impl_Normal P A c B _ (hs'.out.below (hBa.mono hB)) (Nat.le_trans hB hBa.size) hv'.out).mono ?_
  rintro e w1 ⟨M, ⟨hM, hMc, hM0, hMl⟩, A3, c3, rfl, hb1, hsl1⟩
  have hT1 := ((bcell hb1).1 w.heap.size 0 (by simp)).trans hTa
  have hz1 : w.heap.size < w1.heap.size := by have := hb1.size; rw [World.size_alloc] at this; omega
  have hB1 := bnext hBa hb1
  have hs2'' := Lib.hid (hs2'.out.below (hB1.mono hB))
  have hJ := norm_join hM
  have gJ := hJ.good hv'.out
  have hl1 : 0 < (runs (cyc M) 0 M.length).length := by
    have e : (List.range M.length).map (rt (cyc M) 0) = M := rotL_zero M
    unfold runs
    rw [e]
    rcases Nat.eq_zero_or_pos (joinM M).length with h | h
    · exfalso
      have h9 := List.eq_nil_of_length_eq_zero h
      obtain ⟨N, a, rfl⟩ : ∃ N a, M = N ++ [a] := by
        rcases List.eq_nil_or_concat M with rfl | ⟨N, a, rfl⟩
        · simp at hM0
        · exact ⟨N, a, by simp⟩
      rw [join_snoc] at h9
      rcases step_cases (joinM N) a with ⟨o, m, _, e2⟩ | ⟨_, e2⟩ <;> rw [e2] at h9 <;> simp at h9
    · exact h
  have hJh := Lib.hid hJ
  have hsl1' := Lib.hid hsl1
  have hMc' := Lib.hid hMc
  clear hBa hTa hb1 hM hsl1 hJ hMc hs2'
  go_wp2_with fail
  refine (impl_Join M A3 c3 w1.heap.size _ hsl1'.out (Nat.le_refl _) hMc'.out hM0 (by omega)).mono ?_
  rintro e w2 ⟨v, rfl, hb2, hown⟩
  obtain ⟨J, hJe⟩ : ∃ J, runs (cyc M) 0 M.length = J := ⟨_, rfl⟩
  rw [hJe] at hown hJh gJ hl1
  clear hJe hsl1' hMc'
  have hT2 := ((bcell hb2).1 w.heap.size 0 hz1).trans hT1
  have hB2 := bnext hB1 hb2
  have hz2 : w.heap.size < w2.heap.size := by have := hb2.size; omega
  have hs3 := Lib.hid (hs2''.out.below (hb2.mono (Nat.le_trans hB hB1.size)))
  clear hs2'' hT1 hb2 hB1
  go_wp2_with fail
  refine (impl_Normal Q A2 c2 B _ hs3.out (Nat.le_trans hB hB2.size) hv2'.out).mono ?_
  rintro e w3 ⟨N, ⟨hN, hNc, hN0, hNl⟩, A4, c4, rfl, hb3, hsl3⟩
  have hT3 := ((bcell hb3).1 w.heap.size 0 hz2).trans hT2
  have hB3 := bnext hB2 hb3
  have hz3 : w.heap.size < w3.heap.size := by have := hb3.size; omega
  have hown := owns_onR hown hb3
  have hK := norm_join hN
  have gK := hK.good hv2'.out
  have hKh := Lib.hid hK
  have hsl3' := Lib.hid hsl3
  have hNc' := Lib.hid hNc
  clear hT2 hb3 hB2 hN hsl3 hNc hs3 hK
  go_wp2_with fail
  refine (impl_Join N A4 c4 w3.heap.size _ hsl3'.out (Nat.le_refl _) hNc'.out hN0 (by omega)).mono ?_
  rintro e w4 ⟨v2, rfl, hb4, hownK⟩
  obtain ⟨K, hKe⟩ : ∃ K, runs (cyc N) 0 N.length = K := ⟨_, rfl⟩
  rw [hKe] at hownK hKh gK
  clear hKe hsl3' hNc'
  have hT4 := ((bcell hb4).1 w.heap.size 0 hz3).trans hT3
  have hB4 := bnext hB3 hb4
  have hz4 : w.heap.size < w4.heap.size := by have := hb4.size; omega
  have hown := owns_onR hown hb4
  obtain ⟨AJ, cJ, rfl, -, hslJ⟩ := owns_slc hown
  obtain ⟨AK, cK, rfl, hcK, hslK⟩ := owns_slc hownK
  have hlJ := gJ.2
  have hlK := gK.2
  have gJ' := Lib.hid gJ.1
  have gK' := Lib.hid gK.1
  have hslJ' := Lib.hid hslJ
  have hslK' := Lib.hid hslK
  have hB4' := Lib.hid hB4
  clear hT3 hb4 hB3 hown hownK hslJ hslK gJ gK hB4
  by_cases hlen : J.length = K.length
  rotate_left
  · have hm := Lib.hid (closeM_len (tol := tol) hlen)
    have hne : ((J.length : Int) == (K.length : Int)) = false := beq_eq_false_iff_ne.2 (by omega)
    clear hlen
    go_wp2_with fail
    go_ret
    exact ⟨J, K, ⟨hJh.out, hKh.out⟩, ret_bool hm.out.symm, hB4'.out⟩
  have hlen' := Lib.hid hlen
  have hKp : 0 < K.length := by omega
  rw [hlen]
  clear hlen hlJ hl1
  go_wp2_with fail
  go_loopw [6, 24] (fun rv i wr => rv = .bool false ∧ ∃ q : Nat, i = .int .i64 q ∧ q ≤ K.length ∧ Hid (allTo (fun i => !closeAt tol J K i) q = true) ∧ Below w4.heap.size w4 wr) (fun _ i _ => K.length - (intOf i).toNat)
  case atStart => exact ⟨rfl, 0, rfl, Nat.zero_le _, Lib.hid rfl, Below.refl _ _⟩
  case round =>
    obtain ⟨rfl, q, rfl, hq, hall, hB5⟩ := hrel
    by_cases hlt : q < K.length
    · obtain ⟨b, o, rfl, hb, -⟩ := jc_w hslK'.out (Nat.le_refl _) hKp
      have hqI : (q : Int) ≤ (K.length : Int) := by omega
      have hcI : (K.length : Int) ≤ (cK : Int) := by omega
      have hqc : (q : Int) ≤ (cK : Int) := by omega
      have hq0 : ¬ (q : Int) < 0 := by omega
      go_wp2_with fail
      go_still_tail 6, (by kernel_rfl)
      change wpList _ _ _ _ _ wr.drew
      obtain ⟨w6, hw6⟩ : ∃ w6, w6 = wr.drew := ⟨_, rfl⟩
      rw [← hw6]
      have hB6 : Below w4.heap.size w4 w6 := by rw [hw6]; go_grown
      have hS6 := hB6.size
      clear hw6 hB5
      go_wp2_with fail
      have hUl : (K.drop q).length = K.length - q := List.length_drop
      have hVl : (K.take q).length = q := by rw [List.length_take]; omega
      have hBx : Below w4.heap.size w4 (w6.alloc (.cells #[.slice (some ⟨b, o + q * 2, none⟩) (K.length - q) (cK - q), .slice (some ⟨b, o, none⟩) q cK] 25)) := by go_grown
      have hlift := fun {xs : List Value} {a : Option Addr} (h : Sl w4 w4.heap.size a xs) => (h.below hBx).more (B' := (w6.alloc (.cells #[.slice (some ⟨b, o + q * 2, none⟩) (K.length - q) (cK - q), .slice (some ⟨b, o, none⟩) q cK] 25)).heap.size) hBx.size
      refine (lib_ConcatP (K.drop q) (K.take q) ⟨b, o + q * 2, none⟩ ⟨b, o, none⟩ (cK - q) cK w6.heap.size _ (by simp) (by rw [hUl]; simp) (by rw [hVl]; simp) (hlift (jc_drop_sl hslK'.out (by omega))) (hlift (by rw [jc_take (by omega)]; exact hslK'.out.take _)) (by omega) (by omega)).mono ?_
      rintro e w7 ⟨v, rfl, hb7, hown⟩
      have hrl : (K.drop q ++ K.take q).length = K.length := by rw [List.length_append, hUl, hVl]; omega
      rw [hrl] at hown
      have hal := Lib.hid (alike_rot (tol := tol) (J := J) hlen'.out hlt)
      have gU := Lib.hid (goodJ_rot (q := q) gK'.out)
      have hB7 := bnext hBx hb7
      obtain ⟨U, hU⟩ : ∃ U, K.drop q ++ K.take q = U := ⟨_, rfl⟩
      rw [hU] at hown hal gU hrl
      obtain ⟨A7, c7, rfl, -, hsl⟩ := owns_slc hown
      have hsl' := Lib.hid hsl
      have hrl' := Lib.hid hrl
      have hz7 : w.heap.size < w7.heap.size := by have := hB7.size; omega
      have hT7 := ((bcell hB7).1 w.heap.size 0 hz4).trans hT4
      have hJ7 := Lib.hid ((hslJ'.out.below hB7).more hB7.size)
      clear hown hsl hrl hlift hUl hVl hb7 hBx hU hB6 hS6 hT4
      have hE : ∀ w', w' = w7 → Calls Try.prog 26 #[.slice AJ K.length cJ, .slice A7 K.length c7, .func (Fn.func 27) #[] #[.pointer (some ⟨w.heap.size, 0, none⟩)]] w' fun e w'' => e = .returned (.bool (closeAt tol J K q)) ∧ Below w7.heap.size w7 w'' := fun w' e => by
        subst e
        have h := impl_equalP J U AJ A7 cJ c7 w'.heap.size w.heap.size tol w' hJ7.out hsl'.out (Nat.le_refl _) (by have := hlen'.out; omega) (by rw [hrl'.out, hlen'.out]) gJ'.out gU.out hz7 hT7
        rw [hal.out, hlen'.out] at h
        exact h
      have hE' := Lib.hid hE
      clear hE hJ7 hsl' hal gU
      cases hc : closeAt tol J K q
      · have hst := Lib.hid (allTo_step (f := fun i => !closeAt tol J K i) hall.out (by show (!closeAt tol J K q) = true; rw [hc]; rfl))
        rw [hc] at hE'
        go_wp2_with fail
        refine (hE'.out _ rfl).mono ?_
        rintro e w8 ⟨rfl, hb8⟩
        go_wp2_with fail
        go_roundw
        case rel => exact ⟨rfl, q + 1, by go_num, by omega, hst, bnext hB7 hb8⟩
        case measure => simp [intOf]; omega
      · have hm := Lib.hid (closeM_hit (tol := tol) hlen'.out hlt hc)
        rw [hc] at hE'
        go_wp2_with fail
        refine (hE'.out _ rfl).mono ?_
        rintro e w8 ⟨rfl, hb8⟩
        go_wp2_with fail
        go_ret
        exact ⟨J, K, ⟨hJh.out, hKh.out⟩, ret_bool hm.out.symm, bnext hB4'.out (bnext hB7 hb8)⟩
    · obtain rfl : q = K.length := by omega
      have hm := Lib.hid (closeM_none (tol := tol) (J := J) (K := K) hall.out)
      have hBf := bnext hB4'.out hB5
      go_wp2
      go_ret
      exact ⟨J, K, ⟨hJh.out, hKh.out⟩, ret_bool hm.out.symm, hBf⟩
set_option maxHeartbeats 1600000 in
theorem impl_CloseR (P Q : List RPhase) (A A2 : Option Addr) (c c2 B : Nat) (tol : Int) (w : World) (hs : Sl w B A (flat RPhase.cells P)) (hs2 : Sl w B A2 (flat RPhase.cells Q)) (hB : B ≤ w.heap.size) (ok : ∀ a ∈ P, a.ok) (ok2 : ∀ a ∈ Q, a.ok) (hl : P.length ≤ 1048576) (hl2 : Q.length ≤ 1048576) : Calls Try.prog 7 #[.slice A P.length c, .slice A2 Q.length c2, .int .i64 tol] w fun e w' => ∃ t, ClR P Q tol t ∧ e = .returned (.bool t) ∧ Below w.heap.size w w' := by
  have hs' := Lib.hid hs
  have hs2' := Lib.hid hs2
  have ok' := Lib.hid ok
  have ok2' := Lib.hid ok2
  clear hs hs2 ok ok2
  have hV : ∀ w, Sl w B A (flat RPhase.cells P) → B ≤ w.heap.size → Calls Try.prog 14 #[.slice A P.length c] w fun e w' => e = .returned (.bool (vPhases P)) ∧ Below w.heap.size w w' := fun w h1 h2 => impl_PhOk P A c B w h1 h2 ok'.out hl
  have hV' := Lib.hid hV
  have hW : ∀ w, Sl w B A2 (flat RPhase.cells Q) → B ≤ w.heap.size → Calls Try.prog 14 #[.slice A2 Q.length c2] w fun e w' => e = .returned (.bool (vPhases Q)) ∧ Below w.heap.size w w' := fun w h1 h2 => impl_PhOk Q A2 c2 B w h1 h2 ok2'.out hl2
  have hW' := Lib.hid hW
  clear hV hW
  cases h1 : vPhases P
  · have hm : Hid (ClR P Q tol false) := Lib.hid (Or.inl ⟨by rw [h1]; rfl, rfl⟩)
    rw [h1] at hV'
    go_enter Try.func7, Try.ntmps7
    go_wp2_with fail
    refine (hV'.out _ hs'.out hB).mono ?_
    rintro e w1 ⟨rfl, hb1⟩
    go_wp2_with fail
    go_ret
    exact ⟨false, hm.out, rfl, hb1⟩
  rw [h1] at hV'
  cases h2 : vPhases Q
  · have hm : Hid (ClR P Q tol false) := Lib.hid (Or.inl ⟨by rw [h1, h2]; rfl, rfl⟩)
    rw [h2] at hW'
    go_enter Try.func7, Try.ntmps7
    go_wp2_with fail
    refine (hV'.out _ hs'.out hB).mono ?_
    rintro e w1 ⟨rfl, hb1⟩
    go_wp2_with fail
    refine (hW'.out _ (hs2'.out.below (hb1.mono hB)) (Nat.le_trans hB hb1.size)).mono ?_
    rintro e w2 ⟨rfl, hb2⟩
    go_wp2_with fail
    go_ret
    exact ⟨false, hm.out, rfl, bnext hb1 hb2⟩
  rw [h2] at hW'
  cases h3 : inB tol 0 20
  · have hm : Hid (ClR P Q tol false) := Lib.hid (Or.inl ⟨by rw [h1, h2, h3]; rfl, rfl⟩)
    go_enter Try.func7, Try.ntmps7
    go_wp2_with fail
    refine (hV'.out _ hs'.out hB).mono ?_
    rintro e w1 ⟨rfl, hb1⟩
    go_wp2_with fail
    refine (hW'.out _ (hs2'.out.below (hb1.mono hB)) (Nat.le_trans hB hb1.size)).mono ?_
    rintro e w2 ⟨rfl, hb2⟩
    have hB2 := bnext hb1 hb2
    go_wp2_with (go_at_call 15; refine (impl_Tol _ _).mono ?_; rintro e w' ⟨rfl, rfl⟩)
    go_ret
    exact ⟨false, hm.out, rfl, hB2⟩
  have hof := Lib.hid (fun J K hJ hK => show ClR P Q tol (closeM tol J K) from Or.inr ⟨by rw [h1, h2, h3]; rfl, J, K, ⟨hJ, hK⟩, rfl⟩)
  go_enter Try.func7, Try.ntmps7
  go_wp2_with fail
  refine (hV'.out _ hs'.out hB).mono ?_
  rintro e w1 ⟨rfl, hb1⟩
  go_wp2_with fail
  refine (hW'.out _ (hs2'.out.below (hb1.mono hB)) (Nat.le_trans hB hb1.size)).mono ?_
  rintro e w2 ⟨rfl, hb2⟩
  have hB2 := bnext hb1 hb2
  have hs9 := Lib.hid (hs'.out.below (hB2.mono hB))
  have hs8 := Lib.hid (hs2'.out.below (hB2.mono hB))
  clear hb1 hb2
  go_wp2_with (go_at_call 15; refine (impl_Tol _ _).mono ?_; rintro e w' ⟨rfl, rfl⟩)
  refine (impl_closeR P Q A A2 c c2 B tol _ hs9.out hs8.out (Nat.le_trans hB hB2.size) h1 h2).mono ?_
  rintro e w3 ⟨J, K, ⟨hJ, hK⟩, rfl, hb3⟩
  have hm := Lib.hid (hof.out J K hJ hK)
  clear hof hJ hK
  generalize closeM tol J K = t at hm
  go_wp2_with fail
  go_ret
  exact ⟨t, hm.out, rfl, bnext hB2 hb3⟩
end Go.Proofs.Ytpnffdkkmibchaa
