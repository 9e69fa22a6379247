/-
  ValidPairs: what makes a list of pairs valid: the program's and the reference's; the law. Each under the conditions that it states.
-/
import Derived.Test.YtkfgoopmdechaaaIntss
import Derived.Test.YtkfgoopmdechaaaText1
set_option linter.unusedVariables false
set_option linter.unnecessarySimpa false
set_option maxRecDepth 100000
set_option linter.unusedSimpArgs false
namespace Go.Proofs.Ytkfgoopmdechaaa
open Go.RowKit BigFrame

def p0M (L : List Int) : Int := L.getD 0 0
def p1M (L : List Int) : Int := L.getD 1 0
/-- A row of two numbers, ascending, below n. -/
def pairOk (n : Int) (L : List Int) : Bool := decide (L.length = 2) && (decide (0 ≤ p0M L) && (decide (p0M L < p1M L) && decide (p1M L < n)))
def lexM (a b c d : Int) : Bool := decide (a < c) || (decide (a = c) && decide (b < d))
def okPair (n : Int) (R : List Row) (k : Nat) : Bool := pairOk n (R.getD k default).L && (decide (k = 0) || lexM (p0M (R.getD (k - 1) default).L) (p1M (R.getD (k - 1) default).L) (p0M (R.getD k default).L) (p1M (R.getD k default).L))
def vPairsM (n : Int) (R : List Row) : Bool := inB n 0 24 && allTo (okPair n R) R.length
theorem vPairs_hit {n : Int} {R : List Row} {k : Nat} (hk : k < R.length) (h : okPair n R k = false) : vPairsM n R = false := by
  unfold vPairsM; rw [allTo_hit hk h, Bool.and_false]
theorem okPair_bad {n : Int} {R : List Row} {k : Nat} {r : Row} (hg : R.getD k default = r) (h : pairOk n r.L = false) : okPair n R k = false := by
  unfold okPair; rw [hg, h]; rfl
theorem okPair_zero {n : Int} {R : List Row} {r : Row} (hg : R.getD 0 default = r) (h : pairOk n r.L = true) : okPair n R 0 = true := by
  unfold okPair; rw [hg, h]; rfl
theorem okPair_step {n : Int} {R : List Row} {m : Nat} {r q : Row} (hg : R.getD (m + 1) default = r) (hq : R.getD m default = q) (h : pairOk n r.L = true) : okPair n R (m + 1) = lexM (p0M q.L) (p1M q.L) (p0M r.L) (p1M r.L) := by
  unfold okPair; rw [hg, Nat.add_sub_cancel, hq, h]; simp
theorem allTo_at {f : Nat → Bool} {k : Nat} (h : allTo f (k + 1) = true) : f k = true := by
  cases hf : f k
  · rw [allTo_hit (Nat.lt_succ_self k) hf] at h; cases h
  · rfl
theorem okPair_two {n : Int} {R : List Row} {k : Nat} {r : Row} (hg : R.getD k default = r) (h : okPair n R k = true) : r.L.length = 2 := by
  unfold okPair pairOk at h
  rw [hg] at h
  simp only [Bool.and_eq_true, decide_eq_true_eq] at h
  exact h.1.1
theorem two_is {L : List Int} (h : L.length = 2) : ∃ a b, L = [a, b] := by
  match L, h with
  | [a, b], _ => exact ⟨a, b, rfl⟩
theorem pairOk_mk {n a b : Int} (h0 : 0 ≤ a) (h1 : a < b) (h2 : b < n) : pairOk n [a, b] = true := by simp [pairOk, p0M, p1M, h0, h1, h2]
theorem pairOk_un {n a b : Int} (h : a < 0 ∨ b ≤ a ∨ n ≤ b) : pairOk n [a, b] = false := by
  simp [pairOk, p0M, p1M]; omega
theorem pairOk_len {n : Int} {L : List Int} (h : ¬ L.length = 2) : pairOk n L = false := by
  unfold pairOk; rw [decide_eq_false h]; rfl

/-- Two numbers in memory. -/
def Pr (w : World) (b o : Nat) (x y : Int) : Prop := b < w.heap.size ∧ w.cell? ⟨b, o, none⟩ = some (.int .i64 x) ∧ w.cell? ⟨b, o + 1, none⟩ = some (.int .i64 y)
theorem Pr.on {w w' : World} {b o : Nat} {x y : Int} (h : Pr w b o x y) (hb : Below w.heap.size w w') : Pr w' b o x y :=
  ⟨Nat.lt_of_lt_of_le h.1 hb.size, (hb.cell (p := ⟨b, o, none⟩) h.1).trans h.2.1, (hb.cell (p := ⟨b, o + 1, none⟩) h.1).trans h.2.2⟩
theorem Pr.of {w : World} {B : Nat} {A : Option Addr} {x y : Int} (h : Sl w B A (ints [x, y])) (hB : B ≤ w.heap.size) : ∃ b o : Nat, A = some ⟨b, o, none⟩ ∧ Pr w b o x y := by
  obtain ⟨b, o, e, hb, hc⟩ := h (by simp [ints])
  exact ⟨b, o, e, by omega, hc 0 _ rfl, hc 1 _ rfl⟩

def cmpM (a b : Int) : Int := if a < b then -1 else if b < a then 1 else 0
theorem int_isNaN (a : Int) (w : World) : Calls Try.prog 90 #[.int .i64 a] w fun e w' => e = .returned (.bool false) ∧ w = w' := by
  go_enter Try.func90, Try.ntmps90
  go_wp2
  go_ret
  exact ⟨rfl, rfl⟩
theorem int_compare (a b : Int) (w : World) : Calls Try.prog 75 #[.int .i64 a, .int .i64 b] w fun e w' => e = .returned (.int .i64 (cmpM a b)) ∧ w = w' := by
  unfold cmpM
  go_enter Try.func75, Try.ntmps75
  go_wp2_with (go_at_call 90; refine (int_isNaN _ _).mono ?_; rintro e w' ⟨rfl, rfl⟩)
  all_goals (go_ret; exact ⟨ret_int (by simp [*]; try omega), rfl⟩)

def cmp2 (a b c d : Int) : Int := if cmpM a c = 0 then cmpM b d else cmpM a c
set_option maxHeartbeats 800000 in
theorem pair_compare (a b c d : Int) (b1 o1 c1 b2 o2 c2 : Nat) (w : World) (p1 : Pr w b1 o1 a b) (p2 : Pr w b2 o2 c d) : Calls Try.prog 48 #[.slice (some ⟨b1, o1, none⟩) 2 c1, .slice (some ⟨b2, o2, none⟩) 2 c2] w fun e w' => e = .returned (.int .i64 (cmp2 a b c d)) ∧ w = w' := by
  obtain ⟨_, x0, x1⟩ := p1
  obtain ⟨_, y0, y1⟩ := p2
  have h1 : ∀ w, Calls Try.prog 75 #[.int .i64 a, .int .i64 c] w fun e w' => e = .returned (.int .i64 (cmpM a c)) ∧ w = w' := fun w => int_compare a c w
  have h2 : ∀ w, Calls Try.prog 75 #[.int .i64 b, .int .i64 d] w fun e w' => e = .returned (.int .i64 (cmpM b d)) ∧ w = w' := fun w => int_compare b d w
  have hm : Hid (cmp2 a b c d = if cmpM a c = 0 then cmpM b d else cmpM a c) := Lib.hid rfl
  generalize cmpM a c = u at *
  generalize cmpM b d = v at *
  go_enter Try.func48, Try.ntmps48
  go_wp2
  go_loopw [11] (fun i wr => ∃ k : Nat, i = .int .i64 k ∧ k ≤ 2 ∧ (1 ≤ k → u = 0) ∧ (2 ≤ k → v = 0) ∧ w = wr) (fun i _ => 2 - (intOf i).toNat)
  case atStart => exact ⟨0, rfl, by omega, fun h => by omega, fun h => by omega, rfl⟩
  case round =>
    obtain ⟨k, rfl, hk, hu, hv, rfl⟩ := hrel
    rcases (by omega : k = 0 ∨ k = 1 ∨ k = 2) with rfl | rfl | rfl
    · by_cases e : u = 0
      · subst e
        go_wp2_with (go_at_call 75; first | (with_reducible refine (h1 _).mono ?_; rintro e w' ⟨rfl, rfl⟩) | (with_reducible refine (h2 _).mono ?_; rintro e w' ⟨rfl, rfl⟩))
        go_roundw
        case rel => exact ⟨1, rfl, by omega, by intros; first | rfl | trivial, fun h => by omega, by first | rfl | trivial⟩
        case measure => simp [intOf]
      · have e0 : (u == 0) = false := beq_eq_false_iff_ne.2 e
        have hr : Hid (cmp2 a b c d = u) := by apply Lib.hid; rw [hm.out, if_neg e]
        clear e hu
        go_wp2_with (go_at_call 75; first | (with_reducible refine (h1 _).mono ?_; rintro e w' ⟨rfl, rfl⟩) | (with_reducible refine (h2 _).mono ?_; rintro e w' ⟨rfl, rfl⟩))
        go_ret
        exact ⟨ret_int hr.out.symm, rfl⟩
    · have e1 := hu (by omega)
      subst e1
      clear hu
      by_cases e : v = 0
      · subst e
        go_wp2_with (go_at_call 75; first | (with_reducible refine (h1 _).mono ?_; rintro e w' ⟨rfl, rfl⟩) | (with_reducible refine (h2 _).mono ?_; rintro e w' ⟨rfl, rfl⟩))
        go_roundw
        case rel => exact ⟨2, rfl, by omega, by intros; first | rfl | trivial, by intros; first | rfl | trivial, by first | rfl | trivial⟩
        case measure => simp [intOf]
      · have e0 : (v == 0) = false := beq_eq_false_iff_ne.2 e
        have hr : Hid (cmp2 a b c d = v) := by apply Lib.hid; rw [hm.out, if_pos rfl]
        clear e hv
        go_wp2_with (go_at_call 75; first | (with_reducible refine (h1 _).mono ?_; rintro e w' ⟨rfl, rfl⟩) | (with_reducible refine (h2 _).mono ?_; rintro e w' ⟨rfl, rfl⟩))
        go_ret
        exact ⟨ret_int hr.out.symm, rfl⟩
    · have e1 := hu (by omega)
      have e2 := hv (by omega)
      subst e1 e2
      have hr : Hid (cmp2 a b c d = 0) := by apply Lib.hid; rw [hm.out, if_pos rfl]
      go_wp2
      go_ret
      exact ⟨ret_int hr.out.symm, rfl⟩
theorem cmp2_lex (a b c d : Int) : decide (0 ≤ cmp2 a b c d) = !(lexM a b c d) := by
  unfold cmp2 cmpM lexM
  rcases (by omega : a < c ∨ c < a ∨ a = c) with h | h | h
  · simp [h]
  · have h1 : ¬ a < c := by omega
    have h2 : ¬ a = c := by omega
    simp [h, h1, h2]
  · subst h
    rcases (by omega : b < d ∨ d < b ∨ b = d) with h | h | h
    · simp [h]
    · have h1 : ¬ b < d := by omega
      simp [h, h1]
    · subst h; simp


set_option maxHeartbeats 3200000 in
theorem impl_ValidPairs (R : List Row) (n : Int) (A : Option Addr) (c B : Nat) (w : World) (hs : Sl w B A (flat Row.cells R)) (hB : B ≤ w.heap.size) (hok : ∀ r ∈ R, r.ok w B) (hl : R.length ≤ 1048576) (hl2 : ∀ r ∈ R, r.L.length ≤ 1048576) :
    Calls Try.prog 21 #[.slice A R.length c, .int .i64 n] w fun e w' => e = .returned (.bool (vPairsM n R)) ∧ Below w.heap.size w w' := by
  have hs' := Lib.hid hs
  have hok' := Lib.hid hok
  have hl' := hl2
  clear hs hok hl2
  go_enter Try.func21, Try.ntmps21
  go_wp2
  go_loopw [9] (fun i wr => ∃ k : Nat, i = .int .i64 k ∧ k ≤ R.length ∧ allTo (okPair n R) k = true ∧ Below w.heap.size w wr) (fun i _ => R.length - (intOf i).toNat)
  case atStart => exact ⟨0, rfl, Nat.zero_le _, rfl, Below.refl _ _⟩
  case round =>
    obtain ⟨k, rfl, hk, hv, hB1⟩ := hrel
    have hS1 := hB1.size
    have hv' := Lib.hid hv
    clear hv
    by_cases hlt : k < R.length
    · obtain ⟨b, o, rfl, hb, he⟩ := Sl.elem Row.len (by decide) (hs'.out.below (hB1.mono hB)) hlt
      have d0 : wr.cell? ⟨b, o + k, none⟩ = some (.slice R[k].A R[k].L.length R[k].c) := by have := he 0 _ rfl; simpa using this
      have hr := Lib.hid (Row.ok_below (r := R[k]) (hok'.out _ (List.getElem_mem hlt)) (hB1.mono hB)).1
      have hlr := hl' _ (List.getElem_mem hlt)
      have hg := Lib.hid (getD_at hlt)
      obtain ⟨r, hre⟩ : ∃ r, R[k] = r := ⟨_, rfl⟩
      rw [hre] at d0 hr hlr hg
      clear he hre
      have hbw : b < wr.heap.size := by omega
      have hbw' : b ≤ wr.heap.size := by omega
      have hSB : B ≤ wr.heap.size := by omega
      by_cases h2 : r.L.length = 2
      rotate_left
      · have hm := Lib.hid (vPairs_hit hlt (okPair_bad hg.out (pairOk_len (n := n) h2)))
        have hne : ((r.L.length : Int) != 2) = true := bne_iff_ne.2 (by omega)
        clear h2
        go_wp2_with fail
        refine wp_region_grew (by kernel_rfl) (by kernel_rfl) ?_
        repeat (first | (go_big_quiet_step (fail)) | (quiet_step (fail)))
        refine wpQuiet_nil ?_
        rintro _ ⟨⟨w9, hb9⟩, rfl⟩
        try dsimp only
        obtain ⟨hc9, hf9⟩ := bcell hb9
        go_wp2
        go_ret
        exact ⟨ret_bool hm.out.symm, bnext hB1 hb9⟩
      obtain ⟨A1, r1, L1⟩ := r
      obtain ⟨p0, p1, rfl⟩ := two_is h2
      replace d0 : wr.cell? ⟨b, o + k, none⟩ = some (.slice A1 2 r1) := d0
      obtain ⟨b1, o1, rfl, hp⟩ := Pr.of hr.out hSB
      obtain ⟨hp1, x0, x1⟩ := id hp
      have hp1' : b1 ≤ wr.heap.size := by omega
      clear hr hlr h2
      have hpq := hp
      by_cases h3 : p0 < 0
      · have hm := Lib.hid (vPairs_hit hlt (okPair_bad hg.out (pairOk_un (n := n) (Or.inl h3))))
        have t1 : decide (p0 < 0) = true := decide_eq_true h3
        clear h3
        go_wp2_with fail
        refine wp_region_grew (by kernel_rfl) (by kernel_rfl) ?_
        repeat (first | (go_big_quiet_step ((first | (go_at_call 48; exact grew_same (pair_compare _ _ _ _ _ _ _ _ _ _ _ (hpq.on (Grew.below _)) (hp.on (Grew.below _))))))) | (quiet_step ((first | (go_at_call 48; exact grew_same (pair_compare _ _ _ _ _ _ _ _ _ _ _ (hpq.on (Grew.below _)) (hp.on (Grew.below _))))))))
        refine wpQuiet_nil ?_
        rintro _ ⟨⟨w9, hb9⟩, rfl⟩
        try dsimp only
        obtain ⟨hc9, hf9⟩ := bcell hb9
        go_wp2
        go_ret
        exact ⟨ret_bool hm.out.symm, bnext hB1 hb9⟩
      have t1 : decide (p0 < 0) = false := decide_eq_false h3
      by_cases h4 : p1 ≤ p0
      · have hm := Lib.hid (vPairs_hit hlt (okPair_bad hg.out (pairOk_un (n := n) (Or.inr (Or.inl h4)))))
        have t2 : decide (p1 ≤ p0) = true := decide_eq_true h4
        clear h3 h4
        go_wp2_with fail
        refine wp_region_grew (by kernel_rfl) (by kernel_rfl) ?_
        repeat (first | (go_big_quiet_step ((first | (go_at_call 48; exact grew_same (pair_compare _ _ _ _ _ _ _ _ _ _ _ (hpq.on (Grew.below _)) (hp.on (Grew.below _))))))) | (quiet_step ((first | (go_at_call 48; exact grew_same (pair_compare _ _ _ _ _ _ _ _ _ _ _ (hpq.on (Grew.below _)) (hp.on (Grew.below _))))))))
        refine wpQuiet_nil ?_
        rintro _ ⟨⟨w9, hb9⟩, rfl⟩
        try dsimp only
        obtain ⟨hc9, hf9⟩ := bcell hb9
        go_wp2
        go_ret
        exact ⟨ret_bool hm.out.symm, bnext hB1 hb9⟩
      have t2 : decide (p1 ≤ p0) = false := decide_eq_false h4
      by_cases h5 : n ≤ p1
      · have hm := Lib.hid (vPairs_hit hlt (okPair_bad hg.out (pairOk_un (n := n) (Or.inr (Or.inr h5)))))
        have t3 : decide (n ≤ p1) = true := decide_eq_true h5
        clear h3 h4 h5
        go_wp2_with fail
        refine wp_region_grew (by kernel_rfl) (by kernel_rfl) ?_
        repeat (first | (go_big_quiet_step ((first | (go_at_call 48; exact grew_same (pair_compare _ _ _ _ _ _ _ _ _ _ _ (hpq.on (Grew.below _)) (hp.on (Grew.below _))))))) | (quiet_step ((first | (go_at_call 48; exact grew_same (pair_compare _ _ _ _ _ _ _ _ _ _ _ (hpq.on (Grew.below _)) (hp.on (Grew.below _))))))))
        refine wpQuiet_nil ?_
        rintro _ ⟨⟨w9, hb9⟩, rfl⟩
        try dsimp only
        obtain ⟨hc9, hf9⟩ := bcell hb9
        go_wp2
        go_ret
        exact ⟨ret_bool hm.out.symm, bnext hB1 hb9⟩
      have t3 : decide (n ≤ p1) = false := decide_eq_false h5
      have hva : pairOk n [p0, p1] = true := pairOk_mk (by omega) (by omega) (by omega)
      clear h3 h4 h5 hpq
      rcases k with _ | m
      · have hpq := hp
        have hf2 := Lib.hid (allTo_step hv'.out (okPair_zero hg.out hva))
        simp only [Nat.add_zero] at d0
        go_wp2_with fail
        refine wp_region_grew (by kernel_rfl) (by kernel_rfl) ?_
        repeat (first | (go_big_quiet_step ((first | (go_at_call 48; exact grew_same (pair_compare _ _ _ _ _ _ _ _ _ _ _ (hpq.on (Grew.below _)) (hp.on (Grew.below _))))))) | (quiet_step ((first | (go_at_call 48; exact grew_same (pair_compare _ _ _ _ _ _ _ _ _ _ _ (hpq.on (Grew.below _)) (hp.on (Grew.below _))))))))
        refine wpQuiet_nil ?_
        rintro _ ⟨⟨w9, hb9⟩, rfl⟩
        try dsimp only
        obtain ⟨hc9, hf9⟩ := bcell hb9
        go_wp2
        go_roundw
        case rel => exact ⟨0 + 1, by go_num, by omega, hf2.out, bnext hB1 hb9⟩
        case measure => simp [intOf]; omega
      obtain ⟨b3, o3, e3, hb3, he3⟩ := Sl.elem Row.len (by decide) (hs'.out.below (hB1.mono hB)) (show m < R.length by omega)
      cases e3
      have n0 : wr.cell? ⟨b, o + m, none⟩ = some (.slice R[m].A R[m].L.length R[m].c) := by have := he3 0 _ rfl; simpa using this
      have hrq := Lib.hid (Row.ok_below (r := R[m]) (hok'.out _ (List.getElem_mem (by omega))) (hB1.mono hB)).1
      have hq := Lib.hid (getD_at (show m < R.length by omega))
      obtain ⟨q, hqe⟩ : ∃ r, R[m] = r := ⟨_, rfl⟩
      rw [hqe] at n0 hrq hq
      clear he3 hqe
      have h3 := okPair_two hq.out (allTo_at hv'.out)
      obtain ⟨A2, r2, L2⟩ := q
      obtain ⟨q0, q1, rfl⟩ := two_is h3
      replace n0 : wr.cell? ⟨b, o + m, none⟩ = some (.slice A2 2 r2) := n0
      obtain ⟨b2, o2, rfl, hpq⟩ := Pr.of hrq.out hSB
      obtain ⟨hp2, y0, y1⟩ := id hpq
      have hp2' : b2 ≤ wr.heap.size := by omega
      clear hrq h3
      have hst := Lib.hid (okPair_step hg.out hq.out hva)
      have hpos : (0 : Int) < (m : Int) + 1 := by omega
      have hcl := cmp2_lex q0 q1 p0 p1
      cases hlx : lexM q0 q1 p0 p1
      · have hm := Lib.hid (vPairs_hit hlt (hst.out.trans hlx))
        rw [hlx] at hcl
        clear hlx
        go_wp2_with fail
        refine wp_region_grew (by kernel_rfl) (by kernel_rfl) ?_
        repeat (first | (go_big_quiet_step ((first | (go_at_call 48; exact grew_same (pair_compare _ _ _ _ _ _ _ _ _ _ _ (hpq.on (Grew.below _)) (hp.on (Grew.below _))))))) | (quiet_step ((first | (go_at_call 48; exact grew_same (pair_compare _ _ _ _ _ _ _ _ _ _ _ (hpq.on (Grew.below _)) (hp.on (Grew.below _))))))))
        refine wpQuiet_nil ?_
        rintro _ ⟨⟨w9, hb9⟩, rfl⟩
        try dsimp only
        obtain ⟨hc9, hf9⟩ := bcell hb9
        go_wp2
        go_ret
        exact ⟨ret_bool hm.out.symm, bnext hB1 hb9⟩
      · have hf2 := Lib.hid (allTo_step hv'.out (hst.out.trans hlx))
        rw [hlx] at hcl
        clear hlx
        go_wp2_with fail
        refine wp_region_grew (by kernel_rfl) (by kernel_rfl) ?_
        repeat (first | (go_big_quiet_step ((first | (go_at_call 48; exact grew_same (pair_compare _ _ _ _ _ _ _ _ _ _ _ (hpq.on (Grew.below _)) (hp.on (Grew.below _))))))) | (quiet_step ((first | (go_at_call 48; exact grew_same (pair_compare _ _ _ _ _ _ _ _ _ _ _ (hpq.on (Grew.below _)) (hp.on (Grew.below _))))))))
        refine wpQuiet_nil ?_
        rintro _ ⟨⟨w9, hb9⟩, rfl⟩
        try dsimp only
        obtain ⟨hc9, hf9⟩ := bcell hb9
        go_wp2
        go_roundw
        case rel => exact ⟨m + 1 + 1, by go_num, by omega, hf2.out, bnext hB1 hb9⟩
        case measure => simp [intOf]; omega
    · obtain rfl : k = R.length := by omega
      have hm : Hid (vPairsM n R = inB n 0 24) := by apply Lib.hid; unfold vPairsM; rw [hv'.out, Bool.and_true]
      go_wp2_with (go_at_call 49; refine (within_any _ _ _ _).mono ?_; rintro e w' ⟨rfl, rfl⟩)
      go_ret
      exact ⟨ret_bool hm.out.symm, hB1⟩
set_option maxHeartbeats 3200000 in
theorem spec_l18Pairs (R : List Row) (n : Int) (A : Option Addr) (c B : Nat) (w : World) (hs : Sl w B A (flat Row.cells R)) (hB : B ≤ w.heap.size) (hok : ∀ r ∈ R, r.ok w B) (hl : R.length ≤ 1048576) (hl2 : ∀ r ∈ R, r.L.length ≤ 1048576) :
    Calls Try.prog 47 #[.slice A R.length c, .int .i64 n] w fun e w' => e = .returned (.bool (vPairsM n R)) ∧ Below w.heap.size w w' := by
  have hs' := Lib.hid hs
  have hok' := Lib.hid hok
  have hl' := hl2
  clear hs hok hl2
  cases hn : inB n 0 24
  · have hm : Hid (vPairsM n R = false) := by apply Lib.hid; unfold vPairsM; rw [hn]; rfl
    go_enter Try.func47, Try.ntmps47
    go_wp2_with (go_at_call 74; refine (in_any _ _ _ _).mono ?_; rintro e w' ⟨rfl, rfl⟩)
    go_ret
    exact ⟨ret_bool hm.out.symm, Below.refl _ _⟩
  have hnb := inB_yes.1 hn
  have HN := Lib.hid hn
  go_enter Try.func47, Try.ntmps47
  go_wp2_with (go_at_call 74; refine (in_any _ _ _ _).mono ?_; rintro e w' ⟨rfl, rfl⟩)
  clear hn
  go_loopw [5] (fun i wr => ∃ k : Nat, i = .int .i64 k ∧ k ≤ R.length ∧ allTo (okPair n R) k = true ∧ Below w.heap.size w wr) (fun i _ => R.length - (intOf i).toNat)
  case atStart => exact ⟨0, rfl, Nat.zero_le _, rfl, Below.refl _ _⟩
  case round =>
    obtain ⟨k, rfl, hk, hv, hB1⟩ := hrel
    have hS1 := hB1.size
    have hv' := Lib.hid hv
    clear hv
    by_cases hlt : k < R.length
    · obtain ⟨b, o, rfl, hb, he⟩ := Sl.elem Row.len (by decide) (hs'.out.below (hB1.mono hB)) hlt
      have d0 : wr.cell? ⟨b, o + k, none⟩ = some (.slice R[k].A R[k].L.length R[k].c) := by have := he 0 _ rfl; simpa using this
      have hr := Lib.hid (Row.ok_below (r := R[k]) (hok'.out _ (List.getElem_mem hlt)) (hB1.mono hB)).1
      have hlr := hl' _ (List.getElem_mem hlt)
      have hg := Lib.hid (getD_at hlt)
      obtain ⟨r, hre⟩ : ∃ r, R[k] = r := ⟨_, rfl⟩
      rw [hre] at d0 hr hlr hg
      clear he hre
      have hbw : b < wr.heap.size := by omega
      have hbw' : b ≤ wr.heap.size := by omega
      have hSB : B ≤ wr.heap.size := by omega
      by_cases h2 : r.L.length = 2
      rotate_left
      · have hm := Lib.hid (vPairs_hit hlt (okPair_bad hg.out (pairOk_len (n := n) h2)))
        have hne : ((r.L.length : Int) != 2) = true := bne_iff_ne.2 (by omega)
        clear h2
        go_wp2_with fail
        refine wp_region_grew (by kernel_rfl) (by kernel_rfl) ?_
        repeat (first | (go_big_quiet_step ((first | (go_at_call 74; exact grew_same (in_any _ _ _ _))))) | (quiet_step ((first | (go_at_call 74; exact grew_same (in_any _ _ _ _))))))
        refine wpQuiet_nil ?_
        rintro _ ⟨⟨w9, hb9⟩, rfl⟩
        try dsimp only
        obtain ⟨hc9, hf9⟩ := bcell hb9
        go_wp2_with fail
        go_ret
        exact ⟨ret_bool hm.out.symm, bnext hB1 hb9⟩
      obtain ⟨A1, r1, L1⟩ := r
      obtain ⟨p0, p1, rfl⟩ := two_is h2
      replace d0 : wr.cell? ⟨b, o + k, none⟩ = some (.slice A1 2 r1) := d0
      obtain ⟨b1, o1, rfl, hp⟩ := Pr.of hr.out hSB
      obtain ⟨hp1, x0, x1⟩ := id hp
      have hp1' : b1 ≤ wr.heap.size := by omega
      clear hr hlr h2
      cases h3 : inB p0 0 (n - 1)
      · have hm := Lib.hid (vPairs_hit hlt (okPair_bad hg.out (pairOk_un (n := n) (a := p0) (b := p1) (by have := inB_no.1 h3; omega))))
        go_wp2_with fail
        refine wp_region_grew (by kernel_rfl) (by kernel_rfl) ?_
        repeat (first | (go_big_quiet_step ((first | (go_at_call 74; exact grew_same (in_any _ _ _ _))))) | (quiet_step ((first | (go_at_call 74; exact grew_same (in_any _ _ _ _))))))
        refine wpQuiet_nil ?_
        rintro _ ⟨⟨w9, hb9⟩, rfl⟩
        try dsimp only
        obtain ⟨hc9, hf9⟩ := bcell hb9
        go_wp2_with fail
        go_ret
        exact ⟨ret_bool hm.out.symm, bnext hB1 hb9⟩
      have hp0 := inB_yes.1 h3
      cases h4 : inB p1 (p0 + 1) (n - 1)
      · have hm := Lib.hid (vPairs_hit hlt (okPair_bad hg.out (pairOk_un (n := n) (a := p0) (b := p1) (by have := inB_no.1 h4; omega))))
        go_wp2_with fail
        refine wp_region_grew (by kernel_rfl) (by kernel_rfl) ?_
        repeat (first | (go_big_quiet_step ((first | (go_at_call 74; exact grew_same (in_any _ _ _ _))))) | (quiet_step ((first | (go_at_call 74; exact grew_same (in_any _ _ _ _))))))
        refine wpQuiet_nil ?_
        rintro _ ⟨⟨w9, hb9⟩, rfl⟩
        try dsimp only
        obtain ⟨hc9, hf9⟩ := bcell hb9
        go_wp2_with fail
        go_ret
        exact ⟨ret_bool hm.out.symm, bnext hB1 hb9⟩
      have hp1b := inB_yes.1 h4
      have hva : pairOk n [p0, p1] = true := pairOk_mk (by omega) (by omega) (by omega)
      rcases k with _ | m
      · have hf2 := Lib.hid (allTo_step hv'.out (okPair_zero hg.out hva))
        simp only [Nat.add_zero] at d0
        go_wp2_with fail
        refine wp_region_grew (by kernel_rfl) (by kernel_rfl) ?_
        repeat (first | (go_big_quiet_step ((first | (go_at_call 74; exact grew_same (in_any _ _ _ _))))) | (quiet_step ((first | (go_at_call 74; exact grew_same (in_any _ _ _ _))))))
        refine wpQuiet_nil ?_
        rintro _ ⟨⟨w9, hb9⟩, rfl⟩
        try dsimp only
        obtain ⟨hc9, hf9⟩ := bcell hb9
        go_wp2_with fail
        clear hc9 hf9
        refine wp_region_grew (by kernel_rfl) (by kernel_rfl) ?_
        repeat (first | (go_big_quiet_step (fail)) | (quiet_step (fail)))
        refine wpQuiet_nil ?_
        rintro _ ⟨⟨w8, hb8⟩, rfl⟩
        try dsimp only
        obtain ⟨hc8, hf8⟩ := bcell hb8
        go_wp2
        go_roundw
        case rel => exact ⟨0 + 1, by go_num, by omega, hf2.out, bnext hB1 (bnext hb9 hb8)⟩
        case measure => simp [intOf]; omega
      obtain ⟨b3, o3, e3, hb3, he3⟩ := Sl.elem Row.len (by decide) (hs'.out.below (hB1.mono hB)) (show m < R.length by omega)
      cases e3
      have n0 : wr.cell? ⟨b, o + m, none⟩ = some (.slice R[m].A R[m].L.length R[m].c) := by have := he3 0 _ rfl; simpa using this
      have hrq := Lib.hid (Row.ok_below (r := R[m]) (hok'.out _ (List.getElem_mem (by omega))) (hB1.mono hB)).1
      have hq := Lib.hid (getD_at (show m < R.length by omega))
      obtain ⟨q, hqe⟩ : ∃ r, R[m] = r := ⟨_, rfl⟩
      rw [hqe] at n0 hrq hq
      clear he3 hqe
      have h3 := okPair_two hq.out (allTo_at hv'.out)
      obtain ⟨A2, r2, L2⟩ := q
      obtain ⟨q0, q1, rfl⟩ := two_is h3
      replace n0 : wr.cell? ⟨b, o + m, none⟩ = some (.slice A2 2 r2) := n0
      obtain ⟨b2, o2, rfl, hpq⟩ := Pr.of hrq.out hSB
      obtain ⟨hp2, y0, y1⟩ := id hpq
      have hp2' : b2 ≤ wr.heap.size := by omega
      clear hrq h3
      have hst := Lib.hid (okPair_step hg.out hq.out hva)
      have hpos : (0 : Int) < (m : Int) + 1 := by omega
      go_wp2_with fail
      refine wp_region_grew (by kernel_rfl) (by kernel_rfl) ?_
      repeat (first | (go_big_quiet_step ((first | (go_at_call 74; exact grew_same (in_any _ _ _ _))))) | (quiet_step ((first | (go_at_call 74; exact grew_same (in_any _ _ _ _))))))
      refine wpQuiet_nil ?_
      rintro _ ⟨⟨w9, hb9⟩, rfl⟩
      try dsimp only
      obtain ⟨hc9, hf9⟩ := bcell hb9
      go_wp2_with fail
      have hS9 := hb9.size
      have d9 := (hc9 _ (o + (m + 1)) hbw).trans d0
      have x9 := (hc9 _ o1 hp1).trans x0
      have z9 := (hc9 _ (o1 + 1) hp1).trans x1
      have bw9 : b < _ := Nat.lt_of_lt_of_le hbw hS9
      have bw9' : b ≤ _ := Nat.le_of_lt bw9
      have bp9 : b1 < _ := Nat.lt_of_lt_of_le hp1 hS9
      have bp9' : b1 ≤ _ := Nat.le_of_lt bp9
      have n9 := (hc9 _ (o + m) hbw).trans n0
      have y9 := (hc9 _ o2 hp2).trans y0
      have u9 := (hc9 _ (o2 + 1) hp2).trans y1
      have bq9 : b2 < _ := Nat.lt_of_lt_of_le hp2 hS9
      have bq9' : b2 ≤ _ := Nat.le_of_lt bq9
      clear hc9 hf9 h3 h4
      rcases (by omega : p0 < q0 ∨ q0 < p0 ∨ q0 = p0) with hc | hc | hc
      · have hm := Lib.hid (vPairs_hit hlt (hst.out.trans (show lexM q0 q1 p0 p1 = false by simp [lexM]; omega)))
        have t1 : decide (p0 < q0) = true := decide_eq_true hc
        clear hc
        refine wp_region_grew (by kernel_rfl) (by kernel_rfl) ?_
        repeat (first | (go_big_quiet_step (fail)) | (quiet_step (fail)))
        refine wpQuiet_nil ?_
        rintro _ ⟨⟨w8, hb8⟩, rfl⟩
        try dsimp only
        obtain ⟨hc8, hf8⟩ := bcell hb8
        go_wp2
        go_ret
        exact ⟨ret_bool hm.out.symm, bnext hB1 (bnext hb9 hb8)⟩
      · have hf2 := Lib.hid (allTo_step hv'.out (hst.out.trans (show lexM q0 q1 p0 p1 = true by simp [lexM]; omega)))
        have t1 : decide (p0 < q0) = false := decide_eq_false (by omega)
        have t2 : (q0 == p0) = false := beq_eq_false_iff_ne.2 (by omega)
        clear hc
        refine wp_region_grew (by kernel_rfl) (by kernel_rfl) ?_
        repeat (first | (go_big_quiet_step (fail)) | (quiet_step (fail)))
        refine wpQuiet_nil ?_
        rintro _ ⟨⟨w8, hb8⟩, rfl⟩
        try dsimp only
        obtain ⟨hc8, hf8⟩ := bcell hb8
        go_wp2
        go_roundw
        case rel => exact ⟨m + 1 + 1, by go_num, by omega, hf2.out, bnext hB1 (bnext hb9 hb8)⟩
        case measure => simp [intOf]; omega
      · subst hc
        by_cases hd : p1 ≤ q1
        · have hm := Lib.hid (vPairs_hit hlt (hst.out.trans (show lexM q0 q1 q0 p1 = false by simp [lexM]; omega)))
          have t3 : decide (p1 ≤ q1) = true := decide_eq_true hd
          clear hd
          refine wp_region_grew (by kernel_rfl) (by kernel_rfl) ?_
          repeat (first | (go_big_quiet_step (fail)) | (quiet_step (fail)))
          refine wpQuiet_nil ?_
          rintro _ ⟨⟨w8, hb8⟩, rfl⟩
          try dsimp only
          obtain ⟨hc8, hf8⟩ := bcell hb8
          go_wp2
          go_ret
          exact ⟨ret_bool hm.out.symm, bnext hB1 (bnext hb9 hb8)⟩
        · have hf2 := Lib.hid (allTo_step hv'.out (hst.out.trans (show lexM q0 q1 q0 p1 = true by simp [lexM]; omega)))
          have t3 : decide (p1 ≤ q1) = false := decide_eq_false hd
          clear hd
          refine wp_region_grew (by kernel_rfl) (by kernel_rfl) ?_
          repeat (first | (go_big_quiet_step (fail)) | (quiet_step (fail)))
          refine wpQuiet_nil ?_
          rintro _ ⟨⟨w8, hb8⟩, rfl⟩
          try dsimp only
          obtain ⟨hc8, hf8⟩ := bcell hb8
          go_wp2
          go_roundw
          case rel => exact ⟨m + 1 + 1, by go_num, by omega, hf2.out, bnext hB1 (bnext hb9 hb8)⟩
          case measure => simp [intOf]; omega
    · obtain rfl : k = R.length := by omega
      have hm : Hid (vPairsM n R = true) := by apply Lib.hid; unfold vPairsM; rw [hv'.out, HN.out]; rfl
      go_wp2
      go_ret
      exact ⟨ret_bool hm.out.symm, hB1⟩

theorem spec_ValidPairs (R : List Row) (n : Int) (A : Option Addr) (c B : Nat) (w : World) (hs : Sl w B A (flat Row.cells R)) (hB : B ≤ w.heap.size) (hok : ∀ r ∈ R, r.ok w B) (hl : R.length ≤ 1048576) (hl2 : ∀ r ∈ R, r.L.length ≤ 1048576) :
    Calls Try.prog 20 #[.slice A R.length c, .int .i64 n] w fun e w' => e = .returned (.bool (vPairsM n R)) ∧ Below w.heap.size w w' := by
  go_enter Try.func20, Try.ntmps20
  go_wp2_with (go_at_call 47; refine (spec_l18Pairs R n _ _ B _ hs hB hok hl hl2).mono ?_; rintro e w1 ⟨rfl, hb1⟩)
  go_ret
  exact ⟨rfl, hb1⟩
end Go.Proofs.Ytkfgoopmdechaaa
