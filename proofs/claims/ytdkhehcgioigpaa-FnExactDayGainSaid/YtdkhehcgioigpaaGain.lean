/-
  Contracts of what a panel gains in a day: the program's and the reference's. Each under the conditions that it states.
-/
import Derived.Test.YtdkhehcgioigpaaPlaces
import Derived.Test.YtdkhehcgioigpaaStation
set_option linter.unusedVariables false
set_option maxRecDepth 100000
set_option linter.unusedSimpArgs false
namespace Go.Proofs.Ytdkhehcgioigpaa
open Go.RowKit BigFrame

def gainOk (a b c d f k : Int) : Int := if vStation a b c d f then (if inB k 0 1440 then 0 else 2) else 1
def gainV (a b c d f k : Int) : Int := if gainOk a b c d f k = 0 then divR (d * f * (1440 - k)) 60000 else 0
theorem gain_bd {a b c d f k : Int} (hv : vStation a b c d f = true) (hk : inB k 0 1440 = true) : (-1000000000 ≤ d * f ∧ d * f ≤ 1000000000) ∧ (-1440000000000 ≤ d * f * (1440 - k) ∧ d * f * (1440 - k) ≤ 1440000000000) := by
  simp only [vStation, Bool.and_eq_true, inB_yes] at hv
  have hk' := inB_yes.1 hk
  have k1 := mul_bd (x := d) (y := f) (B := 1000000) (C := 1000) (by omega) (by omega) (by omega) (by omega)
  have k2 := mul_bd (x := d * f) (y := 1440 - k) (B := 1000000000) (C := 1440) (by omega) (by omega) (by omega) (by omega)
  omega

theorem impl_isDark (n : Int) (w : World) : Calls Try.prog 65 #[.int .i64 n] w fun e w' => e = .returned (.bool (inB n 0 1440)) ∧ w = w' := by
  go_enter Try.func65, Try.ntmps65
  go_wp2_with (go_at_call 56; refine (within_any _ _ _ _).mono ?_; rintro e w' ⟨rfl, rfl⟩)
  go_ret
  exact ⟨rfl, rfl⟩

theorem spec_Dark (n : Int) (w : World) : Calls Try.prog 62 #[.int .i64 n] w fun e w' => e = .returned (.bool (inB n 0 1440)) ∧ w = w' := by
  go_enter Try.func62, Try.ntmps62
  go_wp2_with (go_at_call 101; refine (in_any _ _ _ _).mono ?_; rintro e w' ⟨rfl, rfl⟩)
  go_ret
  exact ⟨rfl, rfl⟩

theorem impl_gain (a b c d f k : Int) (w : World) (h1 : -1000000000 ≤ d * f ∧ d * f ≤ 1000000000) (h2 : -1440000000000 ≤ d * f * (1440 - k) ∧ d * f * (1440 - k) ≤ 1440000000000) (h3 : 0 ≤ k ∧ k ≤ 1440) :
    Calls Try.prog 66 #[.agg #[.int .i64 a, .int .i64 b, .int .i64 c, .int .i64 d, .int .i64 f], .int .i64 k] w fun e w' => e = .returned (.int .i64 (divR (d * f * (1440 - k)) 60000)) ∧ Below w.heap.size w w' := by
  go_enter Try.func66, Try.ntmps66
  go_wp2_with (go_at_call 103; refine (impl_divRound _ _ _ (by omega) (by omega) (by omega) (by omega) (by omega)).mono ?_; rintro e w' ⟨rfl, rfl⟩)
  go_ret
  exact ⟨rfl, by go_grown⟩

theorem spec_gain (a b c d f k : Int) (g : Nat) (w : World) (h1 : -1000000000 ≤ d * f ∧ d * f ≤ 1000000000) (h2 : -1440000000000 ≤ d * f * (1440 - k) ∧ d * f * (1440 - k) ≤ 1440000000000) (h3 : 0 ≤ k ∧ k ≤ 1440)
    (hg : g < w.heap.size) (c3 : w.cell? ⟨g, 3, none⟩ = some (.int .i64 d)) (c4 : w.cell? ⟨g, 4, none⟩ = some (.int .i64 f)) :
    Calls Try.prog 63 #[.pointer (some ⟨g, 0, none⟩), .int .i64 k] w fun e w' => e = .returned (.int .i64 (divR (d * f * (1440 - k)) 60000)) ∧ Below w.heap.size w w' := by
  go_enter Try.func63, Try.ntmps63
  go_wp2_with fail
  refine wp_region_grew (by kernel_rfl) (by kernel_rfl) ?_
  repeat (first | (go_big_quiet_step ((first | (go_at_call 102; exact grew_same (spec_Div _ _ _ (by omega) (by omega) (by omega) (by omega) (by omega)))))) | (quiet_step ((first | (go_at_call 102; exact grew_same (spec_Div _ _ _ (by omega) (by omega) (by omega) (by omega) (by omega)))))))
  refine wpQuiet_nil ?_
  rintro _ ⟨⟨w9, hb9⟩, rfl⟩
  try dsimp only
  obtain ⟨hc9, hf9⟩ := bcell hb9
  go_wp2
  go_ret
  exact ⟨rfl, bnext (by go_grown) hb9⟩

theorem impl_DayGain (a b c d f k : Int) (w : World) :
    Calls Try.prog 19 #[.agg #[.int .i64 a, .int .i64 b, .int .i64 c, .int .i64 d, .int .i64 f], .int .i64 k] w fun e w' => e = .returned (.tuple #[.int .i64 (gainV a b c d f k), .int .i64 (gainOk a b c d f k)]) ∧ Below w.heap.size w w' := by
  cases hv : vStation a b c d f
  · go_enter Try.func19, Try.ntmps19
    go_wp2_with (go_at_call 64; refine (impl_ValidStation _ _ _ _ _ _).mono ?_; rintro e w1 ⟨rfl, hb1⟩; have hB1 := bnext (w := w) (by go_grown) hb1; have hS1 := hB1.size; ((have hz1 : w.heap.size < w1.heap.size := by have := hb1.size; (try simp only [World.size_alloc, World.size_setCell, World.size_drew] at this); omega)); obtain ⟨hc1, hf1⟩ := bcell hb1; clear hb1)
    go_ret2
    exact ⟨ret_ii (by simp [gainV, gainOk, *]) (by simp [gainOk, *]), by go_grown⟩
  cases hk : inB k 0 1440
  · go_enter Try.func19, Try.ntmps19
    go_wp2_with (first | (go_at_call 64; refine (impl_ValidStation _ _ _ _ _ _).mono ?_; rintro e w1 ⟨rfl, hb1⟩; have hB1 := bnext (w := w) (by go_grown) hb1; have hS1 := hB1.size; ((have hz1 : w.heap.size < w1.heap.size := by have := hb1.size; (try simp only [World.size_alloc, World.size_setCell, World.size_drew] at this); omega)); obtain ⟨hc1, hf1⟩ := bcell hb1; clear hb1) | (go_at_call 65; refine (impl_isDark _ _).mono ?_; rintro e w' ⟨rfl, rfl⟩))
    go_ret2
    exact ⟨ret_ii (by simp [gainV, gainOk, *]) (by simp [gainOk, *]), by go_grown⟩
  obtain ⟨h1, h2⟩ := gain_bd hv hk
  have h3 := inB_yes.1 hk
  have hV : Hid (gainV a b c d f k = divR (d * f * (1440 - k)) 60000 ∧ gainOk a b c d f k = 0) := by apply Lib.hid; simp [gainV, gainOk, *]
  go_enter Try.func19, Try.ntmps19
  go_wp2_with (first | (go_at_call 64; refine (impl_ValidStation _ _ _ _ _ _).mono ?_; rintro e w1 ⟨rfl, hb1⟩; have hB1 := bnext (w := w) (by go_grown) hb1; have hS1 := hB1.size; ((have hz1 : w.heap.size < w1.heap.size := by have := hb1.size; (try simp only [World.size_alloc, World.size_setCell, World.size_drew] at this); omega)); obtain ⟨hc1, hf1⟩ := bcell hb1; clear hb1) | (go_at_call 65; refine (impl_isDark _ _).mono ?_; rintro e w' ⟨rfl, rfl⟩) | (go_at_call 66; refine (impl_gain _ _ _ _ _ _ _ h1 h2 h3).mono ?_; rintro e w1 ⟨rfl, hb1⟩; have hB1 := bnext (w := w) (by go_grown) hb1; have hS1 := hB1.size; (skip); obtain ⟨hc1, hf1⟩ := bcell hb1; clear hb1))
  go_ret2
  exact ⟨ret_ii hV.out.1.symm hV.out.2.symm, by go_grown⟩

theorem spec_DayGain (a b c d f k : Int) (w : World) :
    Calls Try.prog 17 #[.agg #[.int .i64 a, .int .i64 b, .int .i64 c, .int .i64 d, .int .i64 f], .int .i64 k] w fun e w' => e = .returned (.tuple #[.int .i64 (gainV a b c d f k), .int .i64 (gainOk a b c d f k)]) ∧ Below w.heap.size w w' := by
  cases hv : vStation a b c d f
  · go_enter Try.func17, Try.ntmps17
    go_wp2_with (go_at_call 61; refine (spec_l19Ok a b c d f _ _ (by simp [go_sem]) (by simp [go_sem]) (by simp [go_sem]) (by simp [go_sem]) (by simp [go_sem])).mono ?_; rintro e w' ⟨rfl, rfl⟩)
    go_ret2
    exact ⟨ret_ii (by simp [gainV, gainOk, *]) (by simp [gainOk, *]), by go_grown⟩
  cases hk : inB k 0 1440
  · go_enter Try.func17, Try.ntmps17
    go_wp2_with (first | (go_at_call 61; refine (spec_l19Ok a b c d f _ _ (by simp [go_sem]) (by simp [go_sem]) (by simp [go_sem]) (by simp [go_sem]) (by simp [go_sem])).mono ?_; rintro e w' ⟨rfl, rfl⟩) | (go_at_call 62; refine (spec_Dark _ _).mono ?_; rintro e w' ⟨rfl, rfl⟩))
    go_ret2
    exact ⟨ret_ii (by simp [gainV, gainOk, *]) (by simp [gainOk, *]), by go_grown⟩
  obtain ⟨h1, h2⟩ := gain_bd hv hk
  have h3 := inB_yes.1 hk
  have hV : Hid (gainV a b c d f k = divR (d * f * (1440 - k)) 60000 ∧ gainOk a b c d f k = 0) := by apply Lib.hid; simp [gainV, gainOk, *]
  go_enter Try.func17, Try.ntmps17
  go_wp2_with (first | (go_at_call 61; refine (spec_l19Ok a b c d f _ _ (by simp [go_sem]) (by simp [go_sem]) (by simp [go_sem]) (by simp [go_sem]) (by simp [go_sem])).mono ?_; rintro e w' ⟨rfl, rfl⟩) | (go_at_call 62; refine (spec_Dark _ _).mono ?_; rintro e w' ⟨rfl, rfl⟩) | (go_at_call 63; refine (spec_gain a b c d f _ _ _ h1 h2 h3 (by simp) (by simp [go_sem]) (by simp [go_sem])).mono ?_; rintro e w1 ⟨rfl, hb1⟩; have hB1 := bnext (w := w) (by go_grown) hb1; have hS1 := hB1.size; (skip); obtain ⟨hc1, hf1⟩ := bcell hb1; clear hb1))
  go_ret2
  exact ⟨ret_ii hV.out.1.symm hV.out.2.symm, by go_grown⟩

theorem own : ownKnob Try.prog.godebug = none := by kernel_rfl
theorem laidOut : laidOutB Try.prog = true := by kernel_rfl
namespace fnExactDayGain
open Go.ChangeShapes Go.WideShapes Go.ChangeAt Go.RowKit
set_option linter.unusedVariables false
theorem walk (W : World) (a0_0 : Int) (wa0_0 : IntKind.i64.has a0_0) (a0_1 : Int) (wa0_1 : IntKind.i64.has a0_1) (a0_2 : Int) (wa0_2 : IntKind.i64.has a0_2) (a0_3 : Int) (wa0_3 : IntKind.i64.has a0_3) (a0_4 : Int) (wa0_4 : IntKind.i64.has a0_4) (a1 : Int) (wa1 : IntKind.i64.has a1) :
    Calls Try.prog 4 #[.agg #[.int .i64 a0_0, .int .i64 a0_1, .int .i64 a0_2, .int .i64 a0_3, .int .i64 a0_4], .int .i64 a1] W fun e w' => e = .returned (.bool true) ∧ Below W.heap.size W w' := by
  revert W
  intro w
  go_enter Try.func4, Try.ntmps4
  go_wp2_with (first | (go_at_call 18; refine (toStation_any _ _ _ _ _ _).mono ?_; rintro e w1 ⟨rfl, hb1⟩; have hB1 := bnext (w := w) (by go_grown) hb1; have hS1 := hB1.size; ((have hz1 : w.heap.size < w1.heap.size := by have := hb1.size; (try simp only [World.size_alloc, World.size_setCell, World.size_drew] at this); omega)); obtain ⟨hc1, hf1⟩ := bcell hb1; clear hb1) | (go_at_call 17; refine (spec_DayGain _ _ _ _ _ _ _).mono ?_; rintro e w1 ⟨rfl, hb1⟩; have hB1 := bnext (w := w) (by go_grown) hb1; have hS1 := hB1.size; ((have hz1 : w.heap.size < w1.heap.size := by have := hb1.size; (try simp only [World.size_alloc, World.size_setCell, World.size_drew] at this); omega)); obtain ⟨hc1, hf1⟩ := bcell hb1; clear hb1) | (go_at_call 19; refine (impl_DayGain _ _ _ _ _ _ _).mono ?_; rintro e w1 ⟨rfl, hb1⟩; have hB1 := bnext (w := w) (by go_grown) hb1; have hS1 := hB1.size; ((have hz1 : w.heap.size < w1.heap.size := by have := hb1.size; (try simp only [World.size_alloc, World.size_setCell, World.size_drew] at this); omega)); obtain ⟨hc1, hf1⟩ := bcell hb1; clear hb1))
  go_ret
  exact ⟨rfl, by go_grown⟩

theorem lifted (os : Os) (started : os.Started) (H : Type) (enc : TypeId × Value → H) :
    ReturnsInHanded {} Try.checked os 4 .any (Rows.fnExactDayGainSpec.pre6 enc Try.prog Try.f4 Rows.fnExactDayGainRow.domain false) (Rows.fnExactDayGainSpec.post enc Try.prog Try.f4 false true false false) := by
  refine returnsInHanded_of_change (C := Try.checked) own started (by kernel_rfl) Try.func4
    (ChangeSpec.witness6 (enc := enc) (C := Try.checked) false ⟨#[], #[.agg #[.int .i64 0, .int .i64 0, .int .i64 0, .int .i64 0, .int .i64 0], .int .i64 0], []⟩ 8 (by kernel_rfl) (by kernel_rfl) (by kernel_rfl) (by kernel_rfl)) ?_
  intro W base args ds gs before hval0 hW hcnd _
  have hval : ∀ (j : Nat) t v, Try.f4.params[j]? = some t → args[j]? = some v → Value.okWide Try.prog W .any base t v := hval0
  have hW' := hW
  obtain ⟨p, q, hA0, hV, rfl, hfz, hnd⟩ := hW
  have hA : DataW.TrodAll enc Try.prog W 0 (fun _ => true) true Try.f4.params.toList args.toList ds p := hA0
  rw [Try.params4] at hA hval
  obtain ⟨v0, vs0, d0, ds0, p0, q0, hargs, rfl, rfl, h0, r0⟩ := trodAll_cons hA
  obtain ⟨v1, vs1, d1, ds1, p1, q1, rfl, rfl, rfl, h1, r1⟩ := trodAll_cons r0
  obtain ⟨rfl, rfl, rfl⟩ := trodAll_nil r1
  obtain rfl : args = #[v0, v1] := by cases args; simp_all
  have g0 := h0
  have g1 := h1
  obtain ⟨rfl, rfl⟩ := trodVars_none hV
  clear hA0 hval0
  simp only [List.append_nil] at hW'
  have hlt : ∀ x ∈ p0 ++ (p1), x.block < W.heap.size := fun x hx => by simpa using hW'.lt x (by simpa using hx)
  obtain ⟨cs0, rfl, k0_0⟩ := open_struct Try.underlying34 (ts := [2, 2, 2, 2, 2]) (by kernel_rfl) (hval 0 34 _ rfl rfl)
  obtain ⟨c0_0, cs0_0, rfl, q0_0, k0_1⟩ := okCells_cons k0_0
  obtain ⟨c0_1, cs0_1, rfl, q0_1, k0_2⟩ := okCells_cons k0_1
  obtain ⟨c0_2, cs0_2, rfl, q0_2, k0_3⟩ := okCells_cons k0_2
  obtain ⟨c0_3, cs0_3, rfl, q0_3, k0_4⟩ := okCells_cons k0_3
  obtain ⟨c0_4, cs0_4, rfl, q0_4, k0_5⟩ := okCells_cons k0_4
  obtain rfl := okCells_nil k0_5
  obtain ⟨a0_0, rfl, wa0_0⟩ := cell_int Try.underlying2 q0_0
  obtain ⟨a0_1, rfl, wa0_1⟩ := cell_int Try.underlying2 q0_1
  obtain ⟨a0_2, rfl, wa0_2⟩ := cell_int Try.underlying2 q0_2
  obtain ⟨a0_3, rfl, wa0_3⟩ := cell_int Try.underlying2 q0_3
  obtain ⟨a0_4, rfl, wa0_4⟩ := cell_int Try.underlying2 q0_4
  obtain ⟨a1, rfl, wa1⟩ := value_int Try.underlying2 (hval 1 2 _ rfl rfl)
  refine (walk W a0_0 wa0_0 a0_1 wa0_1 a0_2 wa0_2 a0_3 wa0_3 a0_4 wa0_4 a1 wa1).mono fun e W' ⟨he, hg⟩ => ?_
  subst he
  exact ⟨_, rfl, post_below (pa := _) hW' (trodAll_cons_mk (shut_bool Try.underlying4 _) trodAll_mk0) (trodAll_cons_mk (Below.trod laidOut (by kernel_rfl) (of_decide_eq_true (by kernel_rfl)) g0 hg (fun x hx => hlt x (by simp [hx]))) (trodAll_cons_mk (Below.trod laidOut (by kernel_rfl) (of_decide_eq_true (by kernel_rfl)) g1 hg (fun x hx => hlt x (by simp [hx]))) trodAll_mk0)) rfl (by simp) hg⟩

theorem over : Rows.fnExactDayGainRow.holds Try.pinned (OpenSpec.ofChange Rows.fnExactDayGainSpec) :=
  OpenClaim.holds_of_wide 4 Try.f4 rfl rfl rfl rfl rfl rfl rfl ⟨rfl, rfl, rfl, rfl, rfl⟩ rfl rfl rfl rfl rfl (by kernel_rfl) Try.func4 (by kernel_rfl)
    (of_decide_eq_true (by kernel_rfl)) (by unfold Func.isWrapper; first | (rw [if_pos (by decide +kernel)]; kernel_rfl) | (rw [if_neg (by decide +kernel)]; exact ⟨rfl, rfl⟩))
    (fun os started H enc _ => lifted os started H enc)

theorem proved : Rows.FnExactDayGainSaid := over
#print axioms proved
end fnExactDayGain

end Go.Proofs.Ytdkhehcgioigpaa
