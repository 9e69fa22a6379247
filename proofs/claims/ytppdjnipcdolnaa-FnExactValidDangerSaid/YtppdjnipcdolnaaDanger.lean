/-
  Contracts of dangers: what makes one valid, the copy that the laws make, its length: the program's and the reference's. Each under the conditions that it states.
-/
import Derived.Test.YtppdjnipcdolnaaText1
set_option linter.unusedVariables false
set_option maxRecDepth 100000
set_option linter.unusedSimpArgs false
namespace Go.Proofs.Ytppdjnipcdolnaa
open Go.RowKit BigFrame

def vDanger (s : ByteArray) (x y r : Int) : Bool := nameM s && (vPoint x y && inB r 1 20000)

theorem impl_ValidDanger (s : ByteArray) (hs : s.size ≤ maxLen) (x y r : Int) (w : World) :
    Calls Try.prog 17 #[.agg #[.string s, .int .i64 x, .int .i64 y, .int .i64 r]] w fun e w' => e = .returned (.bool (vDanger s x y r)) ∧ Below w.heap.size w w' := by
  unfold vDanger
  go_enter Try.func17, Try.ntmps17
  go_wp2_with (first | (go_at_call 64; refine (impl_IsName _ hs _).mono ?_; rintro e w' ⟨rfl, rfl⟩) | (go_at_call 65; refine (impl_ValidPoint _ _ _).mono ?_; rintro e w1 ⟨rfl, hb1⟩; have hB1 := bnext (w := w) (by go_grown) hb1; have hS1 := hB1.size; ((have hz1 : w.heap.size < w1.heap.size := by have := hb1.size; (try simp only [World.size_alloc, World.size_setCell, World.size_drew] at this); omega)); obtain ⟨hc1, hf1⟩ := bcell hb1; clear hb1) | (go_at_call 66; refine (within_any _ _ _ _).mono ?_; rintro e w' ⟨rfl, rfl⟩))
  all_goals (go_ret; exact ⟨ret_bool (by simp [*]), by go_grown⟩)

theorem spec_l14One (s : ByteArray) (hs : s.size ≤ maxLen) (x y r : Int) (g : Nat) (w : World) (hg : g < w.heap.size) (h0 : w.cell? ⟨g, 0, none⟩ = some (.string s)) (h1 : w.cell? ⟨g, 1, none⟩ = some (.int .i64 x)) (h2 : w.cell? ⟨g, 2, none⟩ = some (.int .i64 y)) (h3 : w.cell? ⟨g, 3, none⟩ = some (.int .i64 r)) :
    Calls Try.prog 63 #[.pointer (some ⟨g, 0, none⟩)] w fun e w' => e = .returned (.bool (vDanger s x y r)) ∧ Below w.heap.size w w' := by
  unfold vDanger
  go_enter Try.func63, Try.ntmps63
  go_wp2_with (first | (go_at_call 101; refine (spec_Name _ hs _).mono ?_; rintro e w' ⟨rfl, rfl⟩) | (go_at_call 70; refine (spec_l02Ok _ _ _).mono ?_; rintro e w1 ⟨rfl, hb1⟩; have hB1 := bnext (w := w) (by go_grown) hb1; have hS1 := hB1.size; (skip); obtain ⟨hc1, hf1⟩ := bcell hb1; clear hb1) | (go_at_call 75; refine (in_any _ _ _ _).mono ?_; rintro e w' ⟨rfl, rfl⟩))
  all_goals (go_ret; exact ⟨ret_bool (by simp [*]), by go_grown⟩)

theorem spec_ValidDanger (s : ByteArray) (hs : s.size ≤ maxLen) (x y r : Int) (w : World) :
    Calls Try.prog 15 #[.agg #[.string s, .int .i64 x, .int .i64 y, .int .i64 r]] w fun e w' => e = .returned (.bool (vDanger s x y r)) ∧ Below w.heap.size w w' := by
  go_enter Try.func15, Try.ntmps15
  go_wp2_with (go_at_call 63; refine (spec_l14One s hs x y r _ _ (by simp) (by simp [go_sem]) (by simp [go_sem]) (by simp [go_sem]) (by simp [go_sem])).mono ?_; rintro e w1 ⟨rfl, hb1⟩; have hB1 := bnext (w := w) (by go_grown) hb1; have hS1 := hB1.size; (skip); obtain ⟨hc1, hf1⟩ := bcell hb1; clear hb1)
  go_ret
  exact ⟨rfl, by go_grown⟩

set_option maxHeartbeats 800000 in
theorem toDanger_any (s : ByteArray) (x y r : Int) (w : World) :
    Calls Try.prog 16 #[.agg #[.string s, .int .i64 x, .int .i64 y, .int .i64 r]] w fun e w' => e = .returned (.agg #[.string s, .int .i64 x, .int .i64 y, .int .i64 r]) ∧ Below w.heap.size w w' := by
  go_enter Try.func16, Try.ntmps16
  go_wp2
  go_returns
  exact ⟨rfl, by go_grown⟩

def szM (left n : Int) : Int := if left - n < 0 then -1 else left - n
theorem szDanger_any (s : ByteArray) (hs : s.size ≤ maxLen) (x y r l : Int) (h1 : -1 ≤ l) (h2 : l ≤ 1048576) (w : World) :
    Calls Try.prog 14 #[.agg #[.string s, .int .i64 x, .int .i64 y, .int .i64 r], .int .i64 l] w fun e w' => e = .returned (.int .i64 (szM l s.size)) ∧ Below w.heap.size w w' := by
  have hs2 : s.size ≤ 9223372036854775807 := by simpa [maxLen, IntKind.max, IntKind.bits, IntKind.signed] using hs
  by_cases h : l - (s.size : Int) < 0
  · have hm : Hid (szM l s.size = -1) := by apply Lib.hid; unfold szM; rw [if_pos h]
    go_enter Try.func14, Try.ntmps14
    go_wp2
    go_ret
    exact ⟨ret_int hm.out.symm, by go_grown⟩
  · have hm : Hid (szM l s.size = l - s.size) := by apply Lib.hid; unfold szM; rw [if_neg h]
    go_enter Try.func14, Try.ntmps14
    go_wp2
    go_ret
    exact ⟨ret_int hm.out.symm, by go_grown⟩

theorem own : ownKnob Try.prog.godebug = none := by kernel_rfl
theorem laidOut : laidOutB Try.prog = true := by kernel_rfl
namespace fnExactValidDanger
open Go.ChangeShapes Go.WideShapes Go.ChangeAt Go.RowKit
set_option linter.unusedVariables false
theorem walk (W : World) (a0_0 : ByteArray) (wa0_0 : a0_0.size ≤ maxLen) (a0_1 : Int) (wa0_1 : IntKind.i64.has a0_1) (a0_2 : Int) (wa0_2 : IntKind.i64.has a0_2) (a0_3 : Int) (wa0_3 : IntKind.i64.has a0_3) :
    Calls Try.prog 3 #[.agg #[.string a0_0, .int .i64 a0_1, .int .i64 a0_2, .int .i64 a0_3]] W fun e w' => e = .returned (.bool true) ∧ Below W.heap.size W w' := by
  revert W
  intro w
  by_cases h : szM 1048576 a0_0.size < 0
  · go_enter Try.func3, Try.ntmps3
    go_wp2_with (first | (go_at_call 14; refine (szDanger_any _ wa0_0 _ _ _ _ (by omega) (by omega) _).mono ?_; rintro e w1 ⟨rfl, hb1⟩; have hB1 := bnext (w := w) (by go_grown) hb1; have hS1 := hB1.size; ((have hz1 : w.heap.size < w1.heap.size := by have := hb1.size; (try simp only [World.size_alloc, World.size_setCell, World.size_drew] at this); omega)); obtain ⟨hc1, hf1⟩ := bcell hb1; clear hb1))
    go_ret
    exact ⟨rfl, by go_grown⟩
  · go_enter Try.func3, Try.ntmps3
    go_wp2_with (first | (go_at_call 14; refine (szDanger_any _ wa0_0 _ _ _ _ (by omega) (by omega) _).mono ?_; rintro e w1 ⟨rfl, hb1⟩; have hB1 := bnext (w := w) (by go_grown) hb1; have hS1 := hB1.size; ((have hz1 : w.heap.size < w1.heap.size := by have := hb1.size; (try simp only [World.size_alloc, World.size_setCell, World.size_drew] at this); omega)); obtain ⟨hc1, hf1⟩ := bcell hb1; clear hb1) | (go_at_call 16; refine (toDanger_any _ _ _ _ _).mono ?_; rintro e w1 ⟨rfl, hb1⟩; have hB1 := bnext (w := w) (by go_grown) hb1; have hS1 := hB1.size; ((have hz1 : w.heap.size < w1.heap.size := by have := hb1.size; (try simp only [World.size_alloc, World.size_setCell, World.size_drew] at this); omega)); obtain ⟨hc1, hf1⟩ := bcell hb1; clear hb1) | (go_at_call 15; refine (spec_ValidDanger _ wa0_0 _ _ _ _).mono ?_; rintro e w1 ⟨rfl, hb1⟩; have hB1 := bnext (w := w) (by go_grown) hb1; have hS1 := hB1.size; ((have hz1 : w.heap.size < w1.heap.size := by have := hb1.size; (try simp only [World.size_alloc, World.size_setCell, World.size_drew] at this); omega)); obtain ⟨hc1, hf1⟩ := bcell hb1; clear hb1) | (go_at_call 17; refine (impl_ValidDanger _ wa0_0 _ _ _ _).mono ?_; rintro e w1 ⟨rfl, hb1⟩; have hB1 := bnext (w := w) (by go_grown) hb1; have hS1 := hB1.size; ((have hz1 : w.heap.size < w1.heap.size := by have := hb1.size; (try simp only [World.size_alloc, World.size_setCell, World.size_drew] at this); omega)); obtain ⟨hc1, hf1⟩ := bcell hb1; clear hb1))
    go_ret
    exact ⟨rfl, by go_grown⟩

theorem lifted (os : Os) (started : os.Started) (H : Type) (enc : TypeId × Value → H) :
    ReturnsInHanded {} Try.checked os 3 .any (Rows.fnExactValidDangerSpec.pre6 enc Try.prog Try.f3 Rows.fnExactValidDangerRow.domain false) (Rows.fnExactValidDangerSpec.post enc Try.prog Try.f3 false true false false) := by
  refine returnsInHanded_of_change (C := Try.checked) own started (by kernel_rfl) Try.func3
    (ChangeSpec.witness6 (enc := enc) (C := Try.checked) false ⟨#[], #[.agg #[.string ⟨#[]⟩, .int .i64 0, .int .i64 0, .int .i64 0]], []⟩ 8 (by kernel_rfl) (by kernel_rfl) (by kernel_rfl) (by kernel_rfl)) ?_
  intro W base args ds gs before hval0 hW hcnd _
  have hval : ∀ (j : Nat) t v, Try.f3.params[j]? = some t → args[j]? = some v → Value.okWide Try.prog W .any base t v := hval0
  have hW' := hW
  obtain ⟨p, q, hA0, hV, rfl, hfz, hnd⟩ := hW
  have hA : DataW.TrodAll enc Try.prog W 0 (fun _ => true) true Try.f3.params.toList args.toList ds p := hA0
  rw [Try.params3] at hA hval
  obtain ⟨v0, vs0, d0, ds0, p0, q0, hargs, rfl, rfl, h0, r0⟩ := trodAll_cons hA
  obtain ⟨rfl, rfl, rfl⟩ := trodAll_nil r0
  obtain rfl : args = #[v0] := by cases args; simp_all
  have g0 := h0
  obtain ⟨rfl, rfl⟩ := trodVars_none hV
  clear hA0 hval0
  simp only [List.append_nil] at hW'
  have hlt : ∀ x ∈ p0, x.block < W.heap.size := fun x hx => by simpa using hW'.lt x (by simpa using hx)
  obtain ⟨cs0, rfl, k0_0⟩ := open_struct Try.underlying25 (ts := [9, 2, 2, 2]) (by kernel_rfl) (hval 0 25 _ rfl rfl)
  obtain ⟨c0_0, cs0_0, rfl, q0_0, k0_1⟩ := okCells_cons k0_0
  obtain ⟨c0_1, cs0_1, rfl, q0_1, k0_2⟩ := okCells_cons k0_1
  obtain ⟨c0_2, cs0_2, rfl, q0_2, k0_3⟩ := okCells_cons k0_2
  obtain ⟨c0_3, cs0_3, rfl, q0_3, k0_4⟩ := okCells_cons k0_3
  obtain rfl := okCells_nil k0_4
  obtain ⟨a0_0, rfl, wa0_0⟩ := cell_string Try.underlying9 q0_0
  obtain ⟨a0_1, rfl, wa0_1⟩ := cell_int Try.underlying2 q0_1
  obtain ⟨a0_2, rfl, wa0_2⟩ := cell_int Try.underlying2 q0_2
  obtain ⟨a0_3, rfl, wa0_3⟩ := cell_int Try.underlying2 q0_3
  refine (walk W a0_0 wa0_0 a0_1 wa0_1 a0_2 wa0_2 a0_3 wa0_3).mono fun e W' ⟨he, hg⟩ => ?_
  subst he
  exact ⟨_, rfl, post_below (pa := _) hW' (trodAll_cons_mk (shut_bool Try.underlying4 _) trodAll_mk0) (trodAll_cons_mk (Below.trod laidOut (by kernel_rfl) (of_decide_eq_true (by kernel_rfl)) g0 hg (fun x hx => hlt x (by simp [hx]))) trodAll_mk0) rfl (by simp) hg⟩

theorem over : Rows.fnExactValidDangerRow.holds Try.pinned (OpenSpec.ofChange Rows.fnExactValidDangerSpec) :=
  OpenClaim.holds_of_wide 3 Try.f3 rfl rfl rfl rfl rfl rfl rfl ⟨rfl, rfl, rfl, rfl, rfl⟩ rfl rfl rfl rfl rfl (by kernel_rfl) Try.func3 (by kernel_rfl)
    (of_decide_eq_true (by kernel_rfl)) (by unfold Func.isWrapper; first | (rw [if_pos (by decide +kernel)]; kernel_rfl) | (rw [if_neg (by decide +kernel)]; exact ⟨rfl, rfl⟩))
    (fun os started H enc _ => lifted os started H enc)

theorem proved : Rows.FnExactValidDangerSaid := over
#print axioms proved
end fnExactValidDanger

end Go.Proofs.Ytppdjnipcdolnaa
