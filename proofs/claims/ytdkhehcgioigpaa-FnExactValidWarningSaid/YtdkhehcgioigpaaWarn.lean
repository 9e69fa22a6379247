/-
  Contracts of warnings: what makes one valid, the copy that the laws make, its length: the program's and the reference's. Each under the conditions that it states.
-/
import Derived.Test.YtdkhehcgioigpaaText1
set_option linter.unusedVariables false
set_option maxRecDepth 100000
set_option linter.unusedSimpArgs false
namespace Go.Proofs.Ytdkhehcgioigpaa
open Go.RowKit BigFrame

def vWarnH (n p f u x y r : Int) : Bool := inB n 1 9999 && (inB p 1 3 && (inB f 0 143999999 && (inB u (f + 1) 143999999 && (vPoint x y && inB r 0 20000))))
def vWarn (n p f u x y r : Int) (s : ByteArray) : Bool := vWarnH n p f u x y r && (inB s.size 1 60 && plainM s)

theorem impl_isNumber (n : Int) (w : World) : Calls Try.prog 55 #[.int .i64 n] w fun e w' => e = .returned (.bool (inB n 1 9999)) ∧ w = w' := by
  go_enter Try.func55, Try.ntmps55
  go_wp2_with (go_at_call 56; refine (within_any _ _ _ _).mono ?_; rintro e w' ⟨rfl, rfl⟩)
  go_ret
  exact ⟨rfl, rfl⟩

theorem impl_isTime (n : Int) (w : World) : Calls Try.prog 57 #[.int .i64 n] w fun e w' => e = .returned (.bool (inB n 0 143999999)) ∧ w = w' := by
  go_enter Try.func57, Try.ntmps57
  go_wp2_with (go_at_call 56; refine (within_any _ _ _ _).mono ?_; rintro e w' ⟨rfl, rfl⟩)
  go_ret
  exact ⟨rfl, rfl⟩

theorem impl_isAway (n : Int) (w : World) : Calls Try.prog 59 #[.int .i64 n] w fun e w' => e = .returned (.bool (inB n 0 20000)) ∧ w = w' := by
  go_enter Try.func59, Try.ntmps59
  go_wp2_with (go_at_call 56; refine (within_any _ _ _ _).mono ?_; rintro e w' ⟨rfl, rfl⟩)
  go_ret
  exact ⟨rfl, rfl⟩

theorem spec_Number (n : Int) (w : World) : Calls Try.prog 98 #[.int .i64 n] w fun e w' => e = .returned (.bool (inB n 1 9999)) ∧ w = w' := by
  go_enter Try.func98, Try.ntmps98
  go_wp2_with (go_at_call 101; refine (in_any _ _ _ _).mono ?_; rintro e w' ⟨rfl, rfl⟩)
  go_ret
  exact ⟨rfl, rfl⟩

theorem spec_Time (n : Int) (w : World) : Calls Try.prog 86 #[.int .i64 n] w fun e w' => e = .returned (.bool (inB n 0 143999999)) ∧ w = w' := by
  go_enter Try.func86, Try.ntmps86
  go_wp2_with (go_at_call 101; refine (in_any _ _ _ _).mono ?_; rintro e w' ⟨rfl, rfl⟩)
  go_ret
  exact ⟨rfl, rfl⟩

theorem spec_Priority (n : Int) (w : World) : Calls Try.prog 99 #[.int .i64 n] w fun e w' => e = .returned (.bool (inB n 1 3)) ∧ w = w' := by
  go_enter Try.func99, Try.ntmps99
  go_wp2_with (go_at_call 101; refine (in_any _ _ _ _).mono ?_; rintro e w' ⟨rfl, rfl⟩)
  go_ret
  exact ⟨rfl, rfl⟩

theorem impl_ValidWarning (n p f u x y r : Int) (s : ByteArray) (hs : s.size ≤ maxLen) (w : World) :
    Calls Try.prog 16 #[.agg #[.int .i64 n, .int .i64 p, .int .i64 f, .int .i64 u, .int .i64 x, .int .i64 y, .int .i64 r, .string s]] w fun e w' => e = .returned (.bool (vWarn n p f u x y r s)) ∧ Below w.heap.size w w' := by
  have hs2 : s.size ≤ 9223372036854775807 := by simpa [maxLen, IntKind.max, IntKind.bits, IntKind.signed] using hs
  cases h1 : inB n 1 9999
  · have hm : Hid (vWarn n p f u x y r s = false) := by apply Lib.hid; unfold vWarn vWarnH; rw [h1]; simp
    go_enter Try.func16, Try.ntmps16
    go_wp2_with (first | (go_at_call 55; refine (impl_isNumber _ _).mono ?_; rintro e w' ⟨rfl, rfl⟩) | (go_at_call 57; refine (impl_isTime _ _).mono ?_; rintro e w' ⟨rfl, rfl⟩) | (go_at_call 59; refine (impl_isAway _ _).mono ?_; rintro e w' ⟨rfl, rfl⟩) | (go_at_call 56; refine (within_any _ _ _ _).mono ?_; rintro e w' ⟨rfl, rfl⟩) | (go_at_call 60; refine (impl_isPlain _ hs _).mono ?_; rintro e w' ⟨rfl, rfl⟩) | (go_at_call 58; refine (impl_ValidPoint _ _ _).mono ?_; rintro e w1 ⟨rfl, hb1⟩; have hB1 := bnext (w := w) (by go_grown) hb1; have hS1 := hB1.size; ((have hz1 : w.heap.size < w1.heap.size := by have := hb1.size; (try simp only [World.size_alloc, World.size_setCell, World.size_drew] at this); omega)); obtain ⟨hc1, hf1⟩ := bcell hb1; clear hb1))
    go_ret
    exact ⟨ret_bool hm.out.symm, by go_grown⟩
  cases h2 : inB p 1 3
  · have hm : Hid (vWarn n p f u x y r s = false) := by apply Lib.hid; unfold vWarn vWarnH; rw [h2]; simp
    go_enter Try.func16, Try.ntmps16
    go_wp2_with (first | (go_at_call 55; refine (impl_isNumber _ _).mono ?_; rintro e w' ⟨rfl, rfl⟩) | (go_at_call 57; refine (impl_isTime _ _).mono ?_; rintro e w' ⟨rfl, rfl⟩) | (go_at_call 59; refine (impl_isAway _ _).mono ?_; rintro e w' ⟨rfl, rfl⟩) | (go_at_call 56; refine (within_any _ _ _ _).mono ?_; rintro e w' ⟨rfl, rfl⟩) | (go_at_call 60; refine (impl_isPlain _ hs _).mono ?_; rintro e w' ⟨rfl, rfl⟩) | (go_at_call 58; refine (impl_ValidPoint _ _ _).mono ?_; rintro e w1 ⟨rfl, hb1⟩; have hB1 := bnext (w := w) (by go_grown) hb1; have hS1 := hB1.size; ((have hz1 : w.heap.size < w1.heap.size := by have := hb1.size; (try simp only [World.size_alloc, World.size_setCell, World.size_drew] at this); omega)); obtain ⟨hc1, hf1⟩ := bcell hb1; clear hb1))
    go_ret
    exact ⟨ret_bool hm.out.symm, by go_grown⟩
  cases h3 : inB f 0 143999999
  · have hm : Hid (vWarn n p f u x y r s = false) := by apply Lib.hid; unfold vWarn vWarnH; rw [h3]; simp
    go_enter Try.func16, Try.ntmps16
    go_wp2_with (first | (go_at_call 55; refine (impl_isNumber _ _).mono ?_; rintro e w' ⟨rfl, rfl⟩) | (go_at_call 57; refine (impl_isTime _ _).mono ?_; rintro e w' ⟨rfl, rfl⟩) | (go_at_call 59; refine (impl_isAway _ _).mono ?_; rintro e w' ⟨rfl, rfl⟩) | (go_at_call 56; refine (within_any _ _ _ _).mono ?_; rintro e w' ⟨rfl, rfl⟩) | (go_at_call 60; refine (impl_isPlain _ hs _).mono ?_; rintro e w' ⟨rfl, rfl⟩) | (go_at_call 58; refine (impl_ValidPoint _ _ _).mono ?_; rintro e w1 ⟨rfl, hb1⟩; have hB1 := bnext (w := w) (by go_grown) hb1; have hS1 := hB1.size; ((have hz1 : w.heap.size < w1.heap.size := by have := hb1.size; (try simp only [World.size_alloc, World.size_setCell, World.size_drew] at this); omega)); obtain ⟨hc1, hf1⟩ := bcell hb1; clear hb1))
    go_ret
    exact ⟨ret_bool hm.out.symm, by go_grown⟩
  have hf := inB_yes.1 h3
  cases h4 : inB u (f + 1) 143999999
  · have hm : Hid (vWarn n p f u x y r s = false) := by apply Lib.hid; unfold vWarn vWarnH; rw [h4]; simp
    go_enter Try.func16, Try.ntmps16
    go_wp2_with (first | (go_at_call 55; refine (impl_isNumber _ _).mono ?_; rintro e w' ⟨rfl, rfl⟩) | (go_at_call 57; refine (impl_isTime _ _).mono ?_; rintro e w' ⟨rfl, rfl⟩) | (go_at_call 59; refine (impl_isAway _ _).mono ?_; rintro e w' ⟨rfl, rfl⟩) | (go_at_call 56; refine (within_any _ _ _ _).mono ?_; rintro e w' ⟨rfl, rfl⟩) | (go_at_call 60; refine (impl_isPlain _ hs _).mono ?_; rintro e w' ⟨rfl, rfl⟩) | (go_at_call 58; refine (impl_ValidPoint _ _ _).mono ?_; rintro e w1 ⟨rfl, hb1⟩; have hB1 := bnext (w := w) (by go_grown) hb1; have hS1 := hB1.size; ((have hz1 : w.heap.size < w1.heap.size := by have := hb1.size; (try simp only [World.size_alloc, World.size_setCell, World.size_drew] at this); omega)); obtain ⟨hc1, hf1⟩ := bcell hb1; clear hb1))
    go_ret
    exact ⟨ret_bool hm.out.symm, by go_grown⟩
  cases h5 : vPoint x y
  · have hm : Hid (vWarn n p f u x y r s = false) := by apply Lib.hid; unfold vWarn vWarnH; rw [h5]; simp
    go_enter Try.func16, Try.ntmps16
    go_wp2_with (first | (go_at_call 55; refine (impl_isNumber _ _).mono ?_; rintro e w' ⟨rfl, rfl⟩) | (go_at_call 57; refine (impl_isTime _ _).mono ?_; rintro e w' ⟨rfl, rfl⟩) | (go_at_call 59; refine (impl_isAway _ _).mono ?_; rintro e w' ⟨rfl, rfl⟩) | (go_at_call 56; refine (within_any _ _ _ _).mono ?_; rintro e w' ⟨rfl, rfl⟩) | (go_at_call 60; refine (impl_isPlain _ hs _).mono ?_; rintro e w' ⟨rfl, rfl⟩) | (go_at_call 58; refine (impl_ValidPoint _ _ _).mono ?_; rintro e w1 ⟨rfl, hb1⟩; have hB1 := bnext (w := w) (by go_grown) hb1; have hS1 := hB1.size; ((have hz1 : w.heap.size < w1.heap.size := by have := hb1.size; (try simp only [World.size_alloc, World.size_setCell, World.size_drew] at this); omega)); obtain ⟨hc1, hf1⟩ := bcell hb1; clear hb1))
    go_ret
    exact ⟨ret_bool hm.out.symm, by go_grown⟩
  cases h6 : inB r 0 20000
  · have hm : Hid (vWarn n p f u x y r s = false) := by apply Lib.hid; unfold vWarn vWarnH; rw [h6]; simp
    go_enter Try.func16, Try.ntmps16
    go_wp2_with (first | (go_at_call 55; refine (impl_isNumber _ _).mono ?_; rintro e w' ⟨rfl, rfl⟩) | (go_at_call 57; refine (impl_isTime _ _).mono ?_; rintro e w' ⟨rfl, rfl⟩) | (go_at_call 59; refine (impl_isAway _ _).mono ?_; rintro e w' ⟨rfl, rfl⟩) | (go_at_call 56; refine (within_any _ _ _ _).mono ?_; rintro e w' ⟨rfl, rfl⟩) | (go_at_call 60; refine (impl_isPlain _ hs _).mono ?_; rintro e w' ⟨rfl, rfl⟩) | (go_at_call 58; refine (impl_ValidPoint _ _ _).mono ?_; rintro e w1 ⟨rfl, hb1⟩; have hB1 := bnext (w := w) (by go_grown) hb1; have hS1 := hB1.size; ((have hz1 : w.heap.size < w1.heap.size := by have := hb1.size; (try simp only [World.size_alloc, World.size_setCell, World.size_drew] at this); omega)); obtain ⟨hc1, hf1⟩ := bcell hb1; clear hb1))
    go_ret
    exact ⟨ret_bool hm.out.symm, by go_grown⟩
  cases h7 : inB s.size 1 60
  · have hm : Hid (vWarn n p f u x y r s = false) := by apply Lib.hid; unfold vWarn vWarnH; rw [h7]; simp
    go_enter Try.func16, Try.ntmps16
    go_wp2_with (first | (go_at_call 55; refine (impl_isNumber _ _).mono ?_; rintro e w' ⟨rfl, rfl⟩) | (go_at_call 57; refine (impl_isTime _ _).mono ?_; rintro e w' ⟨rfl, rfl⟩) | (go_at_call 59; refine (impl_isAway _ _).mono ?_; rintro e w' ⟨rfl, rfl⟩) | (go_at_call 56; refine (within_any _ _ _ _).mono ?_; rintro e w' ⟨rfl, rfl⟩) | (go_at_call 60; refine (impl_isPlain _ hs _).mono ?_; rintro e w' ⟨rfl, rfl⟩) | (go_at_call 58; refine (impl_ValidPoint _ _ _).mono ?_; rintro e w1 ⟨rfl, hb1⟩; have hB1 := bnext (w := w) (by go_grown) hb1; have hS1 := hB1.size; ((have hz1 : w.heap.size < w1.heap.size := by have := hb1.size; (try simp only [World.size_alloc, World.size_setCell, World.size_drew] at this); omega)); obtain ⟨hc1, hf1⟩ := bcell hb1; clear hb1))
    go_ret
    exact ⟨ret_bool hm.out.symm, by go_grown⟩
  have hm : Hid (vWarn n p f u x y r s = plainM s) := by apply Lib.hid; unfold vWarn vWarnH; rw [h1, h2, h3, h4, h5, h6, h7]; simp
  go_enter Try.func16, Try.ntmps16
  go_wp2_with (first | (go_at_call 55; refine (impl_isNumber _ _).mono ?_; rintro e w' ⟨rfl, rfl⟩) | (go_at_call 57; refine (impl_isTime _ _).mono ?_; rintro e w' ⟨rfl, rfl⟩) | (go_at_call 59; refine (impl_isAway _ _).mono ?_; rintro e w' ⟨rfl, rfl⟩) | (go_at_call 56; refine (within_any _ _ _ _).mono ?_; rintro e w' ⟨rfl, rfl⟩) | (go_at_call 60; refine (impl_isPlain _ hs _).mono ?_; rintro e w' ⟨rfl, rfl⟩) | (go_at_call 58; refine (impl_ValidPoint _ _ _).mono ?_; rintro e w1 ⟨rfl, hb1⟩; have hB1 := bnext (w := w) (by go_grown) hb1; have hS1 := hB1.size; ((have hz1 : w.heap.size < w1.heap.size := by have := hb1.size; (try simp only [World.size_alloc, World.size_setCell, World.size_drew] at this); omega)); obtain ⟨hc1, hf1⟩ := bcell hb1; clear hb1))
  go_ret
  exact ⟨ret_bool hm.out.symm, by go_grown⟩

/-- A warning in a variable. -/
def Wn (w : World) (g : Nat) (n p f u x y r : Int) (s : ByteArray) : Prop := g < w.heap.size ∧ w.cell? ⟨g, 0, none⟩ = some (.int .i64 n) ∧ w.cell? ⟨g, 1, none⟩ = some (.int .i64 p) ∧ w.cell? ⟨g, 2, none⟩ = some (.int .i64 f) ∧ w.cell? ⟨g, 3, none⟩ = some (.int .i64 u) ∧ w.cell? ⟨g, 4, none⟩ = some (.int .i64 x) ∧ w.cell? ⟨g, 5, none⟩ = some (.int .i64 y) ∧ w.cell? ⟨g, 6, none⟩ = some (.int .i64 r) ∧ w.cell? ⟨g, 7, none⟩ = some (.string s)
set_option maxHeartbeats 3200000 in
theorem spec_l22One (n p f u x y r : Int) (s : ByteArray) (hs : s.size ≤ maxLen) (g : Nat) (w : World) (hw : Wn w g n p f u x y r s) :
    Calls Try.prog 53 #[.pointer (some ⟨g, 0, none⟩)] w fun e w' => e = .returned (.bool (vWarn n p f u x y r s)) ∧ Below w.heap.size w w' := by
  have hs2 : s.size ≤ 9223372036854775807 := by simpa [maxLen, IntKind.max, IntKind.bits, IntKind.signed] using hs
  obtain ⟨hg, c0, c1, c2, c3, c4, c5, c6, c7⟩ := hw
  cases h1 : inB n 1 9999
  · have hm : Hid (vWarn n p f u x y r s = false) := by apply Lib.hid; unfold vWarn vWarnH; rw [h1]; simp
    go_enter Try.func53, Try.ntmps53
    go_wp2_with fail
    refine wp_region_grew (by kernel_rfl) (by kernel_rfl) ?_
    repeat (first | (go_big_quiet_step ((first | (go_at_call 98; exact grew_same (spec_Number _ _)) | (go_at_call 86; exact grew_same (spec_Time _ _)) | (go_at_call 99; exact grew_same (spec_Priority _ _)) | (go_at_call 100; exact grew_of (spec_l02Ok _ _ _)) | (go_at_call 101; exact grew_same (in_any _ _ _ _))))) | (quiet_step ((first | (go_at_call 98; exact grew_same (spec_Number _ _)) | (go_at_call 86; exact grew_same (spec_Time _ _)) | (go_at_call 99; exact grew_same (spec_Priority _ _)) | (go_at_call 100; exact grew_of (spec_l02Ok _ _ _)) | (go_at_call 101; exact grew_same (in_any _ _ _ _))))))
    refine wpQuiet_nil ?_
    rintro _ ⟨⟨w1, hb1⟩, rfl⟩
    try dsimp only
    obtain ⟨hc1, hf1⟩ := bcell hb1
    go_wp2
    go_ret
    exact ⟨ret_bool hm.out.symm, hb1⟩
  cases h2 : inB p 1 3
  · have hm : Hid (vWarn n p f u x y r s = false) := by apply Lib.hid; unfold vWarn vWarnH; rw [h2]; simp
    go_enter Try.func53, Try.ntmps53
    go_wp2_with fail
    refine wp_region_grew (by kernel_rfl) (by kernel_rfl) ?_
    repeat (first | (go_big_quiet_step ((first | (go_at_call 98; exact grew_same (spec_Number _ _)) | (go_at_call 86; exact grew_same (spec_Time _ _)) | (go_at_call 99; exact grew_same (spec_Priority _ _)) | (go_at_call 100; exact grew_of (spec_l02Ok _ _ _)) | (go_at_call 101; exact grew_same (in_any _ _ _ _))))) | (quiet_step ((first | (go_at_call 98; exact grew_same (spec_Number _ _)) | (go_at_call 86; exact grew_same (spec_Time _ _)) | (go_at_call 99; exact grew_same (spec_Priority _ _)) | (go_at_call 100; exact grew_of (spec_l02Ok _ _ _)) | (go_at_call 101; exact grew_same (in_any _ _ _ _))))))
    refine wpQuiet_nil ?_
    rintro _ ⟨⟨w1, hb1⟩, rfl⟩
    try dsimp only
    obtain ⟨hc1, hf1⟩ := bcell hb1
    go_wp2
    go_ret
    exact ⟨ret_bool hm.out.symm, hb1⟩
  cases h3 : inB f 0 143999999
  · have hm : Hid (vWarn n p f u x y r s = false) := by apply Lib.hid; unfold vWarn vWarnH; rw [h3]; simp
    go_enter Try.func53, Try.ntmps53
    go_wp2_with fail
    refine wp_region_grew (by kernel_rfl) (by kernel_rfl) ?_
    repeat (first | (go_big_quiet_step ((first | (go_at_call 98; exact grew_same (spec_Number _ _)) | (go_at_call 86; exact grew_same (spec_Time _ _)) | (go_at_call 99; exact grew_same (spec_Priority _ _)) | (go_at_call 100; exact grew_of (spec_l02Ok _ _ _)) | (go_at_call 101; exact grew_same (in_any _ _ _ _))))) | (quiet_step ((first | (go_at_call 98; exact grew_same (spec_Number _ _)) | (go_at_call 86; exact grew_same (spec_Time _ _)) | (go_at_call 99; exact grew_same (spec_Priority _ _)) | (go_at_call 100; exact grew_of (spec_l02Ok _ _ _)) | (go_at_call 101; exact grew_same (in_any _ _ _ _))))))
    refine wpQuiet_nil ?_
    rintro _ ⟨⟨w1, hb1⟩, rfl⟩
    try dsimp only
    obtain ⟨hc1, hf1⟩ := bcell hb1
    go_wp2
    go_ret
    exact ⟨ret_bool hm.out.symm, hb1⟩
  have hf := inB_yes.1 h3
  cases h4 : inB u 0 143999999
  · have h4' : inB u (f + 1) 143999999 = false := inB_un (fun h => by have := mt inB_yes.2 (by rw [h4]; simp : ¬ inB u 0 143999999 = true); omega)
    have hm : Hid (vWarn n p f u x y r s = false) := by apply Lib.hid; unfold vWarn vWarnH; rw [h4']; simp
    clear h4'
    go_enter Try.func53, Try.ntmps53
    go_wp2_with fail
    refine wp_region_grew (by kernel_rfl) (by kernel_rfl) ?_
    repeat (first | (go_big_quiet_step ((first | (go_at_call 98; exact grew_same (spec_Number _ _)) | (go_at_call 86; exact grew_same (spec_Time _ _)) | (go_at_call 99; exact grew_same (spec_Priority _ _)) | (go_at_call 100; exact grew_of (spec_l02Ok _ _ _)) | (go_at_call 101; exact grew_same (in_any _ _ _ _))))) | (quiet_step ((first | (go_at_call 98; exact grew_same (spec_Number _ _)) | (go_at_call 86; exact grew_same (spec_Time _ _)) | (go_at_call 99; exact grew_same (spec_Priority _ _)) | (go_at_call 100; exact grew_of (spec_l02Ok _ _ _)) | (go_at_call 101; exact grew_same (in_any _ _ _ _))))))
    refine wpQuiet_nil ?_
    rintro _ ⟨⟨w1, hb1⟩, rfl⟩
    try dsimp only
    obtain ⟨hc1, hf1⟩ := bcell hb1
    go_wp2
    go_ret
    exact ⟨ret_bool hm.out.symm, hb1⟩
  have hu := inB_yes.1 h4
  cases h8 : decide (u ≤ f)
  rotate_left
  · have h4' : inB u (f + 1) 143999999 = false := inB_un (fun h => by have := of_decide_eq_true h8; omega)
    have hm : Hid (vWarn n p f u x y r s = false) := by apply Lib.hid; unfold vWarn vWarnH; rw [h4']; simp
    clear h4'
    go_enter Try.func53, Try.ntmps53
    go_wp2_with fail
    refine wp_region_grew (by kernel_rfl) (by kernel_rfl) ?_
    repeat (first | (go_big_quiet_step ((first | (go_at_call 98; exact grew_same (spec_Number _ _)) | (go_at_call 86; exact grew_same (spec_Time _ _)) | (go_at_call 99; exact grew_same (spec_Priority _ _)) | (go_at_call 100; exact grew_of (spec_l02Ok _ _ _)) | (go_at_call 101; exact grew_same (in_any _ _ _ _))))) | (quiet_step ((first | (go_at_call 98; exact grew_same (spec_Number _ _)) | (go_at_call 86; exact grew_same (spec_Time _ _)) | (go_at_call 99; exact grew_same (spec_Priority _ _)) | (go_at_call 100; exact grew_of (spec_l02Ok _ _ _)) | (go_at_call 101; exact grew_same (in_any _ _ _ _))))))
    refine wpQuiet_nil ?_
    rintro _ ⟨⟨w1, hb1⟩, rfl⟩
    try dsimp only
    obtain ⟨hc1, hf1⟩ := bcell hb1
    go_wp2
    go_ret
    exact ⟨ret_bool hm.out.symm, hb1⟩
  have h4' : Hid (inB u (f + 1) 143999999 = true) := Lib.hid (inB_yes.2 ⟨by have := of_decide_eq_false h8; omega, hu.2⟩)
  cases h5 : vPoint x y
  · have hm : Hid (vWarn n p f u x y r s = false) := by apply Lib.hid; unfold vWarn vWarnH; rw [h5]; simp
    go_enter Try.func53, Try.ntmps53
    go_wp2_with fail
    refine wp_region_grew (by kernel_rfl) (by kernel_rfl) ?_
    repeat (first | (go_big_quiet_step ((first | (go_at_call 98; exact grew_same (spec_Number _ _)) | (go_at_call 86; exact grew_same (spec_Time _ _)) | (go_at_call 99; exact grew_same (spec_Priority _ _)) | (go_at_call 100; exact grew_of (spec_l02Ok _ _ _)) | (go_at_call 101; exact grew_same (in_any _ _ _ _))))) | (quiet_step ((first | (go_at_call 98; exact grew_same (spec_Number _ _)) | (go_at_call 86; exact grew_same (spec_Time _ _)) | (go_at_call 99; exact grew_same (spec_Priority _ _)) | (go_at_call 100; exact grew_of (spec_l02Ok _ _ _)) | (go_at_call 101; exact grew_same (in_any _ _ _ _))))))
    refine wpQuiet_nil ?_
    rintro _ ⟨⟨w1, hb1⟩, rfl⟩
    try dsimp only
    obtain ⟨hc1, hf1⟩ := bcell hb1
    go_wp2
    go_ret
    exact ⟨ret_bool hm.out.symm, hb1⟩
  cases h6 : inB r 0 20000
  · have hm : Hid (vWarn n p f u x y r s = false) := by apply Lib.hid; unfold vWarn vWarnH; rw [h6]; simp
    go_enter Try.func53, Try.ntmps53
    go_wp2_with fail
    refine wp_region_grew (by kernel_rfl) (by kernel_rfl) ?_
    repeat (first | (go_big_quiet_step ((first | (go_at_call 98; exact grew_same (spec_Number _ _)) | (go_at_call 86; exact grew_same (spec_Time _ _)) | (go_at_call 99; exact grew_same (spec_Priority _ _)) | (go_at_call 100; exact grew_of (spec_l02Ok _ _ _)) | (go_at_call 101; exact grew_same (in_any _ _ _ _))))) | (quiet_step ((first | (go_at_call 98; exact grew_same (spec_Number _ _)) | (go_at_call 86; exact grew_same (spec_Time _ _)) | (go_at_call 99; exact grew_same (spec_Priority _ _)) | (go_at_call 100; exact grew_of (spec_l02Ok _ _ _)) | (go_at_call 101; exact grew_same (in_any _ _ _ _))))))
    refine wpQuiet_nil ?_
    rintro _ ⟨⟨w1, hb1⟩, rfl⟩
    try dsimp only
    obtain ⟨hc1, hf1⟩ := bcell hb1
    go_wp2
    go_ret
    exact ⟨ret_bool hm.out.symm, hb1⟩
  have hm : Hid (vWarn n p f u x y r s = (inB s.size 1 60 && plainM s)) := by apply Lib.hid; unfold vWarn vWarnH; rw [h1, h2, h3, h4'.out, h5, h6]; simp
  go_enter Try.func53, Try.ntmps53
  go_wp2_with fail
  refine wp_region_grew (by kernel_rfl) (by kernel_rfl) ?_
  repeat (first | (go_big_quiet_step ((first | (go_at_call 98; exact grew_same (spec_Number _ _)) | (go_at_call 86; exact grew_same (spec_Time _ _)) | (go_at_call 99; exact grew_same (spec_Priority _ _)) | (go_at_call 100; exact grew_of (spec_l02Ok _ _ _)) | (go_at_call 101; exact grew_same (in_any _ _ _ _))))) | (quiet_step ((first | (go_at_call 98; exact grew_same (spec_Number _ _)) | (go_at_call 86; exact grew_same (spec_Time _ _)) | (go_at_call 99; exact grew_same (spec_Priority _ _)) | (go_at_call 100; exact grew_of (spec_l02Ok _ _ _)) | (go_at_call 101; exact grew_same (in_any _ _ _ _))))))
  refine wpQuiet_nil ?_
  rintro _ ⟨⟨w1, hb1⟩, rfl⟩
  try dsimp only
  obtain ⟨hc1, hf1⟩ := bcell hb1
  have hc7 := (hc1 _ 7 hg).trans c7
  clear hc1 hf1 c0 c1 c2 c3 c4 c5 c6
  go_wp2_with fail
  go_loopw [3] (fun i wr => ∃ k : Nat, i = .int .i64 k ∧ k ≤ s.size ∧ allTo (plainF s) k = true ∧ Below w.heap.size w wr ∧ wr.cell? ⟨g, 7, none⟩ = some (.string s)) (fun i _ => s.size - (intOf i).toNat)
  case atStart => exact ⟨0, rfl, Nat.zero_le _, rfl, hb1, hc7⟩
  case round =>
    clear hb1 hc7
    obtain ⟨k, rfl, hk, hv, hb1, hc7⟩ := hrel
    have hv' := Lib.hid hv
    clear hv
    by_cases hlt : k < s.size
    · obtain ⟨b, hb, hb2, hbe⟩ := byteAt_is hlt
      have hin : Hid (plainF s k = inB (b : Int) 32 126) := by apply Lib.hid; unfold plainF; rw [hbe]
      clear hbe
      have hcase : b < 32 ∨ (32 ≤ b ∧ 126 < b) ∨ (32 ≤ b ∧ b ≤ 126) := by omega
      rcases hcase with hlo | ⟨hge, hhi⟩ | ⟨hge, hhi⟩
      · have hf2 := Lib.hid (allTo_hit hlt (show plainF s k = false by rw [hin.out]; exact inB_un (by omega)))
        have t1 : decide ((b : Int) < 32) = true := decide_eq_true (by omega)
        clear hlo
        go_wp2
        go_ret
        exact ⟨ret_bool (by rw [hm.out]; unfold plainM; rw [hf2.out]; simp), hb1⟩
      · have hf2 := Lib.hid (allTo_hit hlt (show plainF s k = false by rw [hin.out]; exact inB_un (by omega)))
        have t1 : decide ((b : Int) < 32) = false := decide_eq_false (by omega)
        have t2 : decide (126 < (b : Int)) = true := decide_eq_true (by omega)
        clear hge hhi
        go_wp2
        go_ret
        exact ⟨ret_bool (by rw [hm.out]; unfold plainM; rw [hf2.out]; simp), hb1⟩
      · have hf2 := Lib.hid (allTo_step hv'.out (show plainF s k = true by rw [hin.out]; exact inB_yes.2 ⟨by omega, by omega⟩))
        have t1 : decide ((b : Int) < 32) = false := decide_eq_false (by omega)
        have t2 : decide (126 < (b : Int)) = false := decide_eq_false (by omega)
        clear hge hhi
        go_wp2
        go_roundw
        case rel => exact ⟨k + 1, by go_num, by omega, hf2.out, hb1, hc7⟩
        case measure => simp [intOf]; omega
    · obtain rfl : k = s.size := by omega
      have hp : Hid (plainM s = true) := Lib.hid hv'.out
      go_wp2
      all_goals (go_ret; exact ⟨ret_bool (by rw [hm.out, hp.out]; simp [inB]; first | done | omega), hb1⟩)

theorem spec_ValidWarning (n p f u x y r : Int) (s : ByteArray) (hs : s.size ≤ maxLen) (w : World) :
    Calls Try.prog 14 #[.agg #[.int .i64 n, .int .i64 p, .int .i64 f, .int .i64 u, .int .i64 x, .int .i64 y, .int .i64 r, .string s]] w fun e w' => e = .returned (.bool (vWarn n p f u x y r s)) ∧ Below w.heap.size w w' := by
  go_enter Try.func14, Try.ntmps14
  go_wp2_with (go_at_call 53; refine (spec_l22One n p f u x y r s hs _ _ ⟨by simp, by simp [go_sem], by simp [go_sem], by simp [go_sem], by simp [go_sem], by simp [go_sem], by simp [go_sem], by simp [go_sem], by simp [go_sem]⟩).mono ?_; rintro e w1 ⟨rfl, hb1⟩; have hB1 := bnext (w := w) (by go_grown) hb1; have hS1 := hB1.size; (skip); obtain ⟨hc1, hf1⟩ := bcell hb1; clear hb1)
  go_ret
  exact ⟨rfl, by go_grown⟩

set_option maxHeartbeats 1600000 in
theorem toWarning_any (n p f u x y r : Int) (s : ByteArray) (w : World) :
    Calls Try.prog 15 #[.agg #[.int .i64 n, .int .i64 p, .int .i64 f, .int .i64 u, .int .i64 x, .int .i64 y, .int .i64 r, .string s]] w fun e w' => e = .returned (.agg #[.int .i64 n, .int .i64 p, .int .i64 f, .int .i64 u, .int .i64 x, .int .i64 y, .int .i64 r, .string s]) ∧ Below w.heap.size w w' := by
  go_enter Try.func15, Try.ntmps15
  go_wp2
  go_returns
  exact ⟨rfl, by go_grown⟩

def szM (left n : Int) : Int := if left - n < 0 then -1 else left - n
theorem szWarning_any (n p f u x y r : Int) (s : ByteArray) (hs : s.size ≤ maxLen) (l : Int) (h1 : -1 ≤ l) (h2 : l ≤ 1048576) (w : World) :
    Calls Try.prog 13 #[.agg #[.int .i64 n, .int .i64 p, .int .i64 f, .int .i64 u, .int .i64 x, .int .i64 y, .int .i64 r, .string s], .int .i64 l] w fun e w' => e = .returned (.int .i64 (szM l s.size)) ∧ Below w.heap.size w w' := by
  have hs2 : s.size ≤ 9223372036854775807 := by simpa [maxLen, IntKind.max, IntKind.bits, IntKind.signed] using hs
  by_cases h : l - (s.size : Int) < 0
  · have hm : Hid (szM l s.size = -1) := by apply Lib.hid; unfold szM; rw [if_pos h]
    go_enter Try.func13, Try.ntmps13
    go_wp2
    go_ret
    exact ⟨ret_int hm.out.symm, by go_grown⟩
  · have hm : Hid (szM l s.size = l - s.size) := by apply Lib.hid; unfold szM; rw [if_neg h]
    go_enter Try.func13, Try.ntmps13
    go_wp2
    go_ret
    exact ⟨ret_int hm.out.symm, by go_grown⟩

theorem own : ownKnob Try.prog.godebug = none := by kernel_rfl
theorem laidOut : laidOutB Try.prog = true := by kernel_rfl
namespace fnExactValidWarning
open Go.ChangeShapes Go.WideShapes Go.ChangeAt Go.RowKit
set_option linter.unusedVariables false
theorem walk (W : World) (a0_0 : Int) (wa0_0 : IntKind.i64.has a0_0) (a0_1 : Int) (wa0_1 : IntKind.i64.has a0_1) (a0_2 : Int) (wa0_2 : IntKind.i64.has a0_2) (a0_3 : Int) (wa0_3 : IntKind.i64.has a0_3) (a0_4 : Int) (wa0_4 : IntKind.i64.has a0_4) (a0_5 : Int) (wa0_5 : IntKind.i64.has a0_5) (a0_6 : Int) (wa0_6 : IntKind.i64.has a0_6) (a0_7 : ByteArray) (wa0_7 : a0_7.size ≤ maxLen) :
    Calls Try.prog 3 #[.agg #[.int .i64 a0_0, .int .i64 a0_1, .int .i64 a0_2, .int .i64 a0_3, .int .i64 a0_4, .int .i64 a0_5, .int .i64 a0_6, .string a0_7]] W fun e w' => e = .returned (.bool true) ∧ Below W.heap.size W w' := by
  revert W
  intro w
  by_cases h : szM 1048576 a0_7.size < 0
  · go_enter Try.func3, Try.ntmps3
    go_wp2_with (first | (go_at_call 13; refine (szWarning_any _ _ _ _ _ _ _ _ wa0_7 _ (by omega) (by omega) _).mono ?_; rintro e w1 ⟨rfl, hb1⟩; have hB1 := bnext (w := w) (by go_grown) hb1; have hS1 := hB1.size; ((have hz1 : w.heap.size < w1.heap.size := by have := hb1.size; (try simp only [World.size_alloc, World.size_setCell, World.size_drew] at this); omega)); obtain ⟨hc1, hf1⟩ := bcell hb1; clear hb1))
    go_ret
    exact ⟨rfl, by go_grown⟩
  · go_enter Try.func3, Try.ntmps3
    go_wp2_with (first | (go_at_call 13; refine (szWarning_any _ _ _ _ _ _ _ _ wa0_7 _ (by omega) (by omega) _).mono ?_; rintro e w1 ⟨rfl, hb1⟩; have hB1 := bnext (w := w) (by go_grown) hb1; have hS1 := hB1.size; ((have hz1 : w.heap.size < w1.heap.size := by have := hb1.size; (try simp only [World.size_alloc, World.size_setCell, World.size_drew] at this); omega)); obtain ⟨hc1, hf1⟩ := bcell hb1; clear hb1) | (go_at_call 15; refine (toWarning_any _ _ _ _ _ _ _ _ _).mono ?_; rintro e w1 ⟨rfl, hb1⟩; have hB1 := bnext (w := w) (by go_grown) hb1; have hS1 := hB1.size; ((have hz1 : w.heap.size < w1.heap.size := by have := hb1.size; (try simp only [World.size_alloc, World.size_setCell, World.size_drew] at this); omega)); obtain ⟨hc1, hf1⟩ := bcell hb1; clear hb1) | (go_at_call 14; refine (spec_ValidWarning _ _ _ _ _ _ _ _ wa0_7 _).mono ?_; rintro e w1 ⟨rfl, hb1⟩; have hB1 := bnext (w := w) (by go_grown) hb1; have hS1 := hB1.size; ((have hz1 : w.heap.size < w1.heap.size := by have := hb1.size; (try simp only [World.size_alloc, World.size_setCell, World.size_drew] at this); omega)); obtain ⟨hc1, hf1⟩ := bcell hb1; clear hb1) | (go_at_call 16; refine (impl_ValidWarning _ _ _ _ _ _ _ _ wa0_7 _).mono ?_; rintro e w1 ⟨rfl, hb1⟩; have hB1 := bnext (w := w) (by go_grown) hb1; have hS1 := hB1.size; ((have hz1 : w.heap.size < w1.heap.size := by have := hb1.size; (try simp only [World.size_alloc, World.size_setCell, World.size_drew] at this); omega)); obtain ⟨hc1, hf1⟩ := bcell hb1; clear hb1))
    go_ret
    exact ⟨rfl, by go_grown⟩

theorem lifted (os : Os) (started : os.Started) (H : Type) (enc : TypeId × Value → H) :
    ReturnsInHanded {} Try.checked os 3 .any (Rows.fnExactValidWarningSpec.pre6 enc Try.prog Try.f3 Rows.fnExactValidWarningRow.domain false) (Rows.fnExactValidWarningSpec.post enc Try.prog Try.f3 false true false false) := by
  refine returnsInHanded_of_change (C := Try.checked) own started (by kernel_rfl) Try.func3
    (ChangeSpec.witness6 (enc := enc) (C := Try.checked) false ⟨#[], #[.agg #[.int .i64 0, .int .i64 0, .int .i64 0, .int .i64 0, .int .i64 0, .int .i64 0, .int .i64 0, .string ⟨#[]⟩]], []⟩ 8 (by kernel_rfl) (by kernel_rfl) (by kernel_rfl) (by kernel_rfl)) ?_
  intro W base args ds gs before hval0 hW hcnd _
  have hval : ∀ (j : Nat) t v, Try.f3.params[j]? = some t → args[j]? = some v → Value.okWide Try.prog W .any base t v := hval0
  have hW' := hW
  obtain ⟨p, q, hA0, hV, rfl, hfz, hnd⟩ := hW
  have hA : DataW.TrodAll enc Try.prog W 0 (fun _ => true) true Try.f3.params.toList args.toList ds p := hA0
  rw [Try.params3] at hA hval
  obtain ⟨v0, vs0, d0, ds0, p0, q0, hargs, rfl, rfl, h0, r0⟩ := trodAll_cons hA
  obtain ⟨rfl, rfl, rfl⟩ := trodAll_nil r0
  obtain rfl : args = #[v0] := by cases args; simp_all
  have g0 := h0
  obtain ⟨rfl, rfl⟩ := trodVars_none hV
  clear hA0 hval0
  simp only [List.append_nil] at hW'
  have hlt : ∀ x ∈ p0, x.block < W.heap.size := fun x hx => by simpa using hW'.lt x (by simpa using hx)
  obtain ⟨cs0, rfl, k0_0⟩ := open_struct Try.underlying25 (ts := [2, 2, 2, 2, 2, 2, 2, 9]) (by kernel_rfl) (hval 0 25 _ rfl rfl)
  obtain ⟨c0_0, cs0_0, rfl, q0_0, k0_1⟩ := okCells_cons k0_0
  obtain ⟨c0_1, cs0_1, rfl, q0_1, k0_2⟩ := okCells_cons k0_1
  obtain ⟨c0_2, cs0_2, rfl, q0_2, k0_3⟩ := okCells_cons k0_2
  obtain ⟨c0_3, cs0_3, rfl, q0_3, k0_4⟩ := okCells_cons k0_3
  obtain ⟨c0_4, cs0_4, rfl, q0_4, k0_5⟩ := okCells_cons k0_4
  obtain ⟨c0_5, cs0_5, rfl, q0_5, k0_6⟩ := okCells_cons k0_5
  obtain ⟨c0_6, cs0_6, rfl, q0_6, k0_7⟩ := okCells_cons k0_6
  obtain ⟨c0_7, cs0_7, rfl, q0_7, k0_8⟩ := okCells_cons k0_7
  obtain rfl := okCells_nil k0_8
  obtain ⟨a0_0, rfl, wa0_0⟩ := cell_int Try.underlying2 q0_0
  obtain ⟨a0_1, rfl, wa0_1⟩ := cell_int Try.underlying2 q0_1
  obtain ⟨a0_2, rfl, wa0_2⟩ := cell_int Try.underlying2 q0_2
  obtain ⟨a0_3, rfl, wa0_3⟩ := cell_int Try.underlying2 q0_3
  obtain ⟨a0_4, rfl, wa0_4⟩ := cell_int Try.underlying2 q0_4
  obtain ⟨a0_5, rfl, wa0_5⟩ := cell_int Try.underlying2 q0_5
  obtain ⟨a0_6, rfl, wa0_6⟩ := cell_int Try.underlying2 q0_6
  obtain ⟨a0_7, rfl, wa0_7⟩ := cell_string Try.underlying9 q0_7
  refine (walk W a0_0 wa0_0 a0_1 wa0_1 a0_2 wa0_2 a0_3 wa0_3 a0_4 wa0_4 a0_5 wa0_5 a0_6 wa0_6 a0_7 wa0_7).mono fun e W' ⟨he, hg⟩ => ?_
  subst he
  exact ⟨_, rfl, post_below (pa := _) hW' (trodAll_cons_mk (shut_bool Try.underlying4 _) trodAll_mk0) (trodAll_cons_mk (Below.trod laidOut (by kernel_rfl) (of_decide_eq_true (by kernel_rfl)) g0 hg (fun x hx => hlt x (by simp [hx]))) trodAll_mk0) rfl (by simp) hg⟩

theorem over : Rows.fnExactValidWarningRow.holds Try.pinned (OpenSpec.ofChange Rows.fnExactValidWarningSpec) :=
  OpenClaim.holds_of_wide 3 Try.f3 rfl rfl rfl rfl rfl rfl rfl ⟨rfl, rfl, rfl, rfl, rfl⟩ rfl rfl rfl rfl rfl (by kernel_rfl) Try.func3 (by kernel_rfl)
    (of_decide_eq_true (by kernel_rfl)) (by unfold Func.isWrapper; first | (rw [if_pos (by decide +kernel)]; kernel_rfl) | (rw [if_neg (by decide +kernel)]; exact ⟨rfl, rfl⟩))
    (fun os started H enc _ => lifted os started H enc)

theorem proved : Rows.FnExactValidWarningSaid := over
#print axioms proved
end fnExactValidWarning

end Go.Proofs.Ytdkhehcgioigpaa
