/-
  Contracts of warnings: what makes one valid, the copy that the laws make, its length: the program's and the reference's. Each under the conditions that it states.
-/
import Derived.Test.YtlolkngklfabfaaText1
set_option linter.unusedVariables false
set_option maxRecDepth 100000
set_option linter.unusedSimpArgs false
namespace Go.Proofs.Ytlolkngklfabfaa
open Go.RowKit BigFrame

def vWarnH (n p f u x y r : Int) : Bool := inB n 1 9999 && (inB p 1 3 && (inB f 0 143999999 && (inB u (f + 1) 143999999 && (vPoint x y && inB r 0 20000))))
def vWarn (n p f u x y r : Int) (s : ByteArray) : Bool := vWarnH n p f u x y r && (inB s.size 1 60 && plainM s)

theorem impl_isNumber (n : Int) (w : World) : Calls Try.prog 193 #[.int .i64 n] w fun e w' => e = .returned (.bool (inB n 1 9999)) ∧ w = w' := by
  go_enter Try.func193, Try.ntmps193
  go_wp2_with (go_at_call 119; refine (within_any _ _ _ _).mono ?_; rintro e w' ⟨rfl, rfl⟩)
  go_ret
  exact ⟨rfl, rfl⟩

theorem impl_isTime (n : Int) (w : World) : Calls Try.prog 77 #[.int .i64 n] w fun e w' => e = .returned (.bool (inB n 0 143999999)) ∧ w = w' := by
  go_enter Try.func77, Try.ntmps77
  go_wp2_with (go_at_call 119; refine (within_any _ _ _ _).mono ?_; rintro e w' ⟨rfl, rfl⟩)
  go_ret
  exact ⟨rfl, rfl⟩

theorem impl_isAway (n : Int) (w : World) : Calls Try.prog 194 #[.int .i64 n] w fun e w' => e = .returned (.bool (inB n 0 20000)) ∧ w = w' := by
  go_enter Try.func194, Try.ntmps194
  go_wp2_with (go_at_call 119; refine (within_any _ _ _ _).mono ?_; rintro e w' ⟨rfl, rfl⟩)
  go_ret
  exact ⟨rfl, rfl⟩

theorem spec_Number (n : Int) (w : World) : Calls Try.prog 191 #[.int .i64 n] w fun e w' => e = .returned (.bool (inB n 1 9999)) ∧ w = w' := by
  go_enter Try.func191, Try.ntmps191
  go_wp2_with (go_at_call 143; refine (in_any _ _ _ _).mono ?_; rintro e w' ⟨rfl, rfl⟩)
  go_ret
  exact ⟨rfl, rfl⟩

theorem spec_Time (n : Int) (w : World) : Calls Try.prog 73 #[.int .i64 n] w fun e w' => e = .returned (.bool (inB n 0 143999999)) ∧ w = w' := by
  go_enter Try.func73, Try.ntmps73
  go_wp2_with (go_at_call 143; refine (in_any _ _ _ _).mono ?_; rintro e w' ⟨rfl, rfl⟩)
  go_ret
  exact ⟨rfl, rfl⟩

theorem spec_Priority (n : Int) (w : World) : Calls Try.prog 192 #[.int .i64 n] w fun e w' => e = .returned (.bool (inB n 1 3)) ∧ w = w' := by
  go_enter Try.func192, Try.ntmps192
  go_wp2_with (go_at_call 143; refine (in_any _ _ _ _).mono ?_; rintro e w' ⟨rfl, rfl⟩)
  go_ret
  exact ⟨rfl, rfl⟩

theorem impl_ValidWarning (n p f u x y r : Int) (s : ByteArray) (hs : s.size ≤ maxLen) (w : World) :
    Calls Try.prog 144 #[.agg #[.int .i64 n, .int .i64 p, .int .i64 f, .int .i64 u, .int .i64 x, .int .i64 y, .int .i64 r, .string s]] w fun e w' => e = .returned (.bool (vWarn n p f u x y r s)) ∧ Below w.heap.size w w' := by
  have hs2 : s.size ≤ 9223372036854775807 := by simpa [maxLen, IntKind.max, IntKind.bits, IntKind.signed] using hs
  cases h1 : inB n 1 9999
  · have hm : Hid (vWarn n p f u x y r s = false) := by apply Lib.hid; unfold vWarn vWarnH; rw [h1]; simp
    go_enter Try.func144, Try.ntmps144
    go_wp2_with (first | (go_at_call 193; refine (impl_isNumber _ _).mono ?_; rintro e w' ⟨rfl, rfl⟩) | (go_at_call 77; refine (impl_isTime _ _).mono ?_; rintro e w' ⟨rfl, rfl⟩) | (go_at_call 194; refine (impl_isAway _ _).mono ?_; rintro e w' ⟨rfl, rfl⟩) | (go_at_call 119; refine (within_any _ _ _ _).mono ?_; rintro e w' ⟨rfl, rfl⟩) | (go_at_call 195; refine (impl_isPlain _ hs _).mono ?_; rintro e w' ⟨rfl, rfl⟩) | (go_at_call 150; refine (impl_ValidPoint _ _ _).mono ?_; rintro e w1 ⟨rfl, hb1⟩; have hB1 := bnext (w := w) (by go_grown) hb1; have hS1 := hB1.size; ((have hz1 : w.heap.size < w1.heap.size := by have := hb1.size; (try simp only [World.size_alloc, World.size_setCell, World.size_drew] at this); omega)); obtain ⟨hc1, hf1⟩ := bcell hb1; clear hb1))
    go_ret
    exact ⟨ret_bool hm.out.symm, by go_grown⟩
  cases h2 : inB p 1 3
  · have hm : Hid (vWarn n p f u x y r s = false) := by apply Lib.hid; unfold vWarn vWarnH; rw [h2]; simp
    go_enter Try.func144, Try.ntmps144
    go_wp2_with (first | (go_at_call 193; refine (impl_isNumber _ _).mono ?_; rintro e w' ⟨rfl, rfl⟩) | (go_at_call 77; refine (impl_isTime _ _).mono ?_; rintro e w' ⟨rfl, rfl⟩) | (go_at_call 194; refine (impl_isAway _ _).mono ?_; rintro e w' ⟨rfl, rfl⟩) | (go_at_call 119; refine (within_any _ _ _ _).mono ?_; rintro e w' ⟨rfl, rfl⟩) | (go_at_call 195; refine (impl_isPlain _ hs _).mono ?_; rintro e w' ⟨rfl, rfl⟩) | (go_at_call 150; refine (impl_ValidPoint _ _ _).mono ?_; rintro e w1 ⟨rfl, hb1⟩; have hB1 := bnext (w := w) (by go_grown) hb1; have hS1 := hB1.size; ((have hz1 : w.heap.size < w1.heap.size := by have := hb1.size; (try simp only [World.size_alloc, World.size_setCell, World.size_drew] at this); omega)); obtain ⟨hc1, hf1⟩ := bcell hb1; clear hb1))
    go_ret
    exact ⟨ret_bool hm.out.symm, by go_grown⟩
  cases h3 : inB f 0 143999999
  · have hm : Hid (vWarn n p f u x y r s = false) := by apply Lib.hid; unfold vWarn vWarnH; rw [h3]; simp
    go_enter Try.func144, Try.ntmps144
    go_wp2_with (first | (go_at_call 193; refine (impl_isNumber _ _).mono ?_; rintro e w' ⟨rfl, rfl⟩) | (go_at_call 77; refine (impl_isTime _ _).mono ?_; rintro e w' ⟨rfl, rfl⟩) | (go_at_call 194; refine (impl_isAway _ _).mono ?_; rintro e w' ⟨rfl, rfl⟩) | (go_at_call 119; refine (within_any _ _ _ _).mono ?_; rintro e w' ⟨rfl, rfl⟩) | (go_at_call 195; refine (impl_isPlain _ hs _).mono ?_; rintro e w' ⟨rfl, rfl⟩) | (go_at_call 150; refine (impl_ValidPoint _ _ _).mono ?_; rintro e w1 ⟨rfl, hb1⟩; have hB1 := bnext (w := w) (by go_grown) hb1; have hS1 := hB1.size; ((have hz1 : w.heap.size < w1.heap.size := by have := hb1.size; (try simp only [World.size_alloc, World.size_setCell, World.size_drew] at this); omega)); obtain ⟨hc1, hf1⟩ := bcell hb1; clear hb1))
    go_ret
    exact ⟨ret_bool hm.out.symm, by go_grown⟩
  have hf := inB_yes.1 h3
  cases h4 : inB u (f + 1) 143999999
  · have hm : Hid (vWarn n p f u x y r s = false) := by apply Lib.hid; unfold vWarn vWarnH; rw [h4]; simp
    go_enter Try.func144, Try.ntmps144
    go_wp2_with (first | (go_at_call 193; refine (impl_isNumber _ _).mono ?_; rintro e w' ⟨rfl, rfl⟩) | (go_at_call 77; refine (impl_isTime _ _).mono ?_; rintro e w' ⟨rfl, rfl⟩) | (go_at_call 194; refine (impl_isAway _ _).mono ?_; rintro e w' ⟨rfl, rfl⟩) | (go_at_call 119; refine (within_any _ _ _ _).mono ?_; rintro e w' ⟨rfl, rfl⟩) | (go_at_call 195; refine (impl_isPlain _ hs _).mono ?_; rintro e w' ⟨rfl, rfl⟩) | (go_at_call 150; refine (impl_ValidPoint _ _ _).mono ?_; rintro e w1 ⟨rfl, hb1⟩; have hB1 := bnext (w := w) (by go_grown) hb1; have hS1 := hB1.size; ((have hz1 : w.heap.size < w1.heap.size := by have := hb1.size; (try simp only [World.size_alloc, World.size_setCell, World.size_drew] at this); omega)); obtain ⟨hc1, hf1⟩ := bcell hb1; clear hb1))
    go_ret
    exact ⟨ret_bool hm.out.symm, by go_grown⟩
  cases h5 : vPoint x y
  · have hm : Hid (vWarn n p f u x y r s = false) := by apply Lib.hid; unfold vWarn vWarnH; rw [h5]; simp
    go_enter Try.func144, Try.ntmps144
    go_wp2_with (first | (go_at_call 193; refine (impl_isNumber _ _).mono ?_; rintro e w' ⟨rfl, rfl⟩) | (go_at_call 77; refine (impl_isTime _ _).mono ?_; rintro e w' ⟨rfl, rfl⟩) | (go_at_call 194; refine (impl_isAway _ _).mono ?_; rintro e w' ⟨rfl, rfl⟩) | (go_at_call 119; refine (within_any _ _ _ _).mono ?_; rintro e w' ⟨rfl, rfl⟩) | (go_at_call 195; refine (impl_isPlain _ hs _).mono ?_; rintro e w' ⟨rfl, rfl⟩) | (go_at_call 150; refine (impl_ValidPoint _ _ _).mono ?_; rintro e w1 ⟨rfl, hb1⟩; have hB1 := bnext (w := w) (by go_grown) hb1; have hS1 := hB1.size; ((have hz1 : w.heap.size < w1.heap.size := by have := hb1.size; (try simp only [World.size_alloc, World.size_setCell, World.size_drew] at this); omega)); obtain ⟨hc1, hf1⟩ := bcell hb1; clear hb1))
    go_ret
    exact ⟨ret_bool hm.out.symm, by go_grown⟩
  cases h6 : inB r 0 20000
  · have hm : Hid (vWarn n p f u x y r s = false) := by apply Lib.hid; unfold vWarn vWarnH; rw [h6]; simp
    go_enter Try.func144, Try.ntmps144
    go_wp2_with (first | (go_at_call 193; refine (impl_isNumber _ _).mono ?_; rintro e w' ⟨rfl, rfl⟩) | (go_at_call 77; refine (impl_isTime _ _).mono ?_; rintro e w' ⟨rfl, rfl⟩) | (go_at_call 194; refine (impl_isAway _ _).mono ?_; rintro e w' ⟨rfl, rfl⟩) | (go_at_call 119; refine (within_any _ _ _ _).mono ?_; rintro e w' ⟨rfl, rfl⟩) | (go_at_call 195; refine (impl_isPlain _ hs _).mono ?_; rintro e w' ⟨rfl, rfl⟩) | (go_at_call 150; refine (impl_ValidPoint _ _ _).mono ?_; rintro e w1 ⟨rfl, hb1⟩; have hB1 := bnext (w := w) (by go_grown) hb1; have hS1 := hB1.size; ((have hz1 : w.heap.size < w1.heap.size := by have := hb1.size; (try simp only [World.size_alloc, World.size_setCell, World.size_drew] at this); omega)); obtain ⟨hc1, hf1⟩ := bcell hb1; clear hb1))
    go_ret
    exact ⟨ret_bool hm.out.symm, by go_grown⟩
  cases h7 : inB s.size 1 60
  · have hm : Hid (vWarn n p f u x y r s = false) := by apply Lib.hid; unfold vWarn vWarnH; rw [h7]; simp
    go_enter Try.func144, Try.ntmps144
    go_wp2_with (first | (go_at_call 193; refine (impl_isNumber _ _).mono ?_; rintro e w' ⟨rfl, rfl⟩) | (go_at_call 77; refine (impl_isTime _ _).mono ?_; rintro e w' ⟨rfl, rfl⟩) | (go_at_call 194; refine (impl_isAway _ _).mono ?_; rintro e w' ⟨rfl, rfl⟩) | (go_at_call 119; refine (within_any _ _ _ _).mono ?_; rintro e w' ⟨rfl, rfl⟩) | (go_at_call 195; refine (impl_isPlain _ hs _).mono ?_; rintro e w' ⟨rfl, rfl⟩) | (go_at_call 150; refine (impl_ValidPoint _ _ _).mono ?_; rintro e w1 ⟨rfl, hb1⟩; have hB1 := bnext (w := w) (by go_grown) hb1; have hS1 := hB1.size; ((have hz1 : w.heap.size < w1.heap.size := by have := hb1.size; (try simp only [World.size_alloc, World.size_setCell, World.size_drew] at this); omega)); obtain ⟨hc1, hf1⟩ := bcell hb1; clear hb1))
    go_ret
    exact ⟨ret_bool hm.out.symm, by go_grown⟩
  have hm : Hid (vWarn n p f u x y r s = plainM s) := by apply Lib.hid; unfold vWarn vWarnH; rw [h1, h2, h3, h4, h5, h6, h7]; simp
  go_enter Try.func144, Try.ntmps144
  go_wp2_with (first | (go_at_call 193; refine (impl_isNumber _ _).mono ?_; rintro e w' ⟨rfl, rfl⟩) | (go_at_call 77; refine (impl_isTime _ _).mono ?_; rintro e w' ⟨rfl, rfl⟩) | (go_at_call 194; refine (impl_isAway _ _).mono ?_; rintro e w' ⟨rfl, rfl⟩) | (go_at_call 119; refine (within_any _ _ _ _).mono ?_; rintro e w' ⟨rfl, rfl⟩) | (go_at_call 195; refine (impl_isPlain _ hs _).mono ?_; rintro e w' ⟨rfl, rfl⟩) | (go_at_call 150; refine (impl_ValidPoint _ _ _).mono ?_; rintro e w1 ⟨rfl, hb1⟩; have hB1 := bnext (w := w) (by go_grown) hb1; have hS1 := hB1.size; ((have hz1 : w.heap.size < w1.heap.size := by have := hb1.size; (try simp only [World.size_alloc, World.size_setCell, World.size_drew] at this); omega)); obtain ⟨hc1, hf1⟩ := bcell hb1; clear hb1))
  go_ret
  exact ⟨ret_bool hm.out.symm, by go_grown⟩

/-- A warning in memory, at number o of block g. -/
def Wn (w : World) (g o : Nat) (n p f u x y r : Int) (s : ByteArray) : Prop := g < w.heap.size ∧ w.cell? ⟨g, o, none⟩ = some (.int .i64 n) ∧ w.cell? ⟨g, o + 1, none⟩ = some (.int .i64 p) ∧ w.cell? ⟨g, o + 2, none⟩ = some (.int .i64 f) ∧ w.cell? ⟨g, o + 3, none⟩ = some (.int .i64 u) ∧ w.cell? ⟨g, o + 4, none⟩ = some (.int .i64 x) ∧ w.cell? ⟨g, o + 5, none⟩ = some (.int .i64 y) ∧ w.cell? ⟨g, o + 6, none⟩ = some (.int .i64 r) ∧ w.cell? ⟨g, o + 7, none⟩ = some (.string s)
theorem Wn.on {w w' : World} {g o : Nat} {n p f u x y r : Int} {s : ByteArray} (h : Wn w g o n p f u x y r s) (hb : Below w.heap.size w w') : Wn w' g o n p f u x y r s := by
  obtain ⟨hg, c0, c1, c2, c3, c4, c5, c6, c7⟩ := h
  obtain ⟨hc, _⟩ := bcell hb
  exact ⟨Nat.lt_of_lt_of_le hg hb.size, (hc _ _ hg).trans c0, (hc _ _ hg).trans c1, (hc _ _ hg).trans c2, (hc _ _ hg).trans c3, (hc _ _ hg).trans c4, (hc _ _ hg).trans c5, (hc _ _ hg).trans c6, (hc _ _ hg).trans c7⟩
set_option maxHeartbeats 3200000 in
theorem spec_l22One (n p f u x y r : Int) (s : ByteArray) (hs : s.size ≤ maxLen) (g o : Nat) (w : World) (hw : Wn w g o n p f u x y r s) :
    Calls Try.prog 142 #[.pointer (some ⟨g, o, none⟩)] w fun e w' => e = .returned (.bool (vWarn n p f u x y r s)) ∧ Below w.heap.size w w' := by
  have hs2 : s.size ≤ 9223372036854775807 := by simpa [maxLen, IntKind.max, IntKind.bits, IntKind.signed] using hs
  obtain ⟨hg, c0, c1, c2, c3, c4, c5, c6, c7⟩ := hw
  cases h1 : inB n 1 9999
  · have hm : Hid (vWarn n p f u x y r s = false) := by apply Lib.hid; unfold vWarn vWarnH; rw [h1]; simp
    go_enter Try.func142, Try.ntmps142
    go_wp2_with fail
    refine wp_region_grew (by kernel_rfl) (by kernel_rfl) ?_
    repeat (first | (go_big_quiet_step ((first | (go_at_call 191; exact grew_same (spec_Number _ _)) | (go_at_call 73; exact grew_same (spec_Time _ _)) | (go_at_call 192; exact grew_same (spec_Priority _ _)) | (go_at_call 148; exact grew_of (spec_l02Ok _ _ _)) | (go_at_call 143; exact grew_same (in_any _ _ _ _))))) | (quiet_step ((first | (go_at_call 191; exact grew_same (spec_Number _ _)) | (go_at_call 73; exact grew_same (spec_Time _ _)) | (go_at_call 192; exact grew_same (spec_Priority _ _)) | (go_at_call 148; exact grew_of (spec_l02Ok _ _ _)) | (go_at_call 143; exact grew_same (in_any _ _ _ _))))))
    refine wpQuiet_nil ?_
    rintro _ ⟨⟨w1, hb1⟩, rfl⟩
    try dsimp only
    obtain ⟨hc1, hf1⟩ := bcell hb1
    go_wp2
    go_ret
    exact ⟨ret_bool hm.out.symm, hb1⟩
  cases h2 : inB p 1 3
  · have hm : Hid (vWarn n p f u x y r s = false) := by apply Lib.hid; unfold vWarn vWarnH; rw [h2]; simp
    go_enter Try.func142, Try.ntmps142
    go_wp2_with fail
    refine wp_region_grew (by kernel_rfl) (by kernel_rfl) ?_
    repeat (first | (go_big_quiet_step ((first | (go_at_call 191; exact grew_same (spec_Number _ _)) | (go_at_call 73; exact grew_same (spec_Time _ _)) | (go_at_call 192; exact grew_same (spec_Priority _ _)) | (go_at_call 148; exact grew_of (spec_l02Ok _ _ _)) | (go_at_call 143; exact grew_same (in_any _ _ _ _))))) | (quiet_step ((first | (go_at_call 191; exact grew_same (spec_Number _ _)) | (go_at_call 73; exact grew_same (spec_Time _ _)) | (go_at_call 192; exact grew_same (spec_Priority _ _)) | (go_at_call 148; exact grew_of (spec_l02Ok _ _ _)) | (go_at_call 143; exact grew_same (in_any _ _ _ _))))))
    refine wpQuiet_nil ?_
    rintro _ ⟨⟨w1, hb1⟩, rfl⟩
    try dsimp only
    obtain ⟨hc1, hf1⟩ := bcell hb1
    go_wp2
    go_ret
    exact ⟨ret_bool hm.out.symm, hb1⟩
  cases h3 : inB f 0 143999999
  · have hm : Hid (vWarn n p f u x y r s = false) := by apply Lib.hid; unfold vWarn vWarnH; rw [h3]; simp
    go_enter Try.func142, Try.ntmps142
    go_wp2_with fail
    refine wp_region_grew (by kernel_rfl) (by kernel_rfl) ?_
    repeat (first | (go_big_quiet_step ((first | (go_at_call 191; exact grew_same (spec_Number _ _)) | (go_at_call 73; exact grew_same (spec_Time _ _)) | (go_at_call 192; exact grew_same (spec_Priority _ _)) | (go_at_call 148; exact grew_of (spec_l02Ok _ _ _)) | (go_at_call 143; exact grew_same (in_any _ _ _ _))))) | (quiet_step ((first | (go_at_call 191; exact grew_same (spec_Number _ _)) | (go_at_call 73; exact grew_same (spec_Time _ _)) | (go_at_call 192; exact grew_same (spec_Priority _ _)) | (go_at_call 148; exact grew_of (spec_l02Ok _ _ _)) | (go_at_call 143; exact grew_same (in_any _ _ _ _))))))
    refine wpQuiet_nil ?_
    rintro _ ⟨⟨w1, hb1⟩, rfl⟩
    try dsimp only
    obtain ⟨hc1, hf1⟩ := bcell hb1
    go_wp2
    go_ret
    exact ⟨ret_bool hm.out.symm, hb1⟩
  have hf := inB_yes.1 h3
  cases h4 : inB u 0 143999999
  · have h4' : inB u (f + 1) 143999999 = false := inB_un (fun h => by have := mt inB_yes.2 (by rw [h4]; simp : ¬ inB u 0 143999999 = true); omega)
    have hm : Hid (vWarn n p f u x y r s = false) := by apply Lib.hid; unfold vWarn vWarnH; rw [h4']; simp
    clear h4'
    go_enter Try.func142, Try.ntmps142
    go_wp2_with fail
    refine wp_region_grew (by kernel_rfl) (by kernel_rfl) ?_
    repeat (first | (go_big_quiet_step ((first | (go_at_call 191; exact grew_same (spec_Number _ _)) | (go_at_call 73; exact grew_same (spec_Time _ _)) | (go_at_call 192; exact grew_same (spec_Priority _ _)) | (go_at_call 148; exact grew_of (spec_l02Ok _ _ _)) | (go_at_call 143; exact grew_same (in_any _ _ _ _))))) | (quiet_step ((first | (go_at_call 191; exact grew_same (spec_Number _ _)) | (go_at_call 73; exact grew_same (spec_Time _ _)) | (go_at_call 192; exact grew_same (spec_Priority _ _)) | (go_at_call 148; exact grew_of (spec_l02Ok _ _ _)) | (go_at_call 143; exact grew_same (in_any _ _ _ _))))))
    refine wpQuiet_nil ?_
    rintro _ ⟨⟨w1, hb1⟩, rfl⟩
    try dsimp only
    obtain ⟨hc1, hf1⟩ := bcell hb1
    go_wp2
    go_ret
    exact ⟨ret_bool hm.out.symm, hb1⟩
  have hu := inB_yes.1 h4
  cases h8 : decide (u ≤ f)
  rotate_left
  · have h4' : inB u (f + 1) 143999999 = false := inB_un (fun h => by have := of_decide_eq_true h8; omega)
    have hm : Hid (vWarn n p f u x y r s = false) := by apply Lib.hid; unfold vWarn vWarnH; rw [h4']; simp
    clear h4'
    go_enter Try.func142, Try.ntmps142
    go_wp2_with fail
    refine wp_region_grew (by kernel_rfl) (by kernel_rfl) ?_
    repeat (first | (go_big_quiet_step ((first | (go_at_call 191; exact grew_same (spec_Number _ _)) | (go_at_call 73; exact grew_same (spec_Time _ _)) | (go_at_call 192; exact grew_same (spec_Priority _ _)) | (go_at_call 148; exact grew_of (spec_l02Ok _ _ _)) | (go_at_call 143; exact grew_same (in_any _ _ _ _))))) | (quiet_step ((first | (go_at_call 191; exact grew_same (spec_Number _ _)) | (go_at_call 73; exact grew_same (spec_Time _ _)) | (go_at_call 192; exact grew_same (spec_Priority _ _)) | (go_at_call 148; exact grew_of (spec_l02Ok _ _ _)) | (go_at_call 143; exact grew_same (in_any _ _ _ _))))))
    refine wpQuiet_nil ?_
    rintro _ ⟨⟨w1, hb1⟩, rfl⟩
    try dsimp only
    obtain ⟨hc1, hf1⟩ := bcell hb1
    go_wp2
    go_ret
    exact ⟨ret_bool hm.out.symm, hb1⟩
  have h4' : Hid (inB u (f + 1) 143999999 = true) := Lib.hid (inB_yes.2 ⟨by have := of_decide_eq_false h8; omega, hu.2⟩)
  cases h5 : vPoint x y
  · have hm : Hid (vWarn n p f u x y r s = false) := by apply Lib.hid; unfold vWarn vWarnH; rw [h5]; simp
    go_enter Try.func142, Try.ntmps142
    go_wp2_with fail
    refine wp_region_grew (by kernel_rfl) (by kernel_rfl) ?_
    repeat (first | (go_big_quiet_step ((first | (go_at_call 191; exact grew_same (spec_Number _ _)) | (go_at_call 73; exact grew_same (spec_Time _ _)) | (go_at_call 192; exact grew_same (spec_Priority _ _)) | (go_at_call 148; exact grew_of (spec_l02Ok _ _ _)) | (go_at_call 143; exact grew_same (in_any _ _ _ _))))) | (quiet_step ((first | (go_at_call 191; exact grew_same (spec_Number _ _)) | (go_at_call 73; exact grew_same (spec_Time _ _)) | (go_at_call 192; exact grew_same (spec_Priority _ _)) | (go_at_call 148; exact grew_of (spec_l02Ok _ _ _)) | (go_at_call 143; exact grew_same (in_any _ _ _ _))))))
    refine wpQuiet_nil ?_
    rintro _ ⟨⟨w1, hb1⟩, rfl⟩
    try dsimp only
    obtain ⟨hc1, hf1⟩ := bcell hb1
    go_wp2
    go_ret
    exact ⟨ret_bool hm.out.symm, hb1⟩
  cases h6 : inB r 0 20000
  · have hm : Hid (vWarn n p f u x y r s = false) := by apply Lib.hid; unfold vWarn vWarnH; rw [h6]; simp
    go_enter Try.func142, Try.ntmps142
    go_wp2_with fail
    refine wp_region_grew (by kernel_rfl) (by kernel_rfl) ?_
    repeat (first | (go_big_quiet_step ((first | (go_at_call 191; exact grew_same (spec_Number _ _)) | (go_at_call 73; exact grew_same (spec_Time _ _)) | (go_at_call 192; exact grew_same (spec_Priority _ _)) | (go_at_call 148; exact grew_of (spec_l02Ok _ _ _)) | (go_at_call 143; exact grew_same (in_any _ _ _ _))))) | (quiet_step ((first | (go_at_call 191; exact grew_same (spec_Number _ _)) | (go_at_call 73; exact grew_same (spec_Time _ _)) | (go_at_call 192; exact grew_same (spec_Priority _ _)) | (go_at_call 148; exact grew_of (spec_l02Ok _ _ _)) | (go_at_call 143; exact grew_same (in_any _ _ _ _))))))
    refine wpQuiet_nil ?_
    rintro _ ⟨⟨w1, hb1⟩, rfl⟩
    try dsimp only
    obtain ⟨hc1, hf1⟩ := bcell hb1
    go_wp2
    go_ret
    exact ⟨ret_bool hm.out.symm, hb1⟩
  have hm : Hid (vWarn n p f u x y r s = (inB s.size 1 60 && plainM s)) := by apply Lib.hid; unfold vWarn vWarnH; rw [h1, h2, h3, h4'.out, h5, h6]; simp
  go_enter Try.func142, Try.ntmps142
  go_wp2_with fail
  refine wp_region_grew (by kernel_rfl) (by kernel_rfl) ?_
  repeat (first | (go_big_quiet_step ((first | (go_at_call 191; exact grew_same (spec_Number _ _)) | (go_at_call 73; exact grew_same (spec_Time _ _)) | (go_at_call 192; exact grew_same (spec_Priority _ _)) | (go_at_call 148; exact grew_of (spec_l02Ok _ _ _)) | (go_at_call 143; exact grew_same (in_any _ _ _ _))))) | (quiet_step ((first | (go_at_call 191; exact grew_same (spec_Number _ _)) | (go_at_call 73; exact grew_same (spec_Time _ _)) | (go_at_call 192; exact grew_same (spec_Priority _ _)) | (go_at_call 148; exact grew_of (spec_l02Ok _ _ _)) | (go_at_call 143; exact grew_same (in_any _ _ _ _))))))
  refine wpQuiet_nil ?_
  rintro _ ⟨⟨w1, hb1⟩, rfl⟩
  try dsimp only
  obtain ⟨hc1, hf1⟩ := bcell hb1
  have hc7 := (hc1 _ (o + 7) hg).trans c7
  clear hc1 hf1 c0 c1 c2 c3 c4 c5 c6
  go_wp2_with fail
  go_loopw [3] (fun i wr => ∃ k : Nat, i = .int .i64 k ∧ k ≤ s.size ∧ allTo (plainF s) k = true ∧ Below w.heap.size w wr ∧ wr.cell? ⟨g, o + 7, none⟩ = some (.string s)) (fun i _ => s.size - (intOf i).toNat)
  case atStart => exact ⟨0, rfl, Nat.zero_le _, rfl, hb1, hc7⟩
  case round =>
    clear hb1 hc7
    obtain ⟨k, rfl, hk, hv, hb1, hc7⟩ := hrel
    have hv' := Lib.hid hv
    clear hv
    by_cases hlt : k < s.size
    · obtain ⟨b, hb, hb2, hbe⟩ := byteAt_is hlt
      have hin : Hid (plainF s k = inB (b : Int) 32 126) := by apply Lib.hid; unfold plainF; rw [hbe]
      clear hbe
      have hcase : b < 32 ∨ (32 ≤ b ∧ 126 < b) ∨ (32 ≤ b ∧ b ≤ 126) := by omega
      rcases hcase with hlo | ⟨hge, hhi⟩ | ⟨hge, hhi⟩
      · have hf2 := Lib.hid (allTo_hit hlt (show plainF s k = false by rw [hin.out]; exact inB_un (by omega)))
        have t1 : decide ((b : Int) < 32) = true := decide_eq_true (by omega)
        clear hlo
        go_wp2
        go_ret
        exact ⟨ret_bool (by rw [hm.out]; unfold plainM; rw [hf2.out]; simp), hb1⟩
      · have hf2 := Lib.hid (allTo_hit hlt (show plainF s k = false by rw [hin.out]; exact inB_un (by omega)))
        have t1 : decide ((b : Int) < 32) = false := decide_eq_false (by omega)
        have t2 : decide (126 < (b : Int)) = true := decide_eq_true (by omega)
        clear hge hhi
        go_wp2
        go_ret
        exact ⟨ret_bool (by rw [hm.out]; unfold plainM; rw [hf2.out]; simp), hb1⟩
      · have hf2 := Lib.hid (allTo_step hv'.out (show plainF s k = true by rw [hin.out]; exact inB_yes.2 ⟨by omega, by omega⟩))
        have t1 : decide ((b : Int) < 32) = false := decide_eq_false (by omega)
        have t2 : decide (126 < (b : Int)) = false := decide_eq_false (by omega)
        clear hge hhi
        go_wp2
        go_roundw
        case rel => exact ⟨k + 1, by go_num, by omega, hf2.out, hb1, hc7⟩
        case measure => simp [intOf]; omega
    · obtain rfl : k = s.size := by omega
      have hp : Hid (plainM s = true) := Lib.hid hv'.out
      go_wp2
      all_goals (go_ret; exact ⟨ret_bool (by rw [hm.out, hp.out]; simp [inB]; first | done | omega), hb1⟩)

set_option maxHeartbeats 1600000 in
theorem toWarning_any (n p f u x y r : Int) (s : ByteArray) (w : World) :
    Calls Try.prog 74 #[.agg #[.int .i64 n, .int .i64 p, .int .i64 f, .int .i64 u, .int .i64 x, .int .i64 y, .int .i64 r, .string s]] w fun e w' => e = .returned (.agg #[.int .i64 n, .int .i64 p, .int .i64 f, .int .i64 u, .int .i64 x, .int .i64 y, .int .i64 r, .string s]) ∧ Below w.heap.size w w' := by
  go_enter Try.func74, Try.ntmps74
  go_wp2
  go_returns
  exact ⟨rfl, by go_grown⟩

def szMw (left n : Int) : Int := if left - n < 0 then -1 else left - n
theorem szWarning_any (n p f u x y r : Int) (s : ByteArray) (hs : s.size ≤ maxLen) (l : Int) (h1 : -1 ≤ l) (h2 : l ≤ 1048576) (w : World) :
    Calls Try.prog 71 #[.agg #[.int .i64 n, .int .i64 p, .int .i64 f, .int .i64 u, .int .i64 x, .int .i64 y, .int .i64 r, .string s], .int .i64 l] w fun e w' => e = .returned (.int .i64 (szMw l s.size)) ∧ Below w.heap.size w w' := by
  have hs2 : s.size ≤ 9223372036854775807 := by simpa [maxLen, IntKind.max, IntKind.bits, IntKind.signed] using hs
  by_cases h : l - (s.size : Int) < 0
  · have hm : Hid (szMw l s.size = -1) := by apply Lib.hid; unfold szMw; rw [if_pos h]
    go_enter Try.func71, Try.ntmps71
    go_wp2
    go_ret
    exact ⟨ret_int hm.out.symm, by go_grown⟩
  · have hm : Hid (szMw l s.size = l - s.size) := by apply Lib.hid; unfold szMw; rw [if_neg h]
    go_enter Try.func71, Try.ntmps71
    go_wp2
    go_ret
    exact ⟨ret_int hm.out.symm, by go_grown⟩

end Go.Proofs.Ytlolkngklfabfaa
