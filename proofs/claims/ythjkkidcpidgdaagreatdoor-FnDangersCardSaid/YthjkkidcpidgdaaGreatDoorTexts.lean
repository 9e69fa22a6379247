/-
  Contracts of the texts of points, dangers, leading lines: the program's and the reference's. Each under the conditions that it states.
-/
import Derived.Test.YthjkkidcpidgdaaGreatDoorDec
import Derived.Test.YthjkkidcpidgdaaGreatDoorDanger
import Derived.Test.YthjkkidcpidgdaaGreatDoorLeading
set_option linter.unusedVariables false
set_option linter.unnecessarySimpa false
set_option maxRecDepth 100000
set_option linter.unusedSimpArgs false
namespace Go.Proofs.YthjkkidcpidgdaaGreatDoor
open Go.RowKit BigFrame

theorem decT_size {n : Int} (h1 : -9223372036854775808 ≤ n) (h2 : n ≤ 9223372036854775807) : (decT n).size ≤ 21 := by
  by_cases h : n = 0
  · subst h; rw [decT_zero]; decide
  · have := decR_len n h1 h2
    have e := congrArg List.length (decR_bytes n h)
    simp at e
    show (Lib.itoa n).toArray.size ≤ 21
    simp; omega
theorem noB {n : Nat} (h : n ≤ 1000) : ¬ 9223372036854775807 < n := by omega
def ptT (x y : Int) : ByteArray := decT x ++ ⟨#[44]⟩ ++ decT y

theorem ptT_size {x y : Int} (hx : IntKind.i64.has x) (hy : IntKind.i64.has y) : (ptT x y).size ≤ 43 := by
  have hx' := has_i64 hx
  have hy' := has_i64 hy
  have s1 := decT_size hx'.1 hx'.2
  have s2 := decT_size hy'.1 hy'.2
  unfold ptT
  rw [ByteArray.size_append, ByteArray.size_append]
  have : (⟨#[44]⟩ : ByteArray).size = 1 := rfl
  omega
def dangT (s : ByteArray) (x y r : Int) : ByteArray := s ++ ⟨#[32]⟩ ++ ptT x y ++ ⟨#[32]⟩ ++ decT r
theorem name_size {s : ByteArray} (h : nameM s = true) : s.size ≤ 10 := by
  unfold nameM at h
  rw [Bool.and_eq_true, Bool.and_eq_true] at h
  exact of_decide_eq_true h.2.2
def dangX (s : ByteArray) (x y r : Int) : ByteArray := if vDanger s x y r then dangT s x y r else ⟨#[]⟩
theorem impl_ptText (x y : Int) (hv : vPoint x y = true) (hx : IntKind.i64.has x) (hy : IntKind.i64.has y) (w : World) (ht : Tab w) : Calls Tryz.prog 47 #[.agg #[.int .i64 x, .int .i64 y]] w fun e w' => e = .returned (.string (ptT x y)) ∧ Below w.heap.size w w' := by
  have hx' := has_i64 hx
  have hy' := has_i64 hy
  unfold ptT
  have s1 := decT_size hx'.1 hx'.2
  have s2 := decT_size hy'.1 hy'.2
  have q1 := noB (n := (decT x).size + 1) (by omega)
  have q2 := noB (n := (decT x).size + 1 + (decT y).size) (by omega)
  have ht' := Lib.hid ht
  clear ht
  go_enter Tryz.func47, Tryz.ntmps47
  go_wp2_with fail
  refine (impl_ValidPoint _ _ _).mono ?_
  rintro e w1 ⟨rfl, hb1⟩
  have hB1 := bnext (show Below w.heap.size w (w.alloc (.cells #[.int .i64 x, .int .i64 y] 34)) by go_grown) hb1
  have hS1 := hb1.size
  simp only [World.size_alloc] at hS1
  have hz1 : w.heap.size < w1.heap.size := by omega
  have hT : Hid (Tab w1) := Lib.hid (ht'.out.on hB1)
  obtain ⟨hc1, hf1⟩ := bcell hb1
  clear hb1
  go_wp2_with fail
  refine wp_region_grew (by kernel_rfl) (by kernel_rfl) ?_
  repeat (first | (go_big_quiet_step ((go_at_call 48; exact grew_of (impl_Dec _ (by omega) (by omega) _ (hT.out.on (Grew.below _)))))) | (quiet_step ((go_at_call 48; exact grew_of (impl_Dec _ (by omega) (by omega) _ (hT.out.on (Grew.below _)))))))
  refine wpQuiet_nil ?_
  rintro _ ⟨⟨w9, hb9⟩, rfl⟩
  try dsimp only
  obtain ⟨hc9, hf9⟩ := bcell hb9
  go_wp2
  go_ret
  exact ⟨rfl, bnext hB1 hb9⟩

theorem impl_DangerText (s : ByteArray) (hs : s.size ≤ maxLen) (x y r : Int) (hx : IntKind.i64.has x) (hy : IntKind.i64.has y) (hr : IntKind.i64.has r) (w : World) (ht : Tab w) : Calls Tryz.prog 11 #[.agg #[.string s, .int .i64 x, .int .i64 y, .int .i64 r]] w fun e w' => e = .returned (.string (dangX s x y r)) ∧ Below w.heap.size w w' := by
  have ht' := Lib.hid ht
  clear ht
  cases hv : vDanger s x y r
  · have hX : Hid (dangX s x y r = ⟨#[]⟩) := by apply Lib.hid; unfold dangX; rw [hv]; rfl
    go_enter Tryz.func11, Tryz.ntmps11
    go_wp2_with fail
    refine (impl_ValidDanger s hs x y r _).mono ?_
    rintro e w1 ⟨rfl, hb1⟩
    rw [hv]
    go_wp2
    go_ret
    exact ⟨ret_str hX.out.symm, bnext (by go_grown) hb1⟩
  · have hX : Hid (dangX s x y r = dangT s x y r) := by apply Lib.hid; unfold dangX; rw [hv]; rfl
    have hn : s.size ≤ 10 := name_size (by unfold vDanger at hv; rw [Bool.and_eq_true] at hv; exact hv.1)
    have hvp : vPoint x y = true := by unfold vDanger at hv; rw [Bool.and_eq_true, Bool.and_eq_true] at hv; exact hv.2.1
    have hv' := Lib.hid hv
    unfold dangT at hX
    have hr' := has_i64 hr
    have s1 := ptT_size hx hy
    have s2 := decT_size hr'.1 hr'.2
    have q1 := noB (n := s.size + 1) (by omega)
    have q2 := noB (n := s.size + 1 + (ptT x y).size) (by omega)
    have q3 := noB (n := s.size + 1 + (ptT x y).size + 1) (by omega)
    have q4 := noB (n := s.size + 1 + (ptT x y).size + 1 + (decT r).size) (by omega)
    go_enter Tryz.func11, Tryz.ntmps11
    go_wp2_with fail
    refine (impl_ValidDanger s hs x y r _).mono ?_
    rintro e w1 ⟨rfl, hb1⟩
    have hB1 := bnext (show Below w.heap.size w (w.alloc (.cells #[.string s, .int .i64 x, .int .i64 y, .int .i64 r] 36)) by go_grown) hb1
    have hS1 := hb1.size
    simp only [World.size_alloc] at hS1
    have hz1 : w.heap.size < w1.heap.size := by omega
    have hT : Hid (Tab w1) := Lib.hid (ht'.out.on hB1)
    obtain ⟨hc1, hf1⟩ := bcell hb1
    clear hb1
    go_wp2_with fail
    refine wp_region_grew (by kernel_rfl) (by kernel_rfl) ?_
    repeat (first | (go_big_quiet_step ((first | (go_at_call 47; exact grew_of (impl_ptText _ _ hvp hx hy _ (hT.out.on (Grew.below _)))) | (go_at_call 48; exact grew_of (impl_Dec _ (by omega) (by omega) _ (hT.out.on (Grew.below _))))))) | (quiet_step ((first | (go_at_call 47; exact grew_of (impl_ptText _ _ hvp hx hy _ (hT.out.on (Grew.below _)))) | (go_at_call 48; exact grew_of (impl_Dec _ (by omega) (by omega) _ (hT.out.on (Grew.below _))))))))
    refine wpQuiet_nil ?_
    rintro _ ⟨⟨w9, hb9⟩, rfl⟩
    try dsimp only
    obtain ⟨hc9, hf9⟩ := bcell hb9
    go_wp2
    go_ret
    exact ⟨ret_str hX.out.symm, bnext hB1 hb9⟩
end Go.Proofs.YthjkkidcpidgdaaGreatDoor
