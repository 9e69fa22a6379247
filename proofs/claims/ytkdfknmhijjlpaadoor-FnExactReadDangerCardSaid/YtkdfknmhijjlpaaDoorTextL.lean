/-
  LeadingText: the program's function returns what the reference's returns, for all arguments. Under no condition; the library's table of powers of ten reads as its text lays it (the card ties it).
-/
import Derived.Test.YtkdfknmhijjlpaaDoorTexts
import Derived.Test.YtkdfknmhijjlpaaDoorTie
import Derived.Test.YtkdfknmhijjlpaaDoorCards
import Derived.LaidMore
import Derived.Lay
import Derived.SevenTiedAt
import Derived.Stop.LaidErr
import Derived.MakeChecks
set_option linter.unusedVariables false
set_option linter.unnecessarySimpa false
set_option maxRecDepth 100000
set_option linter.unusedSimpArgs false
namespace Go.Proofs.YtkdfknmhijjlpaaDoor
open Go.RowKit BigFrame

def leadT (x1 y1 x2 y2 lo hi : Int) : ByteArray := ptT x1 y1 ++ ⟨#[32]⟩ ++ ptT x2 y2 ++ ⟨#[32]⟩ ++ decT lo ++ ⟨#[32]⟩ ++ decT hi
def leadX (x1 y1 x2 y2 lo hi : Int) : ByteArray := if vLead x1 y1 x2 y2 lo hi then leadT x1 y1 x2 y2 lo hi else ⟨#[]⟩
theorem vLead_pts {x1 y1 x2 y2 lo hi : Int} (h : vLead x1 y1 x2 y2 lo hi = true) : vPoint x1 y1 = true ∧ vPoint x2 y2 = true := by
  unfold vLead at h
  simp only [Bool.and_eq_true] at h
  exact ⟨by simp_all, by simp_all⟩
set_option maxHeartbeats 1600000 in
theorem impl_LeadingText (x1 y1 x2 y2 lo hi : Int) (b1 : IntKind.i64.has x1) (b2 : IntKind.i64.has y1) (b3 : IntKind.i64.has x2) (b4 : IntKind.i64.has y2) (b5 : IntKind.i64.has lo) (b6 : IntKind.i64.has hi) (w : World) (ht : Tab w) : Calls Tryd.prog 45 #[.agg #[.int .i64 x1, .int .i64 y1, .int .i64 x2, .int .i64 y2, .int .i64 lo, .int .i64 hi]] w fun e w' => e = .returned (.string (leadX x1 y1 x2 y2 lo hi)) ∧ Below w.heap.size w w' := by
  have ht' := Lib.hid ht
  clear ht
  cases hv : vLead x1 y1 x2 y2 lo hi
  · have hX : Hid (leadX x1 y1 x2 y2 lo hi = ⟨#[]⟩) := by apply Lib.hid; unfold leadX; rw [hv]; rfl
    go_enter Tryd.func45, Tryd.ntmps45
    go_wp2_with fail
    refine (impl_ValidLeading x1 y1 x2 y2 lo hi _).mono ?_
    rintro e w1 ⟨rfl, hb1⟩
    rw [hv]
    go_wp2
    go_ret
    exact ⟨ret_str hX.out.symm, bnext (by go_grown) hb1⟩
  · have hX : Hid (leadX x1 y1 x2 y2 lo hi = leadT x1 y1 x2 y2 lo hi) := by apply Lib.hid; unfold leadX; rw [hv]; rfl
    obtain ⟨hp1, hp2⟩ := vLead_pts hv
    unfold leadT at hX
    have b5' := has_i64 b5
    have b6' := has_i64 b6
    have s1 := ptT_size b1 b2
    have s2 := ptT_size b3 b4
    have s3 := decT_size b5'.1 b5'.2
    have s4 := decT_size b6'.1 b6'.2
    have q1 := noB (n := (ptT x1 y1).size + 1) (by omega)
    have q2 := noB (n := (ptT x1 y1).size + 1 + (ptT x2 y2).size) (by omega)
    have q3 := noB (n := (ptT x1 y1).size + 1 + (ptT x2 y2).size + 1) (by omega)
    have q4 := noB (n := (ptT x1 y1).size + 1 + (ptT x2 y2).size + 1 + (decT lo).size) (by omega)
    have q5 := noB (n := (ptT x1 y1).size + 1 + (ptT x2 y2).size + 1 + (decT lo).size + 1) (by omega)
    have q6 := noB (n := (ptT x1 y1).size + 1 + (ptT x2 y2).size + 1 + (decT lo).size + 1 + (decT hi).size) (by omega)
    go_enter Tryd.func45, Tryd.ntmps45
    go_wp2_with fail
    refine (impl_ValidLeading x1 y1 x2 y2 lo hi _).mono ?_
    rintro e w1 ⟨rfl, hb1⟩
    have hB1 := bnext (show Below w.heap.size w ((w.alloc (.cells #[.int .i64 x1, .int .i64 y1, .int .i64 x2, .int .i64 y2, .int .i64 lo, .int .i64 hi] 36))) by go_grown) hb1
    have hS1 := hb1.size
    simp only [World.size_alloc] at hS1
    have hz1 : w.heap.size < w1.heap.size := by omega
    have hT : Hid (Tab w1) := Lib.hid (ht'.out.on hB1)
    obtain ⟨hc1, hf1⟩ := bcell hb1
    clear hb1
    go_wp2_with fail
    refine wp_region_grew (by kernel_rfl) (by kernel_rfl) ?_
    repeat (first | (go_big_quiet_step ((first | (go_at_call 79; exact grew_of (impl_ptText _ _ (by assumption) (by assumption) (by assumption) _ (hT.out.on (Grew.below _)))) | (go_at_call 31; exact grew_of (impl_Dec _ (by omega) (by omega) _ (hT.out.on (Grew.below _))))))) | (quiet_step ((first | (go_at_call 79; exact grew_of (impl_ptText _ _ (by assumption) (by assumption) (by assumption) _ (hT.out.on (Grew.below _)))) | (go_at_call 31; exact grew_of (impl_Dec _ (by omega) (by omega) _ (hT.out.on (Grew.below _))))))))
    refine wpQuiet_nil ?_
    rintro _ ⟨⟨w9, hb9⟩, rfl⟩
    try dsimp only
    obtain ⟨hc9, hf9⟩ := bcell hb9
    go_wp2
    go_ret
    exact ⟨ret_str hX.out.symm, bnext hB1 hb9⟩

end Go.Proofs.YtkdfknmhijjlpaaDoor
