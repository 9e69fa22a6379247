/-
  Contracts of the four places around a danger: the program's and the reference's; of the marks that the laws lay into a row of points. Each under the conditions that it states.
-/
import Derived.Test.YtfogioflkehagaaCard
import Derived.Deep.AppendLies
import Derived.Lib.BufferOwn
set_option linter.unusedVariables false
set_option linter.unnecessarySimpa false
set_option maxRecDepth 100000
set_option linter.unusedSimpArgs false
namespace Go.Proofs.Ytfogioflkehagaa
open Go.RowKit BigFrame

def cpL (x y n : Int) : List (Int × Int) := [(x, y + n), (x + n, y), (x, y - n), (x - n, y)]
def cpC (s : ByteArray) (x y r aw : Int) : Int := if vDanger s x y r then (if inB aw 0 20000 then (if vPoints (cpL x y (r + aw)) then 0 else 6) else 2) else 1
/-- A row of points in block g, which may be written. -/
def Rw (w : World) (g : Nat) (L : List (Int × Int)) : Prop := g < w.heap.size ∧ (∀ (j : Nat) (u : Value), (pcells L)[j]? = some u → w.cell? ⟨g, j, none⟩ = some u) ∧ ∀ j, w.frozen? ⟨g, j, none⟩ = false
theorem Rw.on {w w' : World} {g : Nat} {L : List (Int × Int)} (h : Rw w g L) (hb : Below w.heap.size w w') : Rw w' g L := by
  obtain ⟨hc, hf⟩ := bcell hb
  exact ⟨Nat.lt_of_lt_of_le h.1 hb.size, fun j u hu => (hc _ _ h.1).trans (h.2.1 j u hu), fun j => (hf _ _ h.1).trans (h.2.2 j)⟩
theorem Rw.sl {w : World} {g : Nat} {L : List (Int × Int)} (h : Rw w g L) : Sl w w.heap.size (some ⟨g, 0, none⟩) (pcells L) := fun _ => ⟨g, 0, rfl, h.1, fun j u hu => by rw [Nat.zero_add]; exact h.2.1 j u hu⟩
theorem Rw.new (w : World) (cs : Array Value) (t : TypeId) (L : List (Int × Int)) (h : cs.toList = pcells L) : Rw (w.alloc (.cells cs t)) w.heap.size L := by
  refine ⟨by simp, fun j u hu => ?_, fun j => by simp [go_sem]⟩
  rw [World.cell?_alloc_new]
  rw [← h] at hu
  simpa using hu

theorem spec_l02All (L : List (Int × Int)) (A : Option Addr) (c B : Nat) (w : World) (hs : Sl w B A (pcells L)) (hB : B ≤ w.heap.size) (hl : L.length ≤ 1099511627776) :
    Calls Try.prog 110 #[.slice A L.length c] w fun e w' => e = .returned (.bool (vPoints L)) ∧ Below w.heap.size w w' := by
  have hs' := Lib.hid hs
  clear hs
  go_enter Try.func110, Try.ntmps110
  go_wp2
  go_loopw [3] (fun i wr => ∃ k : Nat, i = .int .i64 k ∧ k ≤ L.length ∧ vPoints (L.take k) = true ∧ Below w.heap.size w wr) (fun i _ => L.length - (intOf i).toNat)
  case atStart => exact ⟨0, rfl, Nat.zero_le _, rfl, Below.refl _ _⟩
  case round =>
    obtain ⟨k, rfl, hk, hv, hB1⟩ := hrel
    have hS1 := hB1.size
    have hv' := Lib.hid hv
    clear hv
    by_cases hlt : k < L.length
    · obtain ⟨b, o, rfl, hb, c1, c2⟩ := Sl.point (hs'.out.below (hB1.mono hB)) hlt
      cases hp : vPoint L[k].1 L[k].2
      · have hf := Lib.hid (vPoints_no hlt hp)
        go_wp2_with (go_at_call 90; refine (spec_l02Ok _ _ _).mono ?_; rintro e w1 ⟨rfl, hb1⟩; have hB1 := bnext (w := w) (by go_grown) hb1; have hS1 := hB1.size; (skip); obtain ⟨hc1, hf1⟩ := bcell hb1; clear hb1)
        go_ret
        exact ⟨ret_bool hf.out.symm, by go_grown⟩
      · have hf := Lib.hid (vPoints_take hlt hv'.out hp)
        go_wp2_with (go_at_call 90; refine (spec_l02Ok _ _ _).mono ?_; rintro e w1 ⟨rfl, hb1⟩; have hB1 := bnext (w := w) (by go_grown) hb1; have hS1 := hB1.size; (skip); obtain ⟨hc1, hf1⟩ := bcell hb1; clear hb1)
        go_roundw
        case rel => exact ⟨k + 1, by go_num, by omega, hf.out, by go_grown⟩
        case measure => simp [intOf]; omega
    · obtain rfl : k = L.length := by omega
      have hf : Hid (vPoints L = true) := by have := hv'.out; rw [List.take_length] at this; exact this
      go_wp2
      go_ret
      exact ⟨ret_bool hf.out.symm, by go_grown⟩

theorem arePoints_cp (x y n : Int) (g : Nat) (w : World) (hR : Rw w g (cpL x y n)) : Calls Try.prog 100 #[.slice (some ⟨g, 0, none⟩) 4 4] w fun e w' => e = .returned (.bool (vPoints (cpL x y n))) ∧ Below w.heap.size w w' :=
  arePoints_any (cpL x y n) _ 4 _ w hR.sl (Nat.le_refl _) (by simp [cpL])
theorem l02All_cp (x y n : Int) (g : Nat) (w : World) (hR : Rw w g (cpL x y n)) : Calls Try.prog 110 #[.slice (some ⟨g, 0, none⟩) 4 4] w fun e w' => e = .returned (.bool (vPoints (cpL x y n))) ∧ Below w.heap.size w w' :=
  spec_l02All (cpL x y n) _ 4 _ w hR.sl (Nat.le_refl _) (by simp [cpL])
theorem card_isAway (n : Int) (w : World) : Calls Try.prog 112 #[.int .i64 n] w fun e w' => e = .returned (.bool (inB n 0 20000)) ∧ w = w' := by
  go_enter Try.func112, Try.ntmps112
  go_wp2_with (go_at_call 104; refine (within_any _ _ _ _).mono ?_; rintro e w' ⟨rfl, rfl⟩)
  go_ret
  exact ⟨rfl, rfl⟩
theorem vDanger_r {s : ByteArray} {x y r : Int} (h : vDanger s x y r = true) : 1 ≤ r ∧ r ≤ 20000 := by
  unfold vDanger at h; rw [Bool.and_eq_true, Bool.and_eq_true] at h; exact inB_yes.1 h.2.2
set_option maxHeartbeats 1600000 in
theorem impl_CP_no (s : ByteArray) (hs : s.size ≤ maxLen) (x y r aw : Int) (w : World) (h : ¬ cpC s x y r aw = 0) :
    Calls Try.prog 45 #[.agg #[.string s, .int .i64 x, .int .i64 y, .int .i64 r], .int .i64 aw] w fun e w' => e = .returned (.tuple #[.slice none 0 0, .int .i64 (cpC s x y r aw)]) ∧ Below w.heap.size w w' := by
  cases hd : vDanger s x y r
  · have hC : Hid (cpC s x y r aw = 1) := by apply Lib.hid; unfold cpC; rw [hd]; rfl
    go_enter Try.func45, Try.ntmps45
    go_wp2_with (first | (go_at_call 111; refine (impl_ValidDanger _ hs _ _ _ _).mono ?_; rintro e w1 ⟨rfl, hb1⟩; have hB1 := bnext (w := w) (by go_grown) hb1; have hS1 := hB1.size; ((have hz1 : w.heap.size < w1.heap.size := by have := hb1.size; (try simp only [World.size_alloc, World.size_setCell, World.size_drew] at this); omega)); obtain ⟨hc1, hf1⟩ := bcell hb1; clear hb1) | (go_at_call 112; refine (card_isAway _ _).mono ?_; rintro e w' ⟨rfl, rfl⟩) | (go_at_call 100; refine (arePoints_cp x y n _ _ (Rw.new _ _ _ _ rfl)).mono ?_; rintro e w2 ⟨rfl, hb2⟩))
    go_ret2
    exact ⟨by rw [hC.out]; rfl, by first | exact bnext (w := w) (by go_grown) hb2 | go_grown⟩
  cases ha : inB aw 0 20000
  · have hC : Hid (cpC s x y r aw = 2) := by apply Lib.hid; unfold cpC; rw [hd, ha]; rfl
    go_enter Try.func45, Try.ntmps45
    go_wp2_with (first | (go_at_call 111; refine (impl_ValidDanger _ hs _ _ _ _).mono ?_; rintro e w1 ⟨rfl, hb1⟩; have hB1 := bnext (w := w) (by go_grown) hb1; have hS1 := hB1.size; ((have hz1 : w.heap.size < w1.heap.size := by have := hb1.size; (try simp only [World.size_alloc, World.size_setCell, World.size_drew] at this); omega)); obtain ⟨hc1, hf1⟩ := bcell hb1; clear hb1) | (go_at_call 112; refine (card_isAway _ _).mono ?_; rintro e w' ⟨rfl, rfl⟩) | (go_at_call 100; refine (arePoints_cp x y n _ _ (Rw.new _ _ _ _ rfl)).mono ?_; rintro e w2 ⟨rfl, hb2⟩))
    go_ret2
    exact ⟨by rw [hC.out]; rfl, by first | exact bnext (w := w) (by go_grown) hb2 | go_grown⟩
  obtain ⟨n, hn⟩ : ∃ n, r + aw = n := ⟨_, rfl⟩
  obtain ⟨b1, b2⟩ := vPoint_yes (vDanger_pt hd)
  have b3 := vDanger_r hd
  have b4 := inB_yes.1 ha
  cases hv : vPoints (cpL x y n)
  · have hC : Hid (cpC s x y r aw = 6) := by apply Lib.hid; unfold cpC; rw [hd, ha, hn, hv]; rfl
    go_enter Try.func45, Try.ntmps45
    go_wp2_with (first | (go_at_call 111; refine (impl_ValidDanger _ hs _ _ _ _).mono ?_; rintro e w1 ⟨rfl, hb1⟩; have hB1 := bnext (w := w) (by go_grown) hb1; have hS1 := hB1.size; ((have hz1 : w.heap.size < w1.heap.size := by have := hb1.size; (try simp only [World.size_alloc, World.size_setCell, World.size_drew] at this); omega)); obtain ⟨hc1, hf1⟩ := bcell hb1; clear hb1) | (go_at_call 112; refine (card_isAway _ _).mono ?_; rintro e w' ⟨rfl, rfl⟩) | (go_at_call 100; refine (arePoints_cp x y n _ _ (Rw.new _ _ _ _ rfl)).mono ?_; rintro e w2 ⟨rfl, hb2⟩))
    go_ret2
    exact ⟨by rw [hC.out]; rfl, by first | exact bnext (w := w) (by go_grown) hb2 | go_grown⟩
  · exact absurd (by unfold cpC; rw [hd, ha, hn, hv]; rfl) h
theorem cpC_ok {s : ByteArray} {x y r aw : Int} (h : cpC s x y r aw = 0) : vDanger s x y r = true ∧ inB aw 0 20000 = true ∧ vPoints (cpL x y (r + aw)) = true := by
  unfold cpC at h
  split at h
  · rename_i h1
    split at h
    · rename_i h2
      split at h
      · rename_i h3; exact ⟨h1, h2, h3⟩
      · omega
    · omega
  · omega
set_option maxHeartbeats 1600000 in
theorem impl_CP_ok (s : ByteArray) (hs : s.size ≤ maxLen) (x y r aw : Int) (w : World) (h : cpC s x y r aw = 0) :
    Calls Try.prog 45 #[.agg #[.string s, .int .i64 x, .int .i64 y, .int .i64 r], .int .i64 aw] w fun e w' => ∃ g, w.heap.size ≤ g ∧ e = .returned (.tuple #[.slice (some ⟨g, 0, none⟩) 4 4, .int .i64 0]) ∧ Below w.heap.size w w' ∧ Rw w' g (cpL x y (r + aw)) := by
  obtain ⟨hd, ha, hv⟩ := cpC_ok h
  obtain ⟨n, hn⟩ : ∃ n, r + aw = n := ⟨_, rfl⟩
  have HN := Lib.hid hn
  rw [hn] at hv
  obtain ⟨b1, b2⟩ := vPoint_yes (vDanger_pt hd)
  have b3 := vDanger_r hd
  have b4 := inB_yes.1 ha
  clear h
  go_enter Try.func45, Try.ntmps45
  go_wp2_with (first | (go_at_call 111; refine (impl_ValidDanger _ hs _ _ _ _).mono ?_; rintro e w1 ⟨rfl, hb1⟩; have hB1 := bnext (w := w) (by go_grown) hb1; have hS1 := hB1.size; ((have hz1 : w.heap.size < w1.heap.size := by have := hb1.size; (try simp only [World.size_alloc, World.size_setCell, World.size_drew] at this); omega)); obtain ⟨hc1, hf1⟩ := bcell hb1; clear hb1) | (go_at_call 112; refine (card_isAway _ _).mono ?_; rintro e w' ⟨rfl, rfl⟩) | (go_at_call 100; refine (arePoints_cp x y n _ _ (Rw.new _ _ _ _ rfl)).mono ?_; rintro e w2 ⟨rfl, hb2⟩))
  have hR := (Rw.new w1 #[.int .i64 x, .int .i64 (y + n), .int .i64 (x + n), .int .i64 y, .int .i64 x, .int .i64 (y - n), .int .i64 (x - n), .int .i64 y] 25 (cpL x y n) rfl).on hb2
  go_ret2
  exact ⟨_, hS1, rfl, bnext (w := w) (by go_grown) hb2, by rw [HN.out]; exact hR⟩

set_option maxHeartbeats 1600000 in
theorem spec_CP_no (s : ByteArray) (hs : s.size ≤ maxLen) (x y r aw : Int) (w : World) (h : ¬ cpC s x y r aw = 0) :
    Calls Try.prog 43 #[.agg #[.string s, .int .i64 x, .int .i64 y, .int .i64 r], .int .i64 aw] w fun e w' => e = .returned (.tuple #[.slice none 0 0, .int .i64 (cpC s x y r aw)]) ∧ Below w.heap.size w w' := by
  cases hd : vDanger s x y r
  · have hC : Hid (cpC s x y r aw = 1) := by apply Lib.hid; unfold cpC; rw [hd]; rfl
    go_enter Try.func43, Try.ntmps43
    go_wp2_with (first | (go_at_call 109; refine (spec_l14One s hs x y r _ 0 _ ⟨by simp, by simp [go_sem], by simp [go_sem], by simp [go_sem], by simp [go_sem]⟩).mono ?_; rintro e w1 ⟨rfl, hb1⟩; have hB1 := bnext (w := w) (by go_grown) hb1; have hS1 := hB1.size; ((have hz1 : w.heap.size < w1.heap.size := by have := hb1.size; (try simp only [World.size_alloc, World.size_setCell, World.size_drew] at this); omega)); obtain ⟨hc1, hf1⟩ := bcell hb1; clear hb1) | (go_at_call 91; refine (in_any _ _ _ _).mono ?_; rintro e w' ⟨rfl, rfl⟩) | (go_at_call 110; refine (l02All_cp x y n _ _ (Rw.new _ _ _ _ rfl)).mono ?_; rintro e w2 ⟨rfl, hb2⟩))
    go_ret2
    exact ⟨by rw [hC.out]; rfl, by first | exact bnext (w := w) (by go_grown) hb2 | go_grown⟩
  cases ha : inB aw 0 20000
  · have hC : Hid (cpC s x y r aw = 2) := by apply Lib.hid; unfold cpC; rw [hd, ha]; rfl
    go_enter Try.func43, Try.ntmps43
    go_wp2_with (first | (go_at_call 109; refine (spec_l14One s hs x y r _ 0 _ ⟨by simp, by simp [go_sem], by simp [go_sem], by simp [go_sem], by simp [go_sem]⟩).mono ?_; rintro e w1 ⟨rfl, hb1⟩; have hB1 := bnext (w := w) (by go_grown) hb1; have hS1 := hB1.size; ((have hz1 : w.heap.size < w1.heap.size := by have := hb1.size; (try simp only [World.size_alloc, World.size_setCell, World.size_drew] at this); omega)); obtain ⟨hc1, hf1⟩ := bcell hb1; clear hb1) | (go_at_call 91; refine (in_any _ _ _ _).mono ?_; rintro e w' ⟨rfl, rfl⟩) | (go_at_call 110; refine (l02All_cp x y n _ _ (Rw.new _ _ _ _ rfl)).mono ?_; rintro e w2 ⟨rfl, hb2⟩))
    go_ret2
    exact ⟨by rw [hC.out]; rfl, by first | exact bnext (w := w) (by go_grown) hb2 | go_grown⟩
  obtain ⟨n, hn⟩ : ∃ n, r + aw = n := ⟨_, rfl⟩
  obtain ⟨b1, b2⟩ := vPoint_yes (vDanger_pt hd)
  have b3 := vDanger_r hd
  have b4 := inB_yes.1 ha
  cases hv : vPoints (cpL x y n)
  · have hC : Hid (cpC s x y r aw = 6) := by apply Lib.hid; unfold cpC; rw [hd, ha, hn, hv]; rfl
    go_enter Try.func43, Try.ntmps43
    go_wp2_with (first | (go_at_call 109; refine (spec_l14One s hs x y r _ 0 _ ⟨by simp, by simp [go_sem], by simp [go_sem], by simp [go_sem], by simp [go_sem]⟩).mono ?_; rintro e w1 ⟨rfl, hb1⟩; have hB1 := bnext (w := w) (by go_grown) hb1; have hS1 := hB1.size; ((have hz1 : w.heap.size < w1.heap.size := by have := hb1.size; (try simp only [World.size_alloc, World.size_setCell, World.size_drew] at this); omega)); obtain ⟨hc1, hf1⟩ := bcell hb1; clear hb1) | (go_at_call 91; refine (in_any _ _ _ _).mono ?_; rintro e w' ⟨rfl, rfl⟩) | (go_at_call 110; refine (l02All_cp x y n _ _ (Rw.new _ _ _ _ rfl)).mono ?_; rintro e w2 ⟨rfl, hb2⟩))
    go_ret2
    exact ⟨by rw [hC.out]; rfl, by first | exact bnext (w := w) (by go_grown) hb2 | go_grown⟩
  · exact absurd (by unfold cpC; rw [hd, ha, hn, hv]; rfl) h
set_option maxHeartbeats 1600000 in
theorem spec_CP_ok (s : ByteArray) (hs : s.size ≤ maxLen) (x y r aw : Int) (w : World) (h : cpC s x y r aw = 0) :
    Calls Try.prog 43 #[.agg #[.string s, .int .i64 x, .int .i64 y, .int .i64 r], .int .i64 aw] w fun e w' => ∃ g, w.heap.size ≤ g ∧ e = .returned (.tuple #[.slice (some ⟨g, 0, none⟩) 4 4, .int .i64 0]) ∧ Below w.heap.size w w' ∧ Rw w' g (cpL x y (r + aw)) := by
  obtain ⟨hd, ha, hv⟩ := cpC_ok h
  obtain ⟨n, hn⟩ : ∃ n, r + aw = n := ⟨_, rfl⟩
  have HN := Lib.hid hn
  rw [hn] at hv
  obtain ⟨b1, b2⟩ := vPoint_yes (vDanger_pt hd)
  have b3 := vDanger_r hd
  have b4 := inB_yes.1 ha
  clear h
  go_enter Try.func43, Try.ntmps43
  go_wp2_with (first | (go_at_call 109; refine (spec_l14One s hs x y r _ 0 _ ⟨by simp, by simp [go_sem], by simp [go_sem], by simp [go_sem], by simp [go_sem]⟩).mono ?_; rintro e w1 ⟨rfl, hb1⟩; have hB1 := bnext (w := w) (by go_grown) hb1; have hS1 := hB1.size; ((have hz1 : w.heap.size < w1.heap.size := by have := hb1.size; (try simp only [World.size_alloc, World.size_setCell, World.size_drew] at this); omega)); obtain ⟨hc1, hf1⟩ := bcell hb1; clear hb1) | (go_at_call 91; refine (in_any _ _ _ _).mono ?_; rintro e w' ⟨rfl, rfl⟩) | (go_at_call 110; refine (l02All_cp x y n _ _ (Rw.new _ _ _ _ rfl)).mono ?_; rintro e w2 ⟨rfl, hb2⟩))
  have hR := (Rw.new w1 #[.int .i64 x, .int .i64 (y + n), .int .i64 (x + n), .int .i64 y, .int .i64 x, .int .i64 (y - n), .int .i64 (x - n), .int .i64 y] 25 (cpL x y n) rfl).on hb2
  go_ret2
  exact ⟨_, hS1, rfl, bnext (w := w) (by go_grown) hb2, by rw [HN.out]; exact hR⟩
theorem eqPoint_same (x y : Int) (w : World) : Calls Try.prog 41 #[.agg #[.int .i64 x, .int .i64 y], .agg #[.int .i64 x, .int .i64 y]] w fun e w' => e = .returned (.bool true) ∧ Below w.heap.size w w' := by
  have h := eqPoint_any x y x y w
  simpa using h
set_option maxHeartbeats 800000 in
theorem eqPointS_same (L : List (Int × Int)) (A A2 : Option Addr) (c c2 B : Nat) (w : World) (hs : Sl w B A (pcells L)) (hs2 : Sl w B A2 (pcells L)) (hB : B ≤ w.heap.size) (hl : L.length ≤ 1048576) : Calls Try.prog 46 #[.slice A L.length c, .slice A2 L.length c2] w fun e w' => e = .returned (.bool true) ∧ Below w.heap.size w w' := by
  have hs' := Lib.hid hs
  have hs2' := Lib.hid hs2
  clear hs hs2
  go_enter Try.func46, Try.ntmps46
  go_wp2
  go_loopw [5] (fun i wr => ∃ k : Nat, i = .int .i64 k ∧ k ≤ L.length ∧ Below w.heap.size w wr) (fun i _ => L.length - (intOf i).toNat)
  case atStart => exact ⟨0, rfl, Nat.zero_le _, Below.refl _ _⟩
  case round =>
    obtain ⟨k, rfl, hk, hB1⟩ := hrel
    have hS1 := hB1.size
    by_cases hlt : k < L.length
    · obtain ⟨bp, op, rfl, hbp, dp, dp'⟩ := Sl.point (hs'.out.below (hB1.mono hB)) hlt
      obtain ⟨bq, oq, rfl, hbq, dq, dq'⟩ := Sl.point (hs2'.out.below (hB1.mono hB)) hlt
      have hwp : bp < wr.heap.size := by omega
      have hwq : bq < wr.heap.size := by omega
      go_wp2_with fail
      refine wp_region_grew (by kernel_rfl) (by kernel_rfl) ?_
      repeat (first | (go_big_quiet_step ((first | (go_at_call 41; exact grew_of (eqPoint_same _ _ _))))) | (quiet_step ((first | (go_at_call 41; exact grew_of (eqPoint_same _ _ _))))))
      refine wpQuiet_nil ?_
      rintro _ ⟨⟨w9, hb9⟩, rfl⟩
      try dsimp only
      obtain ⟨hc9, hf9⟩ := bcell hb9
      go_wp2
      go_roundw
      case rel => exact ⟨k + 1, by go_num, by omega, bnext hB1 hb9⟩
      case measure => simp [intOf]; omega
    · obtain rfl : k = L.length := by omega
      go_wp2
      go_ret
      exact ⟨rfl, hB1⟩

theorem pcells_len : ∀ L : List (Int × Int), (pcells L).length = L.length * 2
  | [] => rfl
  | p :: L => by
    have e : pcells (p :: L) = .int .i64 p.1 :: .int .i64 p.2 :: pcells L := rfl
    have ih := pcells_len L
    rw [e, List.length_cons, List.length_cons, List.length_cons]; omega
/-- n points may be written in block g; the first m numbers are marks from k0 on. -/
def Mk (w : World) (g n m : Nat) (k0 : Int) : Prop := g < w.heap.size ∧ (∀ j, w.frozen? ⟨g, j, none⟩ = false) ∧ (∀ j, j < n * 2 → (w.cell? ⟨g, j, none⟩).isSome = true) ∧ ∀ j, j < m → w.cell? ⟨g, j, none⟩ = some (.int .i64 (k0 + j))
theorem Mk.set {w : World} {g n m : Nat} {k0 : Int} (h : Mk w g n m k0) (hm : m < n * 2) : Mk (w.setCell ⟨g, m, none⟩ (.int .i64 (k0 + m))) g n (m + 1) k0 := by
  obtain ⟨h1, h2, h3, h4⟩ := h
  refine ⟨by simpa using h1, fun j => by simpa [go_sem] using h2 j, fun j hj => ?_, fun j hj => ?_⟩
  · by_cases e : j = m
    · subst e
      obtain ⟨u, hu⟩ := Option.isSome_iff_exists.1 (h3 j hj)
      rw [World.cell?_setCell_same _ _ _ hu]; rfl
    · rw [World.cell?_setCell_other _ _ _ _ (fun q => e (congrArg Addr.off q).symm)]; exact h3 j hj
  · by_cases e : j = m
    · subst e
      obtain ⟨u, hu⟩ := Option.isSome_iff_exists.1 (h3 j hm)
      rw [World.cell?_setCell_same _ _ _ hu]
    · rw [World.cell?_setCell_other _ _ _ _ (fun q => e (congrArg Addr.off q).symm)]; exact h4 j (by omega)
theorem Mk.on {w w' : World} {g n m : Nat} {k0 : Int} (h : Mk w g n m k0) (hb : Below w.heap.size w w') : Mk w' g n m k0 := by
  obtain ⟨h1, h2, h3, h4⟩ := h
  obtain ⟨hc, hf⟩ := bcell hb
  exact ⟨Nat.lt_of_lt_of_le h1 hb.size, fun j => (hf _ _ h1).trans (h2 j), fun j hj => by rw [hc _ _ h1]; exact h3 j hj, fun j hj => (hc _ _ h1).trans (h4 j hj)⟩
theorem Mk.start {w : World} {g : Nat} {L : List (Int × Int)} {k0 : Int} (h : Rw w g L) : Mk w g L.length 0 k0 := by
  refine ⟨h.1, h.2.2, fun j hj => ?_, fun j hj => by omega⟩
  have hl := pcells_len L
  rw [h.2.1 j _ (List.getElem?_eq_getElem (by omega))]; rfl
set_option maxHeartbeats 800000 in
theorem markPointS_any (g n c : Nat) (k0 : Int) (w : World) (h : Mk w g n 0 k0) (hn : n ≤ 1048576) (h0 : 0 ≤ k0) (h1 : k0 ≤ 1000000000) : Calls Try.prog 47 #[.slice (some ⟨g, 0, none⟩) n c, .int .i64 k0] w fun e w' => e = .returned (.int .i64 (k0 + (n : Int) * 2)) ∧ w.grownBy w' (some g) ∧ Mk w' g n (n * 2) k0 := by
  go_enter Try.func47, Try.ntmps47
  go_wp2
  go_loopw [1, 5] (fun s i wr => ∃ k : Nat, s = .int .i64 (k0 + (k : Int) * 2) ∧ i = .int .i64 k ∧ k ≤ n ∧ w.grownBy wr (some g) ∧ Mk wr g n (k * 2) k0) (fun _ i _ => n - (intOf i).toNat)
  case atStart => exact ⟨0, by simp, rfl, Nat.zero_le _, World.grownBy.refl _ _, by simpa using h⟩
  case round =>
    obtain ⟨k, rfl, rfl, hk, hg, hM⟩ := hrel
    by_cases hlt : k < n
    · have hM1 := Mk.set hM (by omega)
      have hM2 := Mk.set hM1 (by omega)
      obtain ⟨u, hu⟩ := Option.isSome_iff_exists.1 (hM.2.2.1 (k * 2) (by omega))
      obtain ⟨v, hv⟩ := Option.isSome_iff_exists.1 (hM1.2.2.1 (k * 2 + 1) (by omega))
      have f0 := hM.2.1 (k * 2)
      have f1 := hM.2.1 (k * 2 + 1)
      rw [show k0 + ((k * 2 : Nat) : Int) = k0 + (k : Int) * 2 by omega] at hM1 hM2 hv
      rw [show k0 + ((k * 2 + 1 : Nat) : Int) = k0 + (k : Int) * 2 + 1 by omega] at hM2
      have hM2' := Lib.hid hM2
      have hg' := Lib.hid hg
      clear hM hM1 hM2 hg
      go_wp2
      go_roundw
      case rel => exact ⟨k + 1, congrArg (Value.int .i64) (by omega), by go_num, by omega, Go.Lib.grownBy_setB (Go.Lib.grownBy_setB hg'.out _ _) _ _, by rw [show (k + 1) * 2 = k * 2 + 1 + 1 by omega]; exact hM2'.out⟩
      case measure => simp [intOf]; omega
    · obtain rfl : k = n := by omega
      go_wp2
      go_ret
      exact ⟨rfl, hg, hM⟩
theorem markPointS_nil (c : Nat) (k0 : Int) (w : World) : Calls Try.prog 47 #[.slice none 0 c, .int .i64 k0] w fun e w' => e = .returned (.int .i64 k0) ∧ w = w' := by
  go_enter Try.func47, Try.ntmps47
  go_wp2
  go_loopw [1, 5] (fun s i wr => s = .int .i64 k0 ∧ i = .int .i64 0 ∧ w = wr) (fun _ _ _ => 0)
  case atStart => exact ⟨rfl, rfl, rfl⟩
  case round =>
    obtain ⟨rfl, rfl, rfl⟩ := hrel
    go_wp2
    go_ret
    exact ⟨rfl, rfl⟩

set_option maxHeartbeats 800000 in
theorem heldPointS_any (g n c : Nat) (k0 : Int) (w : World) (h : Mk w g n (n * 2) k0) (hn : n ≤ 1048576) (h0 : 0 ≤ k0) (h1 : k0 ≤ 1000000000) : Calls Try.prog 48 #[.slice (some ⟨g, 0, none⟩) n c, .int .i64 k0] w fun e w' => e = .returned (.int .i64 (k0 + (n : Int) * 2)) ∧ w = w' := by
  have h' := Lib.hid h.2.2.2
  clear h
  go_enter Try.func48, Try.ntmps48
  go_wp2
  go_loopw [1, 5] (fun s i wr => ∃ k : Nat, s = .int .i64 (k0 + (k : Int) * 2) ∧ i = .int .i64 k ∧ k ≤ n ∧ w = wr) (fun _ i _ => n - (intOf i).toNat)
  case atStart => exact ⟨0, by simp, rfl, Nat.zero_le _, rfl⟩
  case round =>
    obtain ⟨k, rfl, rfl, hk, rfl⟩ := hrel
    by_cases hlt : k < n
    · have d0 := h'.out (k * 2) (by omega)
      have d1 := h'.out (k * 2 + 1) (by omega)
      rw [show k0 + ((k * 2 : Nat) : Int) = k0 + (k : Int) * 2 by omega] at d0
      rw [show k0 + ((k * 2 + 1 : Nat) : Int) = k0 + (k : Int) * 2 + 1 by omega] at d1
      go_wp2
      go_roundw
      case rel => exact ⟨k + 1, congrArg (Value.int .i64) (by omega), by go_num, by omega, by first | rfl | trivial⟩
      case measure => simp [intOf]; omega
    · obtain rfl : k = n := by omega
      go_wp2
      go_ret
      exact ⟨rfl, rfl⟩
theorem heldPointS_nil (c : Nat) (k0 : Int) (w : World) : Calls Try.prog 48 #[.slice none 0 c, .int .i64 k0] w fun e w' => e = .returned (.int .i64 k0) ∧ w = w' := by
  go_enter Try.func48, Try.ntmps48
  go_wp2
  go_loopw [1, 5] (fun s i wr => s = .int .i64 k0 ∧ i = .int .i64 0 ∧ w = wr) (fun _ _ _ => 0)
  case atStart => exact ⟨rfl, rfl, rfl⟩
  case round =>
    obtain ⟨rfl, rfl, rfl⟩ := hrel
    go_wp2
    go_ret
    exact ⟨rfl, rfl⟩
end Go.Proofs.Ytfogioflkehagaa
