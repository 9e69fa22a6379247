/-
  Contracts of the equality of aids and notices: the program's. Each under the conditions that it states.
-/
import Derived.Test.YthjkkidcpidgdaaNotS
set_option linter.unusedVariables false
set_option linter.unnecessarySimpa false
set_option maxRecDepth 100000
set_option linter.unusedSimpArgs false
namespace Go.Proofs.Ythjkkidcpidgdaa
open Go.RowKit BigFrame Go.Deep


theorem impl_secS (L M : List RSector) (A A2 : Option Addr) (c c2 B : Nat) (w : World) (hs : Sl w B A (flat RSector.cells L)) (hs2 : Sl w B A2 (flat RSector.cells M)) (hB : B ≤ w.heap.size) (hl : L.length ≤ 1048576) (hl2 : M.length ≤ 1048576) (t : Bool) (ht : sameSectorM L M = t) : Calls Try.prog 35 #[.slice A L.length c, .slice A2 M.length c2] w fun e w' => e = .returned (.bool t) ∧ Below w.heap.size w w' := by
  subst ht
  exact impl_sameSector L M A A2 c c2 B w hs hs2 hB hl hl2

set_option maxHeartbeats 12800000 in
theorem impl_aidSame (a b : RAid) (B : Nat) (w : World) (oka : a.ok w B) (okb : b.ok w B) (hB : B ≤ w.heap.size) (hl : a.fits) (hl2 : b.fits) (t : Bool) (ht : a.same b = t) : Calls Try.prog 20 #[.agg #[.int .i64 a.n, .string a.name, .int .i64 a.x, .int .i64 a.y, .int .i64 a.h, .int .i64 a.md, .string a.mc, .string a.ms, .string a.mt, .int .i64 a.lk, .slice a.g.A a.g.L.length a.g.c, .string a.ll, .string a.lc, .int .i64 a.lp, .slice a.s.A a.s.L.length a.s.c, .int .i64 a.i], .agg #[.int .i64 b.n, .string b.name, .int .i64 b.x, .int .i64 b.y, .int .i64 b.h, .int .i64 b.md, .string b.mc, .string b.ms, .string b.mt, .int .i64 b.lk, .slice b.g.A b.g.L.length b.g.c, .string b.ll, .string b.lc, .int .i64 b.lp, .slice b.s.A b.s.L.length b.s.c, .int .i64 b.i]] w fun e w' => e = .returned (.bool t) ∧ Below w.heap.size w w' := by
  subst ht
  have hga' := Lib.hid oka.2.1.1
  have hgb' := Lib.hid okb.2.1.1
  have hsa' := Lib.hid oka.2.2.1
  have hsb' := Lib.hid okb.2.2.1
  clear oka okb
  by_cases h0 : a.n = b.n
  rotate_left
  · have hm : Hid (a.same b = false) := Lib.hid (by unfold RAid.same; rw [decide_eq_false h0]; rfl)
    have hx := (show (a.n == b.n) = false from beq_eq_false_iff_ne.2 h0)
    clear h0
    go_enter Try.func20, Try.ntmps20
    go_wp2
    go_ret
    exact ⟨ret_bool hm.out.symm, by go_grown⟩
  by_cases h1 : a.name = b.name
  rotate_left
  · have hm : Hid (a.same b = false) := Lib.hid (by unfold RAid.same; rw [decide_eq_true h0, decide_eq_false h1]; rfl)
    have hx := bytes_ne h1
    clear h1
    rw [← h0]
    clear h0
    go_enter Try.func20, Try.ntmps20
    go_wp2
    go_ret
    exact ⟨ret_bool hm.out.symm, by go_grown⟩
  by_cases h2 : a.x = b.x
  rotate_left
  · have hm : Hid (a.same b = false) := Lib.hid (by unfold RAid.same; rw [decide_eq_true h0, decide_eq_true h1, decide_eq_false h2]; rfl)
    have hx := (show (a.x == b.x) = false from beq_eq_false_iff_ne.2 h2)
    clear h2
    rw [← h0]
    rw [← h1]
    clear h0 h1
    go_enter Try.func20, Try.ntmps20
    go_wp2
    go_ret
    exact ⟨ret_bool hm.out.symm, by go_grown⟩
  by_cases h3 : a.y = b.y
  rotate_left
  · have hm : Hid (a.same b = false) := Lib.hid (by unfold RAid.same; rw [decide_eq_true h0, decide_eq_true h1, decide_eq_true h2, decide_eq_false h3]; rfl)
    have hx := (show (a.y == b.y) = false from beq_eq_false_iff_ne.2 h3)
    clear h3
    rw [← h0]
    rw [← h1]
    rw [← h2]
    clear h0 h1 h2
    go_enter Try.func20, Try.ntmps20
    go_wp2
    go_ret
    exact ⟨ret_bool hm.out.symm, by go_grown⟩
  by_cases h4 : a.h = b.h
  rotate_left
  · have hm : Hid (a.same b = false) := Lib.hid (by unfold RAid.same; rw [decide_eq_true h0, decide_eq_true h1, decide_eq_true h2, decide_eq_true h3, decide_eq_false h4]; rfl)
    have hx := (show (a.h == b.h) = false from beq_eq_false_iff_ne.2 h4)
    clear h4
    rw [← h0]
    rw [← h1]
    rw [← h2]
    rw [← h3]
    clear h0 h1 h2 h3
    go_enter Try.func20, Try.ntmps20
    go_wp2
    go_ret
    exact ⟨ret_bool hm.out.symm, by go_grown⟩
  by_cases h5 : a.md = b.md
  rotate_left
  · have hm : Hid (a.same b = false) := Lib.hid (by unfold RAid.same; rw [decide_eq_true h0, decide_eq_true h1, decide_eq_true h2, decide_eq_true h3, decide_eq_true h4, decide_eq_false h5]; rfl)
    have hx := (show (a.md == b.md) = false from beq_eq_false_iff_ne.2 h5)
    clear h5
    rw [← h0]
    rw [← h1]
    rw [← h2]
    rw [← h3]
    rw [← h4]
    clear h0 h1 h2 h3 h4
    go_enter Try.func20, Try.ntmps20
    go_wp2
    go_ret
    exact ⟨ret_bool hm.out.symm, by go_grown⟩
  by_cases h6 : a.mc = b.mc
  rotate_left
  · have hm : Hid (a.same b = false) := Lib.hid (by unfold RAid.same; rw [decide_eq_true h0, decide_eq_true h1, decide_eq_true h2, decide_eq_true h3, decide_eq_true h4, decide_eq_true h5, decide_eq_false h6]; rfl)
    have hx := bytes_ne h6
    clear h6
    rw [← h0]
    rw [← h1]
    rw [← h2]
    rw [← h3]
    rw [← h4]
    rw [← h5]
    clear h0 h1 h2 h3 h4 h5
    go_enter Try.func20, Try.ntmps20
    go_wp2
    go_ret
    exact ⟨ret_bool hm.out.symm, by go_grown⟩
  by_cases h7 : a.ms = b.ms
  rotate_left
  · have hm : Hid (a.same b = false) := Lib.hid (by unfold RAid.same; rw [decide_eq_true h0, decide_eq_true h1, decide_eq_true h2, decide_eq_true h3, decide_eq_true h4, decide_eq_true h5, decide_eq_true h6, decide_eq_false h7]; rfl)
    have hx := bytes_ne h7
    clear h7
    rw [← h0]
    rw [← h1]
    rw [← h2]
    rw [← h3]
    rw [← h4]
    rw [← h5]
    rw [← h6]
    clear h0 h1 h2 h3 h4 h5 h6
    go_enter Try.func20, Try.ntmps20
    go_wp2
    go_ret
    exact ⟨ret_bool hm.out.symm, by go_grown⟩
  by_cases h8 : a.mt = b.mt
  rotate_left
  · have hm : Hid (a.same b = false) := Lib.hid (by unfold RAid.same; rw [decide_eq_true h0, decide_eq_true h1, decide_eq_true h2, decide_eq_true h3, decide_eq_true h4, decide_eq_true h5, decide_eq_true h6, decide_eq_true h7, decide_eq_false h8]; rfl)
    have hx := bytes_ne h8
    clear h8
    rw [← h0]
    rw [← h1]
    rw [← h2]
    rw [← h3]
    rw [← h4]
    rw [← h5]
    rw [← h6]
    rw [← h7]
    clear h0 h1 h2 h3 h4 h5 h6 h7
    go_enter Try.func20, Try.ntmps20
    go_wp2
    go_ret
    exact ⟨ret_bool hm.out.symm, by go_grown⟩
  cases h9 : chSame a b
  · have hm : Hid (a.same b = false) := Lib.hid (by unfold RAid.same; rw [decide_eq_true h0, decide_eq_true h1, decide_eq_true h2, decide_eq_true h3, decide_eq_true h4, decide_eq_true h5, decide_eq_true h6, decide_eq_true h7, decide_eq_true h8, h9]; rfl)
    rw [← h0]
    rw [← h1]
    rw [← h2]
    rw [← h3]
    rw [← h4]
    rw [← h5]
    rw [← h6]
    rw [← h7]
    rw [← h8]
    have hI := Lib.hid h9
    clear h0 h1 h2 h3 h4 h5 h6 h7 h8 h9
    go_enter Try.func20, Try.ntmps20
    go_wp2_with (first | (go_at_call 34; refine (impl_chSame a b B _ (hga'.out.below ((show Below w.heap.size w _ by go_grown).mono hB)) (hgb'.out.below ((show Below w.heap.size w _ by go_grown).mono hB)) (by (try simp); (try omega)) hl.1 hl2.1 _ hI.out).mono ?_; rintro e w1 ⟨rfl, hb1⟩; have hB1 := bnext (w := w) (by go_grown) hb1; have hS1 := hB1.size; ((have hz1 : w.heap.size < w1.heap.size := by have := hb1.size; (try simp only [World.size_alloc, World.size_setCell, World.size_drew] at this); omega); (have hy1 : w.heap.size + 1 < w1.heap.size := by have := hb1.size; (try simp only [World.size_alloc, World.size_setCell, World.size_drew] at this); omega)); obtain ⟨hc1, hf1⟩ := bcell hb1; clear hb1))
    go_ret
    exact ⟨ret_bool hm.out.symm, by go_grown⟩
  cases h10 : sameSectorM a.s.L b.s.L
  · have hm : Hid (a.same b = false) := Lib.hid (by unfold RAid.same; rw [decide_eq_true h0, decide_eq_true h1, decide_eq_true h2, decide_eq_true h3, decide_eq_true h4, decide_eq_true h5, decide_eq_true h6, decide_eq_true h7, decide_eq_true h8, h9, h10]; rfl)
    rw [← h0]
    rw [← h1]
    rw [← h2]
    rw [← h3]
    rw [← h4]
    rw [← h5]
    rw [← h6]
    rw [← h7]
    rw [← h8]
    have hI := Lib.hid h9
    have hJ := Lib.hid h10
    clear h0 h1 h2 h3 h4 h5 h6 h7 h8 h9 h10
    go_enter Try.func20, Try.ntmps20
    go_wp2_with (first | (go_at_call 34; refine (impl_chSame a b B _ (hga'.out.below ((show Below w.heap.size w _ by go_grown).mono hB)) (hgb'.out.below ((show Below w.heap.size w _ by go_grown).mono hB)) (by (try simp); (try omega)) hl.1 hl2.1 _ hI.out).mono ?_; rintro e w1 ⟨rfl, hb1⟩; have hB1 := bnext (w := w) (by go_grown) hb1; have hS1 := hB1.size; ((have hz1 : w.heap.size < w1.heap.size := by have := hb1.size; (try simp only [World.size_alloc, World.size_setCell, World.size_drew] at this); omega); (have hy1 : w.heap.size + 1 < w1.heap.size := by have := hb1.size; (try simp only [World.size_alloc, World.size_setCell, World.size_drew] at this); omega)); obtain ⟨hc1, hf1⟩ := bcell hb1; clear hb1) | (go_at_call 35; refine (impl_secS a.s.L b.s.L _ _ _ _ B _ (hsa'.out.below ((show Below w.heap.size w _ by go_grown).mono hB)) (hsb'.out.below ((show Below w.heap.size w _ by go_grown).mono hB)) (by (try simp); (try omega)) hl.2 hl2.2 _ hJ.out).mono ?_; rintro e w1 ⟨rfl, hb1⟩; have hB1 := bnext (w := w) (by go_grown) hb1; have hS1 := hB1.size; ((have hz1 : w.heap.size < w1.heap.size := by have := hb1.size; (try simp only [World.size_alloc, World.size_setCell, World.size_drew] at this); omega); (have hy1 : w.heap.size + 1 < w1.heap.size := by have := hb1.size; (try simp only [World.size_alloc, World.size_setCell, World.size_drew] at this); omega)); obtain ⟨hc1, hf1⟩ := bcell hb1; clear hb1))
    go_ret
    exact ⟨ret_bool hm.out.symm, by go_grown⟩
  by_cases h11 : a.i = b.i
  rotate_left
  · have hm : Hid (a.same b = false) := Lib.hid (by unfold RAid.same; rw [decide_eq_true h0, decide_eq_true h1, decide_eq_true h2, decide_eq_true h3, decide_eq_true h4, decide_eq_true h5, decide_eq_true h6, decide_eq_true h7, decide_eq_true h8, h9, h10, decide_eq_false h11]; rfl)
    have hx := (show (a.i == b.i) = false from beq_eq_false_iff_ne.2 h11)
    clear h11
    rw [← h0]
    rw [← h1]
    rw [← h2]
    rw [← h3]
    rw [← h4]
    rw [← h5]
    rw [← h6]
    rw [← h7]
    rw [← h8]
    have hI := Lib.hid h9
    have hJ := Lib.hid h10
    clear h0 h1 h2 h3 h4 h5 h6 h7 h8 h9 h10
    go_enter Try.func20, Try.ntmps20
    go_wp2_with (first | (go_at_call 34; refine (impl_chSame a b B _ (hga'.out.below ((show Below w.heap.size w _ by go_grown).mono hB)) (hgb'.out.below ((show Below w.heap.size w _ by go_grown).mono hB)) (by (try simp); (try omega)) hl.1 hl2.1 _ hI.out).mono ?_; rintro e w1 ⟨rfl, hb1⟩; have hB1 := bnext (w := w) (by go_grown) hb1; have hS1 := hB1.size; ((have hz1 : w.heap.size < w1.heap.size := by have := hb1.size; (try simp only [World.size_alloc, World.size_setCell, World.size_drew] at this); omega); (have hy1 : w.heap.size + 1 < w1.heap.size := by have := hb1.size; (try simp only [World.size_alloc, World.size_setCell, World.size_drew] at this); omega)); obtain ⟨hc1, hf1⟩ := bcell hb1; clear hb1) | (go_at_call 35; refine (impl_secS a.s.L b.s.L _ _ _ _ B _ (hsa'.out.below ((show Below w.heap.size w _ by go_grown).mono hB)) (hsb'.out.below ((show Below w.heap.size w _ by go_grown).mono hB)) (by (try simp); (try omega)) hl.2 hl2.2 _ hJ.out).mono ?_; rintro e w1 ⟨rfl, hb1⟩; have hB1 := bnext (w := w) (by go_grown) hb1; have hS1 := hB1.size; ((have hz1 : w.heap.size < w1.heap.size := by have := hb1.size; (try simp only [World.size_alloc, World.size_setCell, World.size_drew] at this); omega); (have hy1 : w.heap.size + 1 < w1.heap.size := by have := hb1.size; (try simp only [World.size_alloc, World.size_setCell, World.size_drew] at this); omega)); obtain ⟨hc1, hf1⟩ := bcell hb1; clear hb1))
    go_ret
    exact ⟨ret_bool hm.out.symm, by go_grown⟩
  have hm : Hid (a.same b = true) := Lib.hid (by unfold RAid.same; rw [decide_eq_true h0, decide_eq_true h1, decide_eq_true h2, decide_eq_true h3, decide_eq_true h4, decide_eq_true h5, decide_eq_true h6, decide_eq_true h7, decide_eq_true h8, h9, h10, decide_eq_true h11]; rfl)
  rw [← h0]
  rw [← h1]
  rw [← h2]
  rw [← h3]
  rw [← h4]
  rw [← h5]
  rw [← h6]
  rw [← h7]
  rw [← h8]
  rw [← h11]
  have hI := Lib.hid h9
  have hJ := Lib.hid h10
  clear h0 h1 h2 h3 h4 h5 h6 h7 h8 h11 h9 h10
  go_enter Try.func20, Try.ntmps20
  go_wp2_with (first | (go_at_call 34; refine (impl_chSame a b B _ (hga'.out.below ((show Below w.heap.size w _ by go_grown).mono hB)) (hgb'.out.below ((show Below w.heap.size w _ by go_grown).mono hB)) (by (try simp); (try omega)) hl.1 hl2.1 _ hI.out).mono ?_; rintro e w1 ⟨rfl, hb1⟩; have hB1 := bnext (w := w) (by go_grown) hb1; have hS1 := hB1.size; ((have hz1 : w.heap.size < w1.heap.size := by have := hb1.size; (try simp only [World.size_alloc, World.size_setCell, World.size_drew] at this); omega); (have hy1 : w.heap.size + 1 < w1.heap.size := by have := hb1.size; (try simp only [World.size_alloc, World.size_setCell, World.size_drew] at this); omega)); obtain ⟨hc1, hf1⟩ := bcell hb1; clear hb1) | (go_at_call 35; refine (impl_secS a.s.L b.s.L _ _ _ _ B _ (hsa'.out.below ((show Below w.heap.size w _ by go_grown).mono hB)) (hsb'.out.below ((show Below w.heap.size w _ by go_grown).mono hB)) (by (try simp); (try omega)) hl.2 hl2.2 _ hJ.out).mono ?_; rintro e w1 ⟨rfl, hb1⟩; have hB1 := bnext (w := w) (by go_grown) hb1; have hS1 := hB1.size; ((have hz1 : w.heap.size < w1.heap.size := by have := hb1.size; (try simp only [World.size_alloc, World.size_setCell, World.size_drew] at this); omega); (have hy1 : w.heap.size + 1 < w1.heap.size := by have := hb1.size; (try simp only [World.size_alloc, World.size_setCell, World.size_drew] at this); omega)); obtain ⟨hc1, hf1⟩ := bcell hb1; clear hb1))
  go_ret
  exact ⟨ret_bool hm.out.symm, by go_grown⟩
end Go.Proofs.Ythjkkidcpidgdaa
