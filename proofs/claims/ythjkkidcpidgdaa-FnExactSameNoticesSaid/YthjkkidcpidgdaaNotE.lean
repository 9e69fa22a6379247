/-
  Contracts of the equality of the copies of notices, as the laws test it. Each under the conditions that it states.
-/
import Derived.Test.YthjkkidcpidgdaaNotS
set_option linter.unusedVariables false
set_option linter.unnecessarySimpa false
set_option maxRecDepth 100000
set_option linter.unusedSimpArgs false
namespace Go.Proofs.Ythjkkidcpidgdaa
open Go.RowKit BigFrame Go.Deep


theorem eqPointN (x y : Int) (w : World) : Calls Try.prog 57 #[.agg #[.int .i64 x, .int .i64 y], .agg #[.int .i64 x, .int .i64 y]] w fun e w' => e = .returned (.bool true) ∧ Below w.heap.size w w' := by
  go_enter Try.func57, Try.ntmps57
  go_wp2
  go_ret
  exact ⟨rfl, by go_grown⟩
set_option maxHeartbeats 1600000 in
theorem eqCharacterN (k : Int) (G : List Int) (A A2 : Option Addr) (c c2 : Nat) (a b : ByteArray) (p : Int) (B : Nat) (w : World) (hs : Sl w B A (ints G)) (hs2 : Sl w B A2 (ints G)) (hB : B ≤ w.heap.size) (hl : G.length ≤ 1048576) : Calls Try.prog 59 #[.agg #[.int .i64 k, .slice A G.length c, .string a, .string b, .int .i64 p], .agg #[.int .i64 k, .slice A2 G.length c2, .string a, .string b, .int .i64 p]] w fun e w' => e = .returned (.bool true) ∧ Below w.heap.size w w' := by
  have hs' := Lib.hid hs
  have hs2' := Lib.hid hs2
  clear hs hs2
  go_enter Try.func59, Try.ntmps59
  go_wp2_with (go_at_call 76; refine (eqInt64S_same G _ _ _ _ B _ (hs'.out.below ((show Below w.heap.size w _ by go_grown).mono hB)) (hs2'.out.below ((show Below w.heap.size w _ by go_grown).mono hB)) (by (try simp); (try omega)) hl).mono ?_; rintro e w1 ⟨rfl, hb1⟩; have hB1 := bnext (w := w) (by go_grown) hb1; have hS1 := hB1.size; ((have hz1 : w.heap.size < w1.heap.size := by have := hb1.size; (try simp only [World.size_alloc, World.size_setCell, World.size_drew] at this); omega); (have hy1 : w.heap.size + 1 < w1.heap.size := by have := hb1.size; (try simp only [World.size_alloc, World.size_setCell, World.size_drew] at this); omega)); obtain ⟨hc1, hf1⟩ := bcell hb1; clear hb1)
  go_ret
  exact ⟨rfl, by go_grown⟩
set_option maxHeartbeats 6400000 in
theorem eqAidN (a : RAid) (A2 A3 : Option Addr) (c2 c3 B : Nat) (w : World) (h1 : Sl w B a.g.A (ints a.g.L)) (h2 : Sl w B A2 (ints a.g.L)) (h3 : Sl w B a.s.A (flat RSector.cells a.s.L)) (h4 : Sl w B A3 (flat RSector.cells a.s.L)) (hB : B ≤ w.heap.size) (hl : a.fits) : Calls Try.prog 36 #[.agg #[.int .i64 a.n, .string a.name, .int .i64 a.x, .int .i64 a.y, .int .i64 a.h, .int .i64 a.md, .string a.mc, .string a.ms, .string a.mt, .int .i64 a.lk, .slice a.g.A a.g.L.length a.g.c, .string a.ll, .string a.lc, .int .i64 a.lp, .slice a.s.A a.s.L.length a.s.c, .int .i64 a.i], .agg #[.int .i64 a.n, .string a.name, .int .i64 a.x, .int .i64 a.y, .int .i64 a.h, .int .i64 a.md, .string a.mc, .string a.ms, .string a.mt, .int .i64 a.lk, .slice A2 a.g.L.length c2, .string a.ll, .string a.lc, .int .i64 a.lp, .slice A3 a.s.L.length c3, .int .i64 a.i]] w fun e w' => e = .returned (.bool true) ∧ Below w.heap.size w w' := by
  have h1' := Lib.hid h1
  have h2' := Lib.hid h2
  have h3' := Lib.hid h3
  have h4' := Lib.hid h4
  clear h1 h2 h3 h4
  go_enter Try.func36, Try.ntmps36
  go_wp2_with (first | (go_at_call 57; refine (eqPointN _ _ _).mono ?_; rintro e w1 ⟨rfl, hb1⟩; have hB1 := bnext (w := w) (by go_grown) hb1; have hS1 := hB1.size; ((have hz1 : w.heap.size < w1.heap.size := by have := hb1.size; (try simp only [World.size_alloc, World.size_setCell, World.size_drew] at this); omega); (have hy1 : w.heap.size + 1 < w1.heap.size := by have := hb1.size; (try simp only [World.size_alloc, World.size_setCell, World.size_drew] at this); omega)); obtain ⟨hc1, hf1⟩ := bcell hb1; clear hb1) | (go_at_call 58; refine (eqMark_same _ _ _ _ _).mono ?_; rintro e w1 ⟨rfl, hb1⟩; have hB1 := bnext (w := w) (by go_grown) hb1; have hS1 := hB1.size; ((have hz1 : w.heap.size < w1.heap.size := by have := hb1.size; (try simp only [World.size_alloc, World.size_setCell, World.size_drew] at this); omega); (have hy1 : w.heap.size + 1 < w1.heap.size := by have := hb1.size; (try simp only [World.size_alloc, World.size_setCell, World.size_drew] at this); omega)); obtain ⟨hc1, hf1⟩ := bcell hb1; clear hb1) | (go_at_call 59; refine (eqCharacterN a.lk a.g.L _ _ _ _ _ _ _ B _ (h1'.out.below ((show Below w.heap.size w _ by go_grown).mono hB)) (h2'.out.below ((show Below w.heap.size w _ by go_grown).mono hB)) (by (try simp); (try omega)) hl.1).mono ?_; rintro e w1 ⟨rfl, hb1⟩; have hB1 := bnext (w := w) (by go_grown) hb1; have hS1 := hB1.size; ((have hz1 : w.heap.size < w1.heap.size := by have := hb1.size; (try simp only [World.size_alloc, World.size_setCell, World.size_drew] at this); omega); (have hy1 : w.heap.size + 1 < w1.heap.size := by have := hb1.size; (try simp only [World.size_alloc, World.size_setCell, World.size_drew] at this); omega)); obtain ⟨hc1, hf1⟩ := bcell hb1; clear hb1) | (go_at_call 60; refine (eqSectorS_same a.s.L _ _ _ _ B _ (h3'.out.below ((show Below w.heap.size w _ by go_grown).mono hB)) (h4'.out.below ((show Below w.heap.size w _ by go_grown).mono hB)) (by (try simp); (try omega)) hl.2).mono ?_; rintro e w1 ⟨rfl, hb1⟩; have hB1 := bnext (w := w) (by go_grown) hb1; have hS1 := hB1.size; ((have hz1 : w.heap.size < w1.heap.size := by have := hb1.size; (try simp only [World.size_alloc, World.size_setCell, World.size_drew] at this); omega); (have hy1 : w.heap.size + 1 < w1.heap.size := by have := hb1.size; (try simp only [World.size_alloc, World.size_setCell, World.size_drew] at this); omega)); obtain ⟨hc1, hf1⟩ := bcell hb1; clear hb1))
  go_ret
  exact ⟨rfl, by go_grown⟩
set_option maxHeartbeats 6400000 in
theorem eqNoticeN (n : RNotice) (A2 A3 : Option Addr) (c2 c3 B : Nat) (w : World) (h1 : Sl w B n.a.g.A (ints n.a.g.L)) (h2 : Sl w B A2 (ints n.a.g.L)) (h3 : Sl w B n.a.s.A (flat RSector.cells n.a.s.L)) (h4 : Sl w B A3 (flat RSector.cells n.a.s.L)) (hB : B ≤ w.heap.size) (hl : n.a.fits) : Calls Try.prog 21 #[.agg #[.int .i64 n.f0, .int .i64 n.f1, .int .i64 n.f2, .int .i64 n.f3, .int .i64 n.a.n, .string n.a.name, .int .i64 n.a.x, .int .i64 n.a.y, .int .i64 n.a.h, .int .i64 n.a.md, .string n.a.mc, .string n.a.ms, .string n.a.mt, .int .i64 n.a.lk, .slice n.a.g.A n.a.g.L.length n.a.g.c, .string n.a.ll, .string n.a.lc, .int .i64 n.a.lp, .slice n.a.s.A n.a.s.L.length n.a.s.c, .int .i64 n.a.i], .agg #[.int .i64 n.f0, .int .i64 n.f1, .int .i64 n.f2, .int .i64 n.f3, .int .i64 n.a.n, .string n.a.name, .int .i64 n.a.x, .int .i64 n.a.y, .int .i64 n.a.h, .int .i64 n.a.md, .string n.a.mc, .string n.a.ms, .string n.a.mt, .int .i64 n.a.lk, .slice A2 n.a.g.L.length c2, .string n.a.ll, .string n.a.lc, .int .i64 n.a.lp, .slice A3 n.a.s.L.length c3, .int .i64 n.a.i]] w fun e w' => e = .returned (.bool true) ∧ Below w.heap.size w w' := by
  have h1' := Lib.hid h1
  have h2' := Lib.hid h2
  have h3' := Lib.hid h3
  have h4' := Lib.hid h4
  clear h1 h2 h3 h4
  go_enter Try.func21, Try.ntmps21
  go_wp2_with (go_at_call 36; refine (eqAidN n.a _ _ _ _ B _ (h1'.out.below ((show Below w.heap.size w _ by go_grown).mono hB)) (h2'.out.below ((show Below w.heap.size w _ by go_grown).mono hB)) (h3'.out.below ((show Below w.heap.size w _ by go_grown).mono hB)) (h4'.out.below ((show Below w.heap.size w _ by go_grown).mono hB)) (by (try simp); (try omega)) hl).mono ?_; rintro e w1 ⟨rfl, hb1⟩; have hB1 := bnext (w := w) (by go_grown) hb1; have hS1 := hB1.size; ((have hz1 : w.heap.size < w1.heap.size := by have := hb1.size; (try simp only [World.size_alloc, World.size_setCell, World.size_drew] at this); omega); (have hy1 : w.heap.size + 1 < w1.heap.size := by have := hb1.size; (try simp only [World.size_alloc, World.size_setCell, World.size_drew] at this); omega)); obtain ⟨hc1, hf1⟩ := bcell hb1; clear hb1)
  go_ret
  exact ⟨rfl, by go_grown⟩
end Go.Proofs.Ythjkkidcpidgdaa
