/-
  Contracts of the equality of notices and of rows of notices: the program's. Each under the conditions that it states.
-/
import Derived.Test.YthjkkidcpidgdaaNotU
import Derived.Test.YthjkkidcpidgdaaNotB
import Derived.Test.YthjkkidcpidgdaaNotD
set_option linter.unusedVariables false
set_option linter.unnecessarySimpa false
set_option maxRecDepth 100000
set_option linter.unusedSimpArgs false
namespace Go.Proofs.Ythjkkidcpidgdaa
open Go.RowKit BigFrame Go.Deep


set_option maxHeartbeats 6400000 in
theorem impl_notSame (a b : RNotice) (B : Nat) (w : World) (oka : a.a.ok w B) (okb : b.a.ok w B) (hB : B ≤ w.heap.size) (hl : a.a.fits) (hl2 : b.a.fits) (t : Bool) (ht : a.same b = t) : Calls Try.prog 19 #[.agg #[.int .i64 a.f0, .int .i64 a.f1, .int .i64 a.f2, .int .i64 a.f3, .int .i64 a.a.n, .string a.a.name, .int .i64 a.a.x, .int .i64 a.a.y, .int .i64 a.a.h, .int .i64 a.a.md, .string a.a.mc, .string a.a.ms, .string a.a.mt, .int .i64 a.a.lk, .slice a.a.g.A a.a.g.L.length a.a.g.c, .string a.a.ll, .string a.a.lc, .int .i64 a.a.lp, .slice a.a.s.A a.a.s.L.length a.a.s.c, .int .i64 a.a.i], .agg #[.int .i64 b.f0, .int .i64 b.f1, .int .i64 b.f2, .int .i64 b.f3, .int .i64 b.a.n, .string b.a.name, .int .i64 b.a.x, .int .i64 b.a.y, .int .i64 b.a.h, .int .i64 b.a.md, .string b.a.mc, .string b.a.ms, .string b.a.mt, .int .i64 b.a.lk, .slice b.a.g.A b.a.g.L.length b.a.g.c, .string b.a.ll, .string b.a.lc, .int .i64 b.a.lp, .slice b.a.s.A b.a.s.L.length b.a.s.c, .int .i64 b.a.i]] w fun e w' => e = .returned (.bool t) ∧ Below w.heap.size w w' := by
  subst ht
  have oka' := Lib.hid oka
  have okb' := Lib.hid okb
  clear oka okb
  by_cases h0 : a.f0 = b.f0
  rotate_left
  · have hm : Hid (a.same b = false) := Lib.hid (by unfold RNotice.same; rw [decide_eq_false h0]; rfl)
    have hx := (show (a.f0 == b.f0) = false from beq_eq_false_iff_ne.2 h0)
    clear h0
    go_enter Try.func19, Try.ntmps19
    go_upto_region 1 with fail
    refine wp_atN ?_
    intro wa hwa
    have hP : Blk wa w.heap.size #[.int .i64 a.f0, .int .i64 a.f1, .int .i64 a.f2, .int .i64 a.f3, .int .i64 a.a.n, .string a.a.name, .int .i64 a.a.x, .int .i64 a.a.y, .int .i64 a.a.h, .int .i64 a.a.md, .string a.a.mc, .string a.a.ms, .string a.a.mt, .int .i64 a.a.lk, .slice a.a.g.A a.a.g.L.length a.a.g.c, .string a.a.ll, .string a.a.lc, .int .i64 a.a.lp, .slice a.a.s.A a.a.s.L.length a.a.s.c, .int .i64 a.a.i] 55 := by rw [hwa]; exact (Blk.new _ _ _).on (by go_grown)
    have hQ : Blk wa (w.heap.size + 1) #[.int .i64 b.f0, .int .i64 b.f1, .int .i64 b.f2, .int .i64 b.f3, .int .i64 b.a.n, .string b.a.name, .int .i64 b.a.x, .int .i64 b.a.y, .int .i64 b.a.h, .int .i64 b.a.md, .string b.a.mc, .string b.a.ms, .string b.a.mt, .int .i64 b.a.lk, .slice b.a.g.A b.a.g.L.length b.a.g.c, .string b.a.ll, .string b.a.lc, .int .i64 b.a.lp, .slice b.a.s.A b.a.s.L.length b.a.s.c, .int .i64 b.a.i] 55 := by rw [hwa]; have := Blk.new (w.alloc (.cells #[.int .i64 a.f0, .int .i64 a.f1, .int .i64 a.f2, .int .i64 a.f3, .int .i64 a.a.n, .string a.a.name, .int .i64 a.a.x, .int .i64 a.a.y, .int .i64 a.a.h, .int .i64 a.a.md, .string a.a.mc, .string a.a.ms, .string a.a.mt, .int .i64 a.a.lk, .slice a.a.g.A a.a.g.L.length a.a.g.c, .string a.a.ll, .string a.a.lc, .int .i64 a.a.lp, .slice a.a.s.A a.a.s.L.length a.a.s.c, .int .i64 a.a.i] 55)) #[.int .i64 b.f0, .int .i64 b.f1, .int .i64 b.f2, .int .i64 b.f3, .int .i64 b.a.n, .string b.a.name, .int .i64 b.a.x, .int .i64 b.a.y, .int .i64 b.a.h, .int .i64 b.a.md, .string b.a.mc, .string b.a.ms, .string b.a.mt, .int .i64 b.a.lk, .slice b.a.g.A b.a.g.L.length b.a.g.c, .string b.a.ll, .string b.a.lc, .int .i64 b.a.lp, .slice b.a.s.A b.a.s.L.length b.a.s.c, .int .i64 b.a.i] 55; rw [World.size_alloc] at this; exact this
    have hBa : Below w.heap.size w wa := by rw [hwa]; go_grown
    clear hwa
    have p0 := hP.cell (k := 0) (v := .int .i64 a.f0) rfl
    have q0 := hQ.cell (k := 0) (v := .int .i64 b.f0) rfl
    go_wp2
    go_ret
    exact ⟨ret_bool hm.out.symm, hBa⟩
  by_cases h1 : a.f1 = b.f1
  rotate_left
  · have hm : Hid (a.same b = false) := Lib.hid (by unfold RNotice.same; rw [decide_eq_true h0, decide_eq_false h1]; rfl)
    have hx := (show (a.f1 == b.f1) = false from beq_eq_false_iff_ne.2 h1)
    clear h1
    rw [← h0]
    clear h0
    go_enter Try.func19, Try.ntmps19
    go_upto_region 1 with fail
    refine wp_atN ?_
    intro wa hwa
    have hP : Blk wa w.heap.size #[.int .i64 a.f0, .int .i64 a.f1, .int .i64 a.f2, .int .i64 a.f3, .int .i64 a.a.n, .string a.a.name, .int .i64 a.a.x, .int .i64 a.a.y, .int .i64 a.a.h, .int .i64 a.a.md, .string a.a.mc, .string a.a.ms, .string a.a.mt, .int .i64 a.a.lk, .slice a.a.g.A a.a.g.L.length a.a.g.c, .string a.a.ll, .string a.a.lc, .int .i64 a.a.lp, .slice a.a.s.A a.a.s.L.length a.a.s.c, .int .i64 a.a.i] 55 := by rw [hwa]; exact (Blk.new _ _ _).on (by go_grown)
    have hQ : Blk wa (w.heap.size + 1) #[.int .i64 a.f0, .int .i64 b.f1, .int .i64 b.f2, .int .i64 b.f3, .int .i64 b.a.n, .string b.a.name, .int .i64 b.a.x, .int .i64 b.a.y, .int .i64 b.a.h, .int .i64 b.a.md, .string b.a.mc, .string b.a.ms, .string b.a.mt, .int .i64 b.a.lk, .slice b.a.g.A b.a.g.L.length b.a.g.c, .string b.a.ll, .string b.a.lc, .int .i64 b.a.lp, .slice b.a.s.A b.a.s.L.length b.a.s.c, .int .i64 b.a.i] 55 := by rw [hwa]; have := Blk.new (w.alloc (.cells #[.int .i64 a.f0, .int .i64 a.f1, .int .i64 a.f2, .int .i64 a.f3, .int .i64 a.a.n, .string a.a.name, .int .i64 a.a.x, .int .i64 a.a.y, .int .i64 a.a.h, .int .i64 a.a.md, .string a.a.mc, .string a.a.ms, .string a.a.mt, .int .i64 a.a.lk, .slice a.a.g.A a.a.g.L.length a.a.g.c, .string a.a.ll, .string a.a.lc, .int .i64 a.a.lp, .slice a.a.s.A a.a.s.L.length a.a.s.c, .int .i64 a.a.i] 55)) #[.int .i64 a.f0, .int .i64 b.f1, .int .i64 b.f2, .int .i64 b.f3, .int .i64 b.a.n, .string b.a.name, .int .i64 b.a.x, .int .i64 b.a.y, .int .i64 b.a.h, .int .i64 b.a.md, .string b.a.mc, .string b.a.ms, .string b.a.mt, .int .i64 b.a.lk, .slice b.a.g.A b.a.g.L.length b.a.g.c, .string b.a.ll, .string b.a.lc, .int .i64 b.a.lp, .slice b.a.s.A b.a.s.L.length b.a.s.c, .int .i64 b.a.i] 55; rw [World.size_alloc] at this; exact this
    have hBa : Below w.heap.size w wa := by rw [hwa]; go_grown
    clear hwa
    have p0 := hP.cell (k := 0) (v := .int .i64 a.f0) rfl
    have q0 := hQ.cell (k := 0) (v := .int .i64 a.f0) rfl
    have p1 := hP.cell (k := 1) (v := .int .i64 a.f1) rfl
    have q1 := hQ.cell (k := 1) (v := .int .i64 b.f1) rfl
    go_wp2
    go_ret
    exact ⟨ret_bool hm.out.symm, hBa⟩
  by_cases h2 : a.f2 = b.f2
  rotate_left
  · have hm : Hid (a.same b = false) := Lib.hid (by unfold RNotice.same; rw [decide_eq_true h0, decide_eq_true h1, decide_eq_false h2]; rfl)
    have hx := (show (a.f2 == b.f2) = false from beq_eq_false_iff_ne.2 h2)
    clear h2
    rw [← h0]
    rw [← h1]
    clear h0 h1
    go_enter Try.func19, Try.ntmps19
    go_upto_region 1 with fail
    refine wp_atN ?_
    intro wa hwa
    have hP : Blk wa w.heap.size #[.int .i64 a.f0, .int .i64 a.f1, .int .i64 a.f2, .int .i64 a.f3, .int .i64 a.a.n, .string a.a.name, .int .i64 a.a.x, .int .i64 a.a.y, .int .i64 a.a.h, .int .i64 a.a.md, .string a.a.mc, .string a.a.ms, .string a.a.mt, .int .i64 a.a.lk, .slice a.a.g.A a.a.g.L.length a.a.g.c, .string a.a.ll, .string a.a.lc, .int .i64 a.a.lp, .slice a.a.s.A a.a.s.L.length a.a.s.c, .int .i64 a.a.i] 55 := by rw [hwa]; exact (Blk.new _ _ _).on (by go_grown)
    have hQ : Blk wa (w.heap.size + 1) #[.int .i64 a.f0, .int .i64 a.f1, .int .i64 b.f2, .int .i64 b.f3, .int .i64 b.a.n, .string b.a.name, .int .i64 b.a.x, .int .i64 b.a.y, .int .i64 b.a.h, .int .i64 b.a.md, .string b.a.mc, .string b.a.ms, .string b.a.mt, .int .i64 b.a.lk, .slice b.a.g.A b.a.g.L.length b.a.g.c, .string b.a.ll, .string b.a.lc, .int .i64 b.a.lp, .slice b.a.s.A b.a.s.L.length b.a.s.c, .int .i64 b.a.i] 55 := by rw [hwa]; have := Blk.new (w.alloc (.cells #[.int .i64 a.f0, .int .i64 a.f1, .int .i64 a.f2, .int .i64 a.f3, .int .i64 a.a.n, .string a.a.name, .int .i64 a.a.x, .int .i64 a.a.y, .int .i64 a.a.h, .int .i64 a.a.md, .string a.a.mc, .string a.a.ms, .string a.a.mt, .int .i64 a.a.lk, .slice a.a.g.A a.a.g.L.length a.a.g.c, .string a.a.ll, .string a.a.lc, .int .i64 a.a.lp, .slice a.a.s.A a.a.s.L.length a.a.s.c, .int .i64 a.a.i] 55)) #[.int .i64 a.f0, .int .i64 a.f1, .int .i64 b.f2, .int .i64 b.f3, .int .i64 b.a.n, .string b.a.name, .int .i64 b.a.x, .int .i64 b.a.y, .int .i64 b.a.h, .int .i64 b.a.md, .string b.a.mc, .string b.a.ms, .string b.a.mt, .int .i64 b.a.lk, .slice b.a.g.A b.a.g.L.length b.a.g.c, .string b.a.ll, .string b.a.lc, .int .i64 b.a.lp, .slice b.a.s.A b.a.s.L.length b.a.s.c, .int .i64 b.a.i] 55; rw [World.size_alloc] at this; exact this
    have hBa : Below w.heap.size w wa := by rw [hwa]; go_grown
    clear hwa
    have p0 := hP.cell (k := 0) (v := .int .i64 a.f0) rfl
    have q0 := hQ.cell (k := 0) (v := .int .i64 a.f0) rfl
    have p1 := hP.cell (k := 1) (v := .int .i64 a.f1) rfl
    have q1 := hQ.cell (k := 1) (v := .int .i64 a.f1) rfl
    have p2 := hP.cell (k := 2) (v := .int .i64 a.f2) rfl
    have q2 := hQ.cell (k := 2) (v := .int .i64 b.f2) rfl
    go_wp2
    go_ret
    exact ⟨ret_bool hm.out.symm, hBa⟩
  by_cases h3 : a.f3 = b.f3
  rotate_left
  · have hm : Hid (a.same b = false) := Lib.hid (by unfold RNotice.same; rw [decide_eq_true h0, decide_eq_true h1, decide_eq_true h2, decide_eq_false h3]; rfl)
    have hx := (show (a.f3 == b.f3) = false from beq_eq_false_iff_ne.2 h3)
    clear h3
    rw [← h0]
    rw [← h1]
    rw [← h2]
    clear h0 h1 h2
    go_enter Try.func19, Try.ntmps19
    go_upto_region 1 with fail
    refine wp_atN ?_
    intro wa hwa
    have hP : Blk wa w.heap.size #[.int .i64 a.f0, .int .i64 a.f1, .int .i64 a.f2, .int .i64 a.f3, .int .i64 a.a.n, .string a.a.name, .int .i64 a.a.x, .int .i64 a.a.y, .int .i64 a.a.h, .int .i64 a.a.md, .string a.a.mc, .string a.a.ms, .string a.a.mt, .int .i64 a.a.lk, .slice a.a.g.A a.a.g.L.length a.a.g.c, .string a.a.ll, .string a.a.lc, .int .i64 a.a.lp, .slice a.a.s.A a.a.s.L.length a.a.s.c, .int .i64 a.a.i] 55 := by rw [hwa]; exact (Blk.new _ _ _).on (by go_grown)
    have hQ : Blk wa (w.heap.size + 1) #[.int .i64 a.f0, .int .i64 a.f1, .int .i64 a.f2, .int .i64 b.f3, .int .i64 b.a.n, .string b.a.name, .int .i64 b.a.x, .int .i64 b.a.y, .int .i64 b.a.h, .int .i64 b.a.md, .string b.a.mc, .string b.a.ms, .string b.a.mt, .int .i64 b.a.lk, .slice b.a.g.A b.a.g.L.length b.a.g.c, .string b.a.ll, .string b.a.lc, .int .i64 b.a.lp, .slice b.a.s.A b.a.s.L.length b.a.s.c, .int .i64 b.a.i] 55 := by rw [hwa]; have := Blk.new (w.alloc (.cells #[.int .i64 a.f0, .int .i64 a.f1, .int .i64 a.f2, .int .i64 a.f3, .int .i64 a.a.n, .string a.a.name, .int .i64 a.a.x, .int .i64 a.a.y, .int .i64 a.a.h, .int .i64 a.a.md, .string a.a.mc, .string a.a.ms, .string a.a.mt, .int .i64 a.a.lk, .slice a.a.g.A a.a.g.L.length a.a.g.c, .string a.a.ll, .string a.a.lc, .int .i64 a.a.lp, .slice a.a.s.A a.a.s.L.length a.a.s.c, .int .i64 a.a.i] 55)) #[.int .i64 a.f0, .int .i64 a.f1, .int .i64 a.f2, .int .i64 b.f3, .int .i64 b.a.n, .string b.a.name, .int .i64 b.a.x, .int .i64 b.a.y, .int .i64 b.a.h, .int .i64 b.a.md, .string b.a.mc, .string b.a.ms, .string b.a.mt, .int .i64 b.a.lk, .slice b.a.g.A b.a.g.L.length b.a.g.c, .string b.a.ll, .string b.a.lc, .int .i64 b.a.lp, .slice b.a.s.A b.a.s.L.length b.a.s.c, .int .i64 b.a.i] 55; rw [World.size_alloc] at this; exact this
    have hBa : Below w.heap.size w wa := by rw [hwa]; go_grown
    clear hwa
    have p0 := hP.cell (k := 0) (v := .int .i64 a.f0) rfl
    have q0 := hQ.cell (k := 0) (v := .int .i64 a.f0) rfl
    have p1 := hP.cell (k := 1) (v := .int .i64 a.f1) rfl
    have q1 := hQ.cell (k := 1) (v := .int .i64 a.f1) rfl
    have p2 := hP.cell (k := 2) (v := .int .i64 a.f2) rfl
    have q2 := hQ.cell (k := 2) (v := .int .i64 a.f2) rfl
    have p3 := hP.cell (k := 3) (v := .int .i64 a.f3) rfl
    have q3 := hQ.cell (k := 3) (v := .int .i64 b.f3) rfl
    go_wp2
    go_ret
    exact ⟨ret_bool hm.out.symm, hBa⟩
  cases h4 : a.a.same b.a
  · have hm : Hid (a.same b = false) := Lib.hid (by unfold RNotice.same; rw [decide_eq_true h0, decide_eq_true h1, decide_eq_true h2, decide_eq_true h3, h4]; rfl)
    rw [← h0]
    rw [← h1]
    rw [← h2]
    rw [← h3]
    have hI := Lib.hid h4
    clear h0 h1 h2 h3 h4
    go_enter Try.func19, Try.ntmps19
    go_upto_region 1 with fail
    refine wp_atN ?_
    intro wa hwa
    have hP : Blk wa w.heap.size #[.int .i64 a.f0, .int .i64 a.f1, .int .i64 a.f2, .int .i64 a.f3, .int .i64 a.a.n, .string a.a.name, .int .i64 a.a.x, .int .i64 a.a.y, .int .i64 a.a.h, .int .i64 a.a.md, .string a.a.mc, .string a.a.ms, .string a.a.mt, .int .i64 a.a.lk, .slice a.a.g.A a.a.g.L.length a.a.g.c, .string a.a.ll, .string a.a.lc, .int .i64 a.a.lp, .slice a.a.s.A a.a.s.L.length a.a.s.c, .int .i64 a.a.i] 55 := by rw [hwa]; exact (Blk.new _ _ _).on (by go_grown)
    have hQ : Blk wa (w.heap.size + 1) #[.int .i64 a.f0, .int .i64 a.f1, .int .i64 a.f2, .int .i64 a.f3, .int .i64 b.a.n, .string b.a.name, .int .i64 b.a.x, .int .i64 b.a.y, .int .i64 b.a.h, .int .i64 b.a.md, .string b.a.mc, .string b.a.ms, .string b.a.mt, .int .i64 b.a.lk, .slice b.a.g.A b.a.g.L.length b.a.g.c, .string b.a.ll, .string b.a.lc, .int .i64 b.a.lp, .slice b.a.s.A b.a.s.L.length b.a.s.c, .int .i64 b.a.i] 55 := by rw [hwa]; have := Blk.new (w.alloc (.cells #[.int .i64 a.f0, .int .i64 a.f1, .int .i64 a.f2, .int .i64 a.f3, .int .i64 a.a.n, .string a.a.name, .int .i64 a.a.x, .int .i64 a.a.y, .int .i64 a.a.h, .int .i64 a.a.md, .string a.a.mc, .string a.a.ms, .string a.a.mt, .int .i64 a.a.lk, .slice a.a.g.A a.a.g.L.length a.a.g.c, .string a.a.ll, .string a.a.lc, .int .i64 a.a.lp, .slice a.a.s.A a.a.s.L.length a.a.s.c, .int .i64 a.a.i] 55)) #[.int .i64 a.f0, .int .i64 a.f1, .int .i64 a.f2, .int .i64 a.f3, .int .i64 b.a.n, .string b.a.name, .int .i64 b.a.x, .int .i64 b.a.y, .int .i64 b.a.h, .int .i64 b.a.md, .string b.a.mc, .string b.a.ms, .string b.a.mt, .int .i64 b.a.lk, .slice b.a.g.A b.a.g.L.length b.a.g.c, .string b.a.ll, .string b.a.lc, .int .i64 b.a.lp, .slice b.a.s.A b.a.s.L.length b.a.s.c, .int .i64 b.a.i] 55; rw [World.size_alloc] at this; exact this
    have hBa : Below w.heap.size w wa := by rw [hwa]; go_grown
    clear hwa
    have p0 := hP.cell (k := 0) (v := .int .i64 a.f0) rfl
    have q0 := hQ.cell (k := 0) (v := .int .i64 a.f0) rfl
    have p1 := hP.cell (k := 1) (v := .int .i64 a.f1) rfl
    have q1 := hQ.cell (k := 1) (v := .int .i64 a.f1) rfl
    have p2 := hP.cell (k := 2) (v := .int .i64 a.f2) rfl
    have q2 := hQ.cell (k := 2) (v := .int .i64 a.f2) rfl
    have p3 := hP.cell (k := 3) (v := .int .i64 a.f3) rfl
    have q3 := hQ.cell (k := 3) (v := .int .i64 a.f3) rfl
    have p4 := hP.cell (k := 4) (v := .int .i64 a.a.n) rfl
    have q4 := hQ.cell (k := 4) (v := .int .i64 b.a.n) rfl
    have p5 := hP.cell (k := 5) (v := .string a.a.name) rfl
    have q5 := hQ.cell (k := 5) (v := .string b.a.name) rfl
    have p6 := hP.cell (k := 6) (v := .int .i64 a.a.x) rfl
    have q6 := hQ.cell (k := 6) (v := .int .i64 b.a.x) rfl
    have p7 := hP.cell (k := 7) (v := .int .i64 a.a.y) rfl
    have q7 := hQ.cell (k := 7) (v := .int .i64 b.a.y) rfl
    have p8 := hP.cell (k := 8) (v := .int .i64 a.a.h) rfl
    have q8 := hQ.cell (k := 8) (v := .int .i64 b.a.h) rfl
    have p9 := hP.cell (k := 9) (v := .int .i64 a.a.md) rfl
    have q9 := hQ.cell (k := 9) (v := .int .i64 b.a.md) rfl
    have p10 := hP.cell (k := 10) (v := .string a.a.mc) rfl
    have q10 := hQ.cell (k := 10) (v := .string b.a.mc) rfl
    have p11 := hP.cell (k := 11) (v := .string a.a.ms) rfl
    have q11 := hQ.cell (k := 11) (v := .string b.a.ms) rfl
    have p12 := hP.cell (k := 12) (v := .string a.a.mt) rfl
    have q12 := hQ.cell (k := 12) (v := .string b.a.mt) rfl
    have p13 := hP.cell (k := 13) (v := .int .i64 a.a.lk) rfl
    have q13 := hQ.cell (k := 13) (v := .int .i64 b.a.lk) rfl
    have p14 := hP.cell (k := 14) (v := .slice a.a.g.A a.a.g.L.length a.a.g.c) rfl
    have q14 := hQ.cell (k := 14) (v := .slice b.a.g.A b.a.g.L.length b.a.g.c) rfl
    have p15 := hP.cell (k := 15) (v := .string a.a.ll) rfl
    have q15 := hQ.cell (k := 15) (v := .string b.a.ll) rfl
    have p16 := hP.cell (k := 16) (v := .string a.a.lc) rfl
    have q16 := hQ.cell (k := 16) (v := .string b.a.lc) rfl
    have p17 := hP.cell (k := 17) (v := .int .i64 a.a.lp) rfl
    have q17 := hQ.cell (k := 17) (v := .int .i64 b.a.lp) rfl
    have p18 := hP.cell (k := 18) (v := .slice a.a.s.A a.a.s.L.length a.a.s.c) rfl
    have q18 := hQ.cell (k := 18) (v := .slice b.a.s.A b.a.s.L.length b.a.s.c) rfl
    have p19 := hP.cell (k := 19) (v := .int .i64 a.a.i) rfl
    have q19 := hQ.cell (k := 19) (v := .int .i64 b.a.i) rfl
    go_wp2_with (go_at_call 20; refine (impl_aidSame a.a b.a B _ (RAid.ok_below oka'.out (hBa.mono hB)) (RAid.ok_below okb'.out (hBa.mono hB)) (Nat.le_trans hB hBa.size) hl hl2 _ hI.out).mono ?_; rintro e w1 ⟨rfl, hb1⟩)
    go_ret
    exact ⟨ret_bool hm.out.symm, bnext hBa hb1⟩
  have hm : Hid (a.same b = true) := Lib.hid (by unfold RNotice.same; rw [decide_eq_true h0, decide_eq_true h1, decide_eq_true h2, decide_eq_true h3, h4]; rfl)
  rw [← h0]
  rw [← h1]
  rw [← h2]
  rw [← h3]
  have hI := Lib.hid h4
  clear h0 h1 h2 h3 h4
  go_enter Try.func19, Try.ntmps19
  go_upto_region 1 with fail
  refine wp_atN ?_
  intro wa hwa
  have hP : Blk wa w.heap.size #[.int .i64 a.f0, .int .i64 a.f1, .int .i64 a.f2, .int .i64 a.f3, .int .i64 a.a.n, .string a.a.name, .int .i64 a.a.x, .int .i64 a.a.y, .int .i64 a.a.h, .int .i64 a.a.md, .string a.a.mc, .string a.a.ms, .string a.a.mt, .int .i64 a.a.lk, .slice a.a.g.A a.a.g.L.length a.a.g.c, .string a.a.ll, .string a.a.lc, .int .i64 a.a.lp, .slice a.a.s.A a.a.s.L.length a.a.s.c, .int .i64 a.a.i] 55 := by rw [hwa]; exact (Blk.new _ _ _).on (by go_grown)
  have hQ : Blk wa (w.heap.size + 1) #[.int .i64 a.f0, .int .i64 a.f1, .int .i64 a.f2, .int .i64 a.f3, .int .i64 b.a.n, .string b.a.name, .int .i64 b.a.x, .int .i64 b.a.y, .int .i64 b.a.h, .int .i64 b.a.md, .string b.a.mc, .string b.a.ms, .string b.a.mt, .int .i64 b.a.lk, .slice b.a.g.A b.a.g.L.length b.a.g.c, .string b.a.ll, .string b.a.lc, .int .i64 b.a.lp, .slice b.a.s.A b.a.s.L.length b.a.s.c, .int .i64 b.a.i] 55 := by rw [hwa]; have := Blk.new (w.alloc (.cells #[.int .i64 a.f0, .int .i64 a.f1, .int .i64 a.f2, .int .i64 a.f3, .int .i64 a.a.n, .string a.a.name, .int .i64 a.a.x, .int .i64 a.a.y, .int .i64 a.a.h, .int .i64 a.a.md, .string a.a.mc, .string a.a.ms, .string a.a.mt, .int .i64 a.a.lk, .slice a.a.g.A a.a.g.L.length a.a.g.c, .string a.a.ll, .string a.a.lc, .int .i64 a.a.lp, .slice a.a.s.A a.a.s.L.length a.a.s.c, .int .i64 a.a.i] 55)) #[.int .i64 a.f0, .int .i64 a.f1, .int .i64 a.f2, .int .i64 a.f3, .int .i64 b.a.n, .string b.a.name, .int .i64 b.a.x, .int .i64 b.a.y, .int .i64 b.a.h, .int .i64 b.a.md, .string b.a.mc, .string b.a.ms, .string b.a.mt, .int .i64 b.a.lk, .slice b.a.g.A b.a.g.L.length b.a.g.c, .string b.a.ll, .string b.a.lc, .int .i64 b.a.lp, .slice b.a.s.A b.a.s.L.length b.a.s.c, .int .i64 b.a.i] 55; rw [World.size_alloc] at this; exact this
  have hBa : Below w.heap.size w wa := by rw [hwa]; go_grown
  clear hwa
  have p0 := hP.cell (k := 0) (v := .int .i64 a.f0) rfl
  have q0 := hQ.cell (k := 0) (v := .int .i64 a.f0) rfl
  have p1 := hP.cell (k := 1) (v := .int .i64 a.f1) rfl
  have q1 := hQ.cell (k := 1) (v := .int .i64 a.f1) rfl
  have p2 := hP.cell (k := 2) (v := .int .i64 a.f2) rfl
  have q2 := hQ.cell (k := 2) (v := .int .i64 a.f2) rfl
  have p3 := hP.cell (k := 3) (v := .int .i64 a.f3) rfl
  have q3 := hQ.cell (k := 3) (v := .int .i64 a.f3) rfl
  have p4 := hP.cell (k := 4) (v := .int .i64 a.a.n) rfl
  have q4 := hQ.cell (k := 4) (v := .int .i64 b.a.n) rfl
  have p5 := hP.cell (k := 5) (v := .string a.a.name) rfl
  have q5 := hQ.cell (k := 5) (v := .string b.a.name) rfl
  have p6 := hP.cell (k := 6) (v := .int .i64 a.a.x) rfl
  have q6 := hQ.cell (k := 6) (v := .int .i64 b.a.x) rfl
  have p7 := hP.cell (k := 7) (v := .int .i64 a.a.y) rfl
  have q7 := hQ.cell (k := 7) (v := .int .i64 b.a.y) rfl
  have p8 := hP.cell (k := 8) (v := .int .i64 a.a.h) rfl
  have q8 := hQ.cell (k := 8) (v := .int .i64 b.a.h) rfl
  have p9 := hP.cell (k := 9) (v := .int .i64 a.a.md) rfl
  have q9 := hQ.cell (k := 9) (v := .int .i64 b.a.md) rfl
  have p10 := hP.cell (k := 10) (v := .string a.a.mc) rfl
  have q10 := hQ.cell (k := 10) (v := .string b.a.mc) rfl
  have p11 := hP.cell (k := 11) (v := .string a.a.ms) rfl
  have q11 := hQ.cell (k := 11) (v := .string b.a.ms) rfl
  have p12 := hP.cell (k := 12) (v := .string a.a.mt) rfl
  have q12 := hQ.cell (k := 12) (v := .string b.a.mt) rfl
  have p13 := hP.cell (k := 13) (v := .int .i64 a.a.lk) rfl
  have q13 := hQ.cell (k := 13) (v := .int .i64 b.a.lk) rfl
  have p14 := hP.cell (k := 14) (v := .slice a.a.g.A a.a.g.L.length a.a.g.c) rfl
  have q14 := hQ.cell (k := 14) (v := .slice b.a.g.A b.a.g.L.length b.a.g.c) rfl
  have p15 := hP.cell (k := 15) (v := .string a.a.ll) rfl
  have q15 := hQ.cell (k := 15) (v := .string b.a.ll) rfl
  have p16 := hP.cell (k := 16) (v := .string a.a.lc) rfl
  have q16 := hQ.cell (k := 16) (v := .string b.a.lc) rfl
  have p17 := hP.cell (k := 17) (v := .int .i64 a.a.lp) rfl
  have q17 := hQ.cell (k := 17) (v := .int .i64 b.a.lp) rfl
  have p18 := hP.cell (k := 18) (v := .slice a.a.s.A a.a.s.L.length a.a.s.c) rfl
  have q18 := hQ.cell (k := 18) (v := .slice b.a.s.A b.a.s.L.length b.a.s.c) rfl
  have p19 := hP.cell (k := 19) (v := .int .i64 a.a.i) rfl
  have q19 := hQ.cell (k := 19) (v := .int .i64 b.a.i) rfl
  go_wp2_with (go_at_call 20; refine (impl_aidSame a.a b.a B _ (RAid.ok_below oka'.out (hBa.mono hB)) (RAid.ok_below okb'.out (hBa.mono hB)) (Nat.le_trans hB hBa.size) hl hl2 _ hI.out).mono ?_; rintro e w1 ⟨rfl, hb1⟩)
  go_ret
  exact ⟨ret_bool hm.out.symm, bnext hBa hb1⟩
end Go.Proofs.Ythjkkidcpidgdaa
