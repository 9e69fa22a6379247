/-
  Contracts of the equality of rows of notices: the program's. Each under the conditions that it states.
-/
import Derived.Test.YthjkkidcpidgdaaNotF
set_option linter.unusedVariables false
set_option linter.unnecessarySimpa false
set_option maxRecDepth 100000
set_option linter.unusedSimpArgs false
namespace Go.Proofs.Ythjkkidcpidgdaa
open Go.RowKit BigFrame Go.Deep


set_option maxHeartbeats 6400000 in
theorem impl_equalN (L M : List RNotice) (A A2 : Option Addr) (c c2 B : Nat) (w : World) (hs : Sl w B A (flat RNotice.cells L)) (hs2 : Sl w B A2 (flat RNotice.cells M)) (hB : B ≤ w.heap.size) (ok : okNs w B L) (ok2 : okNs w B M) (hf : fitsNs L) (hf2 : fitsNs M) : Calls Try.prog 18 #[.slice A L.length c, .slice A2 M.length c2, .func (Fn.func 19) #[] #[]] w fun e w' => e = .returned (.bool (sameNM L M)) ∧ Below w.heap.size w w' := by
  have hl := hf.1
  have hl2 := hf2.1
  have hs' := Lib.hid hs
  have hs2' := Lib.hid hs2
  have ok' := Lib.hid ok
  have ok2' := Lib.hid ok2
  have hf' := Lib.hid hf.2
  have hf2' := Lib.hid hf2.2
  clear hs hs2 ok ok2 hf hf2
  by_cases hlen : L.length = M.length
  rotate_left
  · have hm : Hid (sameNM L M = false) := by apply Lib.hid; unfold sameNM; rw [decide_eq_false hlen]; rfl
    have hne : ((L.length : Int) == (M.length : Int)) = false := beq_eq_false_iff_ne.2 (by omega)
    clear hlen
    go_enter Try.func18, Try.ntmps18
    go_wp2
    go_ret
    exact ⟨ret_bool hm.out.symm, by go_grown⟩
  have hm : Hid (sameNM L M = allTo (alike L M) L.length) := by apply Lib.hid; unfold sameNM; rw [decide_eq_true hlen]; rfl
  have hlen' := Lib.hid hlen
  rw [← hlen]
  clear hlen
  go_enter Try.func18, Try.ntmps18
  go_wp2
  go_loopw [17] (fun i wr => ∃ k : Nat, i = .int .i64 k ∧ k ≤ L.length ∧ allTo (alike L M) k = true ∧ Below w.heap.size w wr) (fun i _ => L.length - (intOf i).toNat)
  case atStart => exact ⟨0, rfl, Nat.zero_le _, rfl, by go_grown⟩
  case round =>
    obtain ⟨k, rfl, hk, hv, hB1⟩ := hrel
    have hv' := Lib.hid hv
    clear hv
    by_cases hlt : k < L.length
    · have hltM : k < M.length := by have := hlen'.out; omega
      have hS1 := hB1.size
      obtain ⟨bp, op, rfl, hwp, hnp⟩ := elem_nd hs'.out (hB1.mono hB) (Nat.le_trans hB hB1.size) hlt
      obtain ⟨bq, oq, rfl, hwq, hnq⟩ := elem_nd hs2'.out (hB1.mono hB) (Nat.le_trans hB hB1.size) hltM
      have oka := Lib.hid (ok'.out _ (List.getElem_mem hlt))
      have okb := Lib.hid (ok2'.out _ (List.getElem_mem hltM))
      have fa := hf'.out _ (List.getElem_mem hlt)
      have fb := hf2'.out _ (List.getElem_mem hltM)
      have hq := Lib.hid (alike_at hlt hltM)
      obtain ⟨a, ha⟩ : ∃ a, L[k] = a := ⟨_, rfl⟩
      obtain ⟨b, hb⟩ : ∃ b, M[k] = b := ⟨_, rfl⟩
      rw [ha] at hnp oka fa hq
      rw [hb] at hnq okb fb hq
      have hlda : wr.rangeAt bp (op + k * 20) [.int .i64 a.f0, .int .i64 a.f1, .int .i64 a.f2, .int .i64 a.f3, .int .i64 a.a.n, .string a.a.name, .int .i64 a.a.x, .int .i64 a.a.y, .int .i64 a.a.h, .int .i64 a.a.md, .string a.a.mc, .string a.a.ms, .string a.a.mt, .int .i64 a.a.lk, .slice a.a.g.A a.a.g.L.length a.a.g.c, .string a.a.ll, .string a.a.lc, .int .i64 a.a.lp, .slice a.a.s.A a.a.s.L.length a.a.s.c, .int .i64 a.a.i] := hnp.2
      have hldb : wr.rangeAt bq (oq + k * 20) [.int .i64 b.f0, .int .i64 b.f1, .int .i64 b.f2, .int .i64 b.f3, .int .i64 b.a.n, .string b.a.name, .int .i64 b.a.x, .int .i64 b.a.y, .int .i64 b.a.h, .int .i64 b.a.md, .string b.a.mc, .string b.a.ms, .string b.a.mt, .int .i64 b.a.lk, .slice b.a.g.A b.a.g.L.length b.a.g.c, .string b.a.ll, .string b.a.lc, .int .i64 b.a.lp, .slice b.a.s.A b.a.s.L.length b.a.s.c, .int .i64 b.a.i] := hnq.2
      clear ha hb hnp hnq
      cases hab : a.same b
      · have hf2 := Lib.hid (allTo_hit (f := alike L M) hlt (hq.out.trans hab))
        have hI := Lib.hid hab
        clear hab
        go_upto_region 6 with (first | (refine wpList_load_mid (by rfl) 55 _ (by rfl) (bp) (op + k * 20) (by rfl) [.int .i64 a.f0, .int .i64 a.f1, .int .i64 a.f2, .int .i64 a.f3, .int .i64 a.a.n, .string a.a.name, .int .i64 a.a.x, .int .i64 a.a.y, .int .i64 a.a.h, .int .i64 a.a.md, .string a.a.mc, .string a.a.ms, .string a.a.mt, .int .i64 a.a.lk, .slice a.a.g.A a.a.g.L.length a.a.g.c, .string a.a.ll, .string a.a.lc, .int .i64 a.a.lp, .slice a.a.s.A a.a.s.L.length a.a.s.c, .int .i64 a.a.i] (.struct _) hlda Try.underlying55 rfl (by kernel_rfl) ?_) | (refine wpList_store_mid (by rfl) 55 _ _ (by rfl) (wr.heap.size) (0) #[.int .i64 a.f0, .int .i64 a.f1, .int .i64 a.f2, .int .i64 a.f3, .int .i64 a.a.n, .string a.a.name, .int .i64 a.a.x, .int .i64 a.a.y, .int .i64 a.a.h, .int .i64 a.a.md, .string a.a.mc, .string a.a.ms, .string a.a.mt, .int .i64 a.a.lk, .slice a.a.g.A a.a.g.L.length a.a.g.c, .string a.a.ll, .string a.a.lc, .int .i64 a.a.lp, .slice a.a.s.A a.a.s.L.length a.a.s.c, .int .i64 a.a.i] (by rfl) (by rfl) ((Blk.new wr #[.int .i64 0, .int .i64 0, .int .i64 0, .int .i64 0, .int .i64 0, .string ⟨#[]⟩, .int .i64 0, .int .i64 0, .int .i64 0, .int .i64 0, .string ⟨#[]⟩, .string ⟨#[]⟩, .string ⟨#[]⟩, .int .i64 0, .slice none 0 0, .string ⟨#[]⟩, .string ⟨#[]⟩, .int .i64 0, .slice none 0 0, .int .i64 0] 55).there) (by kernel_rfl) (by simp [Value.oneCell']) ?_; refine wpl_at ?_; intro wx hw; have hwx := Lib.hid hw; clear hw))
        have hX : wx.rangeAt wr.heap.size 0 [.int .i64 a.f0, .int .i64 a.f1, .int .i64 a.f2, .int .i64 a.f3, .int .i64 a.a.n, .string a.a.name, .int .i64 a.a.x, .int .i64 a.a.y, .int .i64 a.a.h, .int .i64 a.a.md, .string a.a.mc, .string a.a.ms, .string a.a.mt, .int .i64 a.a.lk, .slice a.a.g.A a.a.g.L.length a.a.g.c, .string a.a.ll, .string a.a.lc, .int .i64 a.a.lp, .slice a.a.s.A a.a.s.L.length a.a.s.c, .int .i64 a.a.i] := by rw [hwx.out]; exact World.rangeAt_setCells_same _ _ _ _ ((Blk.new wr #[.int .i64 0, .int .i64 0, .int .i64 0, .int .i64 0, .int .i64 0, .string ⟨#[]⟩, .int .i64 0, .int .i64 0, .int .i64 0, .int .i64 0, .string ⟨#[]⟩, .string ⟨#[]⟩, .string ⟨#[]⟩, .int .i64 0, .slice none 0 0, .string ⟨#[]⟩, .string ⟨#[]⟩, .int .i64 0, .slice none 0 0, .int .i64 0] 55).there)
        have hBx : Below w.heap.size w wx := by rw [hwx.out]; exact below_cells hS1 _ _ _ (bnext hB1 (by go_grown))
        have hzx : wr.heap.size < wx.heap.size := World.block_lt_of_cell? wx _ (hX 0 _ rfl)
        have hldx : wx.rangeAt bq (oq + k * 20) [.int .i64 b.f0, .int .i64 b.f1, .int .i64 b.f2, .int .i64 b.f3, .int .i64 b.a.n, .string b.a.name, .int .i64 b.a.x, .int .i64 b.a.y, .int .i64 b.a.h, .int .i64 b.a.md, .string b.a.mc, .string b.a.ms, .string b.a.mt, .int .i64 b.a.lk, .slice b.a.g.A b.a.g.L.length b.a.g.c, .string b.a.ll, .string b.a.lc, .int .i64 b.a.lp, .slice b.a.s.A b.a.s.L.length b.a.s.c, .int .i64 b.a.i] := by rw [hwx.out]; exact World.rangeAt_setCells_apart (World.rangeAt_alloc hldb _) _ _ _ (Or.inl (by omega))
        have hSx := hBx.size
        clear hwx hlda hldb
        go_upto_region 7 with (first | (refine wpList_load_mid (by rfl) 55 _ (by rfl) (bq) (oq + k * 20) (by rfl) [.int .i64 b.f0, .int .i64 b.f1, .int .i64 b.f2, .int .i64 b.f3, .int .i64 b.a.n, .string b.a.name, .int .i64 b.a.x, .int .i64 b.a.y, .int .i64 b.a.h, .int .i64 b.a.md, .string b.a.mc, .string b.a.ms, .string b.a.mt, .int .i64 b.a.lk, .slice b.a.g.A b.a.g.L.length b.a.g.c, .string b.a.ll, .string b.a.lc, .int .i64 b.a.lp, .slice b.a.s.A b.a.s.L.length b.a.s.c, .int .i64 b.a.i] (.struct _) hldx Try.underlying55 rfl (by kernel_rfl) ?_) | (refine wpList_store_mid (by rfl) 55 _ _ (by rfl) (wx.heap.size) (0) #[.int .i64 b.f0, .int .i64 b.f1, .int .i64 b.f2, .int .i64 b.f3, .int .i64 b.a.n, .string b.a.name, .int .i64 b.a.x, .int .i64 b.a.y, .int .i64 b.a.h, .int .i64 b.a.md, .string b.a.mc, .string b.a.ms, .string b.a.mt, .int .i64 b.a.lk, .slice b.a.g.A b.a.g.L.length b.a.g.c, .string b.a.ll, .string b.a.lc, .int .i64 b.a.lp, .slice b.a.s.A b.a.s.L.length b.a.s.c, .int .i64 b.a.i] (by rfl) (by rfl) ((Blk.new wx #[.int .i64 0, .int .i64 0, .int .i64 0, .int .i64 0, .int .i64 0, .string ⟨#[]⟩, .int .i64 0, .int .i64 0, .int .i64 0, .int .i64 0, .string ⟨#[]⟩, .string ⟨#[]⟩, .string ⟨#[]⟩, .int .i64 0, .slice none 0 0, .string ⟨#[]⟩, .string ⟨#[]⟩, .int .i64 0, .slice none 0 0, .int .i64 0] 55).there) (by kernel_rfl) (by simp [Value.oneCell']) ?_; refine wpl_at ?_; intro wy hw; have hwy := Lib.hid hw; clear hw))
        have hY : wy.rangeAt wx.heap.size 0 [.int .i64 b.f0, .int .i64 b.f1, .int .i64 b.f2, .int .i64 b.f3, .int .i64 b.a.n, .string b.a.name, .int .i64 b.a.x, .int .i64 b.a.y, .int .i64 b.a.h, .int .i64 b.a.md, .string b.a.mc, .string b.a.ms, .string b.a.mt, .int .i64 b.a.lk, .slice b.a.g.A b.a.g.L.length b.a.g.c, .string b.a.ll, .string b.a.lc, .int .i64 b.a.lp, .slice b.a.s.A b.a.s.L.length b.a.s.c, .int .i64 b.a.i] := by rw [hwy.out]; exact World.rangeAt_setCells_same _ _ _ _ ((Blk.new wx #[.int .i64 0, .int .i64 0, .int .i64 0, .int .i64 0, .int .i64 0, .string ⟨#[]⟩, .int .i64 0, .int .i64 0, .int .i64 0, .int .i64 0, .string ⟨#[]⟩, .string ⟨#[]⟩, .string ⟨#[]⟩, .int .i64 0, .slice none 0 0, .string ⟨#[]⟩, .string ⟨#[]⟩, .int .i64 0, .slice none 0 0, .int .i64 0] 55).there)
        have hBy : Below w.heap.size w wy := by rw [hwy.out]; exact below_cells hSx _ _ _ (bnext hBx (by go_grown))
        have hXy : wy.rangeAt wr.heap.size 0 [.int .i64 a.f0, .int .i64 a.f1, .int .i64 a.f2, .int .i64 a.f3, .int .i64 a.a.n, .string a.a.name, .int .i64 a.a.x, .int .i64 a.a.y, .int .i64 a.a.h, .int .i64 a.a.md, .string a.a.mc, .string a.a.ms, .string a.a.mt, .int .i64 a.a.lk, .slice a.a.g.A a.a.g.L.length a.a.g.c, .string a.a.ll, .string a.a.lc, .int .i64 a.a.lp, .slice a.a.s.A a.a.s.L.length a.a.s.c, .int .i64 a.a.i] := by rw [hwy.out]; exact World.rangeAt_setCells_apart (World.rangeAt_alloc hX _) _ _ _ (Or.inl (by omega))
        clear hwy hX hldx
        go_wp2_with (first | (refine wpList_load_mid (by rfl) 55 _ (by rfl) (wr.heap.size) (0) (by rfl) [.int .i64 a.f0, .int .i64 a.f1, .int .i64 a.f2, .int .i64 a.f3, .int .i64 a.a.n, .string a.a.name, .int .i64 a.a.x, .int .i64 a.a.y, .int .i64 a.a.h, .int .i64 a.a.md, .string a.a.mc, .string a.a.ms, .string a.a.mt, .int .i64 a.a.lk, .slice a.a.g.A a.a.g.L.length a.a.g.c, .string a.a.ll, .string a.a.lc, .int .i64 a.a.lp, .slice a.a.s.A a.a.s.L.length a.a.s.c, .int .i64 a.a.i] (.struct _) hXy Try.underlying55 rfl (by kernel_rfl) ?_) | (refine wpList_load_mid (by rfl) 55 _ (by rfl) (wx.heap.size) (0) (by rfl) [.int .i64 b.f0, .int .i64 b.f1, .int .i64 b.f2, .int .i64 b.f3, .int .i64 b.a.n, .string b.a.name, .int .i64 b.a.x, .int .i64 b.a.y, .int .i64 b.a.h, .int .i64 b.a.md, .string b.a.mc, .string b.a.ms, .string b.a.mt, .int .i64 b.a.lk, .slice b.a.g.A b.a.g.L.length b.a.g.c, .string b.a.ll, .string b.a.lc, .int .i64 b.a.lp, .slice b.a.s.A b.a.s.L.length b.a.s.c, .int .i64 b.a.i] (.struct _) hY Try.underlying55 rfl (by kernel_rfl) ?_) | (go_at_call 19; refine (impl_notSame a b B _ (RAid.ok_below oka.out (hBy.mono hB)) (RAid.ok_below okb.out (hBy.mono hB)) (Nat.le_trans hB hBy.size) fa fb _ hI.out).mono ?_; rintro e w1 ⟨rfl, hb1⟩))
        go_ret
        exact ⟨ret_bool (hm.out.trans hf2.out).symm, bnext hBy hb1⟩
      · have hf2 := Lib.hid (allTo_step (f := alike L M) hv'.out (hq.out.trans hab))
        have hI := Lib.hid hab
        clear hab
        go_upto_region 6 with (first | (refine wpList_load_mid (by rfl) 55 _ (by rfl) (bp) (op + k * 20) (by rfl) [.int .i64 a.f0, .int .i64 a.f1, .int .i64 a.f2, .int .i64 a.f3, .int .i64 a.a.n, .string a.a.name, .int .i64 a.a.x, .int .i64 a.a.y, .int .i64 a.a.h, .int .i64 a.a.md, .string a.a.mc, .string a.a.ms, .string a.a.mt, .int .i64 a.a.lk, .slice a.a.g.A a.a.g.L.length a.a.g.c, .string a.a.ll, .string a.a.lc, .int .i64 a.a.lp, .slice a.a.s.A a.a.s.L.length a.a.s.c, .int .i64 a.a.i] (.struct _) hlda Try.underlying55 rfl (by kernel_rfl) ?_) | (refine wpList_store_mid (by rfl) 55 _ _ (by rfl) (wr.heap.size) (0) #[.int .i64 a.f0, .int .i64 a.f1, .int .i64 a.f2, .int .i64 a.f3, .int .i64 a.a.n, .string a.a.name, .int .i64 a.a.x, .int .i64 a.a.y, .int .i64 a.a.h, .int .i64 a.a.md, .string a.a.mc, .string a.a.ms, .string a.a.mt, .int .i64 a.a.lk, .slice a.a.g.A a.a.g.L.length a.a.g.c, .string a.a.ll, .string a.a.lc, .int .i64 a.a.lp, .slice a.a.s.A a.a.s.L.length a.a.s.c, .int .i64 a.a.i] (by rfl) (by rfl) ((Blk.new wr #[.int .i64 0, .int .i64 0, .int .i64 0, .int .i64 0, .int .i64 0, .string ⟨#[]⟩, .int .i64 0, .int .i64 0, .int .i64 0, .int .i64 0, .string ⟨#[]⟩, .string ⟨#[]⟩, .string ⟨#[]⟩, .int .i64 0, .slice none 0 0, .string ⟨#[]⟩, .string ⟨#[]⟩, .int .i64 0, .slice none 0 0, .int .i64 0] 55).there) (by kernel_rfl) (by simp [Value.oneCell']) ?_; refine wpl_at ?_; intro wx hw; have hwx := Lib.hid hw; clear hw))
        have hX : wx.rangeAt wr.heap.size 0 [.int .i64 a.f0, .int .i64 a.f1, .int .i64 a.f2, .int .i64 a.f3, .int .i64 a.a.n, .string a.a.name, .int .i64 a.a.x, .int .i64 a.a.y, .int .i64 a.a.h, .int .i64 a.a.md, .string a.a.mc, .string a.a.ms, .string a.a.mt, .int .i64 a.a.lk, .slice a.a.g.A a.a.g.L.length a.a.g.c, .string a.a.ll, .string a.a.lc, .int .i64 a.a.lp, .slice a.a.s.A a.a.s.L.length a.a.s.c, .int .i64 a.a.i] := by rw [hwx.out]; exact World.rangeAt_setCells_same _ _ _ _ ((Blk.new wr #[.int .i64 0, .int .i64 0, .int .i64 0, .int .i64 0, .int .i64 0, .string ⟨#[]⟩, .int .i64 0, .int .i64 0, .int .i64 0, .int .i64 0, .string ⟨#[]⟩, .string ⟨#[]⟩, .string ⟨#[]⟩, .int .i64 0, .slice none 0 0, .string ⟨#[]⟩, .string ⟨#[]⟩, .int .i64 0, .slice none 0 0, .int .i64 0] 55).there)
        have hBx : Below w.heap.size w wx := by rw [hwx.out]; exact below_cells hS1 _ _ _ (bnext hB1 (by go_grown))
        have hzx : wr.heap.size < wx.heap.size := World.block_lt_of_cell? wx _ (hX 0 _ rfl)
        have hldx : wx.rangeAt bq (oq + k * 20) [.int .i64 b.f0, .int .i64 b.f1, .int .i64 b.f2, .int .i64 b.f3, .int .i64 b.a.n, .string b.a.name, .int .i64 b.a.x, .int .i64 b.a.y, .int .i64 b.a.h, .int .i64 b.a.md, .string b.a.mc, .string b.a.ms, .string b.a.mt, .int .i64 b.a.lk, .slice b.a.g.A b.a.g.L.length b.a.g.c, .string b.a.ll, .string b.a.lc, .int .i64 b.a.lp, .slice b.a.s.A b.a.s.L.length b.a.s.c, .int .i64 b.a.i] := by rw [hwx.out]; exact World.rangeAt_setCells_apart (World.rangeAt_alloc hldb _) _ _ _ (Or.inl (by omega))
        have hSx := hBx.size
        clear hwx hlda hldb
        go_upto_region 7 with (first | (refine wpList_load_mid (by rfl) 55 _ (by rfl) (bq) (oq + k * 20) (by rfl) [.int .i64 b.f0, .int .i64 b.f1, .int .i64 b.f2, .int .i64 b.f3, .int .i64 b.a.n, .string b.a.name, .int .i64 b.a.x, .int .i64 b.a.y, .int .i64 b.a.h, .int .i64 b.a.md, .string b.a.mc, .string b.a.ms, .string b.a.mt, .int .i64 b.a.lk, .slice b.a.g.A b.a.g.L.length b.a.g.c, .string b.a.ll, .string b.a.lc, .int .i64 b.a.lp, .slice b.a.s.A b.a.s.L.length b.a.s.c, .int .i64 b.a.i] (.struct _) hldx Try.underlying55 rfl (by kernel_rfl) ?_) | (refine wpList_store_mid (by rfl) 55 _ _ (by rfl) (wx.heap.size) (0) #[.int .i64 b.f0, .int .i64 b.f1, .int .i64 b.f2, .int .i64 b.f3, .int .i64 b.a.n, .string b.a.name, .int .i64 b.a.x, .int .i64 b.a.y, .int .i64 b.a.h, .int .i64 b.a.md, .string b.a.mc, .string b.a.ms, .string b.a.mt, .int .i64 b.a.lk, .slice b.a.g.A b.a.g.L.length b.a.g.c, .string b.a.ll, .string b.a.lc, .int .i64 b.a.lp, .slice b.a.s.A b.a.s.L.length b.a.s.c, .int .i64 b.a.i] (by rfl) (by rfl) ((Blk.new wx #[.int .i64 0, .int .i64 0, .int .i64 0, .int .i64 0, .int .i64 0, .string ⟨#[]⟩, .int .i64 0, .int .i64 0, .int .i64 0, .int .i64 0, .string ⟨#[]⟩, .string ⟨#[]⟩, .string ⟨#[]⟩, .int .i64 0, .slice none 0 0, .string ⟨#[]⟩, .string ⟨#[]⟩, .int .i64 0, .slice none 0 0, .int .i64 0] 55).there) (by kernel_rfl) (by simp [Value.oneCell']) ?_; refine wpl_at ?_; intro wy hw; have hwy := Lib.hid hw; clear hw))
        have hY : wy.rangeAt wx.heap.size 0 [.int .i64 b.f0, .int .i64 b.f1, .int .i64 b.f2, .int .i64 b.f3, .int .i64 b.a.n, .string b.a.name, .int .i64 b.a.x, .int .i64 b.a.y, .int .i64 b.a.h, .int .i64 b.a.md, .string b.a.mc, .string b.a.ms, .string b.a.mt, .int .i64 b.a.lk, .slice b.a.g.A b.a.g.L.length b.a.g.c, .string b.a.ll, .string b.a.lc, .int .i64 b.a.lp, .slice b.a.s.A b.a.s.L.length b.a.s.c, .int .i64 b.a.i] := by rw [hwy.out]; exact World.rangeAt_setCells_same _ _ _ _ ((Blk.new wx #[.int .i64 0, .int .i64 0, .int .i64 0, .int .i64 0, .int .i64 0, .string ⟨#[]⟩, .int .i64 0, .int .i64 0, .int .i64 0, .int .i64 0, .string ⟨#[]⟩, .string ⟨#[]⟩, .string ⟨#[]⟩, .int .i64 0, .slice none 0 0, .string ⟨#[]⟩, .string ⟨#[]⟩, .int .i64 0, .slice none 0 0, .int .i64 0] 55).there)
        have hBy : Below w.heap.size w wy := by rw [hwy.out]; exact below_cells hSx _ _ _ (bnext hBx (by go_grown))
        have hXy : wy.rangeAt wr.heap.size 0 [.int .i64 a.f0, .int .i64 a.f1, .int .i64 a.f2, .int .i64 a.f3, .int .i64 a.a.n, .string a.a.name, .int .i64 a.a.x, .int .i64 a.a.y, .int .i64 a.a.h, .int .i64 a.a.md, .string a.a.mc, .string a.a.ms, .string a.a.mt, .int .i64 a.a.lk, .slice a.a.g.A a.a.g.L.length a.a.g.c, .string a.a.ll, .string a.a.lc, .int .i64 a.a.lp, .slice a.a.s.A a.a.s.L.length a.a.s.c, .int .i64 a.a.i] := by rw [hwy.out]; exact World.rangeAt_setCells_apart (World.rangeAt_alloc hX _) _ _ _ (Or.inl (by omega))
        clear hwy hX hldx
        go_wp2_with (first | (refine wpList_load_mid (by rfl) 55 _ (by rfl) (wr.heap.size) (0) (by rfl) [.int .i64 a.f0, .int .i64 a.f1, .int .i64 a.f2, .int .i64 a.f3, .int .i64 a.a.n, .string a.a.name, .int .i64 a.a.x, .int .i64 a.a.y, .int .i64 a.a.h, .int .i64 a.a.md, .string a.a.mc, .string a.a.ms, .string a.a.mt, .int .i64 a.a.lk, .slice a.a.g.A a.a.g.L.length a.a.g.c, .string a.a.ll, .string a.a.lc, .int .i64 a.a.lp, .slice a.a.s.A a.a.s.L.length a.a.s.c, .int .i64 a.a.i] (.struct _) hXy Try.underlying55 rfl (by kernel_rfl) ?_) | (refine wpList_load_mid (by rfl) 55 _ (by rfl) (wx.heap.size) (0) (by rfl) [.int .i64 b.f0, .int .i64 b.f1, .int .i64 b.f2, .int .i64 b.f3, .int .i64 b.a.n, .string b.a.name, .int .i64 b.a.x, .int .i64 b.a.y, .int .i64 b.a.h, .int .i64 b.a.md, .string b.a.mc, .string b.a.ms, .string b.a.mt, .int .i64 b.a.lk, .slice b.a.g.A b.a.g.L.length b.a.g.c, .string b.a.ll, .string b.a.lc, .int .i64 b.a.lp, .slice b.a.s.A b.a.s.L.length b.a.s.c, .int .i64 b.a.i] (.struct _) hY Try.underlying55 rfl (by kernel_rfl) ?_) | (go_at_call 19; refine (impl_notSame a b B _ (RAid.ok_below oka.out (hBy.mono hB)) (RAid.ok_below okb.out (hBy.mono hB)) (Nat.le_trans hB hBy.size) fa fb _ hI.out).mono ?_; rintro e w1 ⟨rfl, hb1⟩))
        go_roundw
        case rel => exact ⟨k + 1, by go_num, by omega, hf2.out, bnext hBy hb1⟩
        case measure => simp [intOf]; omega
    · obtain rfl : k = L.length := by omega
      go_wp2
      go_ret
      exact ⟨ret_bool (hm.out.trans hv'.out).symm, by go_grown⟩
theorem impl_SameN (L M : List RNotice) (A A2 : Option Addr) (c c2 B : Nat) (w : World) (hs : Sl w B A (flat RNotice.cells L)) (hs2 : Sl w B A2 (flat RNotice.cells M)) (hB : B ≤ w.heap.size) (ok : okNs w B L) (ok2 : okNs w B M) (hf : fitsNs L) (hf2 : fitsNs M) : Calls Try.prog 8 #[.slice A L.length c, .slice A2 M.length c2] w fun e w' => e = .returned (.bool (sameNM L M)) ∧ Below w.heap.size w w' := by
  go_enter Try.func8, Try.ntmps8
  go_wp2_with (go_at_call 18; refine (impl_equalN L M _ _ _ _ B _ hs hs2 hB ok ok2 hf hf2).mono ?_; rintro e w1 ⟨rfl, hb1⟩)
  go_ret
  exact ⟨rfl, hb1⟩
end Go.Proofs.Ythjkkidcpidgdaa
