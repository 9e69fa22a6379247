/-
  Contracts of the copies of notices, and of rows of notices, that the laws make. Each under the conditions that it states.
-/
import Derived.Test.YthjkkidcpidgdaaNotZ
set_option linter.unusedVariables false
set_option linter.unnecessarySimpa false
set_option maxRecDepth 100000
set_option linter.unusedSimpArgs false
namespace Go.Proofs.Ythjkkidcpidgdaa
open Go.RowKit BigFrame Go.Deep


theorem results_cell {P : Program} {fn : Func} {a : Tmp} {t : TypeId} (h : fn.results = #[.cell a t]) {tmps : Array Value} {w : World} {p : Addr} {v : Value} (ha : tmps.getD a undef = .pointer (some p)) (hv : (loadVar t p).run P w = .ok v w) : (results fn tmps).run P w = .ok v w := by
  have ha' : tmps[a]?.getD undef = .pointer (some p) := by simpa using ha
  simp [results, h, ha', asAddr, hv]
theorem range_app {w : World} {b o k : Nat} {xs ys : List Value} (h : w.rangeAt b o xs) (h2 : w.rangeAt b k ys) (hk : k = o + xs.length) : w.rangeAt b o (xs ++ ys) := fun j v hv => by
  rcases (by omega : j < xs.length ∨ xs.length ≤ j) with hj | hj
  · rw [List.getElem?_append_left hj] at hv; exact h j v hv
  · rw [List.getElem?_append_right hj] at hv
    have := h2 _ v hv
    rwa [show k + (j - xs.length) = o + j by omega] at this
def copN (n : RNotice) (g s : Nat) : RNotice := { n with a := cop n.a g s }
def RAid.dt (a : RAid) : RAid := { a with g := ⟨none, 0, a.g.L⟩, s := ⟨none, 0, a.s.L⟩ }
def RNotice.dt (n : RNotice) : RNotice := { n with a := n.a.dt }
theorem copN_dt (n : RNotice) (g s : Nat) : (copN n g s).dt = n.dt := rfl
theorem Fresh.mk' {w : World} {lo : Nat} {n : RNotice} {g s : Nat} (h1 : AtB w lo g (ints n.a.g.L)) (h2 : AtB w lo s (flat RSector.cells n.a.s.L)) : Fresh w lo (copN n g s).a := ⟨g, s, ⟨rfl, rfl⟩, h1, h2⟩
theorem ok_of {w w0 : World} {B lo : Nat} {a b : RAid} (hb : b.ok w0 B) (e : a.dt = b.dt) (h : Fresh w lo a) : a.ok w w.heap.size := by
  obtain ⟨g, s, ⟨e1, e2⟩, h1, h2⟩ := h
  obtain ⟨⟨q1, q2, q3, q4, q5, q6⟩, ⟨_, q7⟩, ⟨_, q8, q9⟩⟩ := hb
  rcases a with ⟨a0, a1, a2, a3, a4, a5, a6, a7, a8, a9, ⟨gA, gc, gL⟩, a11, a12, a13, ⟨sA, sc, sL⟩, a15⟩
  rcases b with ⟨b0, b1, b2, b3, b4, b5, b6, b7, b8, b9, ⟨gA', gc', gL'⟩, b11, b12, b13, ⟨sA', sc', sL'⟩, b15⟩
  simp only [RAid.dt, RAid.mk.injEq, GRow.mk.injEq, SRow.mk.injEq, true_and] at e
  obtain ⟨rfl, rfl, rfl, rfl, rfl, rfl, rfl, rfl, rfl, rfl, rfl, rfl, rfl, rfl, rfl, rfl⟩ := e
  dsimp only at e1 e2
  subst e1 e2
  exact ⟨⟨q1, q2, q3, q4, q5, q6⟩, ⟨h1.sl, q7⟩, ⟨h2.sl, q8, q9⟩⟩
theorem Own.sets {g : Nat} {t : TypeId} {N : Nat} : ∀ (us : List Value) (i : Nat) (xs : List Value) (w : World), Own w g t N xs → i = xs.length → i + us.length ≤ N → Own (w.setCells g i us) g t N (xs ++ us)
  | [], _, xs, w, h, _, _ => by rw [List.append_nil]; exact h
  | v :: r, i, xs, w, h, hi, hN => by
    have h1 := Own.set h hi (by simp at hN; omega) v
    have := Own.sets r (i + 1) (xs ++ [v]) _ h1 (by simp; omega) (by simp at hN ⊢; omega)
    rw [List.append_assoc] at this
    exact this
theorem Own.there {w : World} {g : Nat} {t : TypeId} {N : Nat} {xs : List Value} (h : Own w g t N xs) (i m : Nat) (hm : i + m ≤ N) : w.there g i m := fun j hj => by
  obtain ⟨v, hv⟩ := h.cell (i := i + j) (by omega)
  exact ⟨by rw [hv]; rfl, h.frozen _⟩
theorem Fresh.sets {lo g : Nat} {a : RAid} (hg : g < lo) (vs : List Value) (o : Nat) (w : World) (h : Fresh w lo a) : Fresh (w.setCells g o vs) lo a := by
  obtain ⟨b, s, e, h1, h2⟩ := h
  exact ⟨b, s, e, AtB.sets hg _ _ _ h1, AtB.sets hg _ _ _ h2⟩
set_option maxHeartbeats 6400000 in
theorem toNotice_any (n : RNotice) (B : Nat) (w : World) (ok : n.a.ok w B) (hB : B ≤ w.heap.size) (hl : n.a.fits) : Calls Try.prog 17 #[.agg #[.int .i64 n.f0, .int .i64 n.f1, .int .i64 n.f2, .int .i64 n.f3, .int .i64 n.a.n, .string n.a.name, .int .i64 n.a.x, .int .i64 n.a.y, .int .i64 n.a.h, .int .i64 n.a.md, .string n.a.mc, .string n.a.ms, .string n.a.mt, .int .i64 n.a.lk, .slice n.a.g.A n.a.g.L.length n.a.g.c, .string n.a.ll, .string n.a.lc, .int .i64 n.a.lp, .slice n.a.s.A n.a.s.L.length n.a.s.c, .int .i64 n.a.i]] w fun e w' => ∃ g : Nat, AtB w' w.heap.size g (ints n.a.g.L) ∧ ∃ s : Nat, AtB w' w.heap.size s (flat RSector.cells n.a.s.L) ∧ e = .returned (.agg #[.int .i64 n.f0, .int .i64 n.f1, .int .i64 n.f2, .int .i64 n.f3, .int .i64 n.a.n, .string n.a.name, .int .i64 n.a.x, .int .i64 n.a.y, .int .i64 n.a.h, .int .i64 n.a.md, .string n.a.mc, .string n.a.ms, .string n.a.mt, .int .i64 n.a.lk, .slice (some ⟨g, 0, none⟩) n.a.g.L.length n.a.g.L.length, .string n.a.ll, .string n.a.lc, .int .i64 n.a.lp, .slice (some ⟨s, 0, none⟩) n.a.s.L.length n.a.s.L.length, .int .i64 n.a.i]) ∧ Below w.heap.size w w' := by
  have ok' := Lib.hid ok
  clear ok
  go_enter Try.func17, Try.ntmps17
  go_upto_region 6 with fail
  refine wp_atN ?_
  intro wa hwa
  have hP : Blk wa w.heap.size #[.int .i64 n.f0, .int .i64 n.f1, .int .i64 n.f2, .int .i64 n.f3, .int .i64 n.a.n, .string n.a.name, .int .i64 n.a.x, .int .i64 n.a.y, .int .i64 n.a.h, .int .i64 n.a.md, .string n.a.mc, .string n.a.ms, .string n.a.mt, .int .i64 n.a.lk, .slice n.a.g.A n.a.g.L.length n.a.g.c, .string n.a.ll, .string n.a.lc, .int .i64 n.a.lp, .slice n.a.s.A n.a.s.L.length n.a.s.c, .int .i64 n.a.i] 47 := by rw [hwa]; exact (Blk.new _ _ _).on (by go_grown)
  have hR : Blk wa (w.heap.size + 1) #[.int .i64 0, .int .i64 0, .int .i64 0, .int .i64 0, .int .i64 0, .string ⟨#[]⟩, .int .i64 0, .int .i64 0, .int .i64 0, .int .i64 0, .string ⟨#[]⟩, .string ⟨#[]⟩, .string ⟨#[]⟩, .int .i64 0, .slice none 0 0, .string ⟨#[]⟩, .string ⟨#[]⟩, .int .i64 0, .slice none 0 0, .int .i64 0] 55 := by rw [hwa]; have := Blk.new (w.alloc (.cells #[.int .i64 n.f0, .int .i64 n.f1, .int .i64 n.f2, .int .i64 n.f3, .int .i64 n.a.n, .string n.a.name, .int .i64 n.a.x, .int .i64 n.a.y, .int .i64 n.a.h, .int .i64 n.a.md, .string n.a.mc, .string n.a.ms, .string n.a.mt, .int .i64 n.a.lk, .slice n.a.g.A n.a.g.L.length n.a.g.c, .string n.a.ll, .string n.a.lc, .int .i64 n.a.lp, .slice n.a.s.A n.a.s.L.length n.a.s.c, .int .i64 n.a.i] 47)) #[.int .i64 0, .int .i64 0, .int .i64 0, .int .i64 0, .int .i64 0, .string ⟨#[]⟩, .int .i64 0, .int .i64 0, .int .i64 0, .int .i64 0, .string ⟨#[]⟩, .string ⟨#[]⟩, .string ⟨#[]⟩, .int .i64 0, .slice none 0 0, .string ⟨#[]⟩, .string ⟨#[]⟩, .int .i64 0, .slice none 0 0, .int .i64 0] 55; rw [World.size_alloc] at this; exact this.on (by go_grown)
  have hO : Blk wa (w.heap.size + 1 + 1) #[.int .i64 n.f0, .int .i64 n.f1, .int .i64 n.f2, .int .i64 n.f3, .int .i64 0, .string ⟨#[]⟩, .int .i64 0, .int .i64 0, .int .i64 0, .int .i64 0, .string ⟨#[]⟩, .string ⟨#[]⟩, .string ⟨#[]⟩, .int .i64 0, .slice none 0 0, .string ⟨#[]⟩, .string ⟨#[]⟩, .int .i64 0, .slice none 0 0, .int .i64 0] 55 := by rw [hwa]; have := Blk.new ((w.alloc (.cells #[.int .i64 n.f0, .int .i64 n.f1, .int .i64 n.f2, .int .i64 n.f3, .int .i64 n.a.n, .string n.a.name, .int .i64 n.a.x, .int .i64 n.a.y, .int .i64 n.a.h, .int .i64 n.a.md, .string n.a.mc, .string n.a.ms, .string n.a.mt, .int .i64 n.a.lk, .slice n.a.g.A n.a.g.L.length n.a.g.c, .string n.a.ll, .string n.a.lc, .int .i64 n.a.lp, .slice n.a.s.A n.a.s.L.length n.a.s.c, .int .i64 n.a.i] 47)).alloc (.cells #[.int .i64 0, .int .i64 0, .int .i64 0, .int .i64 0, .int .i64 0, .string ⟨#[]⟩, .int .i64 0, .int .i64 0, .int .i64 0, .int .i64 0, .string ⟨#[]⟩, .string ⟨#[]⟩, .string ⟨#[]⟩, .int .i64 0, .slice none 0 0, .string ⟨#[]⟩, .string ⟨#[]⟩, .int .i64 0, .slice none 0 0, .int .i64 0] 55)) #[.int .i64 n.f0, .int .i64 n.f1, .int .i64 n.f2, .int .i64 n.f3, .int .i64 0, .string ⟨#[]⟩, .int .i64 0, .int .i64 0, .int .i64 0, .int .i64 0, .string ⟨#[]⟩, .string ⟨#[]⟩, .string ⟨#[]⟩, .int .i64 0, .slice none 0 0, .string ⟨#[]⟩, .string ⟨#[]⟩, .int .i64 0, .slice none 0 0, .int .i64 0] 55; simp only [World.size_alloc] at this; exact this
  have hBa : Below w.heap.size w wa := by rw [hwa]; go_grown
  clear hwa
  have hz := hO.lt
  have hld : wa.rangeAt w.heap.size 4 [.int .i64 n.a.n, .string n.a.name, .int .i64 n.a.x, .int .i64 n.a.y, .int .i64 n.a.h, .int .i64 n.a.md, .string n.a.mc, .string n.a.ms, .string n.a.mt, .int .i64 n.a.lk, .slice n.a.g.A n.a.g.L.length n.a.g.c, .string n.a.ll, .string n.a.lc, .int .i64 n.a.lp, .slice n.a.s.A n.a.s.L.length n.a.s.c, .int .i64 n.a.i] := range_sub hP.range 4
  have hoa := Lib.hid (RAid.ok_below (ok'.out) (hBa.mono hB))
  go_upto_region 7 with (first | (refine wpList_load_mid (by rfl) 45 _ (by rfl) (w.heap.size) (4) (by rfl) [.int .i64 n.a.n, .string n.a.name, .int .i64 n.a.x, .int .i64 n.a.y, .int .i64 n.a.h, .int .i64 n.a.md, .string n.a.mc, .string n.a.ms, .string n.a.mt, .int .i64 n.a.lk, .slice n.a.g.A n.a.g.L.length n.a.g.c, .string n.a.ll, .string n.a.lc, .int .i64 n.a.lp, .slice n.a.s.A n.a.s.L.length n.a.s.c, .int .i64 n.a.i] (.struct _) hld Try.underlying45 rfl (by kernel_rfl) ?_) | (go_at_call 33; refine (toAid_any n.a B _ hoa.out (Nat.le_trans hB hBa.size) hl).mono ?_; rintro e w1 ⟨g, hag, s, has, rfl, hb⟩; have hth : w1.there (w.heap.size + 1 + 1) 4 16 := there_sub (hO.on hb).there 4 16 (by simp)) | (refine wpList_store_mid (by rfl) 53 _ _ (by rfl) (w.heap.size + 1 + 1) (4) #[.int .i64 n.a.n, .string n.a.name, .int .i64 n.a.x, .int .i64 n.a.y, .int .i64 n.a.h, .int .i64 n.a.md, .string n.a.mc, .string n.a.ms, .string n.a.mt, .int .i64 n.a.lk, .slice (some ⟨g, 0, none⟩) n.a.g.L.length n.a.g.L.length, .string n.a.ll, .string n.a.lc, .int .i64 n.a.lp, .slice (some ⟨s, 0, none⟩) n.a.s.L.length n.a.s.L.length, .int .i64 n.a.i] (by rfl) (by rfl) hth (by kernel_rfl) (by simp [Value.oneCell']) ?_; refine wpl_at ?_; intro wb hw; have hwb := Lib.hid hw; clear hw))
  have hsz := hb.size
  have hRb : wb.there (w.heap.size + 1) 0 20 := by rw [hwb.out]; exact World.there_setCells (hR.on hb).there _ _ _
  have hOb : wb.rangeAt (w.heap.size + 1 + 1) 0 [.int .i64 n.f0, .int .i64 n.f1, .int .i64 n.f2, .int .i64 n.f3, .int .i64 n.a.n, .string n.a.name, .int .i64 n.a.x, .int .i64 n.a.y, .int .i64 n.a.h, .int .i64 n.a.md, .string n.a.mc, .string n.a.ms, .string n.a.mt, .int .i64 n.a.lk, .slice (some ⟨g, 0, none⟩) n.a.g.L.length n.a.g.L.length, .string n.a.ll, .string n.a.lc, .int .i64 n.a.lp, .slice (some ⟨s, 0, none⟩) n.a.s.L.length n.a.s.L.length, .int .i64 n.a.i] := by rw [hwb.out]; exact range_app (xs := [.int .i64 n.f0, .int .i64 n.f1, .int .i64 n.f2, .int .i64 n.f3]) (World.rangeAt_setCells_apart (fun j v hv => (hO.on hb).range j v (by match j, hv with | 0, hv => exact hv | 1, hv => exact hv | 2, hv => exact hv | 3, hv => exact hv)) _ _ _ (Or.inr (Or.inl (by simp)))) (World.rangeAt_setCells_same _ _ _ _ hth) rfl
  have hBb : Below w.heap.size w wb := by rw [hwb.out]; exact below_cells (by omega) _ _ _ (bnext hBa hb)
  have hagb : AtB wb (w.heap.size + 1 + 1 + 1) g (ints n.a.g.L) := by rw [hwb.out]; exact AtB.sets (by omega) _ _ _ (hag.less (by omega))
  have hasb : AtB wb (w.heap.size + 1 + 1 + 1) s (flat RSector.cells n.a.s.L) := by rw [hwb.out]; exact AtB.sets (by omega) _ _ _ (has.less (by omega))
  clear hwb hth hP hR hO hld hag has hb
  go_wp2_with (first | (refine wpList_load_mid (by rfl) 55 _ (by rfl) (w.heap.size + 1 + 1) (0) (by rfl) [.int .i64 n.f0, .int .i64 n.f1, .int .i64 n.f2, .int .i64 n.f3, .int .i64 n.a.n, .string n.a.name, .int .i64 n.a.x, .int .i64 n.a.y, .int .i64 n.a.h, .int .i64 n.a.md, .string n.a.mc, .string n.a.ms, .string n.a.mt, .int .i64 n.a.lk, .slice (some ⟨g, 0, none⟩) n.a.g.L.length n.a.g.L.length, .string n.a.ll, .string n.a.lc, .int .i64 n.a.lp, .slice (some ⟨s, 0, none⟩) n.a.s.L.length n.a.s.L.length, .int .i64 n.a.i] (.struct _) hOb Try.underlying55 rfl (by kernel_rfl) ?_) | (refine wpList_store_mid (by rfl) 55 _ _ (by rfl) (w.heap.size + 1) (0) #[.int .i64 n.f0, .int .i64 n.f1, .int .i64 n.f2, .int .i64 n.f3, .int .i64 n.a.n, .string n.a.name, .int .i64 n.a.x, .int .i64 n.a.y, .int .i64 n.a.h, .int .i64 n.a.md, .string n.a.mc, .string n.a.ms, .string n.a.mt, .int .i64 n.a.lk, .slice (some ⟨g, 0, none⟩) n.a.g.L.length n.a.g.L.length, .string n.a.ll, .string n.a.lc, .int .i64 n.a.lp, .slice (some ⟨s, 0, none⟩) n.a.s.L.length n.a.s.L.length, .int .i64 n.a.i] (by rfl) (by rfl) hRb (by kernel_rfl) (by simp [Value.oneCell']) ?_; refine wpl_at ?_; intro wf hw; have hwf := Lib.hid hw; clear hw))
  have hRf : wf.rangeAt (w.heap.size + 1) 0 [.int .i64 n.f0, .int .i64 n.f1, .int .i64 n.f2, .int .i64 n.f3, .int .i64 n.a.n, .string n.a.name, .int .i64 n.a.x, .int .i64 n.a.y, .int .i64 n.a.h, .int .i64 n.a.md, .string n.a.mc, .string n.a.ms, .string n.a.mt, .int .i64 n.a.lk, .slice (some ⟨g, 0, none⟩) n.a.g.L.length n.a.g.L.length, .string n.a.ll, .string n.a.lc, .int .i64 n.a.lp, .slice (some ⟨s, 0, none⟩) n.a.s.L.length n.a.s.L.length, .int .i64 n.a.i] := by rw [hwf.out]; exact World.rangeAt_setCells_same _ _ _ _ hRb
  have hBf : Below w.heap.size w wf := by rw [hwf.out]; exact below_cells (by omega) _ _ _ hBb
  have hagf : AtB wf (w.heap.size + 1 + 1 + 1) g (ints n.a.g.L) := by rw [hwf.out]; exact AtB.sets (by omega) _ _ _ hagb
  have hasf : AtB wf (w.heap.size + 1 + 1 + 1) s (flat RSector.cells n.a.s.L) := by rw [hwf.out]; exact AtB.sets (by omega) _ _ _ hasb
  clear hwf hOb hRb
  refine bodyPost_ret (results_cell rfl (by rfl) (run_loadVar_mid wf (w.heap.size + 1) 0 55 [.int .i64 n.f0, .int .i64 n.f1, .int .i64 n.f2, .int .i64 n.f3, .int .i64 n.a.n, .string n.a.name, .int .i64 n.a.x, .int .i64 n.a.y, .int .i64 n.a.h, .int .i64 n.a.md, .string n.a.mc, .string n.a.ms, .string n.a.mt, .int .i64 n.a.lk, .slice (some ⟨g, 0, none⟩) n.a.g.L.length n.a.g.L.length, .string n.a.ll, .string n.a.lc, .int .i64 n.a.lp, .slice (some ⟨s, 0, none⟩) n.a.s.L.length n.a.s.L.length, .int .i64 n.a.i] (.struct _) hRf Try.underlying55 rfl (by kernel_rfl))) rfl ?_
  exact ⟨g, hagf.less (by omega), s, hasf.less (by omega), rfl, hBf⟩
def FreshN (w : World) (lo : Nat) (R : List RNotice) : Prop := ∀ r ∈ R, Fresh w lo r.a
theorem FreshN.on {w w' : World} {lo : Nat} {R : List RNotice} (h : FreshN w lo R) (hb : Below w.heap.size w w') : FreshN w' lo R := fun r hr => (h r hr).on hb
theorem FreshN.sets {lo g : Nat} {R : List RNotice} (hg : g < lo) (vs : List Value) (o : Nat) (w : World) (h : FreshN w lo R) : FreshN (w.setCells g o vs) lo R := fun r hr => Fresh.sets hg vs o w (h r hr)
theorem FreshN.snoc {w : World} {lo : Nat} {R : List RNotice} {n : RNotice} (h : FreshN w lo R) (h2 : Fresh w lo n.a) : FreshN w lo (R ++ [n]) := fun r hr => by
  rcases List.mem_append.1 hr with h1 | h1
  · exact h r h1
  · rw [List.mem_singleton] at h1; rw [h1]; exact h2
def dts (L : List RNotice) : List RNotice := L.map RNotice.dt
theorem dts_take {L : List RNotice} {k : Nat} (h : k < L.length) : (dts L).take (k + 1) = (dts L).take k ++ [(L[k]).dt] := by
  unfold dts
  rw [List.take_succ_eq_append_getElem (by simpa using h), List.getElem_map]
theorem dts_ok {w w0 : World} {B lo : Nat} {L R : List RNotice} (hok : okN w0 B L) (e : dts R = dts L) (h : FreshN w lo R) : okN w w.heap.size R := fun r hr => by
  have hm : r.dt ∈ dts L := by rw [← e]; exact List.mem_map.2 ⟨r, hr, rfl⟩
  obtain ⟨n, hn, en⟩ := List.mem_map.1 hm
  exact ok_of (hok n hn) (congrArg RNotice.a en).symm (h r hr)
/-- The copy of a row of notices. -/
def ToN (L : List RNotice) (w : World) (e : Ending) (w' : World) : Prop := ∃ R : List RNotice, dts R = dts L ∧ okN w' w'.heap.size R ∧ e = .returned (.slice (some ⟨w.heap.size, 0, none⟩) L.length L.length) ∧ Below w.heap.size w w' ∧ Sl w' w'.heap.size (some ⟨w.heap.size, 0, none⟩) (flat RNotice.cells R)

set_option maxHeartbeats 3200000 in
theorem toNoticeS_any (L : List RNotice) (A : Option Addr) (c B : Nat) (w : World) (hs : Sl w B A (flat RNotice.cells L)) (hB : B ≤ w.heap.size) (hok : okN w B L) (hf : fitsN L) : Calls Try.prog 7 #[.slice A L.length c] w (ToN L w) := by
  have hl := hf.1
  have hmk : ∀ w : World, (Instr.makeSlice 25 (.int .i64 L.length) (.int .i64 L.length)).run Try.prog w = .ok (.slice (some ⟨w.heap.size, 0, none⟩) L.length L.length) (w.alloc (.cells (madeCells #[.int .i64 0, .int .i64 0, .int .i64 0, .int .i64 0, .int .i64 0, .string ⟨#[]⟩, .int .i64 0, .int .i64 0, .int .i64 0, .int .i64 0, .string ⟨#[]⟩, .string ⟨#[]⟩, .string ⟨#[]⟩, .int .i64 0, .slice none 0 0, .string ⟨#[]⟩, .string ⟨#[]⟩, .int .i64 0, .slice none 0 0, .int .i64 0] (L.length * 20)) 55)) := fun w => made_row (by_ := 240) w Try.underlying25 (by kernel_rfl) (by kernel_rfl) L.length (by omega) (by omega)
  have hs' := Lib.hid hs
  have hok' := Lib.hid hok
  have hf' := Lib.hid hf
  clear hs hok hf
  go_enter Try.func7, Try.ntmps7
  go_wp2
  have hO : Own (w.alloc (.cells (madeCells #[.int .i64 0, .int .i64 0, .int .i64 0, .int .i64 0, .int .i64 0, .string ⟨#[]⟩, .int .i64 0, .int .i64 0, .int .i64 0, .int .i64 0, .string ⟨#[]⟩, .string ⟨#[]⟩, .string ⟨#[]⟩, .int .i64 0, .slice none 0 0, .string ⟨#[]⟩, .string ⟨#[]⟩, .int .i64 0, .slice none 0 0, .int .i64 0] (L.length * 20)) 55)) w.heap.size 55 (L.length * 20) (flat RNotice.cells []) := own_made w _ _ RNotice.cells []
  have hB0 : Below w.heap.size w (w.alloc (.cells (madeCells #[.int .i64 0, .int .i64 0, .int .i64 0, .int .i64 0, .int .i64 0, .string ⟨#[]⟩, .int .i64 0, .int .i64 0, .int .i64 0, .int .i64 0, .string ⟨#[]⟩, .string ⟨#[]⟩, .string ⟨#[]⟩, .int .i64 0, .slice none 0 0, .string ⟨#[]⟩, .string ⟨#[]⟩, .int .i64 0, .slice none 0 0, .int .i64 0] (L.length * 20)) 55)) := by go_grown
  clear hmk
  go_loopw [4] (fun i wr => ∃ (k : Nat) (R : List RNotice), i = .int .i64 k ∧ k ≤ L.length ∧ R.length = k ∧ dts R = (dts L).take k ∧ Below w.heap.size w wr ∧ Own wr w.heap.size 55 (L.length * 20) (flat RNotice.cells R) ∧ FreshN wr (w.heap.size + 1) R) (fun i _ => L.length - (intOf i).toNat)
  case atStart => exact ⟨0, [], rfl, Nat.zero_le _, rfl, rfl, hB0, hO, (fun r hr => by cases hr)⟩
  case round =>
    clear hB0 hO
    obtain ⟨k, R, rfl, hk, hlk, hll, hB1, hO, hfr⟩ := hrel
    have hsz := hO.lt
    have HLK := Lib.hid hlk
    clear hlk
    by_cases hlt : k < L.length
    · obtain ⟨b, o, rfl, hb, he⟩ := Sl.elem RNotice.len (by decide) (hs'.out.below (hB1.mono hB)) hlt
      have hoa := Lib.hid (hok'.out.at (hB1.mono hB) hlt)
      have hft := Lib.hid (hf'.out.2 _ (List.getElem_mem hlt))
      have hst := Lib.hid (dts_take hlt)
      have hrg : wr.rangeAt b (o + k * 20) (L[k]).cells := fun j v hv => by have := he j v hv; rwa [← Nat.add_assoc] at this
      obtain ⟨n, hnn⟩ : ∃ n, L[k] = n := ⟨_, rfl⟩
      rw [hnn] at hst hoa hrg hft
      clear he hnn
      have hld : wr.rangeAt b (o + k * 20) [.int .i64 n.f0, .int .i64 n.f1, .int .i64 n.f2, .int .i64 n.f3, .int .i64 n.a.n, .string n.a.name, .int .i64 n.a.x, .int .i64 n.a.y, .int .i64 n.a.h, .int .i64 n.a.md, .string n.a.mc, .string n.a.ms, .string n.a.mt, .int .i64 n.a.lk, .slice n.a.g.A n.a.g.L.length n.a.g.c, .string n.a.ll, .string n.a.lc, .int .i64 n.a.lp, .slice n.a.s.A n.a.s.L.length n.a.s.c, .int .i64 n.a.i] := hrg
      have hkn : k * 20 + 20 ≤ L.length * 20 := by omega
      clear hrg
      go_wp2_with (first | (refine wpList_load_mid (by rfl) 47 _ (by rfl) (b) (o + k * 20) (by rfl) [.int .i64 n.f0, .int .i64 n.f1, .int .i64 n.f2, .int .i64 n.f3, .int .i64 n.a.n, .string n.a.name, .int .i64 n.a.x, .int .i64 n.a.y, .int .i64 n.a.h, .int .i64 n.a.md, .string n.a.mc, .string n.a.ms, .string n.a.mt, .int .i64 n.a.lk, .slice n.a.g.A n.a.g.L.length n.a.g.c, .string n.a.ll, .string n.a.lc, .int .i64 n.a.lp, .slice n.a.s.A n.a.s.L.length n.a.s.c, .int .i64 n.a.i] (.struct _) hld Try.underlying47 rfl (by kernel_rfl) ?_) | (go_at_call 17; refine (toNotice_any n B _ hoa.out (Nat.le_trans hB hB1.size) hft.out).mono ?_; rintro e w1 ⟨g, hag, s, has, rfl, hb1⟩; have hO1 := hO.on hb1; have hth : w1.there w.heap.size (k * 20) 20 := hO1.there (k * 20) 20 hkn) | (refine wpList_store_mid (by rfl) 55 _ _ (by rfl) (w.heap.size) (k * 20) #[.int .i64 n.f0, .int .i64 n.f1, .int .i64 n.f2, .int .i64 n.f3, .int .i64 n.a.n, .string n.a.name, .int .i64 n.a.x, .int .i64 n.a.y, .int .i64 n.a.h, .int .i64 n.a.md, .string n.a.mc, .string n.a.ms, .string n.a.mt, .int .i64 n.a.lk, .slice (some ⟨g, 0, none⟩) n.a.g.L.length n.a.g.L.length, .string n.a.ll, .string n.a.lc, .int .i64 n.a.lp, .slice (some ⟨s, 0, none⟩) n.a.s.L.length n.a.s.L.length, .int .i64 n.a.i] (by rfl) (by rfl) hth (by kernel_rfl) (by simp [Value.oneCell']) ?_; refine wpl_at ?_; intro wf hw; have hwf := Lib.hid hw; clear hw))
      have hflen : (flat RNotice.cells R).length = k * 20 := by rw [flat_len RNotice.len, HLK.out]
      have hO2 : Own wf w.heap.size 55 (L.length * 20) (flat RNotice.cells (R ++ [copN n g s])) := by
        rw [hwf.out, flat_snoc]
        exact Own.sets _ _ _ _ hO1 hflen.symm (by exact hkn)
      have hBf : Below w.heap.size w wf := by rw [hwf.out]; exact below_cells (Nat.le_refl _) _ _ _ (bnext hB1 hb1)
      have hfr2 : FreshN wf (w.heap.size + 1) (R ++ [copN n g s]) := by
        rw [hwf.out]
        exact FreshN.sets (by omega) _ _ _ ((hfr.on hb1).snoc (Fresh.mk' (hag.less (by omega)) (has.less (by omega))))
      go_roundw
      case rel => exact ⟨k + 1, R ++ [copN n g s], by go_num, by omega, by rw [List.length_append, HLK.out]; rfl, by rw [hst.out, ← hll]; unfold dts; rw [List.map_append]; rfl, hBf, hO2, hfr2⟩
      case measure => simp [intOf]; omega
    · obtain rfl : k = L.length := by omega
      have hll2 : dts R = dts L := by rw [hll, show L.length = (dts L).length by simp [dts], List.take_length]
      have hall := dts_ok hok'.out hll2 hfr
      have hsl := (hO.sl).more (B' := wr.heap.size) (by omega)
      go_wp2
      go_ret
      exact ⟨R, hll2, hall, rfl, hB1, hsl⟩
end Go.Proofs.Ythjkkidcpidgdaa
