/-
  Contracts of the copies of aids and notices that the laws make. Each under the conditions that it states.
-/
import Derived.Test.YthjkkidcpidgdaaNotS
import Derived.Deep.MidRow
set_option linter.unusedVariables false
set_option linter.unnecessarySimpa false
set_option maxRecDepth 100000
set_option linter.unusedSimpArgs false
namespace Go.Proofs.Ythjkkidcpidgdaa
open Go.RowKit BigFrame Go.Deep


/-- A block as a whole. -/
def Blk (w : World) (g : Nat) (cs : Array Value) (t : TypeId) : Prop := w.heap[g]? = some (.cells cs t (0, 0))
theorem Blk.lt {w : World} {g : Nat} {cs : Array Value} {t : TypeId} (h : Blk w g cs t) : g < w.heap.size := (Array.getElem?_eq_some_iff.1 h).1
theorem Blk.on {w w' : World} {g : Nat} {cs : Array Value} {t : TypeId} (h : Blk w g cs t) (hb : Below w.heap.size w w') : Blk w' g cs t := (hb.block g h.lt).trans h
theorem Blk.cell {w : World} {g k : Nat} {cs : Array Value} {t : TypeId} {v : Value} (h : Blk w g cs t) (hk : cs[k]? = some v) : w.cell? ⟨g, k, none⟩ = some v := by
  unfold Blk at h
  simp [World.cell?, h, hk]
theorem Blk.frozen {w : World} {g : Nat} {cs : Array Value} {t : TypeId} (h : Blk w g cs t) (k : Nat) : w.frozen? ⟨g, k, none⟩ = false := by
  unfold Blk at h
  simp [World.frozen?, h]
theorem Blk.new (w : World) (cs : Array Value) (t : TypeId) : Blk (w.alloc (.cells cs t)) w.heap.size cs t := heap_alloc_new w _
theorem Blk.set {w : World} {g k : Nat} {cs : Array Value} {t : TypeId} {v : Value} (h : Blk w g cs t) : Blk (w.setCell ⟨g, k, none⟩ v) g (cs.setIfInBounds k v) t := by
  unfold Blk at h ⊢
  simp [World.setCell, Array.getElem?_modify, h]
theorem Blk.far {w : World} {g g2 k : Nat} {cs : Array Value} {t : TypeId} {v : Value} (h : Blk w g cs t) (hne : g2 ≠ g) : Blk (w.setCell ⟨g2, k, none⟩ v) g cs t := by
  unfold Blk at h ⊢
  simp [World.setCell, Array.getElem?_modify, h, hne]
theorem Blk.range {w : World} {g : Nat} {cs : Array Value} {t : TypeId} (h : Blk w g cs t) : w.rangeAt g 0 cs.toList := fun j v hv => by
  rw [Nat.zero_add]
  exact h.cell (by simpa using hv)
theorem Blk.there {w : World} {g : Nat} {cs : Array Value} {t : TypeId} (h : Blk w g cs t) : w.there g 0 cs.size := fun j hj => by
  rw [Nat.zero_add]
  exact ⟨by rw [h.cell (Array.getElem?_eq_getElem hj)]; rfl, h.frozen _⟩
theorem range_sub {w : World} {b o : Nat} {cs : List Value} (h : w.rangeAt b o cs) (k : Nat) : w.rangeAt b (o + k) (cs.drop k) := fun j v hv => by
  rw [List.getElem?_drop] at hv
  have := h (k + j) v hv
  rwa [← Nat.add_assoc] at this
theorem there_sub {w : World} {b o n : Nat} (h : w.there b o n) (k m : Nat) (hk : k + m ≤ n) : w.there b (o + k) m := fun j hj => by
  have := h (k + j) (by omega)
  rwa [← Nat.add_assoc] at this
theorem below_cells {B g : Nat} {a : World} (hg : B ≤ g) : ∀ (vs : List Value) (o : Nat) (w : World), Below B a w → Below B a (w.setCells g o vs)
  | [], _, _, h => h
  | v :: r, o, w, h => below_cells hg r (o + 1) _ (h.setCell hg v)
theorem AtB.sets {lo b g : Nat} {xs : List Value} (hg : g < lo) : ∀ (vs : List Value) (o : Nat) (w : World), AtB w lo b xs → AtB (w.setCells g o vs) lo b xs
  | [], _, _, h => h
  | v :: r, o, w, h => AtB.sets hg r (o + 1) _ (h.set hg)
theorem range_on {w w' : World} {b o : Nat} {cs : List Value} (h : w.rangeAt b o cs) (hlt : b < w.heap.size) (hb : Below w.heap.size w w') : w'.rangeAt b o cs := fun j v hv => (hb.cell (p := ⟨b, o + j, none⟩) hlt).trans (h j v hv)
theorem there_on {w w' : World} {b o n : Nat} (h : w.there b o n) (hlt : b < w.heap.size) (hb : Below w.heap.size w w') : w'.there b o n := fun j hj => by
  have h1 := hb.cell (p := ⟨b, o + j, none⟩) hlt
  have h2 := hb.frozen (p := ⟨b, o + j, none⟩) hlt
  exact ⟨by rw [h1]; exact (h j hj).1, by rw [h2]; exact (h j hj).2⟩
theorem wpl_at {P : Program} {ops : Array Oper} {l : List Oper} {a : Act} {Q : Exit → Act → World → Prop} {W : World} (h : ∀ wf, wf = W → wpList P ops Q l a wf) : wpList P ops Q l a W := h W rfl
def cop (a : RAid) (g s : Nat) : RAid := { a with g := ⟨some ⟨g, 0, none⟩, a.g.L.length, a.g.L⟩, s := ⟨some ⟨s, 0, none⟩, a.s.L.length, a.s.L⟩ }
/-- What a copied aid holds lies in blocks that are not elder than lo. -/
def Fresh (w : World) (lo : Nat) (a : RAid) : Prop := ∃ g s : Nat, (a.g.A = some ⟨g, 0, none⟩ ∧ a.s.A = some ⟨s, 0, none⟩) ∧ AtB w lo g (ints a.g.L) ∧ AtB w lo s (flat RSector.cells a.s.L)
theorem Fresh.on {w w' : World} {lo : Nat} {a : RAid} (h : Fresh w lo a) (hb : Below w.heap.size w w') : Fresh w' lo a := by
  obtain ⟨g, s, e, h1, h2⟩ := h
  exact ⟨g, s, e, h1.on hb, h2.on hb⟩
theorem Fresh.set {w : World} {lo g k : Nat} {a : RAid} {v : Value} (h : Fresh w lo a) (hg : g < lo) : Fresh (w.setCell ⟨g, k, none⟩ v) lo a := by
  obtain ⟨b, s, e, h1, h2⟩ := h
  exact ⟨b, s, e, h1.set hg, h2.set hg⟩
theorem Fresh.less {w : World} {lo lo' : Nat} {a : RAid} (h : Fresh w lo a) (hl : lo' ≤ lo) : Fresh w lo' a := by
  obtain ⟨b, s, e, h1, h2⟩ := h
  exact ⟨b, s, e, h1.less hl, h2.less hl⟩

set_option maxHeartbeats 6400000 in
theorem toAid_any (a : RAid) (B : Nat) (w : World) (ok : a.ok w B) (hB : B ≤ w.heap.size) (hl : a.fits) : Calls Try.prog 33 #[.agg #[.int .i64 a.n, .string a.name, .int .i64 a.x, .int .i64 a.y, .int .i64 a.h, .int .i64 a.md, .string a.mc, .string a.ms, .string a.mt, .int .i64 a.lk, .slice a.g.A a.g.L.length a.g.c, .string a.ll, .string a.lc, .int .i64 a.lp, .slice a.s.A a.s.L.length a.s.c, .int .i64 a.i]] w fun e w' => ∃ g : Nat, AtB w' w.heap.size g (ints a.g.L) ∧ ∃ s : Nat, AtB w' w.heap.size s (flat RSector.cells a.s.L) ∧ e = .returned (.agg #[.int .i64 a.n, .string a.name, .int .i64 a.x, .int .i64 a.y, .int .i64 a.h, .int .i64 a.md, .string a.mc, .string a.ms, .string a.mt, .int .i64 a.lk, .slice (some ⟨g, 0, none⟩) a.g.L.length a.g.L.length, .string a.ll, .string a.lc, .int .i64 a.lp, .slice (some ⟨s, 0, none⟩) a.s.L.length a.s.L.length, .int .i64 a.i]) ∧ Below w.heap.size w w' := by
  have hg' := Lib.hid ok.2.1.1
  have hs' := Lib.hid ok.2.2.1
  clear ok
  go_enter Try.func33, Try.ntmps33
  go_upto_region 4 with fail
  refine wp_atN ?_
  intro wa hwa
  have hP0 : Blk wa w.heap.size #[.int .i64 a.n, .string a.name, .int .i64 a.x, .int .i64 a.y, .int .i64 a.h, .int .i64 a.md, .string a.mc, .string a.ms, .string a.mt, .int .i64 a.lk, .slice a.g.A a.g.L.length a.g.c, .string a.ll, .string a.lc, .int .i64 a.lp, .slice a.s.A a.s.L.length a.s.c, .int .i64 a.i] 45 := by rw [hwa]; exact (Blk.new _ _ _).on (by go_grown)
  have hR0 : Blk wa (w.heap.size + 1) #[.int .i64 0, .string ⟨#[]⟩, .int .i64 0, .int .i64 0, .int .i64 0, .int .i64 0, .string ⟨#[]⟩, .string ⟨#[]⟩, .string ⟨#[]⟩, .int .i64 0, .slice none 0 0, .string ⟨#[]⟩, .string ⟨#[]⟩, .int .i64 0, .slice none 0 0, .int .i64 0] 53 := by rw [hwa]; have := Blk.new (w.alloc (.cells #[.int .i64 a.n, .string a.name, .int .i64 a.x, .int .i64 a.y, .int .i64 a.h, .int .i64 a.md, .string a.mc, .string a.ms, .string a.mt, .int .i64 a.lk, .slice a.g.A a.g.L.length a.g.c, .string a.ll, .string a.lc, .int .i64 a.lp, .slice a.s.A a.s.L.length a.s.c, .int .i64 a.i] 45)) #[.int .i64 0, .string ⟨#[]⟩, .int .i64 0, .int .i64 0, .int .i64 0, .int .i64 0, .string ⟨#[]⟩, .string ⟨#[]⟩, .string ⟨#[]⟩, .int .i64 0, .slice none 0 0, .string ⟨#[]⟩, .string ⟨#[]⟩, .int .i64 0, .slice none 0 0, .int .i64 0] 53; rw [World.size_alloc] at this; exact this.on (by go_grown)
  have hO0 : Blk wa (w.heap.size + 1 + 1) #[.int .i64 a.n, .string a.name, .int .i64 0, .int .i64 0, .int .i64 0, .int .i64 0, .string ⟨#[]⟩, .string ⟨#[]⟩, .string ⟨#[]⟩, .int .i64 0, .slice none 0 0, .string ⟨#[]⟩, .string ⟨#[]⟩, .int .i64 0, .slice none 0 0, .int .i64 0] 53 := by rw [hwa]; have := Blk.new ((w.alloc (.cells #[.int .i64 a.n, .string a.name, .int .i64 a.x, .int .i64 a.y, .int .i64 a.h, .int .i64 a.md, .string a.mc, .string a.ms, .string a.mt, .int .i64 a.lk, .slice a.g.A a.g.L.length a.g.c, .string a.ll, .string a.lc, .int .i64 a.lp, .slice a.s.A a.s.L.length a.s.c, .int .i64 a.i] 45)).alloc (.cells #[.int .i64 0, .string ⟨#[]⟩, .int .i64 0, .int .i64 0, .int .i64 0, .int .i64 0, .string ⟨#[]⟩, .string ⟨#[]⟩, .string ⟨#[]⟩, .int .i64 0, .slice none 0 0, .string ⟨#[]⟩, .string ⟨#[]⟩, .int .i64 0, .slice none 0 0, .int .i64 0] 53)) #[.int .i64 a.n, .string a.name, .int .i64 0, .int .i64 0, .int .i64 0, .int .i64 0, .string ⟨#[]⟩, .string ⟨#[]⟩, .string ⟨#[]⟩, .int .i64 0, .slice none 0 0, .string ⟨#[]⟩, .string ⟨#[]⟩, .int .i64 0, .slice none 0 0, .int .i64 0] 53; simp only [World.size_alloc] at this; exact this
  have hB0 : Below w.heap.size w wa := by rw [hwa]; go_grown
  clear hwa
  have hz0 := hO0.lt
  have p2 := hP0.cell (k := 2) (v := .int .i64 a.x) rfl
  have p3 := hP0.cell (k := 3) (v := .int .i64 a.y) rfl
  have p4 := hP0.cell (k := 4) (v := .int .i64 a.h) rfl
  go_wp2_with fail
  refine (toPoint_any a.x a.y _).mono ?_
  rintro e w1 ⟨rfl, hb⟩
  have hsz := hb.size
  clear p2 p3 p4
  have hQ := hO0.on hb
  have u2 := hQ.cell (k := 2) (v := .int .i64 0) rfl
  have f2 := hQ.frozen 2
  have u3 := hQ.cell (k := 3) (v := .int .i64 0) rfl
  have f3 := hQ.frozen 3
  have u4 := hQ.cell (k := 4) (v := .int .i64 0) rfl
  have f4 := hQ.frozen 4
  have hQ2 := hP0.on hb
  have v2 := hQ2.cell (k := 2) (v := .int .i64 a.x) rfl
  have v3 := hQ2.cell (k := 3) (v := .int .i64 a.y) rfl
  have v4 := hQ2.cell (k := 4) (v := .int .i64 a.h) rfl
  clear hQ hQ2
  go_upto_region 6 with fail
  refine wp_atN ?_
  intro wb hwb
  have hP1 : Blk wb w.heap.size #[.int .i64 a.n, .string a.name, .int .i64 a.x, .int .i64 a.y, .int .i64 a.h, .int .i64 a.md, .string a.mc, .string a.ms, .string a.mt, .int .i64 a.lk, .slice a.g.A a.g.L.length a.g.c, .string a.ll, .string a.lc, .int .i64 a.lp, .slice a.s.A a.s.L.length a.s.c, .int .i64 a.i] 45 := by rw [hwb]; exact (Blk.far (Blk.far (Blk.far (hP0.on hb) (by omega)) (by omega)) (by omega))
  have hR1 : Blk wb (w.heap.size + 1) #[.int .i64 0, .string ⟨#[]⟩, .int .i64 0, .int .i64 0, .int .i64 0, .int .i64 0, .string ⟨#[]⟩, .string ⟨#[]⟩, .string ⟨#[]⟩, .int .i64 0, .slice none 0 0, .string ⟨#[]⟩, .string ⟨#[]⟩, .int .i64 0, .slice none 0 0, .int .i64 0] 53 := by rw [hwb]; exact (Blk.far (Blk.far (Blk.far (hR0.on hb) (by omega)) (by omega)) (by omega))
  have hO1 : Blk wb (w.heap.size + 1 + 1) #[.int .i64 a.n, .string a.name, .int .i64 a.x, .int .i64 a.y, .int .i64 a.h, .int .i64 0, .string ⟨#[]⟩, .string ⟨#[]⟩, .string ⟨#[]⟩, .int .i64 0, .slice none 0 0, .string ⟨#[]⟩, .string ⟨#[]⟩, .int .i64 0, .slice none 0 0, .int .i64 0] 53 := by rw [hwb]; exact (Blk.set (Blk.set (Blk.set (hO0.on hb))))
  have hB1 : Below w.heap.size w wb := by have hbn := bnext hB0 hb; rw [hwb]; go_grown
  clear hb hP0 hR0 hO0 hB0
  clear hwb
  have hz1 := hO1.lt
  have p5 := hP1.cell (k := 5) (v := .int .i64 a.md) rfl
  have p6 := hP1.cell (k := 6) (v := .string a.mc) rfl
  have p7 := hP1.cell (k := 7) (v := .string a.ms) rfl
  have p8 := hP1.cell (k := 8) (v := .string a.mt) rfl
  go_wp2_with fail
  refine (toMark_any a.md a.mc a.ms a.mt _).mono ?_
  rintro e w1 ⟨rfl, hb⟩
  have hsz := hb.size
  clear p5 p6 p7 p8
  have hQ := hO1.on hb
  have u5 := hQ.cell (k := 5) (v := .int .i64 0) rfl
  have f5 := hQ.frozen 5
  have u6 := hQ.cell (k := 6) (v := .string ⟨#[]⟩) rfl
  have f6 := hQ.frozen 6
  have u7 := hQ.cell (k := 7) (v := .string ⟨#[]⟩) rfl
  have f7 := hQ.frozen 7
  have u8 := hQ.cell (k := 8) (v := .string ⟨#[]⟩) rfl
  have f8 := hQ.frozen 8
  have hQ2 := hP1.on hb
  have v5 := hQ2.cell (k := 5) (v := .int .i64 a.md) rfl
  have v6 := hQ2.cell (k := 6) (v := .string a.mc) rfl
  have v7 := hQ2.cell (k := 7) (v := .string a.ms) rfl
  have v8 := hQ2.cell (k := 8) (v := .string a.mt) rfl
  clear hQ hQ2
  go_upto_region 7 with fail
  refine wp_atN ?_
  intro wc hwc
  have hP2 : Blk wc w.heap.size #[.int .i64 a.n, .string a.name, .int .i64 a.x, .int .i64 a.y, .int .i64 a.h, .int .i64 a.md, .string a.mc, .string a.ms, .string a.mt, .int .i64 a.lk, .slice a.g.A a.g.L.length a.g.c, .string a.ll, .string a.lc, .int .i64 a.lp, .slice a.s.A a.s.L.length a.s.c, .int .i64 a.i] 45 := by rw [hwc]; exact (Blk.far (Blk.far (Blk.far (Blk.far (hP1.on hb) (by omega)) (by omega)) (by omega)) (by omega))
  have hR2 : Blk wc (w.heap.size + 1) #[.int .i64 0, .string ⟨#[]⟩, .int .i64 0, .int .i64 0, .int .i64 0, .int .i64 0, .string ⟨#[]⟩, .string ⟨#[]⟩, .string ⟨#[]⟩, .int .i64 0, .slice none 0 0, .string ⟨#[]⟩, .string ⟨#[]⟩, .int .i64 0, .slice none 0 0, .int .i64 0] 53 := by rw [hwc]; exact (Blk.far (Blk.far (Blk.far (Blk.far (hR1.on hb) (by omega)) (by omega)) (by omega)) (by omega))
  have hO2 : Blk wc (w.heap.size + 1 + 1) #[.int .i64 a.n, .string a.name, .int .i64 a.x, .int .i64 a.y, .int .i64 a.h, .int .i64 a.md, .string a.mc, .string a.ms, .string a.mt, .int .i64 0, .slice none 0 0, .string ⟨#[]⟩, .string ⟨#[]⟩, .int .i64 0, .slice none 0 0, .int .i64 0] 53 := by rw [hwc]; exact (Blk.set (Blk.set (Blk.set (Blk.set (hO1.on hb)))))
  have hB2 : Below w.heap.size w wc := by have hbn := bnext hB1 hb; rw [hwc]; go_grown
  clear hb hP1 hR1 hO1 hB1
  clear hwc
  have hz2 := hO2.lt
  have p9 := hP2.cell (k := 9) (v := .int .i64 a.lk) rfl
  have p10 := hP2.cell (k := 10) (v := .slice a.g.A a.g.L.length a.g.c) rfl
  have p11 := hP2.cell (k := 11) (v := .string a.ll) rfl
  have p12 := hP2.cell (k := 12) (v := .string a.lc) rfl
  have p13 := hP2.cell (k := 13) (v := .int .i64 a.lp) rfl
  go_wp2_with fail
  refine (toCharacter_any a.lk a.g.L a.g.A a.g.c a.ll a.lc a.lp B _ (hg'.out.below (hB2.mono hB)) (Nat.le_trans hB hB2.size) hl.1).mono ?_
  rintro e w1 ⟨g, rfl, hb, hag0⟩
  have hag : AtB w1 (w.heap.size + 1 + 1 + 1) g (ints a.g.L) := hag0.less hz2
  clear hag0
  have hsz := hb.size
  clear p9 p10 p11 p12 p13
  have hQ := hO2.on hb
  have u9 := hQ.cell (k := 9) (v := .int .i64 0) rfl
  have f9 := hQ.frozen 9
  have u10 := hQ.cell (k := 10) (v := .slice none 0 0) rfl
  have f10 := hQ.frozen 10
  have u11 := hQ.cell (k := 11) (v := .string ⟨#[]⟩) rfl
  have f11 := hQ.frozen 11
  have u12 := hQ.cell (k := 12) (v := .string ⟨#[]⟩) rfl
  have f12 := hQ.frozen 12
  have u13 := hQ.cell (k := 13) (v := .int .i64 0) rfl
  have f13 := hQ.frozen 13
  have hQ2 := hP2.on hb
  have v9 := hQ2.cell (k := 9) (v := .int .i64 a.lk) rfl
  have v10 := hQ2.cell (k := 10) (v := .slice a.g.A a.g.L.length a.g.c) rfl
  have v11 := hQ2.cell (k := 11) (v := .string a.ll) rfl
  have v12 := hQ2.cell (k := 12) (v := .string a.lc) rfl
  have v13 := hQ2.cell (k := 13) (v := .int .i64 a.lp) rfl
  clear hQ hQ2
  go_upto_region 8 with fail
  refine wp_atN ?_
  intro wd hwd
  have hP3 : Blk wd w.heap.size #[.int .i64 a.n, .string a.name, .int .i64 a.x, .int .i64 a.y, .int .i64 a.h, .int .i64 a.md, .string a.mc, .string a.ms, .string a.mt, .int .i64 a.lk, .slice a.g.A a.g.L.length a.g.c, .string a.ll, .string a.lc, .int .i64 a.lp, .slice a.s.A a.s.L.length a.s.c, .int .i64 a.i] 45 := by rw [hwd]; exact (Blk.far (Blk.far (Blk.far (Blk.far (Blk.far (hP2.on hb) (by omega)) (by omega)) (by omega)) (by omega)) (by omega))
  have hR3 : Blk wd (w.heap.size + 1) #[.int .i64 0, .string ⟨#[]⟩, .int .i64 0, .int .i64 0, .int .i64 0, .int .i64 0, .string ⟨#[]⟩, .string ⟨#[]⟩, .string ⟨#[]⟩, .int .i64 0, .slice none 0 0, .string ⟨#[]⟩, .string ⟨#[]⟩, .int .i64 0, .slice none 0 0, .int .i64 0] 53 := by rw [hwd]; exact (Blk.far (Blk.far (Blk.far (Blk.far (Blk.far (hR2.on hb) (by omega)) (by omega)) (by omega)) (by omega)) (by omega))
  have hO3 : Blk wd (w.heap.size + 1 + 1) #[.int .i64 a.n, .string a.name, .int .i64 a.x, .int .i64 a.y, .int .i64 a.h, .int .i64 a.md, .string a.mc, .string a.ms, .string a.mt, .int .i64 a.lk, .slice (some ⟨g, 0, none⟩) a.g.L.length a.g.L.length, .string a.ll, .string a.lc, .int .i64 a.lp, .slice none 0 0, .int .i64 0] 53 := by rw [hwd]; exact (Blk.set (Blk.set (Blk.set (Blk.set (Blk.set (hO2.on hb))))))
  have hB3 : Below w.heap.size w wd := by have hbn := bnext hB2 hb; rw [hwd]; go_grown
  replace hag : AtB wd (w.heap.size + 1 + 1 + 1) g (ints a.g.L) := by rw [hwd]; exact (AtB.set (AtB.set (AtB.set (AtB.set (AtB.set hag (by omega)) (by omega)) (by omega)) (by omega)) (by omega))
  clear hb hP2 hR2 hO2 hB2
  clear hwd
  have hz3 := hO3.lt
  have p14 := hP3.cell (k := 14) (v := .slice a.s.A a.s.L.length a.s.c) rfl
  have p15 := hP3.cell (k := 15) (v := .int .i64 a.i) rfl
  go_wp2_with fail
  refine (toSectorS_any a.s.L a.s.A a.s.c B _ (hs'.out.below (hB3.mono hB)) (Nat.le_trans hB hB3.size) hl.2).mono ?_
  rintro e w1 ⟨rfl, hb, hn, hs1⟩
  have has := (AtB.new hn hs1).less hz3
  obtain ⟨s, hs⟩ : ∃ s, wd.heap.size = s := ⟨_, rfl⟩
  rw [hs] at has ⊢
  clear hs1 hn hs
  replace hag := hag.on hb
  have hsz := hb.size
  clear p14 p15
  have hQ := hO3.on hb
  have u14 := hQ.cell (k := 14) (v := .slice none 0 0) rfl
  have f14 := hQ.frozen 14
  have u15 := hQ.cell (k := 15) (v := .int .i64 0) rfl
  have f15 := hQ.frozen 15
  have hQ2 := hP3.on hb
  have v14 := hQ2.cell (k := 14) (v := .slice a.s.A a.s.L.length a.s.c) rfl
  have v15 := hQ2.cell (k := 15) (v := .int .i64 a.i) rfl
  clear hQ hQ2
  go_upto_region 10 with fail
  refine wp_atN ?_
  intro we hwe
  have hP4 : Blk we w.heap.size #[.int .i64 a.n, .string a.name, .int .i64 a.x, .int .i64 a.y, .int .i64 a.h, .int .i64 a.md, .string a.mc, .string a.ms, .string a.mt, .int .i64 a.lk, .slice a.g.A a.g.L.length a.g.c, .string a.ll, .string a.lc, .int .i64 a.lp, .slice a.s.A a.s.L.length a.s.c, .int .i64 a.i] 45 := by rw [hwe]; exact (Blk.far (Blk.far (hP3.on hb) (by omega)) (by omega))
  have hR4 : Blk we (w.heap.size + 1) #[.int .i64 0, .string ⟨#[]⟩, .int .i64 0, .int .i64 0, .int .i64 0, .int .i64 0, .string ⟨#[]⟩, .string ⟨#[]⟩, .string ⟨#[]⟩, .int .i64 0, .slice none 0 0, .string ⟨#[]⟩, .string ⟨#[]⟩, .int .i64 0, .slice none 0 0, .int .i64 0] 53 := by rw [hwe]; exact (Blk.far (Blk.far (hR3.on hb) (by omega)) (by omega))
  have hO4 : Blk we (w.heap.size + 1 + 1) #[.int .i64 a.n, .string a.name, .int .i64 a.x, .int .i64 a.y, .int .i64 a.h, .int .i64 a.md, .string a.mc, .string a.ms, .string a.mt, .int .i64 a.lk, .slice (some ⟨g, 0, none⟩) a.g.L.length a.g.L.length, .string a.ll, .string a.lc, .int .i64 a.lp, .slice (some ⟨s, 0, none⟩) a.s.L.length a.s.L.length, .int .i64 a.i] 53 := by rw [hwe]; exact (Blk.set (Blk.set (hO3.on hb)))
  have hB4 : Below w.heap.size w we := by have hbn := bnext hB3 hb; rw [hwe]; go_grown
  replace hag : AtB we (w.heap.size + 1 + 1 + 1) g (ints a.g.L) := by rw [hwe]; exact (AtB.set (AtB.set hag (by omega)) (by omega))
  replace has : AtB we (w.heap.size + 1 + 1 + 1) s (flat RSector.cells a.s.L) := by rw [hwe]; exact (AtB.set (AtB.set has (by omega)) (by omega))
  clear hb hP3 hR3 hO3 hB3
  clear hwe
  have hz4 := hO4.lt
  have hld := hO4.range
  have hth := hR4.there
  go_wp2_with (first | (refine wpList_load_mid (by rfl) 53 _ (by rfl) (w.heap.size + 1 + 1) 0 (by rfl) [.int .i64 a.n, .string a.name, .int .i64 a.x, .int .i64 a.y, .int .i64 a.h, .int .i64 a.md, .string a.mc, .string a.ms, .string a.mt, .int .i64 a.lk, .slice (some ⟨g, 0, none⟩) a.g.L.length a.g.L.length, .string a.ll, .string a.lc, .int .i64 a.lp, .slice (some ⟨s, 0, none⟩) a.s.L.length a.s.L.length, .int .i64 a.i] (.struct _) hld Try.underlying53 rfl (by kernel_rfl) ?_) | (refine wpList_store_mid (by rfl) 53 _ _ (by rfl) (w.heap.size + 1) 0 #[.int .i64 a.n, .string a.name, .int .i64 a.x, .int .i64 a.y, .int .i64 a.h, .int .i64 a.md, .string a.mc, .string a.ms, .string a.mt, .int .i64 a.lk, .slice (some ⟨g, 0, none⟩) a.g.L.length a.g.L.length, .string a.ll, .string a.lc, .int .i64 a.lp, .slice (some ⟨s, 0, none⟩) a.s.L.length a.s.L.length, .int .i64 a.i] (by rfl) (by rfl) hth (by kernel_rfl) (by simp [Value.oneCell']) ?_; refine wpl_at ?_; intro wf hw; have hwf := Lib.hid hw; clear hw))
  have hRf : wf.rangeAt (w.heap.size + 1) 0 [.int .i64 a.n, .string a.name, .int .i64 a.x, .int .i64 a.y, .int .i64 a.h, .int .i64 a.md, .string a.mc, .string a.ms, .string a.mt, .int .i64 a.lk, .slice (some ⟨g, 0, none⟩) a.g.L.length a.g.L.length, .string a.ll, .string a.lc, .int .i64 a.lp, .slice (some ⟨s, 0, none⟩) a.s.L.length a.s.L.length, .int .i64 a.i] := by rw [hwf.out]; exact World.rangeAt_setCells_same _ _ _ _ hth
  have hBf : Below w.heap.size w wf := by rw [hwf.out]; exact below_cells (by omega) _ _ _ hB4
  have hagf : AtB wf (w.heap.size + 1 + 1 + 1) g (ints a.g.L) := by rw [hwf.out]; exact AtB.sets (by omega) _ _ _ hag
  have hasf : AtB wf (w.heap.size + 1 + 1 + 1) s (flat RSector.cells a.s.L) := by rw [hwf.out]; exact AtB.sets (by omega) _ _ _ has
  have t0 : wf.cell? ⟨w.heap.size + 1, 0, none⟩ = some (.int .i64 a.n) := by have := hRf 0 _ rfl; rwa [Nat.zero_add] at this
  have t1 : wf.cell? ⟨w.heap.size + 1, 1, none⟩ = some (.string a.name) := by have := hRf 1 _ rfl; rwa [Nat.zero_add] at this
  have t2 : wf.cell? ⟨w.heap.size + 1, 2, none⟩ = some (.int .i64 a.x) := by have := hRf 2 _ rfl; rwa [Nat.zero_add] at this
  have t3 : wf.cell? ⟨w.heap.size + 1, 3, none⟩ = some (.int .i64 a.y) := by have := hRf 3 _ rfl; rwa [Nat.zero_add] at this
  have t4 : wf.cell? ⟨w.heap.size + 1, 4, none⟩ = some (.int .i64 a.h) := by have := hRf 4 _ rfl; rwa [Nat.zero_add] at this
  have t5 : wf.cell? ⟨w.heap.size + 1, 5, none⟩ = some (.int .i64 a.md) := by have := hRf 5 _ rfl; rwa [Nat.zero_add] at this
  have t6 : wf.cell? ⟨w.heap.size + 1, 6, none⟩ = some (.string a.mc) := by have := hRf 6 _ rfl; rwa [Nat.zero_add] at this
  have t7 : wf.cell? ⟨w.heap.size + 1, 7, none⟩ = some (.string a.ms) := by have := hRf 7 _ rfl; rwa [Nat.zero_add] at this
  have t8 : wf.cell? ⟨w.heap.size + 1, 8, none⟩ = some (.string a.mt) := by have := hRf 8 _ rfl; rwa [Nat.zero_add] at this
  have t9 : wf.cell? ⟨w.heap.size + 1, 9, none⟩ = some (.int .i64 a.lk) := by have := hRf 9 _ rfl; rwa [Nat.zero_add] at this
  have t10 : wf.cell? ⟨w.heap.size + 1, 10, none⟩ = some (.slice (some ⟨g, 0, none⟩) a.g.L.length a.g.L.length) := by have := hRf 10 _ rfl; rwa [Nat.zero_add] at this
  have t11 : wf.cell? ⟨w.heap.size + 1, 11, none⟩ = some (.string a.ll) := by have := hRf 11 _ rfl; rwa [Nat.zero_add] at this
  have t12 : wf.cell? ⟨w.heap.size + 1, 12, none⟩ = some (.string a.lc) := by have := hRf 12 _ rfl; rwa [Nat.zero_add] at this
  have t13 : wf.cell? ⟨w.heap.size + 1, 13, none⟩ = some (.int .i64 a.lp) := by have := hRf 13 _ rfl; rwa [Nat.zero_add] at this
  have t14 : wf.cell? ⟨w.heap.size + 1, 14, none⟩ = some (.slice (some ⟨s, 0, none⟩) a.s.L.length a.s.L.length) := by have := hRf 14 _ rfl; rwa [Nat.zero_add] at this
  have t15 : wf.cell? ⟨w.heap.size + 1, 15, none⟩ = some (.int .i64 a.i) := by have := hRf 15 _ rfl; rwa [Nat.zero_add] at this
  clear hwf
  refine bodyPost_ret (by simp [results, go_sem, t0, t1, t2, t3, t4, t5, t6, t7, t8, t9, t10, t11, t12, t13, t14, t15]; try rfl) rfl ?_
  exact ⟨g, hagf.less (by omega), s, hasf.less (by omega), rfl, hBf⟩
end Go.Proofs.Ythjkkidcpidgdaa
