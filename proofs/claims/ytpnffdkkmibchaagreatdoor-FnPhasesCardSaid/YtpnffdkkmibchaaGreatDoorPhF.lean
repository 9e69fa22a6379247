/-
  Contracts of characters of light that are drawn: the least period, the character: the reference's. Each under the conditions that it states.
-/
import Derived.Test.YtpnffdkkmibchaaGreatDoorPhE
set_option linter.unusedVariables false
set_option linter.unnecessarySimpa false
set_option maxRecDepth 100000
set_option linter.unusedSimpArgs false
namespace Go.Proofs.YtpnffdkkmibchaaGreatDoor
open Go.RowKit BigFrame Go.Deep

def Blk (w : World) (g : Nat) (cs : Array Value) (t : TypeId) : Prop := w.heap[g]? = some (.cells cs t (0, 0))
theorem Blk.lt {w : World} {g : Nat} {cs : Array Value} {t : TypeId} (h : Blk w g cs t) : g < w.heap.size := (Array.getElem?_eq_some_iff.1 h).1
theorem Blk.on {w w' : World} {g : Nat} {cs : Array Value} {t : TypeId} (h : Blk w g cs t) (hb : Below w.heap.size w w') : Blk w' g cs t := (hb.block g h.lt).trans h
theorem Blk.cell {w : World} {g k : Nat} {cs : Array Value} {t : TypeId} {v : Value} (h : Blk w g cs t) (hk : cs[k]? = some v) : w.cell? ⟨g, k, none⟩ = some v := by
  unfold Blk at h
  simp [World.cell?, h, hk]
theorem Blk.frozen {w : World} {g : Nat} {cs : Array Value} {t : TypeId} (h : Blk w g cs t) (k : Nat) : w.frozen? ⟨g, k, none⟩ = false := by
  unfold Blk at h
  simp [World.frozen?, h]
theorem Blk.new (w : World) (cs : Array Value) (t : TypeId) : Blk (w.alloc (.cells cs t)) w.heap.size cs t := heap_alloc_new w _
theorem Blk.set {w : World} {g k : Nat} {cs : Array Value} {t : TypeId} {v : Value} (h : Blk w g cs t) : Blk (w.setCell ⟨g, k, none⟩ v) g (cs.setIfInBounds k v) t := by
  unfold Blk at h ⊢
  simp [World.setCell, Array.getElem?_modify, h]
theorem Blk.far {w : World} {g g2 k : Nat} {cs : Array Value} {t : TypeId} {v : Value} (h : Blk w g cs t) (hne : g2 ≠ g) : Blk (w.setCell ⟨g2, k, none⟩ v) g cs t := by
  unfold Blk at h ⊢
  simp [World.setCell, Array.getElem?_modify, h, hne]
theorem Blk.grown {w w' : World} {g : Nat} {cs : Array Value} {t : TypeId} {row : Option Nat} (h : Blk w g cs t) (hg : w.grownBy w' row) (hne : row ≠ some g) : Blk w' g cs t := (hg.block g h.lt (fun e => hne e.symm)).trans h
theorem SrcAt.farP {w w' : World} {B g K : Nat} {row : Option Nat} (h : SrcAt w B g K) (hBw : B ≤ w.heap.size) (hg : w.grownBy w' row) (hr : ∀ k, row = some k → B ≤ k ∧ k ≠ g) : SrcAt w' B g K := by
  obtain ⟨hBg, hgl, hK, A, c, L, k, s, c0, c1, c2, f1, f2, hL, hu, hl, hk, hsd⟩ := h
  have hb : some g ≠ row := fun e => (hr g e.symm).2 rfl
  have hh := hg.block g hgl hb
  refine ⟨hBg, Nat.lt_of_lt_of_le hgl hg.size, hK, A, c, L, k, s, ?_, ?_, ?_, ?_, ?_, ?_, hu, hl, hk, hsd⟩
  · rw [World.cell?_of_block (w := w) (a := ⟨g, 0, none⟩) hh]; exact c0
  · rw [World.cell?_of_block (w := w) (a := ⟨g, 1, none⟩) hh]; exact c1
  · rw [World.cell?_of_block (w := w) (a := ⟨g, 2, none⟩) hh]; exact c2
  · rw [World.frozen?_of_block (w := w) (a := ⟨g, 1, none⟩) hh]; exact f1
  · rw [World.frozen?_of_block (w := w) (a := ⟨g, 2, none⟩) hh]; exact f2
  · exact hL.below ⟨hg.os, hg.tape, hg.output, hg.size, fun k hk => hg.block k (by omega) (fun e => by have := (hr k e.symm).1; omega)⟩
/-- The cells of a character. -/
def chC (k : Int) (gv : Value) (L C : ByteArray) (p : Int) : Array Value := #[.int .i64 k, gv, .string L, .string C, .int .i64 p]
theorem Blk.chA {w : World} {b n c : Nat} {k : Int} {A : Option Addr} {L C : ByteArray} {p : Int} {t : TypeId} (h : Blk w b (chC k (.slice A n c) L C p) t) : ChA w b k A n c L := ⟨h.lt, h.cell rfl, h.cell rfl, h.cell rfl⟩
theorem spec_LeastK (b : Nat) (k : Int) (H : List Int) (A : Option Addr) (c B : Nat) (L : ByteArray) (w : World) (hk : 1 ≤ k ∧ k ≤ 8) (h : ChA w b k A H.length c L) (hs : Sl w B A (ints H)) (hB : B ≤ w.heap.size) (hG : ∀ g ∈ H, 1 ≤ g ∧ g ≤ 9) (hGl : H.length ≤ 2) (hL : letOk k L) : Calls Tryz.prog 76 #[.pointer (some ⟨b, 0, none⟩)] w fun e w' => ∃ r : Int, (0 ≤ r ∧ r ≤ 11000 ∧ (k = 3 → r = 20)) ∧ e = .returned (.int .i64 r) ∧ Below w.heap.size w w' := by
  have hT : ∀ w', w' = w → Calls Tryz.prog 79 #[.pointer (some ⟨b, 0, none⟩)] w' fun e w'' => ∃ T, (goodI 38 T ∧ 1 ≤ T.length) ∧ ∃ v, e = .returned v ∧ Below w.heap.size w w'' ∧ w''.ownsRow w.heap.size 2 1 v T.length (ints T) := fun w' e => by
    subst e
    by_cases h8 : k = 8
    · obtain ⟨x, hx, hLx⟩ := hL h8
      subst h8
      subst hLx
      exact spec_TimesM b A H.length c x hx w' h
    · exact spec_TimesK b k H A c B L w' (by omega) h hs hB hG hGl
  have hT' := Lib.hid hT
  have hch := Lib.hid h
  obtain ⟨hb, d0, d1, d2⟩ := h
  clear hT hs hG hL
  go_enter Tryz.func76, Tryz.ntmps76
  go_wp2_with fail
  refine (spec_SteadyK b k A H.length c L _ hk (by omega) hch.out).mono ?_
  rintro e w' ⟨st, hst, rfl, rfl⟩
  cases st
  rotate_left
  · have hk3 : ¬ k = 3 := fun e => by have := hst e; cases this
    clear hst
    go_wp2
    go_ret
    exact ⟨0, ⟨by omega, by omega, fun e => absurd e hk3⟩, rfl, Below.refl _ _⟩
  clear hst
  by_cases hk3 : k = 3
  · subst hk3
    go_wp2_with fail
    go_ret
    exact ⟨20, ⟨by omega, by omega, by first | rfl | exact fun _ => rfl⟩, rfl, Below.refl _ _⟩
  have hk3' : (k == 3) = false := beq_eq_false_iff_ne.2 hk3
  go_wp2_with fail
  refine (hT'.out _ rfl).mono ?_
  rintro e w1 ⟨T, ⟨hT1, hT2⟩, v, rfl, hb1, hown⟩
  obtain ⟨A2, c2, rfl, -, hsl⟩ := owns_slc2 hown
  have hsl' := Lib.hid hsl
  have hTa := Lib.hid (fun (t : Int) (ht : t ∈ T) => show 0 ≤ t ∧ t ≤ 100 by have := hT1.2 t ht; omega)
  have hTl := hT1.1
  have hk3h := Lib.hid hk3
  have hch1 := Lib.hid (hch.out.on hb1)
  have hz1 := hb1.size
  clear hown hsl hT1 hk3 hk3' d0 d1 d2
  go_wp2_with fail
  refine (spec_TotalK T A2 c2 w1.heap.size _ hsl'.out (Nat.le_refl _) hTa.out (by omega)).mono ?_
  rintro e w2 ⟨s, hs, rfl, hb2⟩
  have hB2 := bnext hb1 hb2
  have hch2 := Lib.hid (hch1.out.on hb2)
  clear hb1 hb2
  go_wp2_with fail
  refine (spec_RestK b k A H.length c L _ hk (by omega) hch2.out).mono ?_
  rintro e w' ⟨r, hr, rfl, rfl⟩
  go_wp2_with fail
  go_ret
  exact ⟨s + r, ⟨by omega, by omega, fun e => absurd e hk3h.out⟩, rfl, hB2⟩
theorem min_anyP (a b : Int) (w : World) :
    Calls Tryz.prog 78 #[.int .i64 a, .int .i64 b] w fun e w' => e = .returned (.int .i64 (min a b)) ∧ w = w' := by
  go_enter Tryz.func78, Tryz.ntmps78
  go_wp2
  all_goals (go_ret; exact ⟨ret_int (by omega), rfl⟩)

theorem grown_noneP {w w' : World} (hb : Below w.heap.size w w') (row : Option Nat) : w.grownBy w' row := ⟨hb.os, hb.tape, hb.output, hb.size, fun k hk _ => hb.block k hk⟩
/-- A character that is drawn: its fields, its group's row. -/
def CharP (w : World) (b0 : Nat) (k : Int) (A : Option Addr) (c : Nat) (H : List Int) (L C : ByteArray) (p : Int) : Prop :=
  (1 ≤ k ∧ k ≤ 8) ∧ (Sl w w.heap.size A (ints H) ∧ (∀ g ∈ H, 1 ≤ g ∧ g ≤ 9) ∧ H.length ≤ 2 ∧ ∀ a, A = some a → b0 < a.block) ∧ letOk k L ∧ (1 ≤ C.size ∧ C.size ≤ 3) ∧ (0 ≤ p ∧ p ≤ 700 ∧ (k = 3 → 20 ≤ p))
theorem setP {w w5 : World} {B g K cb i : Nat} {v : Value} {cs cs2 : Array Value} {t t2 : TypeId} (hc : Blk w5 cb cs t) (hG : w.grownBy w5 (some g)) (hs : SrcAt w5 B g K) (hR : Blk w5 w.heap.size cs2 t2) (h1 : w.heap.size < cb) (h2 : g ≠ cb) (hB : B ≤ w.heap.size) :
    Blk (w5.setCell ⟨cb, i, none⟩ v) cb (cs.setIfInBounds i v) t ∧ w.grownBy (w5.setCell ⟨cb, i, none⟩ v) (some g) ∧ SrcAt (w5.setCell ⟨cb, i, none⟩ v) B g K ∧ Blk (w5.setCell ⟨cb, i, none⟩ v) w.heap.size cs2 t2 := by
  have hg : w5.grownBy (w5.setCell ⟨cb, i, none⟩ v) (some cb) := Go.Lib.grownBy_setB (World.grownBy.refl w5 (some cb)) i v
  have hz := hG.size
  refine ⟨hc.set, ⟨hg.os.trans hG.os, hg.tape.trans hG.tape, hg.output.trans hG.output, Nat.le_trans hG.size hg.size, fun k hk hne => (hg.block k (Nat.lt_of_lt_of_le hk hG.size) (fun e => by have := Option.some.inj e; omega)).trans (hG.block k hk hne)⟩, hs.farP (by omega) hg (fun k e => by have := Option.some.inj e; omega), hR.far (by omega)⟩
theorem onP {w w5 w6 : World} {B g K cb : Nat} {cs cs2 : Array Value} {t t2 : TypeId} (hal : Below w5.heap.size w5 w6) (h : Blk w5 cb cs t ∧ w.grownBy w5 (some g) ∧ SrcAt w5 B g K ∧ Blk w5 w.heap.size cs2 t2) :
    Blk w6 cb cs t ∧ w.grownBy w6 (some g) ∧ SrcAt w6 B g K ∧ Blk w6 w.heap.size cs2 t2 := ⟨h.1.on hal, World.grownBy.trans h.2.1 (grown_noneP hal (some g)), h.2.2.1.on hal, h.2.2.2.on hal⟩
theorem byP {w w5 w6 : World} {B g K K2 cb : Nat} {cs cs2 : Array Value} {t t2 : TypeId} (hg : w5.grownBy w6 (some g)) (hs : SrcAt w6 B g K2) (h1 : w.heap.size < cb) (h2 : g < w.heap.size) (h : Blk w5 cb cs t ∧ w.grownBy w5 (some g) ∧ SrcAt w5 B g K ∧ Blk w5 w.heap.size cs2 t2) :
    Blk w6 cb cs t ∧ w.grownBy w6 (some g) ∧ SrcAt w6 B g K2 ∧ Blk w6 w.heap.size cs2 t2 := ⟨h.1.grown hg (fun e => by have := Option.some.inj e; omega), World.grownBy.trans h.2.1 hg, hs, h.2.2.2.grown hg (fun e => by have := Option.some.inj e; omega)⟩
theorem rowP {w w5 w6 : World} {B g K cb : Nat} {cs cs2 : Array Value} {t t2 : TypeId} {row : Option Nat} (hg : w5.grownBy w6 row) (hr : ∀ q, row = some q → cb < q) (h1 : w.heap.size < cb) (h2 : g < w.heap.size) (hB : B ≤ w.heap.size) (h : Blk w5 cb cs t ∧ w.grownBy w5 (some g) ∧ SrcAt w5 B g K ∧ Blk w5 w.heap.size cs2 t2) :
    Blk w6 cb cs t ∧ w.grownBy w6 (some g) ∧ SrcAt w6 B g K ∧ Blk w6 w.heap.size cs2 t2 := by
  have hz := h.2.1.size
  refine ⟨h.1.grown hg (fun e => by have := hr _ e; omega), ⟨hg.os.trans h.2.1.os, hg.tape.trans h.2.1.tape, hg.output.trans h.2.1.output, Nat.le_trans h.2.1.size hg.size, fun k hk hne => (hg.block k (Nat.lt_of_lt_of_le hk h.2.1.size) (fun e => by have := hr k e.symm; omega)).trans (h.2.1.block k hk hne)⟩, h.2.2.1.farP (by omega) hg (fun k e => by have := hr k e; omega), h.2.2.2.grown hg (fun e => by have := hr _ e; omega)⟩
theorem slP {w w' : World} {B b : Nat} {xs : List Value} {row : Option Nat} (h : Sl w B (some ⟨b, 0, none⟩) xs) (hg : w.grownBy w' row) (hb : b < w.heap.size) (hne : row ≠ some b) : Sl w' w'.heap.size (some ⟨b, 0, none⟩) xs := fun hn => by
  obtain ⟨b2, o, e, _, hc⟩ := h hn
  cases e
  exact ⟨b, 0, rfl, Nat.lt_of_lt_of_le hb hg.size, fun j u hu => hg.cell (hc j u hu) (fun e => hne e.symm)⟩
theorem grown_oneP (w : World) (p k : Nat) (v : Value) : w.grownBy (w.setCell ⟨p, k, none⟩ v) (some p) := Go.Lib.grownBy_setB (World.grownBy.refl w (some p)) k v
theorem owns_nilP (w : World) (B : Nat) (e : TypeId) (sz : Nat) : w.ownsRow B e sz (.slice none 0 0) 0 [] := ⟨by simp, .inl ⟨rfl, rfl⟩⟩
theorem step_append_ownP {P : Program} {ops : Array Oper} {o : Oper} {a : Act} {w : World} {K : Act → World → Prop} {Q : Exit → Act → World → Prop} {E : Prop} (hg : o.guard = none) (s x : Operand) (t : TypeId)
    (ho : o.op = .call { callee := .builtin .append, args := #[s, x], argTypes := #[t, t] }) (base : Nat) (e : TypeId) (i : TypeInfo) (z : Value) (size bytes : Nat) (ht : P.underlying t = some (.slice e)) (hi : P.info? e = some i) (hz : i.zero = some z)
    (hsize : i.size = size) (hby : i.bytes = bytes) (hzs : z.cells.size = size) (hsz : 0 < size) (v : Value) (n : Nat) (xs : List Value) (hs : a.eval s = v) (hown : w.ownsRow base e size v n xs)
    (ad : Addr) (m c : Nat) (news : List Value) (hx : a.eval x = .slice (some ad) m c) (hl : news.length = m * size) (hnews : ∀ j u, news[j]? = some u → w.cell? (ad.add j) = some u) (h1 : ∀ u ∈ news, u.oneCell' = true)
    (h63 : n + m ≤ maxLen) (hbytes : (n + m) * bytes ≤ 140737488355328) (hbase : base ≤ w.heap.size)
    (h : ∀ v' w', w'.ownsRow base e size v' (n + m) (xs ++ news) → w.grownBy w' v.ownBlock → K (a.put o.dst v') w') : if Region.wanted o (yielded ops a.tmps) = true then Oper.wp P o a w K Q else E := by
  rw [if_pos (by simp [Region.wanted, hg])]
  exact wp_append_own w s x t ho base e i z size bytes ht hi hz hsize hby hzs hsz v n xs hs hown ad m c news hx hl hnews h1 h63 hbytes hbase fun v' w' h2 h3 _ => h v' w' h2 h3
theorem slQ {w w' : World} {A : Option Addr} {xs : List Value} {row : Option Nat} (h : Sl w w.heap.size A xs) (hg : w.grownBy w' row) (hne : ∀ a, A = some a → row ≠ some a.block) : Sl w' w'.heap.size A xs := fun hn => by
  obtain ⟨b2, o, e, hb, hc⟩ := h hn
  subst e
  exact ⟨b2, o, rfl, Nat.lt_of_lt_of_le hb hg.size, fun j u hu => hg.cell (hc j u hu) (fun e => hne _ rfl e.symm)⟩
theorem slN (w : World) (x : Int) : Sl (w.alloc (.cells #[.int .i64 x] 2)) (w.heap.size + 1) (some ⟨w.heap.size, 0, none⟩) (ints [x]) := Sl.new w #[.int .i64 x] _
theorem newsP (w : World) (x : Int) : ∀ (j : Nat) (u : Value), ([.int .i64 x] : List Value)[j]? = some u → (w.alloc (.cells #[.int .i64 x] 2)).cell? ((⟨w.heap.size, 0, none⟩ : Addr).add j) = some u := sl_news (slN w x)
theorem end_atP {P : Program} {f : Func} {post : Ending → World → Prop} {e : Exit} {a : Act} {W : World} (h : ∀ wf, wf = W → bodyPost P f post e a wf) : bodyPost P f post e a W := h W rfl
set_option maxHeartbeats 6400000 in
theorem src_char (B g K : Nat) (w : World) (hs : SrcAt w B g K) (hBw : B ≤ w.heap.size) (hK : K + 40 ≤ 1000000000) :
    Calls Tryz.prog 58 #[.pointer (some ⟨g, 0, none⟩)] w fun e w' => ∃ k A c H L C p, CharP w' w.heap.size k A c H L C p ∧ e = .returned (.agg #[.int .i64 k, .slice A H.length c, .string L, .string C, .int .i64 p]) ∧ w.grownBy w' (some g) ∧ SrcAt w' B g (K + 40) := by
  have hgl := hs.2.1
  have hBg := hs.1
  obtain ⟨i0, hi, ie0, ie1, ie2⟩ := info_parts infoIntP
  have hal : Below w.heap.size w (w.alloc (.cells (chC 0 (.slice none 0 0) ⟨#[]⟩ ⟨#[]⟩ 0) 88)) := by go_grown
  have hR0 := Blk.new w (chC 0 (.slice none 0 0) ⟨#[]⟩ ⟨#[]⟩ 0) 88
  go_enter Tryz.func58, Tryz.ntmps58
  go_wp2_with fail
  refine (src_pick B g K 8 _ (by omega) (by omega) (hs.on hal) (by omega)).mono ?_
  rintro e w1 ⟨r, hr, rfl, hg1, hs1⟩
  have hG1 := World.grownBy.trans (grown_noneP hal (some g)) hg1
  have hR1 := hR0.grown hg1 (fun e => by have := Option.some.inj e; omega)
  clear hg1 hR0 hal
  have hz1 := hG1.size
  go_wp2_with fail
  refine (src_colors B g (K + 2) _ hs1 (by omega) (by omega)).mono ?_
  rintro e w2 ⟨C, hC, rfl, hg2, hs2⟩
  have hG2 := World.grownBy.trans hG1 hg2
  have hR2 := hR1.grown hg2 (fun e => by have := Option.some.inj e; omega)
  have hz2 := hg2.size
  have hrl := hR2.lt
  obtain ⟨k, hk⟩ : ∃ k, 1 + r = k := ⟨_, rfl⟩
  have hk8 : 1 ≤ k ∧ k ≤ 8 := by omega
  clear hG1 hg2 hR1 hs1
  go_upto_region 2 with fail
  refine wp_at ?_
  intro w3 hw3
  try rw [hk] at hw3
  have hw3' : w3 = w2.alloc (.cells (chC k (.slice none 0 0) ⟨#[]⟩ C 0) 88) := hw3
  have hal3 : Below w2.heap.size w2 w3 := by rw [hw3']; go_grown
  have hc3 : Blk w3 w2.heap.size (chC k (.slice none 0 0) ⟨#[]⟩ C 0) 88 := by rw [hw3']; exact Blk.new _ _ _
  have hG3 := World.grownBy.trans hG2 (grown_noneP hal3 (some g))
  have hR3 := hR2.on hal3
  have hs3 := hs2.on hal3
  obtain ⟨cb, hcb⟩ : ∃ cb, w2.heap.size = cb := ⟨_, rfl⟩
  rw [hcb] at hc3 ⊢
  have hcbw : w.heap.size < cb := by omega
  have hgc : g ≠ cb := by omega
  try rw [hk]
  clear hw3 hw3' hal3 hG2 hR2 hs2 hcb hk hr hz1 hz2 hrl
  have d0 : w3.cell? ⟨cb, 0, none⟩ = some (.int .i64 k) := hc3.cell rfl
  have d1 : w3.cell? ⟨cb, 1, none⟩ = some (.slice none 0 0) := hc3.cell rfl
  have hcl := hc3.lt
  go_cut [14] (fun u wx => u = .int .i64 k ∧ ∃ wz, wz = wx ∧ w3 = wz)
  case first =>
    go_wp2_with fail
    go_meet
    exact ⟨rfl, _, rfl, rfl⟩
  case rest =>
    obtain ⟨rfl, wz, rfl, rfl⟩ := hcut
    apply_assumption
    go_cut [] (fun wx => ∃ (A : Option Addr) (c : Nat) (H : List Int) (L : ByteArray) (wz : World), wz = wx ∧ Blk wz cb (chC k (.slice A H.length c) L C 0) 88 ∧ (Sl wz wz.heap.size A (ints H) ∧ (∀ g ∈ H, 1 ≤ g ∧ g ≤ 9) ∧ H.length ≤ 2 ∧ ∀ a, A = some a → cb < a.block) ∧ letOk k L ∧ w.grownBy wz (some g) ∧ SrcAt wz B g (K + 20) ∧ Blk wz w.heap.size (chC 0 (.slice none 0 0) ⟨#[]⟩ ⟨#[]⟩ 0) 88)
    case first =>
      have hs20 := hs3.le (K2 := K + 20) (by omega) (by omega)
      have hne0 : ¬ cb = w.heap.size := by omega
      rcases (by omega : k = 1 ∨ k = 3 ∨ k = 8 ∨ (k = 6 ∨ k = 7) ∨ (k = 2 ∨ k = 4 ∨ k = 5)) with rfl | rfl | rfl | h67 | h245
      · go_wp2_with fail
        go_meet
        exact ⟨none, 0, [], ⟨#[]⟩, _, rfl, hc3, ⟨(fun h => absurd rfl h), (fun g hg => by cases hg), by simp, (fun a e => by cases e)⟩, (fun e => by cases e), hG3, hs20, hR3⟩
      · go_wp2_with fail
        go_meet
        exact ⟨none, 0, [], ⟨#[]⟩, _, rfl, hc3, ⟨(fun h => absurd rfl h), (fun g hg => by cases hg), by simp, (fun a e => by cases e)⟩, (fun e => by cases e), hG3, hs20, hR3⟩
      · go_wp2_with fail
        refine (src_pick B g _ 26 _ (by omega) (by omega) hs3 (by omega)).mono ?_
        rintro e w5 ⟨r, hr, rfl, hg5, hs5⟩
        have hc5 := hc3.grown hg5 (fun e => by have := Option.some.inj e; omega)
        have hR5 := hR3.grown hg5 (fun e => by have := Option.some.inj e; omega)
        have hG5 := World.grownBy.trans hG3 hg5
        have hcv := conv_byteR w5 (65 + r)
        obtain ⟨x, rfl⟩ : ∃ x : Nat, r = x := ⟨r.toNat, by omega⟩
        have hlt : (⟨#[UInt8.ofNat (65 + (x : Int)).toNat]⟩ : ByteArray) = ⟨#[(65 + x).toUInt8]⟩ := by rw [show (65 + (x : Int)).toNat = 65 + x by omega]
        rw [hlt] at hcv
        have hx26 : x < 26 := by omega
        obtain ⟨l, hl⟩ : ∃ l : ByteArray, ⟨#[(65 + x).toUInt8]⟩ = l := ⟨_, rfl⟩
        have hlh := Lib.hid hl
        rw [hl] at hcv
        clear hl hlt
        have hal5 : Below w5.heap.size w5 (w5.alloc (.cells #[.int .u8 (65 + (x : Int))] 5)) := by go_grown
        have hc6 := hc5.on hal5
        have d2 : (w5.alloc (.cells #[.int .u8 (65 + (x : Int))] 5)).cell? ⟨cb, 2, none⟩ = some (.string ⟨#[]⟩) := hc6.cell rfl
        have f2 := hc6.frozen 2
        have hcl5 := hc5.lt
        have hR6 := hR5.on hal5
        have hs6 := hs5.on hal5
        have hG6 := World.grownBy.trans hG5 (grown_noneP hal5 (some g))
        go_wp2_with fail
        go_meet
        obtain ⟨q1, q2, q3, q4⟩ := onP (w6 := (w5.setCell ⟨cb, 2, none⟩ (.string l)).alloc (.cells #[.int .u8 (65 + (x : Int))] 5)) (by go_grown) (setP (i := 2) (v := .string l) hc5 hG5 hs5 hR5 hcbw hgc hBw)
        exact ⟨none, 0, [], l, _, rfl, q1, ⟨(fun h => absurd rfl h), (fun g hg => by cases hg), by simp, (fun a e => by cases e)⟩, (fun _ => ⟨x, hx26, hlh.out.symm⟩), q2, q3.le (by omega) (by omega), q4⟩
      · have hal3 : Below w3.heap.size w3 (w3.alloc (.cells #[.int .i64 0, .int .i64 0, .int .i64 3, .int .i64 6, .int .i64 9] 2)) := by go_grown
        have hQ := onP hal3 ⟨hc3, hG3, hs3, hR3⟩
        rcases h67 with rfl | rfl
        · go_wp2_with fail
          refine (src_among B g _ w3.heap.size 0 5 [0, 0, 3, 6, 9] _ (by simp) (by simp) hQ.2.2.1 (by omega) (by simp) (by omega) (fun j u hu => by rw [Nat.zero_add, World.cell?_alloc_new]; simpa using hu)).mono ?_
          rintro e w4 ⟨r, hr, rfl, hg4, hs4⟩
          have hQ4 := byP hg4 hs4 hcbw hgl hQ
          have hcl4 := hQ4.1.lt
          have hr' : r = 0 ∨ r = 3 ∨ r = 6 ∨ r = 9 := by simp at hr; omega
          clear hQ hg4 hs4 hr hal3 d0 d1
          have d1 : w4.cell? ⟨cb, 1, none⟩ = some (.slice none 0 0) := hQ4.1.cell rfl
          have f1 := hQ4.1.frozen 1
          have hQ5 := onP (w6 := (w4.setCell ⟨cb, 1, none⟩ (.slice (some ⟨w4.heap.size, 0, none⟩) 1 1)).alloc (.cells #[.int .i64 r] 2)) (by go_grown) (setP (i := 1) (v := .slice (some ⟨w4.heap.size, 0, none⟩) 1 1) hQ4.1 hQ4.2.1 hQ4.2.2.1 hQ4.2.2.2 hcbw hgc hBw)
          have hS5 : Sl ((w4.setCell ⟨cb, 1, none⟩ (.slice (some ⟨w4.heap.size, 0, none⟩) 1 1)).alloc (.cells #[.int .i64 r] 2)) (w4.heap.size + 1) (some ⟨w4.heap.size, 0, none⟩) (ints [r]) := by
            have h := slN (w4.setCell ⟨cb, 1, none⟩ (.slice (some ⟨w4.heap.size, 0, none⟩) 1 1)) r
            rwa [World.size_setCell] at h
          rcases hr' with rfl | h369
          · go_wp2_with fail
            go_meet
            exact ⟨none, 0, [], ⟨#[]⟩, _, rfl, hQ4.1, ⟨(fun h => absurd rfl h), (fun g hg => by cases hg), by simp, (fun a e => by cases e)⟩, (fun e => by cases e), hQ4.2.1, hQ4.2.2.1.le (by omega) (by omega), hQ4.2.2.2⟩
          rcases h369 with rfl | rfl | rfl
          · go_wp2_with fail
            go_meet
            exact ⟨_, 1, [3], ⟨#[]⟩, _, rfl, hQ5.1, ⟨hS5.more (by simp), (fun g hg => by simp at hg; omega), by simp, (fun a e => by cases e; dsimp only; omega)⟩, (fun e => by cases e), hQ5.2.1, hQ5.2.2.1.le (by omega) (by omega), hQ5.2.2.2⟩
          · go_wp2_with fail
            refine (src_one B g _ 2 _ (by omega) (by omega) hQ5.2.2.1 (by omega)).mono ?_
            rintro e w6 ⟨b6, rfl, hg6, hs6⟩
            have hQ6 := byP hg6 hs6 hcbw hgl hQ5
            have hS6 := slP hS5 hg6 (by simp) (fun e => by have := Option.some.inj e; omega)
            have hb4 : w4.heap.size < w6.heap.size := by have := hg6.size; rw [World.size_alloc, World.size_setCell] at this; omega
            clear hg6 hs6 hQ4 hQ5 hS5 d1 f1
            have d2 : w6.cell? ⟨cb, 2, none⟩ = some (.string ⟨#[]⟩) := hQ6.1.cell rfl
            have f2 := hQ6.1.frozen 2
            have hcl6 := hQ6.1.lt
            have hQ7 := setP (i := 2) (v := .string ⟨#[76]⟩) hQ6.1 hQ6.2.1 hQ6.2.2.1 hQ6.2.2.2 hcbw hgc hBw
            have hS7 := slP (w' := w6.setCell ⟨cb, 2, none⟩ (.string ⟨#[76]⟩)) hS6 (grown_oneP w6 cb 2 (.string ⟨#[76]⟩)) hb4 (fun e => by have := Option.some.inj e; omega)
            cases b6
            · go_wp2_with fail
              go_meet
              exact ⟨_, 1, [6], ⟨#[]⟩, _, rfl, hQ6.1, ⟨hS6, (fun g hg => by simp at hg; omega), by simp, (fun a e => by cases e; dsimp only; omega)⟩, (fun e => by cases e), hQ6.2.1, hQ6.2.2.1.le (by omega) (by omega), hQ6.2.2.2⟩
            · go_wp2_with fail
              go_meet
              exact ⟨_, 1, [6], ⟨#[76]⟩, _, rfl, hQ7.1, ⟨hS7, (fun g hg => by simp at hg; omega), by simp, (fun a e => by cases e; dsimp only; omega)⟩, (fun e => by cases e), hQ7.2.1, hQ7.2.2.1.le (by omega) (by omega), hQ7.2.2.2⟩
          · go_wp2_with fail
            go_meet
            exact ⟨_, 1, [9], ⟨#[]⟩, _, rfl, hQ5.1, ⟨hS5.more (by simp), (fun g hg => by simp at hg; omega), by simp, (fun a e => by cases e; dsimp only; omega)⟩, (fun e => by cases e), hQ5.2.1, hQ5.2.2.1.le (by omega) (by omega), hQ5.2.2.2⟩
        · go_wp2_with fail
          refine (src_among B g _ w3.heap.size 0 5 [0, 0, 3, 6, 9] _ (by simp) (by simp) hQ.2.2.1 (by omega) (by simp) (by omega) (fun j u hu => by rw [Nat.zero_add, World.cell?_alloc_new]; simpa using hu)).mono ?_
          rintro e w4 ⟨r, hr, rfl, hg4, hs4⟩
          have hQ4 := byP hg4 hs4 hcbw hgl hQ
          have hcl4 := hQ4.1.lt
          have hr' : r = 0 ∨ r = 3 ∨ r = 6 ∨ r = 9 := by simp at hr; omega
          clear hQ hg4 hs4 hr hal3 d0 d1
          have d1 : w4.cell? ⟨cb, 1, none⟩ = some (.slice none 0 0) := hQ4.1.cell rfl
          have f1 := hQ4.1.frozen 1
          have hQ5 := onP (w6 := (w4.setCell ⟨cb, 1, none⟩ (.slice (some ⟨w4.heap.size, 0, none⟩) 1 1)).alloc (.cells #[.int .i64 r] 2)) (by go_grown) (setP (i := 1) (v := .slice (some ⟨w4.heap.size, 0, none⟩) 1 1) hQ4.1 hQ4.2.1 hQ4.2.2.1 hQ4.2.2.2 hcbw hgc hBw)
          have hS5 : Sl ((w4.setCell ⟨cb, 1, none⟩ (.slice (some ⟨w4.heap.size, 0, none⟩) 1 1)).alloc (.cells #[.int .i64 r] 2)) (w4.heap.size + 1) (some ⟨w4.heap.size, 0, none⟩) (ints [r]) := by
            have h := slN (w4.setCell ⟨cb, 1, none⟩ (.slice (some ⟨w4.heap.size, 0, none⟩) 1 1)) r
            rwa [World.size_setCell] at h
          rcases hr' with rfl | h369
          · go_wp2_with fail
            go_meet
            exact ⟨none, 0, [], ⟨#[]⟩, _, rfl, hQ4.1, ⟨(fun h => absurd rfl h), (fun g hg => by cases hg), by simp, (fun a e => by cases e)⟩, (fun e => by cases e), hQ4.2.1, hQ4.2.2.1.le (by omega) (by omega), hQ4.2.2.2⟩
          rcases h369 with rfl | rfl | rfl
          · go_wp2_with fail
            go_meet
            exact ⟨_, 1, [3], ⟨#[]⟩, _, rfl, hQ5.1, ⟨hS5.more (by simp), (fun g hg => by simp at hg; omega), by simp, (fun a e => by cases e; dsimp only; omega)⟩, (fun e => by cases e), hQ5.2.1, hQ5.2.2.1.le (by omega) (by omega), hQ5.2.2.2⟩
          · go_wp2_with fail
            refine (src_one B g _ 2 _ (by omega) (by omega) hQ5.2.2.1 (by omega)).mono ?_
            rintro e w6 ⟨b6, rfl, hg6, hs6⟩
            have hQ6 := byP hg6 hs6 hcbw hgl hQ5
            have hS6 := slP hS5 hg6 (by simp) (fun e => by have := Option.some.inj e; omega)
            have hb4 : w4.heap.size < w6.heap.size := by have := hg6.size; rw [World.size_alloc, World.size_setCell] at this; omega
            clear hg6 hs6 hQ4 hQ5 hS5 d1 f1
            have d2 : w6.cell? ⟨cb, 2, none⟩ = some (.string ⟨#[]⟩) := hQ6.1.cell rfl
            have f2 := hQ6.1.frozen 2
            have hcl6 := hQ6.1.lt
            have hQ7 := setP (i := 2) (v := .string ⟨#[76]⟩) hQ6.1 hQ6.2.1 hQ6.2.2.1 hQ6.2.2.2 hcbw hgc hBw
            have hS7 := slP (w' := w6.setCell ⟨cb, 2, none⟩ (.string ⟨#[76]⟩)) hS6 (grown_oneP w6 cb 2 (.string ⟨#[76]⟩)) hb4 (fun e => by have := Option.some.inj e; omega)
            cases b6
            · go_wp2_with fail
              go_meet
              exact ⟨_, 1, [6], ⟨#[]⟩, _, rfl, hQ6.1, ⟨hS6, (fun g hg => by simp at hg; omega), by simp, (fun a e => by cases e; dsimp only; omega)⟩, (fun e => by cases e), hQ6.2.1, hQ6.2.2.1.le (by omega) (by omega), hQ6.2.2.2⟩
            · go_wp2_with fail
              go_meet
              exact ⟨_, 1, [6], ⟨#[76]⟩, _, rfl, hQ7.1, ⟨hS7, (fun g hg => by simp at hg; omega), by simp, (fun a e => by cases e; dsimp only; omega)⟩, (fun e => by cases e), hQ7.2.1, hQ7.2.2.1.le (by omega) (by omega), hQ7.2.2.2⟩
          · go_wp2_with fail
            go_meet
            exact ⟨_, 1, [9], ⟨#[]⟩, _, rfl, hQ5.1, ⟨hS5.more (by simp), (fun g hg => by simp at hg; omega), by simp, (fun a e => by cases e; dsimp only; omega)⟩, (fun e => by cases e), hQ5.2.1, hQ5.2.2.1.le (by omega) (by omega), hQ5.2.2.2⟩
      · have hO0 := owns_nilP w3 (cb + 1) 2 1
        rcases h245 with rfl | rfl | rfl
        · go_wp2_with fail
          refine (src_pick B g _ 4 _ (by omega) (by omega) hs3 (by omega)).mono ?_
          rintro e w4 ⟨r, hr, rfl, hg4, hs4⟩
          obtain ⟨hc4, hG4, hs4', hR4⟩ := byP hg4 hs4 hcbw hgl ⟨hc3, hG3, hs3, hR3⟩
          have hO4 := World.ownsRow.kept hO0 hg4 (.inl rfl)
          clear hg4 hs4 hc3 hG3 hs3 hR3 hO0 d0 d1 hs20 hcl
          obtain ⟨m, rfl⟩ := Int.eq_ofNat_of_zero_le hr.1
          have hm4 : m ≤ 3 := by omega
          go_wp2_with fail
          go_loopw [4] (fun i wr => ∃ (m : Nat) (A : Option Addr) (c : Nat) (H : List Int), i = .int .i64 m ∧ H.length + m ≤ 3 ∧ (H.length ≤ 2) ∧ (∀ t ∈ H, 1 ≤ t ∧ t ≤ 9) ∧ wr.ownsRow (cb + 1) 2 1 (.slice A H.length c) H.length (ints H) ∧ Blk wr cb (chC 2 (.slice A H.length c) ⟨#[]⟩ C 0) 88 ∧ w.grownBy wr (some g) ∧ SrcAt wr B g (K + 6 + 2 * H.length) ∧ Blk wr w.heap.size (chC 0 (.slice none 0 0) ⟨#[]⟩ ⟨#[]⟩ 0) 88) (fun i _ => (intOf i).toNat)
          case atStart => exact ⟨m, none, 0, [], rfl, by simp; omega, by simp, (fun t ht => by cases ht), hO4, hc4, hG4, hs4'.le (by simp) (by simp; omega), hR4⟩
          case round =>
            clear hO4 hc4 hG4 hs4' hR4 hr hm4
            obtain ⟨m, A, c, H, rfl, hHm, hH2, hHb, hown, hcr, hGr, hsr, hRr⟩ := hrel
            have hwr := hGr.size
            have hcl := hcr.lt
            have hnb : ∀ q, (Value.slice A H.length c).ownBlock = some q → cb < q := fun q e => (hown.lt q e).1
            have hnb' : ∀ q, q ≤ cb → (Value.slice A H.length c).ownBlock = none ∨ (Value.slice A H.length c).ownBlock ≠ some q := fun q hq => .inr (fun e => by have := hnb q e; omega)
            by_cases h1 : 1 < m
            · have hm1 : (1 : Int) < (m : Int) := by omega
              have hm2 : (m : Int) ≤ 3 := by omega
              have d1 : wr.cell? ⟨cb, 1, none⟩ = some (.slice A H.length c) := hcr.cell rfl
              have f1 := hcr.frozen 1
              have mixed : Tryz.prog.follows .mixedOrders = true := by kernel_rfl
              go_wp2_with fail
              go_region_law_o (first | (go_simp; go_at_call 41; refine (src_pick B g (K + 6 + 2 * H.length) 3 wr.drew (by omega) (by omega) (hsr.on ((Below.refl _ _).drew)) (by omega)).mono ?_; rintro e w4 ⟨r, ⟨hra, hrb⟩, rfl, hg4, hs4⟩; obtain ⟨z, hz, hzb⟩ : ∃ z, IntKind.i64.wrap (1 + r) = z ∧ (1 ≤ z ∧ z ≤ 9) := ⟨1 + r, IntWalk.i64_in _ (by omega), by omega⟩; have hc4 := (hcr.on ((Below.refl _ _).drew)).grown hg4 (fun e => by have := Option.some.inj e; omega); have d4 : w4.cell? ⟨cb, 1, none⟩ = some (.slice A H.length c) := hc4.cell rfl; have hcl4 := hc4.lt; have hO4 := World.ownsRow.kept (owns_onP hown ((Below.refl _ _).drew)) hg4 (hnb' g (by omega)); have hg5 : wr.grownBy w4 (some g) := World.grownBy.trans (grown_noneP ((Below.refl _ _).drew) _) hg4; have hO5 := owns_onP hO4 (show Below _ _ (w4.alloc (.cells #[.int .i64 z] 2)) by go_grown); have hc5 := hc4.on (show Below _ _ (w4.alloc (.cells #[.int .i64 z] 2)) by go_grown); have hQ5 := onP (show Below _ _ (w4.alloc (.cells #[.int .i64 z] 2)) by go_grown) (byP hg4 hs4 hcbw hgl (onP ((Below.refl _ _).drew) ⟨hcr, hGr, hsr, hRr⟩)); have hz4 : wr.heap.size ≤ w4.heap.size := hg4.size) | (refine step_append_ownP rfl _ _ 65 rfl (cb + 1) 2 i0 (.int .i64 0) 1 8 Tryz.underlying65 hi ie0 ie1 ie2 rfl (by decide) _ H.length (ints H) rfl hO5 ⟨_, 0, none⟩ 1 1 [.int .i64 z] rfl rfl (fun j u hu => newsP _ _ j u hu) (by intro u hu; simp at hu; subst hu; rfl) (by unfold maxLen; omega) (by omega) (by rw [World.size_alloc]; omega) ?_; intro v' w6 hO6 hg6; obtain ⟨A6, c6, rfl, -, -⟩ := owns_slc2 hO6; have hc6 := hc5.grown hg6 (fun e => by have := hnb _ e; omega); have d6 : w6.cell? ⟨cb, 1, none⟩ = some (.slice A H.length c) := hc6.cell rfl; have f6 := hc6.frozen 1; have hcl6 := hc6.lt))
              all_goals
                clear d1 f1 hsr hcr hGr hRr mixed d4 d6 f6 hc4 hc5 hc6 hO4 hO5 hz hg4 hown
                have hg6' : (w4.alloc (.cells #[.int .i64 z] 2)).grownBy w6 (Value.slice A H.length c).ownBlock := hg6
                have hQ6 := rowP hg6' hnb hcbw hgl hBw hQ5
                clear hQ5
                have hQ7 := setP (i := 1) (v := .slice A6 (H.length + 1) c6) hQ6.1 hQ6.2.1 hQ6.2.2.1 hQ6.2.2.2 hcbw hgc hBw
                have hO7 := World.ownsRow.kept hO6 (grown_oneP w6 cb 1 (.slice A6 (H.length + 1) c6)) (.inr (fun e => by have := (hO6.lt _ e).1; omega))
                clear hg6 hg6' hQ6 hO6
                have hb7 : ∀ t ∈ H ++ [z], 1 ≤ t ∧ t ≤ 9 := fun t ht => by
                  rcases List.mem_append.1 ht with h | h
                  · exact hHb t h
                  · simp at h; omega
                obtain ⟨H', hH', eL⟩ : ∃ H', H' = H ++ [z] ∧ H'.length = H.length + 1 := ⟨_, rfl, by simp⟩
                have eI : ints H ++ [.int .i64 z] = ints H' := by rw [hH', ints_one]
                rw [← hH'] at hb7
                rw [eI, ← eL] at hO7
                rw [← eL] at hQ7 ⊢
                generalize w6.setCell ⟨cb, 1, none⟩ (.slice A6 H'.length c6) = w7 at hO7 hQ7 ⊢
                have eL' := Lib.hid eL
                clear hH' eI hHb hnb hnb' eL hg5
                go_wp2_with fail
                go_roundw
                case rel =>
                  have eL := eL'.out
                  have hQ7' := hQ7.2.2.1.le (K2 := K + 6 + 2 * H'.length) (by omega) (by omega)
                  exact ⟨m - 1, A6, c6, H', by rw [show ((m - 1 : Nat) : Int) = (m : Int) - 1 by omega], by omega, by omega, hb7, hO7, hQ7.1, hQ7.2.1, hQ7', hQ7.2.2.2⟩
                case measure => simp [intOf]; omega
            · obtain ⟨A2, c2, e2, -, hsl⟩ := owns_slc2 hown
              cases e2
              have hm1 : (m : Int) ≤ 1 := by omega
              have hHb' := Lib.hid hHb
              have hAb : ∀ a, A = some a → cb < a.block := fun a e => by subst e; exact (hown.lt a.block rfl).1
              have d1 : wr.cell? ⟨cb, 1, none⟩ = some (.slice A H.length c) := hcr.cell rfl
              clear hown hHb hnb hnb'
              go_wp2_with fail
              refine (spec_GroupK H A c wr.heap.size wr hsl (Nat.le_refl _) hHb'.out (by omega)).mono ?_
              rintro e w5 ⟨⟨b, rfl⟩, hb5⟩
              have hQ5 := onP hb5 ⟨hcr, hGr, hsr, hRr⟩
              have hsl5 := (hsl.below hb5).more hb5.size
              have hcl5 := hQ5.1.lt
              clear hcr hGr hsr hRr hb5 hsl d1
              have d1 : w5.cell? ⟨cb, 1, none⟩ = some (.slice A H.length c) := hQ5.1.cell rfl
              have f1 := hQ5.1.frozen 1
              have hQ6 := onP (w6 := (w5.setCell ⟨cb, 1, none⟩ (.slice (some ⟨w5.heap.size, 0, none⟩) 1 1)).alloc (.cells #[.int .i64 2] 2)) (by go_grown) (setP (i := 1) (v := .slice (some ⟨w5.heap.size, 0, none⟩) 1 1) hQ5.1 hQ5.2.1 hQ5.2.2.1 hQ5.2.2.2 hcbw hgc hBw)
              have hS6 : Sl ((w5.setCell ⟨cb, 1, none⟩ (.slice (some ⟨w5.heap.size, 0, none⟩) 1 1)).alloc (.cells #[.int .i64 2] 2)) (w5.heap.size + 1) (some ⟨w5.heap.size, 0, none⟩) (ints [2]) := by
                have h := slN (w5.setCell ⟨cb, 1, none⟩ (.slice (some ⟨w5.heap.size, 0, none⟩) 1 1)) 2
                rwa [World.size_setCell] at h
              cases b
              · go_wp2_with fail
                go_meet
                exact ⟨_, 1, [2], ⟨#[]⟩, _, rfl, hQ6.1, ⟨hS6.more (by simp), (fun g hg => by simp at hg; omega), by simp, (fun a e => by cases e; dsimp only; omega)⟩, (fun e => by cases e), hQ6.2.1, hQ6.2.2.1.le (by omega) (by omega), hQ6.2.2.2⟩
              · go_wp2_with fail
                go_meet
                exact ⟨A, c, H, ⟨#[]⟩, _, rfl, hQ5.1, ⟨hsl5, hHb'.out, hH2, hAb⟩, (fun e => by cases e), hQ5.2.1, hQ5.2.2.1.le (by omega) (by omega), hQ5.2.2.2⟩
        · go_wp2_with fail
          refine (src_pick B g _ 4 _ (by omega) (by omega) hs3 (by omega)).mono ?_
          rintro e w4 ⟨r, hr, rfl, hg4, hs4⟩
          obtain ⟨hc4, hG4, hs4', hR4⟩ := byP hg4 hs4 hcbw hgl ⟨hc3, hG3, hs3, hR3⟩
          have hO4 := World.ownsRow.kept hO0 hg4 (.inl rfl)
          clear hg4 hs4 hc3 hG3 hs3 hR3 hO0 d0 d1 hs20 hcl
          obtain ⟨m, rfl⟩ := Int.eq_ofNat_of_zero_le hr.1
          have hm4 : m ≤ 3 := by omega
          go_wp2_with fail
          go_loopw [4] (fun i wr => ∃ (m : Nat) (A : Option Addr) (c : Nat) (H : List Int), i = .int .i64 m ∧ H.length + m ≤ 3 ∧ (H.length ≤ 2) ∧ (∀ t ∈ H, 1 ≤ t ∧ t ≤ 9) ∧ wr.ownsRow (cb + 1) 2 1 (.slice A H.length c) H.length (ints H) ∧ Blk wr cb (chC 4 (.slice A H.length c) ⟨#[]⟩ C 0) 88 ∧ w.grownBy wr (some g) ∧ SrcAt wr B g (K + 6 + 2 * H.length) ∧ Blk wr w.heap.size (chC 0 (.slice none 0 0) ⟨#[]⟩ ⟨#[]⟩ 0) 88) (fun i _ => (intOf i).toNat)
          case atStart => exact ⟨m, none, 0, [], rfl, by simp; omega, by simp, (fun t ht => by cases ht), hO4, hc4, hG4, hs4'.le (by simp) (by simp; omega), hR4⟩
          case round =>
            clear hO4 hc4 hG4 hs4' hR4 hr hm4
            obtain ⟨m, A, c, H, rfl, hHm, hH2, hHb, hown, hcr, hGr, hsr, hRr⟩ := hrel
            have hwr := hGr.size
            have hcl := hcr.lt
            have hnb : ∀ q, (Value.slice A H.length c).ownBlock = some q → cb < q := fun q e => (hown.lt q e).1
            have hnb' : ∀ q, q ≤ cb → (Value.slice A H.length c).ownBlock = none ∨ (Value.slice A H.length c).ownBlock ≠ some q := fun q hq => .inr (fun e => by have := hnb q e; omega)
            by_cases h1 : 1 < m
            · have hm1 : (1 : Int) < (m : Int) := by omega
              have hm2 : (m : Int) ≤ 3 := by omega
              have d1 : wr.cell? ⟨cb, 1, none⟩ = some (.slice A H.length c) := hcr.cell rfl
              have f1 := hcr.frozen 1
              have mixed : Tryz.prog.follows .mixedOrders = true := by kernel_rfl
              go_wp2_with fail
              go_region_law_o (first | (go_simp; go_at_call 41; refine (src_pick B g (K + 6 + 2 * H.length) 3 wr.drew (by omega) (by omega) (hsr.on ((Below.refl _ _).drew)) (by omega)).mono ?_; rintro e w4 ⟨r, ⟨hra, hrb⟩, rfl, hg4, hs4⟩; obtain ⟨z, hz, hzb⟩ : ∃ z, IntKind.i64.wrap (1 + r) = z ∧ (1 ≤ z ∧ z ≤ 9) := ⟨1 + r, IntWalk.i64_in _ (by omega), by omega⟩; have hc4 := (hcr.on ((Below.refl _ _).drew)).grown hg4 (fun e => by have := Option.some.inj e; omega); have d4 : w4.cell? ⟨cb, 1, none⟩ = some (.slice A H.length c) := hc4.cell rfl; have hcl4 := hc4.lt; have hO4 := World.ownsRow.kept (owns_onP hown ((Below.refl _ _).drew)) hg4 (hnb' g (by omega)); have hg5 : wr.grownBy w4 (some g) := World.grownBy.trans (grown_noneP ((Below.refl _ _).drew) _) hg4; have hO5 := owns_onP hO4 (show Below _ _ (w4.alloc (.cells #[.int .i64 z] 2)) by go_grown); have hc5 := hc4.on (show Below _ _ (w4.alloc (.cells #[.int .i64 z] 2)) by go_grown); have hQ5 := onP (show Below _ _ (w4.alloc (.cells #[.int .i64 z] 2)) by go_grown) (byP hg4 hs4 hcbw hgl (onP ((Below.refl _ _).drew) ⟨hcr, hGr, hsr, hRr⟩)); have hz4 : wr.heap.size ≤ w4.heap.size := hg4.size) | (refine step_append_ownP rfl _ _ 65 rfl (cb + 1) 2 i0 (.int .i64 0) 1 8 Tryz.underlying65 hi ie0 ie1 ie2 rfl (by decide) _ H.length (ints H) rfl hO5 ⟨_, 0, none⟩ 1 1 [.int .i64 z] rfl rfl (fun j u hu => newsP _ _ j u hu) (by intro u hu; simp at hu; subst hu; rfl) (by unfold maxLen; omega) (by omega) (by rw [World.size_alloc]; omega) ?_; intro v' w6 hO6 hg6; obtain ⟨A6, c6, rfl, -, -⟩ := owns_slc2 hO6; have hc6 := hc5.grown hg6 (fun e => by have := hnb _ e; omega); have d6 : w6.cell? ⟨cb, 1, none⟩ = some (.slice A H.length c) := hc6.cell rfl; have f6 := hc6.frozen 1; have hcl6 := hc6.lt))
              all_goals
                clear d1 f1 hsr hcr hGr hRr mixed d4 d6 f6 hc4 hc5 hc6 hO4 hO5 hz hg4 hown
                have hg6' : (w4.alloc (.cells #[.int .i64 z] 2)).grownBy w6 (Value.slice A H.length c).ownBlock := hg6
                have hQ6 := rowP hg6' hnb hcbw hgl hBw hQ5
                clear hQ5
                have hQ7 := setP (i := 1) (v := .slice A6 (H.length + 1) c6) hQ6.1 hQ6.2.1 hQ6.2.2.1 hQ6.2.2.2 hcbw hgc hBw
                have hO7 := World.ownsRow.kept hO6 (grown_oneP w6 cb 1 (.slice A6 (H.length + 1) c6)) (.inr (fun e => by have := (hO6.lt _ e).1; omega))
                clear hg6 hg6' hQ6 hO6
                have hb7 : ∀ t ∈ H ++ [z], 1 ≤ t ∧ t ≤ 9 := fun t ht => by
                  rcases List.mem_append.1 ht with h | h
                  · exact hHb t h
                  · simp at h; omega
                obtain ⟨H', hH', eL⟩ : ∃ H', H' = H ++ [z] ∧ H'.length = H.length + 1 := ⟨_, rfl, by simp⟩
                have eI : ints H ++ [.int .i64 z] = ints H' := by rw [hH', ints_one]
                rw [← hH'] at hb7
                rw [eI, ← eL] at hO7
                rw [← eL] at hQ7 ⊢
                generalize w6.setCell ⟨cb, 1, none⟩ (.slice A6 H'.length c6) = w7 at hO7 hQ7 ⊢
                have eL' := Lib.hid eL
                clear hH' eI hHb hnb hnb' eL hg5
                go_wp2_with fail
                go_roundw
                case rel =>
                  have eL := eL'.out
                  have hQ7' := hQ7.2.2.1.le (K2 := K + 6 + 2 * H'.length) (by omega) (by omega)
                  exact ⟨m - 1, A6, c6, H', by rw [show ((m - 1 : Nat) : Int) = (m : Int) - 1 by omega], by omega, by omega, hb7, hO7, hQ7.1, hQ7.2.1, hQ7', hQ7.2.2.2⟩
                case measure => simp [intOf]; omega
            · obtain ⟨A2, c2, e2, -, hsl⟩ := owns_slc2 hown
              cases e2
              have hm1 : (m : Int) ≤ 1 := by omega
              have hHb' := Lib.hid hHb
              have hAb : ∀ a, A = some a → cb < a.block := fun a e => by subst e; exact (hown.lt a.block rfl).1
              have d1 : wr.cell? ⟨cb, 1, none⟩ = some (.slice A H.length c) := hcr.cell rfl
              clear hown hHb hnb hnb'
              go_wp2_with fail
              refine (spec_GroupK H A c wr.heap.size wr hsl (Nat.le_refl _) hHb'.out (by omega)).mono ?_
              rintro e w5 ⟨⟨b, rfl⟩, hb5⟩
              have hQ5 := onP hb5 ⟨hcr, hGr, hsr, hRr⟩
              have hsl5 := (hsl.below hb5).more hb5.size
              have hcl5 := hQ5.1.lt
              clear hcr hGr hsr hRr hb5 hsl d1
              have d1 : w5.cell? ⟨cb, 1, none⟩ = some (.slice A H.length c) := hQ5.1.cell rfl
              have f1 := hQ5.1.frozen 1
              have hQ6 := onP (w6 := (w5.setCell ⟨cb, 1, none⟩ (.slice (some ⟨w5.heap.size, 0, none⟩) 1 1)).alloc (.cells #[.int .i64 2] 2)) (by go_grown) (setP (i := 1) (v := .slice (some ⟨w5.heap.size, 0, none⟩) 1 1) hQ5.1 hQ5.2.1 hQ5.2.2.1 hQ5.2.2.2 hcbw hgc hBw)
              have hS6 : Sl ((w5.setCell ⟨cb, 1, none⟩ (.slice (some ⟨w5.heap.size, 0, none⟩) 1 1)).alloc (.cells #[.int .i64 2] 2)) (w5.heap.size + 1) (some ⟨w5.heap.size, 0, none⟩) (ints [2]) := by
                have h := slN (w5.setCell ⟨cb, 1, none⟩ (.slice (some ⟨w5.heap.size, 0, none⟩) 1 1)) 2
                rwa [World.size_setCell] at h
              cases b
              · go_wp2_with fail
                go_meet
                exact ⟨_, 1, [2], ⟨#[]⟩, _, rfl, hQ6.1, ⟨hS6.more (by simp), (fun g hg => by simp at hg; omega), by simp, (fun a e => by cases e; dsimp only; omega)⟩, (fun e => by cases e), hQ6.2.1, hQ6.2.2.1.le (by omega) (by omega), hQ6.2.2.2⟩
              · go_wp2_with fail
                go_meet
                exact ⟨A, c, H, ⟨#[]⟩, _, rfl, hQ5.1, ⟨hsl5, hHb'.out, hH2, hAb⟩, (fun e => by cases e), hQ5.2.1, hQ5.2.2.1.le (by omega) (by omega), hQ5.2.2.2⟩
        · go_wp2_with fail
          refine (src_pick B g _ 4 _ (by omega) (by omega) hs3 (by omega)).mono ?_
          rintro e w4 ⟨r, hr, rfl, hg4, hs4⟩
          obtain ⟨hc4, hG4, hs4', hR4⟩ := byP hg4 hs4 hcbw hgl ⟨hc3, hG3, hs3, hR3⟩
          have hO4 := World.ownsRow.kept hO0 hg4 (.inl rfl)
          clear hg4 hs4 hc3 hG3 hs3 hR3 hO0 d0 d1 hs20 hcl
          obtain ⟨m, rfl⟩ := Int.eq_ofNat_of_zero_le hr.1
          have hm4 : m ≤ 3 := by omega
          go_wp2_with fail
          go_loopw [4] (fun i wr => ∃ (m : Nat) (A : Option Addr) (c : Nat) (H : List Int), i = .int .i64 m ∧ H.length + m ≤ 3 ∧ (H.length ≤ 2) ∧ (∀ t ∈ H, 1 ≤ t ∧ t ≤ 9) ∧ wr.ownsRow (cb + 1) 2 1 (.slice A H.length c) H.length (ints H) ∧ Blk wr cb (chC 5 (.slice A H.length c) ⟨#[]⟩ C 0) 88 ∧ w.grownBy wr (some g) ∧ SrcAt wr B g (K + 6 + 2 * H.length) ∧ Blk wr w.heap.size (chC 0 (.slice none 0 0) ⟨#[]⟩ ⟨#[]⟩ 0) 88) (fun i _ => (intOf i).toNat)
          case atStart => exact ⟨m, none, 0, [], rfl, by simp; omega, by simp, (fun t ht => by cases ht), hO4, hc4, hG4, hs4'.le (by simp) (by simp; omega), hR4⟩
          case round =>
            clear hO4 hc4 hG4 hs4' hR4 hr hm4
            obtain ⟨m, A, c, H, rfl, hHm, hH2, hHb, hown, hcr, hGr, hsr, hRr⟩ := hrel
            have hwr := hGr.size
            have hcl := hcr.lt
            have hnb : ∀ q, (Value.slice A H.length c).ownBlock = some q → cb < q := fun q e => (hown.lt q e).1
            have hnb' : ∀ q, q ≤ cb → (Value.slice A H.length c).ownBlock = none ∨ (Value.slice A H.length c).ownBlock ≠ some q := fun q hq => .inr (fun e => by have := hnb q e; omega)
            by_cases h1 : 1 < m
            · have hm1 : (1 : Int) < (m : Int) := by omega
              have hm2 : (m : Int) ≤ 3 := by omega
              have d1 : wr.cell? ⟨cb, 1, none⟩ = some (.slice A H.length c) := hcr.cell rfl
              have f1 := hcr.frozen 1
              have mixed : Tryz.prog.follows .mixedOrders = true := by kernel_rfl
              go_wp2_with fail
              go_region_law_o (first | (go_simp; go_at_call 41; refine (src_pick B g (K + 6 + 2 * H.length) 3 wr.drew (by omega) (by omega) (hsr.on ((Below.refl _ _).drew)) (by omega)).mono ?_; rintro e w4 ⟨r, ⟨hra, hrb⟩, rfl, hg4, hs4⟩; obtain ⟨z, hz, hzb⟩ : ∃ z, IntKind.i64.wrap (1 + r) = z ∧ (1 ≤ z ∧ z ≤ 9) := ⟨1 + r, IntWalk.i64_in _ (by omega), by omega⟩; have hc4 := (hcr.on ((Below.refl _ _).drew)).grown hg4 (fun e => by have := Option.some.inj e; omega); have d4 : w4.cell? ⟨cb, 1, none⟩ = some (.slice A H.length c) := hc4.cell rfl; have hcl4 := hc4.lt; have hO4 := World.ownsRow.kept (owns_onP hown ((Below.refl _ _).drew)) hg4 (hnb' g (by omega)); have hg5 : wr.grownBy w4 (some g) := World.grownBy.trans (grown_noneP ((Below.refl _ _).drew) _) hg4; have hO5 := owns_onP hO4 (show Below _ _ (w4.alloc (.cells #[.int .i64 z] 2)) by go_grown); have hc5 := hc4.on (show Below _ _ (w4.alloc (.cells #[.int .i64 z] 2)) by go_grown); have hQ5 := onP (show Below _ _ (w4.alloc (.cells #[.int .i64 z] 2)) by go_grown) (byP hg4 hs4 hcbw hgl (onP ((Below.refl _ _).drew) ⟨hcr, hGr, hsr, hRr⟩)); have hz4 : wr.heap.size ≤ w4.heap.size := hg4.size) | (refine step_append_ownP rfl _ _ 65 rfl (cb + 1) 2 i0 (.int .i64 0) 1 8 Tryz.underlying65 hi ie0 ie1 ie2 rfl (by decide) _ H.length (ints H) rfl hO5 ⟨_, 0, none⟩ 1 1 [.int .i64 z] rfl rfl (fun j u hu => newsP _ _ j u hu) (by intro u hu; simp at hu; subst hu; rfl) (by unfold maxLen; omega) (by omega) (by rw [World.size_alloc]; omega) ?_; intro v' w6 hO6 hg6; obtain ⟨A6, c6, rfl, -, -⟩ := owns_slc2 hO6; have hc6 := hc5.grown hg6 (fun e => by have := hnb _ e; omega); have d6 : w6.cell? ⟨cb, 1, none⟩ = some (.slice A H.length c) := hc6.cell rfl; have f6 := hc6.frozen 1; have hcl6 := hc6.lt))
              all_goals
                clear d1 f1 hsr hcr hGr hRr mixed d4 d6 f6 hc4 hc5 hc6 hO4 hO5 hz hg4 hown
                have hg6' : (w4.alloc (.cells #[.int .i64 z] 2)).grownBy w6 (Value.slice A H.length c).ownBlock := hg6
                have hQ6 := rowP hg6' hnb hcbw hgl hBw hQ5
                clear hQ5
                have hQ7 := setP (i := 1) (v := .slice A6 (H.length + 1) c6) hQ6.1 hQ6.2.1 hQ6.2.2.1 hQ6.2.2.2 hcbw hgc hBw
                have hO7 := World.ownsRow.kept hO6 (grown_oneP w6 cb 1 (.slice A6 (H.length + 1) c6)) (.inr (fun e => by have := (hO6.lt _ e).1; omega))
                clear hg6 hg6' hQ6 hO6
                have hb7 : ∀ t ∈ H ++ [z], 1 ≤ t ∧ t ≤ 9 := fun t ht => by
                  rcases List.mem_append.1 ht with h | h
                  · exact hHb t h
                  · simp at h; omega
                obtain ⟨H', hH', eL⟩ : ∃ H', H' = H ++ [z] ∧ H'.length = H.length + 1 := ⟨_, rfl, by simp⟩
                have eI : ints H ++ [.int .i64 z] = ints H' := by rw [hH', ints_one]
                rw [← hH'] at hb7
                rw [eI, ← eL] at hO7
                rw [← eL] at hQ7 ⊢
                generalize w6.setCell ⟨cb, 1, none⟩ (.slice A6 H'.length c6) = w7 at hO7 hQ7 ⊢
                have eL' := Lib.hid eL
                clear hH' eI hHb hnb hnb' eL hg5
                go_wp2_with fail
                go_roundw
                case rel =>
                  have eL := eL'.out
                  have hQ7' := hQ7.2.2.1.le (K2 := K + 6 + 2 * H'.length) (by omega) (by omega)
                  exact ⟨m - 1, A6, c6, H', by rw [show ((m - 1 : Nat) : Int) = (m : Int) - 1 by omega], by omega, by omega, hb7, hO7, hQ7.1, hQ7.2.1, hQ7', hQ7.2.2.2⟩
                case measure => simp [intOf]; omega
            · obtain ⟨A2, c2, e2, -, hsl⟩ := owns_slc2 hown
              cases e2
              have hm1 : (m : Int) ≤ 1 := by omega
              have hHb' := Lib.hid hHb
              have hAb : ∀ a, A = some a → cb < a.block := fun a e => by subst e; exact (hown.lt a.block rfl).1
              have d1 : wr.cell? ⟨cb, 1, none⟩ = some (.slice A H.length c) := hcr.cell rfl
              clear hown hHb hnb hnb'
              go_wp2_with fail
              refine (spec_GroupK H A c wr.heap.size wr hsl (Nat.le_refl _) hHb'.out (by omega)).mono ?_
              rintro e w5 ⟨⟨b, rfl⟩, hb5⟩
              have hQ5 := onP hb5 ⟨hcr, hGr, hsr, hRr⟩
              have hsl5 := (hsl.below hb5).more hb5.size
              have hcl5 := hQ5.1.lt
              clear hcr hGr hsr hRr hb5 hsl d1
              have d1 : w5.cell? ⟨cb, 1, none⟩ = some (.slice A H.length c) := hQ5.1.cell rfl
              have f1 := hQ5.1.frozen 1
              have hQ6 := onP (w6 := (w5.setCell ⟨cb, 1, none⟩ (.slice (some ⟨w5.heap.size, 0, none⟩) 1 1)).alloc (.cells #[.int .i64 2] 2)) (by go_grown) (setP (i := 1) (v := .slice (some ⟨w5.heap.size, 0, none⟩) 1 1) hQ5.1 hQ5.2.1 hQ5.2.2.1 hQ5.2.2.2 hcbw hgc hBw)
              have hS6 : Sl ((w5.setCell ⟨cb, 1, none⟩ (.slice (some ⟨w5.heap.size, 0, none⟩) 1 1)).alloc (.cells #[.int .i64 2] 2)) (w5.heap.size + 1) (some ⟨w5.heap.size, 0, none⟩) (ints [2]) := by
                have h := slN (w5.setCell ⟨cb, 1, none⟩ (.slice (some ⟨w5.heap.size, 0, none⟩) 1 1)) 2
                rwa [World.size_setCell] at h
              cases b
              · go_wp2_with fail
                go_meet
                exact ⟨_, 1, [2], ⟨#[]⟩, _, rfl, hQ6.1, ⟨hS6.more (by simp), (fun g hg => by simp at hg; omega), by simp, (fun a e => by cases e; dsimp only; omega)⟩, (fun e => by cases e), hQ6.2.1, hQ6.2.2.1.le (by omega) (by omega), hQ6.2.2.2⟩
              · go_wp2_with fail
                go_meet
                exact ⟨A, c, H, ⟨#[]⟩, _, rfl, hQ5.1, ⟨hsl5, hHb'.out, hH2, hAb⟩, (fun e => by cases e), hQ5.2.1, hQ5.2.2.1.le (by omega) (by omega), hQ5.2.2.2⟩
    case rest =>
      obtain ⟨A, c, H, L, wz, rfl, hcz, ⟨hSz, hHb, hHl, hAb⟩, hL, hGz, hsz, hRz⟩ := hcut
      apply_assumption
      have hHb' := Lib.hid hHb
      have hL' := Lib.hid hL
      have hcl := hcz.lt
      clear hHb hL
      go_wp2_with fail
      refine (spec_LeastK cb k H A c wz.heap.size L wz hk8 hcz.chA hSz (Nat.le_refl _) hHb'.out hHl hL'.out).mono ?_
      rintro e w4 ⟨r, hr, rfl, hb4⟩
      have hS4 := (hSz.below hb4).more hb4.size
      have hQ4 := onP hb4 ⟨hcz, hGz, hsz, hRz⟩
      clear hSz hcz hGz hsz hRz hb4 hcl
      have hcl := hQ4.1.lt
      go_wp2_with fail
      refine (spec_SteadyK cb k A H.length c L w4 hk8 (by omega) hQ4.1.chA).mono ?_
      rintro e w' ⟨st, hst, rfl, rfl⟩
      cases st
      · have hal : Below w4.heap.size w4 (w4.alloc (.cells #[.int .i64 0, .int .i64 5, .int .i64 20, .int .i64 50, .int .i64 100, .int .i64 1, .int .i64 200] 2)) := by go_grown
        have hQ5 := onP hal hQ4
        have hS5 := (hS4.below hal).more hal.size
        clear hst hQ4 hS4 hal
        go_wp2_with fail
        refine (src_among B g _ w4.heap.size 0 7 [0, 5, 20, 50, 100, 1, 200] _ (by simp) (by simp) hQ5.2.2.1 (by omega) (by simp) (by have := hQ5.2.2.1.2.1; omega) (fun j u hu => by rw [Nat.zero_add, World.cell?_alloc_new]; simpa using hu)).mono ?_
        rintro e w5 ⟨q, hq, rfl, hg5, hs5⟩
        have hQ6 := byP hg5 hs5 hcbw hgl hQ5
        have hS6 := slQ hS5 hg5 (fun a e h => by have := hAb a e; have := Option.some.inj h; omega)
        have hq2 : 0 ≤ q ∧ q ≤ 200 := by simp at hq; omega
        clear hQ5 hS5 hg5 hs5 hq hcl
        have hcl := hQ6.1.lt
        go_wp2_with fail
        refine (min_anyP _ _ _).mono ?_
        rintro e w' ⟨rfl, rfl⟩
        obtain ⟨p, hp⟩ : ∃ p, min 600 (r + q) = p := ⟨_, rfl⟩
        have hpb : 0 ≤ p ∧ p ≤ 600 ∧ (k = 3 → 20 ≤ p) := ⟨by omega, by omega, fun e => by have := hr.2.2 e; omega⟩
        rw [hp]
        clear hp hr hq2
        have hp0 := hpb.1
        have hp1 := hpb.2.1
        have d4 : w5.cell? ⟨cb, 4, none⟩ = some (.int .i64 0) := hQ6.1.cell rfl
        have d0 : w5.cell? ⟨cb, 0, none⟩ = some (.int .i64 k) := hQ6.1.cell rfl
        have f4 := hQ6.1.frozen 4
        have hQ7 := setP (i := 4) (v := .int .i64 p) hQ6.1 hQ6.2.1 hQ6.2.2.1 hQ6.2.2.2 hcbw hgc hBw
        have hS7 := slQ hS6 (grown_oneP w5 cb 4 (.int .i64 p)) (fun a e h => by have := hAb a e; have := Option.some.inj h; omega)
        by_cases hk3 : k = 3
        · subst hk3
          have hpm : 0 ≤ p % 2 ∧ p % 2 ≤ 1 := by omega
          have hp20 := hpb.2.2 rfl
          have hQ8 := setP (i := 4) (v := .int .i64 (p + p % 2)) hQ7.1 hQ7.2.1 hQ7.2.2.1 hQ7.2.2.2 hcbw hgc hBw
          have hS8 := slQ hS7 (grown_oneP _ cb 4 (.int .i64 (p + p % 2))) (fun a e h => by have := hAb a e; have := Option.some.inj h; omega)
          clear hQ7 hS7
          go_upto_region 27 with fail
          refine wp_at ?_
          intro w6 hw6
          have hw6' : w6 = (w5.setCell ⟨cb, 4, none⟩ (.int .i64 p)).setCell ⟨cb, 4, none⟩ (.int .i64 (p + p % 2)) := hw6
          rw [← hw6'] at hQ8 hS8
          obtain ⟨p2, hp2⟩ : ∃ p2, p + p % 2 = p2 := ⟨_, rfl⟩
          rw [hp2] at hQ8
          have hpc : 0 ≤ p2 ∧ p2 ≤ 700 ∧ 20 ≤ p2 := by omega
          clear hw6 hw6' hQ6 hS6 d0 d4 f4 hcl hp2 hpb hpm hp20
          have hcl := hQ8.1.lt
          have hQ9 : Blk w6 cb (chC 3 (.slice A H.length c) L C p2) 88 ∧ _ := hQ8
          clear hQ8
          have d0 : w6.cell? ⟨cb, 0, none⟩ = some (.int .i64 3) := hQ9.1.cell rfl
          have d1 : w6.cell? ⟨cb, 1, none⟩ = some (.slice A H.length c) := hQ9.1.cell rfl
          have d2 : w6.cell? ⟨cb, 2, none⟩ = some (.string L) := hQ9.1.cell rfl
          have d3 : w6.cell? ⟨cb, 3, none⟩ = some (.string C) := hQ9.1.cell rfl
          have d4 : w6.cell? ⟨cb, 4, none⟩ = some (.int .i64 p2) := hQ9.1.cell rfl
          have r0 : w6.cell? ⟨w.heap.size, 0, none⟩ = some (.int .i64 0) := hQ9.2.2.2.cell rfl
          have r1 : w6.cell? ⟨w.heap.size, 1, none⟩ = some (.slice none 0 0) := hQ9.2.2.2.cell rfl
          have r2 : w6.cell? ⟨w.heap.size, 2, none⟩ = some (.string ⟨#[]⟩) := hQ9.2.2.2.cell rfl
          have r3 : w6.cell? ⟨w.heap.size, 3, none⟩ = some (.string ⟨#[]⟩) := hQ9.2.2.2.cell rfl
          have r4 : w6.cell? ⟨w.heap.size, 4, none⟩ = some (.int .i64 0) := hQ9.2.2.2.cell rfl
          have q0 := hQ9.2.2.2.frozen 0
          have q1 := hQ9.2.2.2.frozen 1
          have q2 := hQ9.2.2.2.frozen 2
          have q3 := hQ9.2.2.2.frozen 3
          have q4 := hQ9.2.2.2.frozen 4
          have hrl := hQ9.2.2.2.lt
          go_wp2_with fail
          refine end_atP ?_
          intro wf hwf
          have hB : Blk wf w.heap.size (chC 3 (.slice A H.length c) L C p2) 88 := by rw [hwf]; exact hQ9.2.2.2.set.set.set.set.set
          have hgf : w6.grownBy wf (some w.heap.size) := by rw [hwf]; exact Go.Lib.grownBy_setB (Go.Lib.grownBy_setB (Go.Lib.grownBy_setB (Go.Lib.grownBy_setB (Go.Lib.grownBy_setB (World.grownBy.refl w6 (some w.heap.size)) 0 _) 1 _) 2 _) 3 _) 4 _
          clear hwf
          have t0 : wf.cell? ⟨w.heap.size, 0, none⟩ = some (.int .i64 3) := hB.cell rfl
          have t1 : wf.cell? ⟨w.heap.size, 1, none⟩ = some (.slice A H.length c) := hB.cell rfl
          have t2 : wf.cell? ⟨w.heap.size, 2, none⟩ = some (.string L) := hB.cell rfl
          have t3 : wf.cell? ⟨w.heap.size, 3, none⟩ = some (.string C) := hB.cell rfl
          have t4 : wf.cell? ⟨w.heap.size, 4, none⟩ = some (.int .i64 p2) := hB.cell rfl
          have hz9 := hQ9.2.1.size
          refine bodyPost_ret (by simp [results, Tryz.results58, go_sem, t0, t1, t2, t3, t4]; try rfl) rfl ?_
          refine ⟨3, A, c, H, L, C, p2, ⟨hk8, ⟨slQ hS8 hgf (fun a e h => by have := hAb a e; have := Option.some.inj h; omega), hHb'.out, hHl, fun a e => by have := hAb a e; omega⟩, hL'.out, hC, ⟨hpc.1, hpc.2.1, fun _ => hpc.2.2⟩⟩, rfl, ?_, hQ9.2.2.1.farP (by omega) hgf (fun k e => by have := Option.some.inj e; omega) |>.le (by omega) (by omega)⟩
          exact ⟨hgf.os.trans hQ9.2.1.os, hgf.tape.trans hQ9.2.1.tape, hgf.output.trans hQ9.2.1.output, Nat.le_trans hQ9.2.1.size hgf.size, fun j hj hne => (hgf.block j (Nat.lt_of_lt_of_le hj hQ9.2.1.size) (fun e => by have := Option.some.inj e; omega)).trans (hQ9.2.1.block j hj hne)⟩
        · have hk3' : (k == 3) = false := beq_eq_false_iff_ne.2 hk3
          go_upto_region 27 with fail
          refine wp_at ?_
          intro w6 hw6
          have hw6' : w6 = w5.setCell ⟨cb, 4, none⟩ (.int .i64 p) := hw6
          rw [← hw6'] at hQ7 hS7
          clear hw6 hw6' hQ6 hS6 d0 d4 f4 hcl hk3'
          have hcl := hQ7.1.lt
          have hQ8 : Blk w6 cb (chC k (.slice A H.length c) L C p) 88 ∧ _ := hQ7
          have d0 : w6.cell? ⟨cb, 0, none⟩ = some (.int .i64 k) := hQ8.1.cell rfl
          have d1 : w6.cell? ⟨cb, 1, none⟩ = some (.slice A H.length c) := hQ8.1.cell rfl
          have d2 : w6.cell? ⟨cb, 2, none⟩ = some (.string L) := hQ8.1.cell rfl
          have d3 : w6.cell? ⟨cb, 3, none⟩ = some (.string C) := hQ8.1.cell rfl
          have d4 : w6.cell? ⟨cb, 4, none⟩ = some (.int .i64 p) := hQ8.1.cell rfl
          have r0 : w6.cell? ⟨w.heap.size, 0, none⟩ = some (.int .i64 0) := hQ8.2.2.2.cell rfl
          have r1 : w6.cell? ⟨w.heap.size, 1, none⟩ = some (.slice none 0 0) := hQ8.2.2.2.cell rfl
          have r2 : w6.cell? ⟨w.heap.size, 2, none⟩ = some (.string ⟨#[]⟩) := hQ8.2.2.2.cell rfl
          have r3 : w6.cell? ⟨w.heap.size, 3, none⟩ = some (.string ⟨#[]⟩) := hQ8.2.2.2.cell rfl
          have r4 : w6.cell? ⟨w.heap.size, 4, none⟩ = some (.int .i64 0) := hQ8.2.2.2.cell rfl
          have q0 := hQ8.2.2.2.frozen 0
          have q1 := hQ8.2.2.2.frozen 1
          have q2 := hQ8.2.2.2.frozen 2
          have q3 := hQ8.2.2.2.frozen 3
          have q4 := hQ8.2.2.2.frozen 4
          have hrl := hQ8.2.2.2.lt
          go_wp2_with fail
          refine end_atP ?_
          intro wf hwf
          have hB : Blk wf w.heap.size (chC k (.slice A H.length c) L C p) 88 := by rw [hwf]; exact hQ8.2.2.2.set.set.set.set.set
          have hgf : w6.grownBy wf (some w.heap.size) := by rw [hwf]; exact Go.Lib.grownBy_setB (Go.Lib.grownBy_setB (Go.Lib.grownBy_setB (Go.Lib.grownBy_setB (Go.Lib.grownBy_setB (World.grownBy.refl w6 (some w.heap.size)) 0 _) 1 _) 2 _) 3 _) 4 _
          clear hwf
          have t0 : wf.cell? ⟨w.heap.size, 0, none⟩ = some (.int .i64 k) := hB.cell rfl
          have t1 : wf.cell? ⟨w.heap.size, 1, none⟩ = some (.slice A H.length c) := hB.cell rfl
          have t2 : wf.cell? ⟨w.heap.size, 2, none⟩ = some (.string L) := hB.cell rfl
          have t3 : wf.cell? ⟨w.heap.size, 3, none⟩ = some (.string C) := hB.cell rfl
          have t4 : wf.cell? ⟨w.heap.size, 4, none⟩ = some (.int .i64 p) := hB.cell rfl
          have hz9 := hQ8.2.1.size
          refine bodyPost_ret (by simp [results, Tryz.results58, go_sem, t0, t1, t2, t3, t4]; try rfl) rfl ?_
          refine ⟨k, A, c, H, L, C, p, ⟨hk8, ⟨slQ hS7 hgf (fun a e h => by have := hAb a e; have := Option.some.inj h; omega), hHb'.out, hHl, fun a e => by have := hAb a e; omega⟩, hL'.out, hC, ⟨hp0, (by omega), fun e => absurd e hk3⟩⟩, rfl, ?_, hQ8.2.2.1.farP (by omega) hgf (fun k e => by have := Option.some.inj e; omega) |>.le (by omega) (by omega)⟩
          exact ⟨hgf.os.trans hQ8.2.1.os, hgf.tape.trans hQ8.2.1.tape, hgf.output.trans hQ8.2.1.output, Nat.le_trans hQ8.2.1.size hgf.size, fun j hj hne => (hgf.block j (Nat.lt_of_lt_of_le hj hQ8.2.1.size) (fun e => by have := Option.some.inj e; omega)).trans (hQ8.2.1.block j hj hne)⟩
      · have d0 : w4.cell? ⟨cb, 0, none⟩ = some (.int .i64 k) := hQ4.1.cell rfl
        have d1 : w4.cell? ⟨cb, 1, none⟩ = some (.slice A H.length c) := hQ4.1.cell rfl
        have d2 : w4.cell? ⟨cb, 2, none⟩ = some (.string L) := hQ4.1.cell rfl
        have d3 : w4.cell? ⟨cb, 3, none⟩ = some (.string C) := hQ4.1.cell rfl
        have d4 : w4.cell? ⟨cb, 4, none⟩ = some (.int .i64 0) := hQ4.1.cell rfl
        have r0 : w4.cell? ⟨w.heap.size, 0, none⟩ = some (.int .i64 0) := hQ4.2.2.2.cell rfl
        have r1 : w4.cell? ⟨w.heap.size, 1, none⟩ = some (.slice none 0 0) := hQ4.2.2.2.cell rfl
        have r2 : w4.cell? ⟨w.heap.size, 2, none⟩ = some (.string ⟨#[]⟩) := hQ4.2.2.2.cell rfl
        have r3 : w4.cell? ⟨w.heap.size, 3, none⟩ = some (.string ⟨#[]⟩) := hQ4.2.2.2.cell rfl
        have r4 : w4.cell? ⟨w.heap.size, 4, none⟩ = some (.int .i64 0) := hQ4.2.2.2.cell rfl
        have q0 := hQ4.2.2.2.frozen 0
        have q1 := hQ4.2.2.2.frozen 1
        have q2 := hQ4.2.2.2.frozen 2
        have q3 := hQ4.2.2.2.frozen 3
        have q4 := hQ4.2.2.2.frozen 4
        have hrl := hQ4.2.2.2.lt
        go_wp2_with fail
        refine end_atP ?_
        intro wf hwf
        have hB : Blk wf w.heap.size (chC k (.slice A H.length c) L C 0) 88 := by rw [hwf]; exact hQ4.2.2.2.set.set.set.set.set
        have hgf : w4.grownBy wf (some w.heap.size) := by rw [hwf]; exact Go.Lib.grownBy_setB (Go.Lib.grownBy_setB (Go.Lib.grownBy_setB (Go.Lib.grownBy_setB (Go.Lib.grownBy_setB (World.grownBy.refl w4 (some w.heap.size)) 0 _) 1 _) 2 _) 3 _) 4 _
        clear hwf
        have t0 : wf.cell? ⟨w.heap.size, 0, none⟩ = some (.int .i64 k) := hB.cell rfl
        have t1 : wf.cell? ⟨w.heap.size, 1, none⟩ = some (.slice A H.length c) := hB.cell rfl
        have t2 : wf.cell? ⟨w.heap.size, 2, none⟩ = some (.string L) := hB.cell rfl
        have t3 : wf.cell? ⟨w.heap.size, 3, none⟩ = some (.string C) := hB.cell rfl
        have t4 : wf.cell? ⟨w.heap.size, 4, none⟩ = some (.int .i64 0) := hB.cell rfl
        have hz9 := hQ4.2.1.size
        refine bodyPost_ret (by simp [results, Tryz.results58, go_sem, t0, t1, t2, t3, t4]; try rfl) rfl ?_
        refine ⟨k, A, c, H, L, C, 0, ⟨hk8, ⟨slQ hS4 hgf (fun a e h => by have := hAb a e; have := Option.some.inj h; omega), hHb'.out, hHl, fun a e => by have := hAb a e; omega⟩, hL'.out, hC, ⟨by omega, by omega, fun e => by have := hst e; cases this⟩⟩, rfl, ?_, hQ4.2.2.1.farP (by omega) hgf (fun k e => by have := Option.some.inj e; omega) |>.le (by omega) (by omega)⟩
        exact ⟨hgf.os.trans hQ4.2.1.os, hgf.tape.trans hQ4.2.1.tape, hgf.output.trans hQ4.2.1.output, Nat.le_trans hQ4.2.1.size hgf.size, fun j hj hne => (hgf.block j (Nat.lt_of_lt_of_le hj hQ4.2.1.size) (fun e => by have := Option.some.inj e; omega)).trans (hQ4.2.1.block j hj hne)⟩
end Go.Proofs.YtpnffdkkmibchaaGreatDoor
