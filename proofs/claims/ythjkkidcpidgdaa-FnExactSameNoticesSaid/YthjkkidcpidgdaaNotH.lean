/-
  SameNotices: the program's function returns what the reference's returns, for all arguments. Under no condition. How a row of notices comes in, and the test of its copies. Each under the conditions that it states.
-/
import Derived.Test.YthjkkidcpidgdaaNotG
import Derived.Test.YthjkkidcpidgdaaNotC
import Derived.Test.YthjkkidcpidgdaaNotE
import Derived.Test.YthjkkidcpidgdaaIntss
import Derived.BigQuiet
set_option linter.unusedVariables false
set_option linter.unnecessarySimpa false
set_option maxRecDepth 100000
set_option linter.unusedSimpArgs false
namespace Go.Proofs.Ythjkkidcpidgdaa
open Go.RowKit BigFrame Go.Deep


def RNotice.okT (w : World) (n : RNotice) : Prop := n.a.ok w w.heap.size
theorem wpQuiet_load {P : Program} {ops : Array Oper} {C : World → Prop} {Q : Act → Prop} {a : Act} {o : Oper} {rest : List Oper} (hw : Region.wanted o (yielded ops a.tmps) = true) (ty : TypeId) (x : Operand) (ho : o.op = .load ty x) (b off : Nat) (hx : a.eval x = .pointer (some ⟨b, off, none⟩)) (v : Value) (hl : ∀ w, C w → (Instr.loadAt ty (.pointer (some ⟨b, off, none⟩))).run P w = .ok v w) (h : wpQuiet P ops C Q rest (a.put o.dst v)) : wpQuiet P ops C Q (o :: rest) a :=
  wpQuiet_want hw (fun K hK => ⟨v, fun w hC => by
    unfold Oper.quietAt execOp
    simp only [ho, hx, Sem.run_bind, hl w hC, Sem.run_pure, Result.andThen_ok]
    exact ⟨rfl, rfl⟩, hK _ h⟩)
def okNotices (w : World) (B : Nat) (L : List RNotice) : Prop := ∀ n ∈ L, n.a.ok w B
section
open Go.ChangeShapes Go.WideShapes Go.ChangeAt Go.Deep
set_option maxHeartbeats 800000 in
theorem trod_Notice {H : Type} {enc : TypeId × Value → H} {w : World} {spare : Nat → Bool} {held : Bool} {m : Nat} {c : List Value} {y : DataW H × List MemPlace} (h : DataW.trod enc Try.prog w 0 spare held m 47 c = some y) : ∃ a : RNotice, c = a.cells ∧ RNotice.okT w a := by
  have hc : c.length = 20 := by
    obtain ⟨_, _, _, _, hl, _⟩ := DataW.trod_struct Try.underlying47 h
    exact hl.trans (by kernel_rfl)
  obtain ⟨c0, c1, c2, c3, c4, c5, c6, c7, c8, c9, c10, c11, c12, c13, c14, c15, c16, c17, c18, c19, rfl⟩ : ∃ c0 c1 c2 c3 c4 c5 c6 c7 c8 c9 c10 c11 c12 c13 c14 c15 c16 c17 c18 c19, c = [c0, c1, c2, c3, c4, c5, c6, c7, c8, c9, c10, c11, c12, c13, c14, c15, c16, c17, c18, c19] := by
    match c, hc with
    | [c0, c1, c2, c3, c4, c5, c6, c7, c8, c9, c10, c11, c12, c13, c14, c15, c16, c17, c18, c19], _ => exact ⟨c0, c1, c2, c3, c4, c5, c6, c7, c8, c9, c10, c11, c12, c13, c14, c15, c16, c17, c18, c19, rfl⟩
  obtain ⟨xsrc0_c19, nrc0_c19, _, _, _, hlrc0_c19, hfrc0_c19⟩ := DataW.trod_struct Try.underlying47 h
  have grc0_c19_0 := (hfrc0_c19 0 _ rfl).trans (List.getElem?_eq_getElem (by rw [hlrc0_c19]; decide))
  obtain ⟨zc0, ec0, _, qc0⟩ := DataW.trod_int Try.underlying2 (show DataW.trod enc Try.prog w 0 spare held nrc0_c19 2 [c0] = _ from grc0_c19_0)
  have grc0_c19_1 := (hfrc0_c19 1 _ rfl).trans (List.getElem?_eq_getElem (by rw [hlrc0_c19]; decide))
  obtain ⟨zc1, ec1, _, qc1⟩ := DataW.trod_int Try.underlying2 (show DataW.trod enc Try.prog w 0 spare held nrc0_c19 2 [c1] = _ from grc0_c19_1)
  have grc0_c19_2 := (hfrc0_c19 2 _ rfl).trans (List.getElem?_eq_getElem (by rw [hlrc0_c19]; decide))
  obtain ⟨zc2, ec2, _, qc2⟩ := DataW.trod_int Try.underlying2 (show DataW.trod enc Try.prog w 0 spare held nrc0_c19 2 [c2] = _ from grc0_c19_2)
  have grc0_c19_3 := (hfrc0_c19 3 _ rfl).trans (List.getElem?_eq_getElem (by rw [hlrc0_c19]; decide))
  obtain ⟨zc3, ec3, _, qc3⟩ := DataW.trod_int Try.underlying2 (show DataW.trod enc Try.prog w 0 spare held nrc0_c19 2 [c3] = _ from grc0_c19_3)
  have grc0_c19_4 := (hfrc0_c19 4 _ rfl).trans (List.getElem?_eq_getElem (by rw [hlrc0_c19]; decide))
  replace grc0_c19_4 := (show DataW.trod enc Try.prog w 0 spare held nrc0_c19 45 [c4, c5, c6, c7, c8, c9, c10, c11, c12, c13, c14, c15, c16, c17, c18, c19] = _ from grc0_c19_4)
  obtain ⟨xsrc4_c19, nrc4_c19, _, _, _, hlrc4_c19, hfrc4_c19⟩ := DataW.trod_struct Try.underlying45 grc0_c19_4
  have grc4_c19_0 := (hfrc4_c19 0 _ rfl).trans (List.getElem?_eq_getElem (by rw [hlrc4_c19]; decide))
  obtain ⟨zc4, ec4, _, qc4⟩ := DataW.trod_int Try.underlying2 (show DataW.trod enc Try.prog w 0 spare held nrc4_c19 2 [c4] = _ from grc4_c19_0)
  have grc4_c19_1 := (hfrc4_c19 1 _ rfl).trans (List.getElem?_eq_getElem (by rw [hlrc4_c19]; decide))
  obtain ⟨zc5, ec5, _, qc5⟩ := DataW.trod_string Try.underlying9 (show DataW.trod enc Try.prog w 0 spare held nrc4_c19 9 [c5] = _ from grc4_c19_1)
  have grc4_c19_2 := (hfrc4_c19 2 _ rfl).trans (List.getElem?_eq_getElem (by rw [hlrc4_c19]; decide))
  replace grc4_c19_2 := (show DataW.trod enc Try.prog w 0 spare held nrc4_c19 37 [c6, c7] = _ from grc4_c19_2)
  obtain ⟨xsrc6_c7, nrc6_c7, _, _, _, hlrc6_c7, hfrc6_c7⟩ := DataW.trod_struct Try.underlying37 grc4_c19_2
  have grc6_c7_0 := (hfrc6_c7 0 _ rfl).trans (List.getElem?_eq_getElem (by rw [hlrc6_c7]; decide))
  obtain ⟨zc6, ec6, _, qc6⟩ := DataW.trod_int Try.underlying2 (show DataW.trod enc Try.prog w 0 spare held nrc6_c7 2 [c6] = _ from grc6_c7_0)
  have grc6_c7_1 := (hfrc6_c7 1 _ rfl).trans (List.getElem?_eq_getElem (by rw [hlrc6_c7]; decide))
  obtain ⟨zc7, ec7, _, qc7⟩ := DataW.trod_int Try.underlying2 (show DataW.trod enc Try.prog w 0 spare held nrc6_c7 2 [c7] = _ from grc6_c7_1)
  have grc4_c19_3 := (hfrc4_c19 3 _ rfl).trans (List.getElem?_eq_getElem (by rw [hlrc4_c19]; decide))
  obtain ⟨zc8, ec8, _, qc8⟩ := DataW.trod_int Try.underlying2 (show DataW.trod enc Try.prog w 0 spare held nrc4_c19 2 [c8] = _ from grc4_c19_3)
  have grc4_c19_4 := (hfrc4_c19 4 _ rfl).trans (List.getElem?_eq_getElem (by rw [hlrc4_c19]; decide))
  replace grc4_c19_4 := (show DataW.trod enc Try.prog w 0 spare held nrc4_c19 39 [c9, c10, c11, c12] = _ from grc4_c19_4)
  obtain ⟨xsrc9_c12, nrc9_c12, _, _, _, hlrc9_c12, hfrc9_c12⟩ := DataW.trod_struct Try.underlying39 grc4_c19_4
  have grc9_c12_0 := (hfrc9_c12 0 _ rfl).trans (List.getElem?_eq_getElem (by rw [hlrc9_c12]; decide))
  obtain ⟨zc9, ec9, _, qc9⟩ := DataW.trod_int Try.underlying2 (show DataW.trod enc Try.prog w 0 spare held nrc9_c12 2 [c9] = _ from grc9_c12_0)
  have grc9_c12_1 := (hfrc9_c12 1 _ rfl).trans (List.getElem?_eq_getElem (by rw [hlrc9_c12]; decide))
  obtain ⟨zc10, ec10, _, qc10⟩ := DataW.trod_string Try.underlying9 (show DataW.trod enc Try.prog w 0 spare held nrc9_c12 9 [c10] = _ from grc9_c12_1)
  have grc9_c12_2 := (hfrc9_c12 2 _ rfl).trans (List.getElem?_eq_getElem (by rw [hlrc9_c12]; decide))
  obtain ⟨zc11, ec11, _, qc11⟩ := DataW.trod_string Try.underlying9 (show DataW.trod enc Try.prog w 0 spare held nrc9_c12 9 [c11] = _ from grc9_c12_2)
  have grc9_c12_3 := (hfrc9_c12 3 _ rfl).trans (List.getElem?_eq_getElem (by rw [hlrc9_c12]; decide))
  obtain ⟨zc12, ec12, _, qc12⟩ := DataW.trod_string Try.underlying9 (show DataW.trod enc Try.prog w 0 spare held nrc9_c12 9 [c12] = _ from grc9_c12_3)
  have grc4_c19_5 := (hfrc4_c19 5 _ rfl).trans (List.getElem?_eq_getElem (by rw [hlrc4_c19]; decide))
  replace grc4_c19_5 := (show DataW.trod enc Try.prog w 0 spare held nrc4_c19 42 [c13, c14, c15, c16, c17] = _ from grc4_c19_5)
  obtain ⟨xsrc13_c17, nrc13_c17, _, _, _, hlrc13_c17, hfrc13_c17⟩ := DataW.trod_struct Try.underlying42 grc4_c19_5
  have grc13_c17_0 := (hfrc13_c17 0 _ rfl).trans (List.getElem?_eq_getElem (by rw [hlrc13_c17]; decide))
  obtain ⟨zc13, ec13, _, qc13⟩ := DataW.trod_int Try.underlying2 (show DataW.trod enc Try.prog w 0 spare held nrc13_c17 2 [c13] = _ from grc13_c17_0)
  have grc13_c17_1 := (hfrc13_c17 1 _ rfl).trans (List.getElem?_eq_getElem (by rw [hlrc13_c17]; decide))
  obtain ⟨Ac14, kc14, Lc14, ec14, sc14, _, mc14⟩ := open_row Try.underlying40 Try.underlying2 (by kernel_rfl) (show DataW.trod enc Try.prog w 0 spare held nrc13_c17 40 [c14] = _ from grc13_c17_1)
  have grc13_c17_2 := (hfrc13_c17 2 _ rfl).trans (List.getElem?_eq_getElem (by rw [hlrc13_c17]; decide))
  obtain ⟨zc15, ec15, _, qc15⟩ := DataW.trod_string Try.underlying9 (show DataW.trod enc Try.prog w 0 spare held nrc13_c17 9 [c15] = _ from grc13_c17_2)
  have grc13_c17_3 := (hfrc13_c17 3 _ rfl).trans (List.getElem?_eq_getElem (by rw [hlrc13_c17]; decide))
  obtain ⟨zc16, ec16, _, qc16⟩ := DataW.trod_string Try.underlying9 (show DataW.trod enc Try.prog w 0 spare held nrc13_c17 9 [c16] = _ from grc13_c17_3)
  have grc13_c17_4 := (hfrc13_c17 4 _ rfl).trans (List.getElem?_eq_getElem (by rw [hlrc13_c17]; decide))
  obtain ⟨zc17, ec17, _, qc17⟩ := DataW.trod_int Try.underlying2 (show DataW.trod enc Try.prog w 0 spare held nrc13_c17 2 [c17] = _ from grc13_c17_4)
  have grc4_c19_6 := (hfrc4_c19 6 _ rfl).trans (List.getElem?_eq_getElem (by rw [hlrc4_c19]; decide))
  obtain ⟨Ac18, kc18, Lc18, ec18, sc18, oc18, mc18⟩ := open_flat RSector.cells RSector.ok RSector.len (by decide) Try.underlying43 (by kernel_rfl) (fun _ _ _ h => trod_Sector h) (show DataW.trod enc Try.prog w 0 spare held nrc4_c19 43 [c18] = _ from grc4_c19_6)
  have grc4_c19_7 := (hfrc4_c19 7 _ rfl).trans (List.getElem?_eq_getElem (by rw [hlrc4_c19]; decide))
  obtain ⟨zc19, ec19, _, qc19⟩ := DataW.trod_int Try.underlying2 (show DataW.trod enc Try.prog w 0 spare held nrc4_c19 2 [c19] = _ from grc4_c19_7)
  obtain rfl : c0 = _ := by simpa using ec0
  obtain rfl : c1 = _ := by simpa using ec1
  obtain rfl : c2 = _ := by simpa using ec2
  obtain rfl : c3 = _ := by simpa using ec3
  obtain rfl : c4 = _ := by simpa using ec4
  obtain rfl : c5 = _ := by simpa using ec5
  obtain rfl : c6 = _ := by simpa using ec6
  obtain rfl : c7 = _ := by simpa using ec7
  obtain rfl : c8 = _ := by simpa using ec8
  obtain rfl : c9 = _ := by simpa using ec9
  obtain rfl : c10 = _ := by simpa using ec10
  obtain rfl : c11 = _ := by simpa using ec11
  obtain rfl : c12 = _ := by simpa using ec12
  obtain rfl : c13 = _ := by simpa using ec13
  obtain rfl : c14 = _ := by simpa using ec14
  obtain rfl : c15 = _ := by simpa using ec15
  obtain rfl : c16 = _ := by simpa using ec16
  obtain rfl : c17 = _ := by simpa using ec17
  obtain rfl : c18 = _ := by simpa using ec18
  obtain rfl : c19 = _ := by simpa using ec19
  exact ⟨⟨zc0, zc1, zc2, zc3, ⟨zc4, zc5, zc6, zc7, zc8, zc9, zc10, zc11, zc12, zc13, ⟨Ac14, kc14, Lc14⟩, zc15, zc16, zc17, ⟨Ac18, kc18, Lc18⟩, zc19⟩⟩, rfl, ⟨qc5, qc10, qc11, qc12, qc15, qc16⟩, ⟨sc14, mc14⟩, ⟨sc18, oc18, mc18⟩⟩
theorem open_NoticeS {H : Type} {enc : TypeId × Value → H} {w : World} {spare : Nat → Bool} {held : Bool} {fuel : Nat} {cs : List Value} {x : DataW H × List MemPlace} (h : DataW.trod enc Try.prog w 0 spare held fuel 22 cs = some x) :
    ∃ (A : Option Addr) (c : Nat) (L : List RNotice), cs = [.slice A L.length c] ∧ Sl w w.heap.size A (flat RNotice.cells L) ∧ okNotices w w.heap.size L ∧ L.length ≤ maxLen :=
  open_flat RNotice.cells (RNotice.okT w) RNotice.len (by decide) Try.underlying22 (by kernel_rfl) (fun _ _ _ h => trod_Notice h) h
end
theorem alt_of {a b : RNotice} (e : b.dt = a.dt) : ∃ (A2 : Option Addr) (c2 : Nat) (A3 : Option Addr) (c3 : Nat), b = { a with a := { a.a with g := ⟨A2, c2, a.a.g.L⟩, s := ⟨A3, c3, a.a.s.L⟩ } } := by
  rcases a with ⟨x0, x1, x2, x3, ⟨a0, a1, a2, a3, a4, a5, a6, a7, a8, a9, ⟨gA, gc, gL⟩, a11, a12, a13, ⟨sA, sc, sL⟩, a15⟩⟩
  rcases b with ⟨y0, y1, y2, y3, ⟨b0, b1, b2, b3, b4, b5, b6, b7, b8, b9, ⟨gA', gc', gL'⟩, b11, b12, b13, ⟨sA', sc', sL'⟩, b15⟩⟩
  simp only [RNotice.dt, RAid.dt, RNotice.mk.injEq, RAid.mk.injEq, GRow.mk.injEq, SRow.mk.injEq, true_and] at e
  obtain ⟨rfl, rfl, rfl, rfl, rfl, rfl, rfl, rfl, rfl, rfl, rfl, rfl, rfl, rfl, rfl, rfl, rfl, rfl, rfl, rfl⟩ := e
  exact ⟨gA', gc', sA', sc', rfl⟩
theorem dts_at {L M : List RNotice} (h : dts M = dts L) {k : Nat} (h1 : k < L.length) (h2 : k < M.length) : (M[k]).dt = (L[k]).dt := by
  have e : (dts M)[k]'(by simpa [dts] using h2) = (dts L)[k]'(by simpa [dts] using h1) := by simp [h]
  simpa [dts] using e
theorem dts_len {L M : List RNotice} (h : dts M = dts L) : M.length = L.length := by
  have := congrArg List.length h
  simpa [dts] using this
theorem dt_same {a b a' b' : RNotice} (h : a'.dt = a.dt) (h2 : b'.dt = b.dt) : a'.same b' = a.same b := by
  obtain ⟨A2, c2, A3, c3, rfl⟩ := alt_of h
  obtain ⟨A2', c2', A3', c3', rfl⟩ := alt_of h2
  rfl
theorem dts_same {L M R Q : List RNotice} (h : dts R = dts L) (h2 : dts Q = dts M) : sameNM R Q = sameNM L M := by
  have l1 := dts_len h
  have l2 := dts_len h2
  unfold sameNM
  rw [l1, l2]
  by_cases hl : L.length = M.length
  · rw [decide_eq_true hl]
    have key : ∀ n, n ≤ L.length → allTo (alike R Q) n = allTo (alike L M) n := fun n => by
      induction n with
      | zero => intro _; rfl
      | succ n ih =>
        intro hn
        have e := ih (by omega)
        have e2 : alike R Q n = alike L M n := by
          rw [alike_at (by omega) (by omega), alike_at (by omega) (by omega)]
          exact dt_same (dts_at h (by omega) (by omega)) (dts_at h2 (by omega) (by omega))
        simp only [allTo]
        rw [e, e2]
    rw [key _ (Nat.le_refl _)]
  · rw [decide_eq_false hl]; rfl
theorem dts_fits {L R : List RNotice} (h : dts R = dts L) (hf : fitsNs L) : fitsNs R := ⟨by rw [dts_len h]; exact hf.1, fun r hr => by
  have hm : r.dt ∈ dts L := by rw [← h]; exact List.mem_map.2 ⟨r, hr, rfl⟩
  obtain ⟨n, hn, en⟩ := List.mem_map.1 hm
  have hq := hf.2 n hn
  have e1 : r.a.g.L = n.a.g.L := (congrArg (fun z : RNotice => z.a.g.L) en).symm
  have e2 : r.a.s.L = n.a.s.L := (congrArg (fun z : RNotice => z.a.s.L) en).symm
  unfold RAid.fits at hq ⊢
  rw [e1, e2]
  exact hq⟩
set_option maxHeartbeats 3200000 in
theorem eqNoticeS_dt (L M : List RNotice) (A A2 : Option Addr) (c c2 B : Nat) (w : World) (hs : Sl w B A (flat RNotice.cells L)) (hs2 : Sl w B A2 (flat RNotice.cells M)) (hB : B ≤ w.heap.size) (ok : okNs w B L) (ok2 : okNs w B M) (hf : fitsNs L) (e : dts M = dts L) : Calls Try.prog 9 #[.slice A L.length c, .slice A2 L.length c2] w fun e w' => e = .returned (.bool true) ∧ Below w.heap.size w w' := by
  have hl := hf.1
  have hs' := Lib.hid hs
  have hs2' := Lib.hid hs2
  have ok' := Lib.hid ok
  have ok2' := Lib.hid ok2
  have hf' := Lib.hid hf.2
  have he' := Lib.hid e
  have hlen' := Lib.hid (dts_len e)
  clear hs hs2 ok ok2 hf e
  go_enter Try.func9, Try.ntmps9
  go_wp2
  go_loopw [5] (fun i wr => ∃ k : Nat, i = .int .i64 k ∧ k ≤ L.length ∧ Below w.heap.size w wr) (fun i _ => L.length - (intOf i).toNat)
  case atStart => exact ⟨0, rfl, Nat.zero_le _, Below.refl _ _⟩
  case round =>
    obtain ⟨k, rfl, hk, hB1⟩ := hrel
    by_cases hlt : k < L.length
    · have hltM : k < M.length := by have := hlen'.out; omega
      obtain ⟨bp, op, rfl, hwp, hnp⟩ := elem_nd hs'.out (hB1.mono hB) (Nat.le_trans hB hB1.size) hlt
      obtain ⟨bq, oq, rfl, hwq, hnq⟩ := elem_nd hs2'.out (hB1.mono hB) (Nat.le_trans hB hB1.size) hltM
      have oka := RAid.ok_below (ok'.out _ (List.getElem_mem hlt)) (hB1.mono hB)
      have okb := RAid.ok_below (ok2'.out _ (List.getElem_mem hltM)) (hB1.mono hB)
      have fa := hf'.out _ (List.getElem_mem hlt)
      have hBr : B ≤ wr.heap.size := Nat.le_trans hB hB1.size
      obtain ⟨A2, c2, A3, c3, hb⟩ := alt_of (dts_at he'.out hlt hltM)
      rw [hb] at hnq okb
      obtain ⟨a, ha⟩ : ∃ a, L[k] = a := ⟨_, rfl⟩
      rw [ha] at hnp oka fa hnq okb
      clear ha hb
      have g1 := Lib.hid oka.2.1.1
      have g2 := Lib.hid okb.2.1.1
      have g3 := Lib.hid oka.2.2.1
      have g4 := Lib.hid okb.2.2.1
      dsimp only at g2 g4
      clear oka okb
      have hA : ∀ w', (∃ p : Grew wr, w' = p.world) → (Instr.loadAt 55 (.pointer (some ⟨bp, op + k * 20, none⟩))).run Try.prog w' = .ok (.agg #[.int .i64 a.f0, .int .i64 a.f1, .int .i64 a.f2, .int .i64 a.f3, .int .i64 a.a.n, .string a.a.name, .int .i64 a.a.x, .int .i64 a.a.y, .int .i64 a.a.h, .int .i64 a.a.md, .string a.a.mc, .string a.a.ms, .string a.a.mt, .int .i64 a.a.lk, .slice a.a.g.A a.a.g.L.length a.a.g.c, .string a.a.ll, .string a.a.lc, .int .i64 a.a.lp, .slice a.a.s.A a.a.s.L.length a.a.s.c, .int .i64 a.a.i]) w' := fun w' hw' => by
        obtain ⟨p, rfl⟩ := hw'
        exact run_loadAt_mid p.world bp (op + k * 20) 55 [.int .i64 a.f0, .int .i64 a.f1, .int .i64 a.f2, .int .i64 a.f3, .int .i64 a.a.n, .string a.a.name, .int .i64 a.a.x, .int .i64 a.a.y, .int .i64 a.a.h, .int .i64 a.a.md, .string a.a.mc, .string a.a.ms, .string a.a.mt, .int .i64 a.a.lk, .slice a.a.g.A a.a.g.L.length a.a.g.c, .string a.a.ll, .string a.a.lc, .int .i64 a.a.lp, .slice a.a.s.A a.a.s.L.length a.a.s.c, .int .i64 a.a.i] (.struct _) (range_on hnp.2 hnp.1 p.below) Try.underlying55 rfl (by kernel_rfl)
      have hD : ∀ w', (∃ p : Grew wr, w' = p.world) → (Instr.loadAt 55 (.pointer (some ⟨bq, oq + k * 20, none⟩))).run Try.prog w' = .ok (.agg #[.int .i64 a.f0, .int .i64 a.f1, .int .i64 a.f2, .int .i64 a.f3, .int .i64 a.a.n, .string a.a.name, .int .i64 a.a.x, .int .i64 a.a.y, .int .i64 a.a.h, .int .i64 a.a.md, .string a.a.mc, .string a.a.ms, .string a.a.mt, .int .i64 a.a.lk, .slice A2 a.a.g.L.length c2, .string a.a.ll, .string a.a.lc, .int .i64 a.a.lp, .slice A3 a.a.s.L.length c3, .int .i64 a.a.i]) w' := fun w' hw' => by
        obtain ⟨p, rfl⟩ := hw'
        exact run_loadAt_mid p.world bq (oq + k * 20) 55 [.int .i64 a.f0, .int .i64 a.f1, .int .i64 a.f2, .int .i64 a.f3, .int .i64 a.a.n, .string a.a.name, .int .i64 a.a.x, .int .i64 a.a.y, .int .i64 a.a.h, .int .i64 a.a.md, .string a.a.mc, .string a.a.ms, .string a.a.mt, .int .i64 a.a.lk, .slice A2 a.a.g.L.length c2, .string a.a.ll, .string a.a.lc, .int .i64 a.a.lp, .slice A3 a.a.s.L.length c3, .int .i64 a.a.i] (.struct _) (range_on hnq.2 hnq.1 p.below) Try.underlying55 rfl (by kernel_rfl)
      have HA := Lib.hid hA
      have HD := Lib.hid hD
      clear hA hD
      clear hnp hnq
      go_wp2_with fail
      refine wp_region_grew (by kernel_rfl) (by kernel_rfl) ?_
      repeat (first | (refine wpQuiet_load (by rfl) 55 _ (by rfl) bp (op + k * 20) (by rfl) _ HA.out ?_) | (refine wpQuiet_load (by rfl) 55 _ (by rfl) bq (oq + k * 20) (by rfl) _ HD.out ?_) | (go_big_quiet_step ((first | (go_at_call 21; exact grew_of (eqNoticeN a A2 A3 c2 c3 B _ (g1.out.below ((Grew.below _).mono hBr)) (g2.out.below ((Grew.below _).mono hBr)) (g3.out.below ((Grew.below _).mono hBr)) (g4.out.below ((Grew.below _).mono hBr)) (Nat.le_trans hBr (Grew.below _).size) fa))))) | (quiet_step ((first | (go_at_call 21; exact grew_of (eqNoticeN a A2 A3 c2 c3 B _ (g1.out.below ((Grew.below _).mono hBr)) (g2.out.below ((Grew.below _).mono hBr)) (g3.out.below ((Grew.below _).mono hBr)) (g4.out.below ((Grew.below _).mono hBr)) (Nat.le_trans hBr (Grew.below _).size) fa))))))
      refine wpQuiet_nil ?_
      rintro _ ⟨⟨w9, hb9⟩, rfl⟩
      try dsimp only
      go_wp2
      go_roundw
      case rel => exact ⟨k + 1, by go_num, by omega, bnext hB1 hb9⟩
      case measure => simp [intOf]; omega
    · obtain rfl : k = L.length := by omega
      go_wp2
      go_ret
      exact ⟨rfl, hB1⟩
/-- A copy of the row L: the notices R at A. -/
def Cp (w : World) (A : Option Addr) (L R : List RNotice) : Prop := Sl w w.heap.size A (flat RNotice.cells R) ∧ okN w w.heap.size R ∧ dts R = dts L
theorem ok_more {w : World} {B B' : Nat} {a : RAid} (h : a.ok w B) (hB : B ≤ B') : a.ok w B' := ⟨h.1, ⟨h.2.1.1.more hB, h.2.1.2⟩, ⟨h.2.2.1.more hB, h.2.2.2⟩⟩
theorem Cp.on {w w' : World} {A : Option Addr} {L R : List RNotice} (h : Cp w A L R) (hb : Below w.heap.size w w') : Cp w' A L R :=
  ⟨(h.1.below hb).more hb.size, fun n hn => ok_more (RAid.ok_below (h.2.1 n hn) hb) hb.size, h.2.2⟩
theorem to_cp (L : List RNotice) (A : Option Addr) (c : Nat) (W w : World) (hs : Sl W W.heap.size A (flat RNotice.cells L)) (hok : okNotices W W.heap.size L) (hf : fitsN L) (hb : Below W.heap.size W w) : Calls Try.prog 7 #[.slice A L.length c] w fun e w' => ∃ R, Cp w' (some ⟨w.heap.size, 0, none⟩) L R ∧ e = .returned (.slice (some ⟨w.heap.size, 0, none⟩) L.length L.length) ∧ Below w.heap.size w w' :=
  (toNoticeS_any L A c W.heap.size w (hs.below hb) hb.size (fun n hn => RAid.ok_below (hok n hn) hb) hf).mono fun e w' ⟨R, d, k, he, hb', hr⟩ => ⟨R, ⟨hr, k, d⟩, he, hb'⟩
theorem spec_cp (L M R Q : List RNotice) (A A2 : Option Addr) (c c2 : Nat) (w : World) (h : Cp w A L R) (h2 : Cp w A2 M Q) (hf : fitsNs L) (hf2 : fitsNs M) : Calls Try.prog 6 #[.slice A L.length c, .slice A2 M.length c2] w fun e w' => e = .returned (.bool (sameNM L M)) ∧ Below w.heap.size w w' := by
  rw [← dts_len h.2.2, ← dts_len h2.2.2, ← dts_same h.2.2 h2.2.2]
  exact spec_SameN R Q A A2 c c2 w.heap.size w h.1 h2.1 (Nat.le_refl _) h.2.1 h2.2.1 (dts_fits h.2.2 hf) (dts_fits h2.2.2 hf2)
theorem impl_cp (L M R Q : List RNotice) (A A2 : Option Addr) (c c2 : Nat) (w : World) (h : Cp w A L R) (h2 : Cp w A2 M Q) (hf : fitsNs L) (hf2 : fitsNs M) : Calls Try.prog 8 #[.slice A L.length c, .slice A2 M.length c2] w fun e w' => e = .returned (.bool (sameNM L M)) ∧ Below w.heap.size w w' := by
  rw [← dts_len h.2.2, ← dts_len h2.2.2, ← dts_same h.2.2 h2.2.2]
  exact impl_SameN R Q A A2 c c2 w.heap.size w h.1 h2.1 (Nat.le_refl _) h.2.1 h2.2.1 (dts_fits h.2.2 hf) (dts_fits h2.2.2 hf2)
theorem eq_cp (L R Q : List RNotice) (A A2 : Option Addr) (c c2 : Nat) (w : World) (h : Cp w A L R) (h2 : Cp w A2 L Q) (hf : fitsNs L) : Calls Try.prog 9 #[.slice A L.length c, .slice A2 L.length c2] w fun e w' => e = .returned (.bool true) ∧ Below w.heap.size w w' := by
  rw [← dts_len h.2.2]
  exact eqNoticeS_dt R Q A A2 c c2 w.heap.size w h.1 h2.1 (Nat.le_refl _) h.2.1 h2.2.1 (dts_fits h.2.2 hf) (h2.2.2.trans h.2.2.symm)
theorem own : ownKnob Try.prog.godebug = none := by kernel_rfl
theorem laidOut : laidOutB Try.prog = true := by kernel_rfl
namespace fnExactSameNotices
open Go.ChangeShapes Go.WideShapes Go.ChangeAt Go.RowKit
set_option linter.unusedVariables false
set_option maxHeartbeats 3200000 in
theorem walk (W : World) (A0 : Option Addr) (c0 : Nat) (L0 : List RNotice) (s0 : Sl W W.heap.size A0 (flat RNotice.cells L0)) (b0 : okNotices W W.heap.size L0) (m0 : L0.length ≤ maxLen) (A1 : Option Addr) (c1 : Nat) (L1 : List RNotice) (s1 : Sl W W.heap.size A1 (flat RNotice.cells L1)) (b1 : okNotices W W.heap.size L1) (m1 : L1.length ≤ maxLen) :
    Calls Try.prog 3 #[.slice A0 L0.length c0, .slice A1 L1.length c1] W fun e w' => e = .returned (.bool true) ∧ Below W.heap.size W w' := by
  have s0' := Lib.hid s0
  have s1' := Lib.hid s1
  have o0 := Lib.hid b0
  have o1 := Lib.hid b1
  clear s0 s1 b0 b1
  have hB00 : Below W.heap.size W W := Below.refl _ _
  go_enter Try.func3, Try.ntmps3
  go_wp2_with fail
  refine (szNoticeS_rec L0 _ _ W.heap.size 1048576 _ s0'.out (Nat.le_refl _) o0.out m0 (by omega) (by omega)).mono ?_
  rintro e wa ⟨l1, ⟨⟨g1, g2⟩, g3⟩, rfl, hba⟩
  have hBa := bnext hB00 hba
  by_cases h1 : l1 < 0
  · clear g3
    go_wp2_with fail
    go_ret
    exact ⟨rfl, hBa⟩
  have f0 := Lib.hid (g3 (by omega))
  clear g3
  go_wp2_with fail
  refine (szNoticeS_rec L1 _ _ W.heap.size l1 _ (s1'.out.below hBa) hBa.size (fun n hn => RAid.ok_below (o1.out n hn) hBa) m1 (by omega) (by omega)).mono ?_
  rintro e wb ⟨l2, ⟨⟨g4, g5⟩, g6⟩, rfl, hbb⟩
  have hB0 := bnext hBa hbb
  by_cases h2 : l2 < 0
  · clear g6
    go_wp2_with fail
    go_ret
    exact ⟨rfl, hB0⟩
  have f1 := Lib.hid (g6 (by omega))
  clear g6
  go_wp2_with fail
  clear h1 h2 g1 g2 g4 g5
  refine (to_cp L0 _ _ W _ s0'.out o0.out f0.out hB0).mono ?_
  rintro e w1 ⟨R1, r1, rfl, hb1⟩
  have hB1 := bnext hB0 hb1
  have r1 := Lib.hid r1
  go_wp2_with fail
  refine (to_cp L1 _ _ W _ s1'.out o1.out f1.out hB1).mono ?_
  rintro e w2 ⟨R2, r2, rfl, hb2⟩
  have hB2 := bnext hB1 hb2
  have r2 := Lib.hid r2
  go_wp2_with fail
  refine (spec_cp L0 L1 R1 R2 _ _ _ _ _ (r1.out.on hb2) r2.out f0.out f1.out).mono ?_
  rintro e w3 ⟨rfl, hb3⟩
  have hB3 := bnext hB2 hb3
  clear r1 r2
  go_wp2_with fail
  refine (to_cp L0 _ _ W _ s0'.out o0.out f0.out hB3).mono ?_
  rintro e w4 ⟨R4, r4, rfl, hb4⟩
  have hB4 := bnext hB3 hb4
  have r4 := Lib.hid r4
  go_wp2_with fail
  refine (to_cp L1 _ _ W _ s1'.out o1.out f1.out hB4).mono ?_
  rintro e w5 ⟨R5, r5, rfl, hb5⟩
  have hB5 := bnext hB4 hb5
  have r5 := Lib.hid r5
  go_wp2_with fail
  have r4 := Lib.hid (r4.out.on hb5)
  refine (impl_cp L0 L1 R4 R5 _ _ _ _ _ r4.out r5.out f0.out f1.out).mono ?_
  rintro e w6 ⟨rfl, hb6⟩
  have hB6 := bnext hB5 hb6
  have r4 := Lib.hid (r4.out.on hb6)
  have r5 := Lib.hid (r5.out.on hb6)
  go_wp2_with fail
  refine (to_cp L0 _ _ W _ s0'.out o0.out f0.out hB6).mono ?_
  rintro e w7 ⟨R7, r7, rfl, hb7⟩
  have hB7 := bnext hB6 hb7
  have r7 := Lib.hid r7
  go_wp2_with fail
  have r5 := Lib.hid (r5.out.on hb7)
  refine (eq_cp L0 R4 R7 _ _ _ _ _ (r4.out.on hb7) r7.out f0.out).mono ?_
  rintro e w8 ⟨rfl, hb8⟩
  have hB8 := bnext hB7 hb8
  have r5 := Lib.hid (r5.out.on hb8)
  clear r4 r7
  go_wp2_with fail
  refine (to_cp L1 _ _ W _ s1'.out o1.out f1.out hB8).mono ?_
  rintro e w9 ⟨R9, r9, rfl, hb9⟩
  have hB9 := bnext hB8 hb9
  have r9 := Lib.hid r9
  go_wp2_with fail
  refine (eq_cp L1 R5 R9 _ _ _ _ _ (r5.out.on hb9) r9.out f1.out).mono ?_
  rintro e w10 ⟨rfl, hb10⟩
  go_wp2_with fail
  go_ret
  exact ⟨rfl, bnext hB9 hb10⟩

theorem lifted (os : Os) (started : os.Started) (H : Type) (enc : TypeId × Value → H) :
    ReturnsInHanded {} Try.checked os 3 .any (Rows.fnExactSameNoticesSpec.pre6 enc Try.prog Try.f3 Rows.fnExactSameNoticesRow.domain false) (Rows.fnExactSameNoticesSpec.post enc Try.prog Try.f3 false true false false) := by
  refine returnsInHanded_of_change (C := Try.checked) own started (by kernel_rfl) Try.func3
    (ChangeSpec.witness6 (enc := enc) (C := Try.checked) false ⟨#[], #[.slice none 0 0, .slice none 0 0], []⟩ 8 (by kernel_rfl) (by kernel_rfl) (by kernel_rfl) (by kernel_rfl)) ?_
  intro W base args ds gs before hval0 hW hcnd _
  have hval : ∀ (j : Nat) t v, Try.f3.params[j]? = some t → args[j]? = some v → Value.okWide Try.prog W .any base t v := hval0
  have hW' := hW
  obtain ⟨p, q, hA0, hV, rfl, hfz, hnd⟩ := hW
  have hA : DataW.TrodAll enc Try.prog W 0 (fun _ => true) true Try.f3.params.toList args.toList ds p := hA0
  rw [Try.params3] at hA hval
  obtain ⟨v0, vs0, d0, ds0, p0, q0, hargs, rfl, rfl, h0, r0⟩ := trodAll_cons hA
  obtain ⟨v1, vs1, d1, ds1, p1, q1, rfl, rfl, rfl, h1, r1⟩ := trodAll_cons r0
  obtain ⟨rfl, rfl, rfl⟩ := trodAll_nil r1
  obtain rfl : args = #[v0, v1] := by cases args; simp_all
  have g0 := h0
  have g1 := h1
  obtain ⟨rfl, rfl⟩ := trodVars_none hV
  clear hA0 hval0
  simp only [List.append_nil] at hW'
  have hlt : ∀ x ∈ p0 ++ (p1), x.block < W.heap.size := fun x hx => by simpa using hW'.lt x (by simpa using hx)
  obtain ⟨fu0, hf0⟩ := h0
  obtain ⟨A0, c0, L0, hv0, s0, b0, m0⟩ := open_NoticeS hf0
  obtain ⟨va0, vl0, vc0, rfl⟩ := Go.WideShapes.okWide_slice Try.underlying22 (hval 0 22 _ rfl rfl)
  obtain ⟨rfl, rfl, rfl⟩ : A0 = va0 ∧ L0.length = vl0 ∧ c0 = vc0 := by have := hv0; simp [Value.cells] at this; exact ⟨this.1.symm, this.2.1.symm, this.2.2.symm⟩
  obtain ⟨fu1, hf1⟩ := h1
  obtain ⟨A1, c1, L1, hv1, s1, b1, m1⟩ := open_NoticeS hf1
  obtain ⟨va1, vl1, vc1, rfl⟩ := Go.WideShapes.okWide_slice Try.underlying22 (hval 1 22 _ rfl rfl)
  obtain ⟨rfl, rfl, rfl⟩ : A1 = va1 ∧ L1.length = vl1 ∧ c1 = vc1 := by have := hv1; simp [Value.cells] at this; exact ⟨this.1.symm, this.2.1.symm, this.2.2.symm⟩
  refine (walk W A0 c0 L0 s0 b0 m0 A1 c1 L1 s1 b1 m1).mono fun e W' ⟨he, hg⟩ => ?_
  subst he
  exact ⟨_, rfl, post_below (pa := _) hW' (trodAll_cons_mk (shut_bool Try.underlying4 _) trodAll_mk0) (trodAll_cons_mk (Below.trod laidOut (by kernel_rfl) (of_decide_eq_true (by kernel_rfl)) g0 hg (fun x hx => hlt x (by simp [hx]))) (trodAll_cons_mk (Below.trod laidOut (by kernel_rfl) (of_decide_eq_true (by kernel_rfl)) g1 hg (fun x hx => hlt x (by simp [hx]))) trodAll_mk0)) rfl (by simp) hg⟩

theorem over : Rows.fnExactSameNoticesRow.holds Try.pinned (OpenSpec.ofChange Rows.fnExactSameNoticesSpec) :=
  OpenClaim.holds_of_wide 3 Try.f3 rfl rfl rfl rfl rfl rfl rfl ⟨rfl, rfl, rfl, rfl, rfl⟩ rfl rfl rfl rfl rfl (by kernel_rfl) Try.func3 (by kernel_rfl)
    (of_decide_eq_true (by kernel_rfl)) (by unfold Func.isWrapper; first | (rw [if_pos (by decide +kernel)]; kernel_rfl) | (rw [if_neg (by decide +kernel)]; exact ⟨rfl, rfl⟩))
    (fun os started H enc _ => lifted os started H enc)

theorem proved : Rows.FnExactSameNoticesSaid := over
#print axioms proved
end fnExactSameNotices

end Go.Proofs.Ythjkkidcpidgdaa
