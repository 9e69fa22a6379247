/-
  Contracts of the sizes of notices, as the laws measure them. Each under the conditions that it states.
-/
import Derived.Test.YthjkkidcpidgdaaNotB
set_option linter.unusedVariables false
set_option linter.unnecessarySimpa false
set_option maxRecDepth 100000
set_option linter.unusedSimpArgs false
namespace Go.Proofs.Ythjkkidcpidgdaa
open Go.RowKit BigFrame Go.Deep


set_option maxHeartbeats 3200000 in
theorem szAid_rec (a : RAid) (B : Nat) (w : World) (ok : a.ok w B) (hB : B ≤ w.heap.size) (l : Int) (h1 : -1 ≤ l) (h2 : l ≤ 1048576) : Calls Try.prog 31 #[.agg #[.int .i64 a.n, .string a.name, .int .i64 a.x, .int .i64 a.y, .int .i64 a.h, .int .i64 a.md, .string a.mc, .string a.ms, .string a.mt, .int .i64 a.lk, .slice a.g.A a.g.L.length a.g.c, .string a.ll, .string a.lc, .int .i64 a.lp, .slice a.s.A a.s.L.length a.s.c, .int .i64 a.i], .int .i64 l] w (SzPost l a.fits w) := by
  obtain ⟨⟨q1, q2, q3, q4, q5, q6⟩, ⟨_, q7⟩, ⟨q8, q9, q10⟩⟩ := ok
  have hs' := Lib.hid q8
  have hk' := Lib.hid q9
  clear q8 q9
  have q11 : a.name.size ≤ 9223372036854775807 := by simpa [maxLen, IntKind.max, IntKind.bits, IntKind.signed] using q1
  by_cases n1 : l - (a.name.size : Int) < 0
  · go_enter Try.func31, Try.ntmps31
    go_wp2
    go_ret
    exact ⟨-1, ⟨⟨by omega, by omega⟩, fun h => by omega⟩, rfl, by go_grown⟩
  go_enter Try.func31, Try.ntmps31
  go_upto_region 4 with fail
  refine wp_atN ?_
  intro wa hwa
  have hP : Blk wa w.heap.size #[.int .i64 a.n, .string a.name, .int .i64 a.x, .int .i64 a.y, .int .i64 a.h, .int .i64 a.md, .string a.mc, .string a.ms, .string a.mt, .int .i64 a.lk, .slice a.g.A a.g.L.length a.g.c, .string a.ll, .string a.lc, .int .i64 a.lp, .slice a.s.A a.s.L.length a.s.c, .int .i64 a.i] 45 := by rw [hwa]; exact (Blk.new _ _ _).on (by go_grown)
  have hBa : Below w.heap.size w wa := by rw [hwa]; go_grown
  clear hwa
  have c5 := hP.cell (k := 5) (v := .int .i64 a.md) rfl
  have c6 := hP.cell (k := 6) (v := .string a.mc) rfl
  have c7 := hP.cell (k := 7) (v := .string a.ms) rfl
  have c8 := hP.cell (k := 8) (v := .string a.mt) rfl
  go_wp2_with fail
  refine (szMark_rec a.md a.mc a.ms a.mt q2 q3 q4 (l - (a.name.size : Int)) (by omega) (by omega) _).mono ?_
  rintro e w1 ⟨r1, ⟨⟨p1, p2⟩, -⟩, rfl, hb1⟩
  have hB1 := bnext hBa hb1
  have hP1 := hP.on hb1
  clear c5 c6 c7 c8
  have c9 := hP1.cell (k := 9) (v := .int .i64 a.lk) rfl
  have c10 := hP1.cell (k := 10) (v := .slice a.g.A a.g.L.length a.g.c) rfl
  have c11 := hP1.cell (k := 11) (v := .string a.ll) rfl
  have c12 := hP1.cell (k := 12) (v := .string a.lc) rfl
  have c13 := hP1.cell (k := 13) (v := .int .i64 a.lp) rfl
  by_cases k1 : r1 < 0
  · go_wp2_with fail
    go_ret
    exact ⟨-1, ⟨⟨by omega, by omega⟩, fun h => by omega⟩, rfl, hB1⟩
  go_wp2_with fail
  refine (szCharacter_rec a.lk a.g.A a.g.L.length a.g.c a.ll a.lc a.lp q7 q5 q6 r1 (by omega) (by omega) _).mono ?_
  rintro e w2 ⟨r2, ⟨⟨p3, p4⟩, p5⟩, rfl, hb2⟩
  have hB2 := bnext hB1 hb2
  have hP2 := hP1.on hb2
  clear c9 c10 c11 c12 c13
  have c14 := hP2.cell (k := 14) (v := .slice a.s.A a.s.L.length a.s.c) rfl
  by_cases k2 : r2 < 0
  · go_wp2_with fail
    go_ret
    exact ⟨-1, ⟨⟨by omega, by omega⟩, fun h => by omega⟩, rfl, hB2⟩
  go_wp2_with fail
  refine (szSectorS_rec a.s.L a.s.A a.s.c B r2 _ (hs'.out.below (hB2.mono hB)) (Nat.le_trans hB hB2.size) hk'.out q10 (by omega) (by omega)).mono ?_
  rintro e w3 ⟨rfl, hb3⟩
  have hB3 := bnext hB2 hb3
  have hbd := szS_bd (f := RSector.szN) (show -1 ≤ r2 by omega) a.s.L
  have hge := Lib.hid (fun h => szS_ge (f := RSector.szN) (l := r2) (L := a.s.L) h)
  generalize szS RSector.szN r2 a.s.L = r3 at hbd hge
  clear c14
  by_cases k3 : r3 < 0
  · go_wp2_with fail
    go_ret
    exact ⟨-1, ⟨⟨by omega, by omega⟩, fun h => by omega⟩, rfl, hB3⟩
  go_wp2_with fail
  go_ret
  exact ⟨r3, ⟨⟨by omega, by omega⟩, fun _ => ⟨p5 (by omega), by have := (hge.out k3).1; omega⟩⟩, rfl, hB3⟩
set_option maxHeartbeats 1600000 in
theorem szNotice_rec (n : RNotice) (B : Nat) (w : World) (ok : n.a.ok w B) (hB : B ≤ w.heap.size) (l : Int) (h1 : -1 ≤ l) (h2 : l ≤ 1048576) : Calls Try.prog 15 #[.agg #[.int .i64 n.f0, .int .i64 n.f1, .int .i64 n.f2, .int .i64 n.f3, .int .i64 n.a.n, .string n.a.name, .int .i64 n.a.x, .int .i64 n.a.y, .int .i64 n.a.h, .int .i64 n.a.md, .string n.a.mc, .string n.a.ms, .string n.a.mt, .int .i64 n.a.lk, .slice n.a.g.A n.a.g.L.length n.a.g.c, .string n.a.ll, .string n.a.lc, .int .i64 n.a.lp, .slice n.a.s.A n.a.s.L.length n.a.s.c, .int .i64 n.a.i], .int .i64 l] w (SzPost l n.a.fits w) := by
  have ok' := Lib.hid ok
  clear ok
  go_enter Try.func15, Try.ntmps15
  go_upto_region 1 with fail
  refine wp_atN ?_
  intro wa hwa
  have hP : Blk wa w.heap.size #[.int .i64 n.f0, .int .i64 n.f1, .int .i64 n.f2, .int .i64 n.f3, .int .i64 n.a.n, .string n.a.name, .int .i64 n.a.x, .int .i64 n.a.y, .int .i64 n.a.h, .int .i64 n.a.md, .string n.a.mc, .string n.a.ms, .string n.a.mt, .int .i64 n.a.lk, .slice n.a.g.A n.a.g.L.length n.a.g.c, .string n.a.ll, .string n.a.lc, .int .i64 n.a.lp, .slice n.a.s.A n.a.s.L.length n.a.s.c, .int .i64 n.a.i] 47 := by rw [hwa]; exact Blk.new _ _ _
  have hBa : Below w.heap.size w wa := by rw [hwa]; go_grown
  clear hwa
  have hld : wa.rangeAt w.heap.size 4 [.int .i64 n.a.n, .string n.a.name, .int .i64 n.a.x, .int .i64 n.a.y, .int .i64 n.a.h, .int .i64 n.a.md, .string n.a.mc, .string n.a.ms, .string n.a.mt, .int .i64 n.a.lk, .slice n.a.g.A n.a.g.L.length n.a.g.c, .string n.a.ll, .string n.a.lc, .int .i64 n.a.lp, .slice n.a.s.A n.a.s.L.length n.a.s.c, .int .i64 n.a.i] := range_sub hP.range 4
  go_wp2_with (refine wpList_load_mid (by rfl) 45 _ (by rfl) (w.heap.size) (4) (by rfl) [.int .i64 n.a.n, .string n.a.name, .int .i64 n.a.x, .int .i64 n.a.y, .int .i64 n.a.h, .int .i64 n.a.md, .string n.a.mc, .string n.a.ms, .string n.a.mt, .int .i64 n.a.lk, .slice n.a.g.A n.a.g.L.length n.a.g.c, .string n.a.ll, .string n.a.lc, .int .i64 n.a.lp, .slice n.a.s.A n.a.s.L.length n.a.s.c, .int .i64 n.a.i] (.struct _) hld Try.underlying45 rfl (by kernel_rfl) ?_)
  refine (szAid_rec n.a B _ (RAid.ok_below ok'.out (hBa.mono hB)) (Nat.le_trans hB hBa.size) l h1 h2).mono ?_
  rintro e w1 ⟨r1, ⟨⟨p1, p2⟩, p3⟩, rfl, hb1⟩
  have hB1 := bnext hBa hb1
  clear hld
  by_cases k1 : r1 < 0
  · go_wp2_with fail
    go_ret
    exact ⟨-1, ⟨⟨by omega, by omega⟩, fun h => by omega⟩, rfl, hB1⟩
  go_wp2_with fail
  go_ret
  exact ⟨r1, ⟨⟨p1, p2⟩, fun h => p3 h⟩, rfl, hB1⟩
/-- A row of notices that came in: each is well made. -/
def okN (w : World) (B : Nat) (L : List RNotice) : Prop := ∀ n ∈ L, n.a.ok w B
theorem okN.at {w w' : World} {B : Nat} {L : List RNotice} (h : okN w B L) (hb : Below B w w') {k : Nat} (hk : k < L.length) : (L[k]).a.ok w' B := RAid.ok_below (h _ (List.getElem_mem hk)) hb
def fitsTo (L : List RNotice) (k : Nat) : Prop := ∀ (j : Nat) (h : j < L.length), j < k → (L[j]).a.fits
theorem fitsTo_step {L : List RNotice} {k : Nat} (h : fitsTo L k) (hk : k < L.length) (e : (L[k]).a.fits) : fitsTo L (k + 1) := fun j hj hjk => by
  rcases (by omega : j < k ∨ j = k) with h3 | rfl
  · exact h j hj h3
  · exact e
def fitsN (L : List RNotice) : Prop := L.length ≤ 1048576 ∧ ∀ n ∈ L, n.a.fits
theorem fitsTo_all {L : List RNotice} (h : fitsTo L L.length) : ∀ n ∈ L, n.a.fits := fun n hn => by
  obtain ⟨j, hj, rfl⟩ := List.getElem_of_mem hn
  exact h j hj hj
set_option maxHeartbeats 1600000 in
theorem szNoticeS_rec (L : List RNotice) (A : Option Addr) (c B : Nat) (l : Int) (w : World) (hs : Sl w B A (flat RNotice.cells L)) (hB : B ≤ w.heap.size) (hok : okN w B L) (hn : L.length ≤ maxLen) (h1 : -1 ≤ l) (h2 : l ≤ 1048576) : Calls Try.prog 5 #[.slice A L.length c, .int .i64 l] w (SzPost l (fitsN L) w) := by
  have hn2 : L.length ≤ 9223372036854775807 := by simpa [maxLen, IntKind.max, IntKind.bits, IntKind.signed] using hn
  have hs' := Lib.hid hs
  have hok' := Lib.hid hok
  clear hs hok
  by_cases h : l - (L.length : Int) < 0
  · go_enter Try.func5, Try.ntmps5
    go_wp2
    go_ret
    exact ⟨-1, ⟨⟨by omega, by omega⟩, fun h => by omega⟩, rfl, by go_grown⟩
  go_enter Try.func5, Try.ntmps5
  go_wp2
  go_loopw [1, 5] (fun x i wr => ∃ (k : Nat) (z : Int), x = .int .i64 z ∧ i = .int .i64 k ∧ k ≤ L.length ∧ 0 ≤ z ∧ z ≤ l ∧ fitsTo L k ∧ Below w.heap.size w wr) (fun _ i _ => L.length - (intOf i).toNat)
  case atStart => exact ⟨0, _, rfl, rfl, Nat.zero_le _, by omega, by omega, fun j _ hj => absurd hj (Nat.not_lt_zero _), Below.refl _ _⟩
  case round =>
    obtain ⟨k, z, rfl, rfl, hk, hz0, hz1, hv, hB1⟩ := hrel
    have hv' := Lib.hid hv
    clear hv
    by_cases hlt : k < L.length
    · obtain ⟨b, o, rfl, hb, he⟩ := Sl.elem RNotice.len (by decide) (hs'.out.below (hB1.mono hB)) hlt
      have hst := Lib.hid (fun e => fitsTo_step hv'.out hlt e)
      have hoa := Lib.hid (hok'.out.at (hB1.mono hB) hlt)
      have hrg : wr.rangeAt b (o + k * 20) (L[k]).cells := fun j v hv => by have := he j v hv; rwa [← Nat.add_assoc] at this
      obtain ⟨n, hnn⟩ : ∃ n, L[k] = n := ⟨_, rfl⟩
      rw [hnn] at hst hoa hrg
      clear he hnn
      have hld : wr.rangeAt b (o + k * 20) [.int .i64 n.f0, .int .i64 n.f1, .int .i64 n.f2, .int .i64 n.f3, .int .i64 n.a.n, .string n.a.name, .int .i64 n.a.x, .int .i64 n.a.y, .int .i64 n.a.h, .int .i64 n.a.md, .string n.a.mc, .string n.a.ms, .string n.a.mt, .int .i64 n.a.lk, .slice n.a.g.A n.a.g.L.length n.a.g.c, .string n.a.ll, .string n.a.lc, .int .i64 n.a.lp, .slice n.a.s.A n.a.s.L.length n.a.s.c, .int .i64 n.a.i] := hrg
      clear hrg
      go_wp2_with (refine wpList_load_mid (by rfl) 47 _ (by rfl) (b) (o + k * 20) (by rfl) [.int .i64 n.f0, .int .i64 n.f1, .int .i64 n.f2, .int .i64 n.f3, .int .i64 n.a.n, .string n.a.name, .int .i64 n.a.x, .int .i64 n.a.y, .int .i64 n.a.h, .int .i64 n.a.md, .string n.a.mc, .string n.a.ms, .string n.a.mt, .int .i64 n.a.lk, .slice n.a.g.A n.a.g.L.length n.a.g.c, .string n.a.ll, .string n.a.lc, .int .i64 n.a.lp, .slice n.a.s.A n.a.s.L.length n.a.s.c, .int .i64 n.a.i] (.struct _) hld Try.underlying47 rfl (by kernel_rfl) ?_)
      refine (szNotice_rec n B _ hoa.out (Nat.le_trans hB hB1.size) z (by omega) (by omega)).mono ?_
      rintro e w1 ⟨r1, ⟨⟨p1, p2⟩, p3⟩, rfl, hb1⟩
      clear hld
      by_cases k1 : r1 < 0
      · go_wp2_with fail
        go_ret
        exact ⟨-1, ⟨⟨by omega, by omega⟩, fun h => by omega⟩, rfl, bnext hB1 hb1⟩
      have hf2 := Lib.hid (hst.out (p3 (by omega)))
      go_wp2_with fail
      go_roundw
      case rel => exact ⟨k + 1, r1, rfl, by go_num, by omega, by omega, by omega, hf2.out, bnext hB1 hb1⟩
      case measure => simp [intOf]; omega
    · obtain rfl : k = L.length := by omega
      go_wp2
      go_ret
      exact ⟨z, ⟨⟨by omega, hz1⟩, fun _ => ⟨by omega, fitsTo_all hv'.out⟩⟩, rfl, hB1⟩
end Go.Proofs.Ythjkkidcpidgdaa
