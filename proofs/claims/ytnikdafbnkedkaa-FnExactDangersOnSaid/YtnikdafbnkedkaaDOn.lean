/-
  Contracts of the names of dangers on a path: the program's and the reference's. Each under the conditions that it states. (Does not build yet.)
-/
import Derived.Test.YtnikdafbnkedkaaDAt
import Derived.Test.YtnikdafbnkedkaaClear
set_option linter.unusedVariables false
set_option linter.unnecessarySimpa false
set_option maxRecDepth 100000
set_option linter.unusedSimpArgs false
namespace Go.Proofs.Ytnikdafbnkedkaa
open Go.RowKit BigFrame

def nearP (P : List (Int × Int)) (mg : Int) (a : RDanger) : Bool := decide (ctM P a.f1 a.f2 (P.length - 1) - a.f3 < mg)
set_option maxHeartbeats 1600000 in
theorem spec_DOn_ok (L : List RDanger) (A : Option Addr) (c B : Nat) (P : List (Int × Int)) (A2 : Option Addr) (c2 : Nat) (mg : Int) (w : World) (hs : Sl w B A (flat RDanger.cells L)) (hs2 : Sl w B A2 (pcells P)) (hB : B ≤ w.heap.size) (hok : ∀ a ∈ L, a.ok) (hl : L.length ≤ 1048576) (hv : vDangsM L = true) (hp : pathM P = true) (hmg : inB mg 0 20000 = true) :
    Calls Try.prog 49 #[.slice A L.length c, .slice A2 P.length c2, .int .i64 mg] w fun e w' => ∃ v, e = .returned (.tuple #[v, .int .i64 0]) ∧ Below w.heap.size w w' ∧ Rs w' w.heap.size 9 1 v (namesTo (nearP P mg) L L.length).length ((namesTo (nearP P mg) L L.length).map Value.string) := by
  have hs' := Lib.hid hs
  have hok' := Lib.hid hok
  have hv' := Lib.hid hv
  have hs2' := Lib.hid hs2
  obtain ⟨pa, pb, pc⟩ := path_yes hp
  obtain ⟨i0, hi, ie0, ie1, ie2⟩ := info_parts infoStr
  clear hs hs2 hok
  go_enter Try.func49, Try.ntmps49
  go_wp2_with (first | (go_at_call 84; refine (spec_l14Ok L _ _ B _ (hs'.out.below ((show Below w.heap.size w _ by go_grown).mono hB)) (by omega) hok'.out hl).mono ?_; rintro e w1 ⟨rfl, hb1⟩; have hB1 := bnext (w := w) (by go_grown) hb1; have hS1 := hB1.size; (skip); obtain ⟨hc1, hf1⟩ := bcell hb1; clear hb1) | (go_at_call 102; refine (spec_Path P _ _ B _ (hs2'.out.below ((show Below w.heap.size w _ by go_grown).mono hB)) (by have := hS1; omega) (by omega)).mono ?_; rintro e w1 ⟨rfl, hb1⟩; have hB1 := bnext (w := w) (by go_grown) hb1; have hS1 := hB1.size; (skip); obtain ⟨hc1, hf1⟩ := bcell hb1; clear hb1) | (go_at_call 110; refine (in_any _ _ _ _).mono ?_; rintro e w' ⟨rfl, rfl⟩))
  have hO0 : (w1.alloc (.cells #[] 9)).ownsRow w.heap.size 9 1 (.slice (some ⟨w1.heap.size, 0, none⟩) 0 0) (namesTo (nearP P mg) L 0).length ((namesTo (nearP P mg) L 0).map Value.string) := World.ownsRow_made w1 #[] 0 (by omega) (Nat.zero_le _) rfl
  have hB0 : Below w.heap.size w (w1.alloc (.cells #[] 9)) := by go_grown
  have hs1 : w.heap.size + 1 ≤ (w1.alloc (.cells #[] 9)).heap.size := by simp; omega
  go_loopw [8, 9] (fun v i wr => ∃ k : Nat, i = .int .i64 k ∧ k ≤ L.length ∧ Below w.heap.size w wr ∧ wr.ownsRow w.heap.size 9 1 v (namesTo (nearP P mg) L k).length ((namesTo (nearP P mg) L k).map Value.string)) (fun _ i _ => L.length - (intOf i).toNat)
  case atStart => exact ⟨0, rfl, Nat.zero_le _, hB0, hO0⟩
  case round =>
    clear hB0 hO0 hc1 hf1 hB1 hS1 hs1
    obtain ⟨k, rfl, hk, hB1, hown⟩ := hrel
    have hS1 := hB1.size
    by_cases hlt : k < L.length
    · have hd := vDangs_at hv'.out hlt
      have hh := Lib.hid (namesTo_hit (f := nearP P mg) hlt)
      have hm := Lib.hid (namesTo_miss (f := nearP P mg) hlt)
      have hle := namesTo_le (nearP P mg) L k
      obtain ⟨b, o, rfl, hb, he⟩ := Sl.elem RDanger.len (by decide) (hs'.out.below (hB1.mono hB)) hlt
      obtain ⟨a, ha⟩ : ∃ a, L[k] = a := ⟨_, rfl⟩
      rw [ha] at he hh hm hd
      clear ha
      have ab := dang_yes hd
      have d0 : wr.cell? ⟨b, o + k * 4, none⟩ = some (.string a.f0) := by have := he 0 _ rfl; simpa [Nat.add_assoc] using this
      have d1 : wr.cell? ⟨b, o + k * 4 + 1, none⟩ = some (.int .i64 a.f1) := by have := he 1 _ rfl; simpa [Nat.add_assoc] using this
      have d2 : wr.cell? ⟨b, o + k * 4 + 2, none⟩ = some (.int .i64 a.f2) := by have := he 2 _ rfl; simpa [Nat.add_assoc] using this
      have d3 : wr.cell? ⟨b, o + k * 4 + 3, none⟩ = some (.int .i64 a.f3) := by have := he 3 _ rfl; simpa [Nat.add_assoc] using this
      clear he hd
      have hbw : b < wr.heap.size := by omega
      have hDn : Dn wr b (o + k * 4) a.f0 a.f1 a.f2 a.f3 := ⟨hbw, d0, d1, d2, d3⟩
      have hcl := fun w' (hb' : Below wr.heap.size wr w') => spec_ClearA P A2 c2 B b (o + k * 4) a.f0 a.f1 a.f2 a.f3 w' (hs2'.out.below ((bnext hB1 hb').mono hB)) (Nat.le_trans hB (bnext hB1 hb').size) pc pa pb (hDn.on hb') ab.1 ab.2
      obtain ⟨D, hD⟩ : ∃ D, ctM P a.f1 a.f2 (P.length - 1) - a.f3 = D := ⟨_, rfl⟩
      simp only [hD] at hcl
      have hnear : nearP P mg a = decide (D < mg) := by unfold nearP; rw [hD]
      go_wp2_with fail
      refine (hcl _ (Below.refl _ _)).mono ?_
      rintro e w9 ⟨rfl, hb9⟩
      obtain ⟨hc9, hf9⟩ := bcell hb9
      have hB9 := bnext hB1 hb9
      have hO9 := owns_on hown hb9
      have hz9 := hb9.size
      by_cases hn : D < mg
      · have H := Lib.hid (hh.out (by rw [hnear]; exact decide_eq_true hn))
        go_wp2_with (at_builtin; refine wpList_append_own _ rfl _ _ 69 rfl w.heap.size 9 i0 (.string ⟨#[]⟩) 1 16 Try.underlying69 hi ie0 ie1 ie2 rfl (by decide) _ _ _ rfl (hO9.alloc _) ⟨w9.heap.size, 0, none⟩ 1 1 [.string a.f0] rfl rfl ?c1 ?c2 ?c3 ?c4 ?c5 ?_)
        case c1 =>
          intro j u hj
          match j, hj with
          | 0, hj => simp at hj; subst hj; simp [Addr.add]
        case c2 => intro u hu; simp at hu; subst hu; rfl
        case c3 => unfold maxLen; omega
        case c4 => omega
        case c5 => simp; omega
        intro v' wn hown' hgrow _
        have hBn := (show Below w.heap.size w (w9.alloc (.cells #[.string a.f0] 9)) by go_grown).grown hgrow (by simp; omega) (fun q e => (hO9.lt q e).1)
        have hOn : wn.ownsRow w.heap.size 9 1 v' (namesTo (nearP P mg) L (k + 1)).length ((namesTo (nearP P mg) L (k + 1)).map Value.string) := by rw [H.out]; simpa using hown'
        clear hown' hgrow hB9 hO9 hb9 hown
        go_wp2
        go_roundw
        case rel => exact ⟨k + 1, by go_num, by omega, hBn, hOn⟩
        case measure => simp [intOf]; omega
      · have H := Lib.hid (hm.out (by rw [hnear]; exact decide_eq_false hn))
        go_wp2
        go_roundw
        case rel => exact ⟨k + 1, by go_num, by omega, hB9, by rw [H.out]; exact hO9⟩
        case measure => simp [intOf]; omega
    · obtain rfl : k = L.length := by omega
      go_wp2
      go_ret2
      exact ⟨_, rfl, hB1, Rs.of_owns hown⟩

set_option maxHeartbeats 1600000 in
/-- The names of those that a function picks; the function, at each element, says f. -/
theorem names_on (L : List RDanger) (A : Option Addr) (c B : Nat) (f : RDanger → Bool) (gp gm : Nat) (w : World) (hs : Sl w B A (flat RDanger.cells L)) (hB : B ≤ w.heap.size) (hl : L.length ≤ 1048576)
    (hcl : ∀ (k : Nat) (hk : k < L.length) (w' : World), Below w.heap.size w w' → Calls Try.prog 112 #[.agg #[.string L[k].f0, .int .i64 L[k].f1, .int .i64 L[k].f2, .int .i64 L[k].f3], .pointer (some ⟨gp, 0, none⟩), .pointer (some ⟨gm, 0, none⟩)] w' fun e w'' => e = .returned (.bool (f L[k])) ∧ Below w'.heap.size w' w'') :
    Calls Try.prog 107 #[.slice A L.length c, .func (.func 112) #[] #[.pointer (some ⟨gp, 0, none⟩), .pointer (some ⟨gm, 0, none⟩)]] w fun e w' => ∃ v, e = .returned v ∧ Below w.heap.size w w' ∧ Rs w' w.heap.size 9 1 v (namesTo f L L.length).length ((namesTo f L L.length).map Value.string) := by
  have hs' := Lib.hid hs
  have hcl' := Lib.hid hcl
  obtain ⟨i0, hi, ie0, ie1, ie2⟩ := info_parts infoStr
  clear hs hcl
  go_enter Try.func107, Try.ntmps107
  go_wp2
  have hO0 : (w.alloc (.cells #[] 9)).ownsRow w.heap.size 9 1 (.slice (some ⟨w.heap.size, 0, none⟩) 0 0) (namesTo f L 0).length ((namesTo f L 0).map Value.string) := World.ownsRow_made w #[] 0 (by omega) (Nat.zero_le _) rfl
  have hB0 : Below w.heap.size w (w.alloc (.cells #[] 9)) := by go_grown
  go_loopw [5, 11] (fun v i wr => ∃ k : Nat, i = .int .i64 k ∧ k ≤ L.length ∧ Below w.heap.size w wr ∧ wr.ownsRow w.heap.size 9 1 v (namesTo f L k).length ((namesTo f L k).map Value.string)) (fun _ i _ => L.length - (intOf i).toNat)
  case atStart => exact ⟨0, rfl, Nat.zero_le _, hB0, hO0⟩
  case round =>
    clear hB0 hO0
    obtain ⟨k, rfl, hk, hB1, hown⟩ := hrel
    have hS1 := hB1.size
    by_cases hlt : k < L.length
    · have hh := Lib.hid (namesTo_hit (f := f) hlt)
      have hm := Lib.hid (namesTo_miss (f := f) hlt)
      have hle := namesTo_le f L k
      have hc' := Lib.hid (hcl'.out k hlt)
      obtain ⟨b, o, rfl, hb, he⟩ := Sl.elem RDanger.len (by decide) (hs'.out.below (hB1.mono hB)) hlt
      obtain ⟨a, ha⟩ : ∃ a, L[k] = a := ⟨_, rfl⟩
      rw [ha] at he hh hm hc'
      clear ha
      have d0 : wr.cell? ⟨b, o + k * 4, none⟩ = some (.string a.f0) := by have := he 0 _ rfl; simpa [Nat.add_assoc] using this
      have d1 : wr.cell? ⟨b, o + k * 4 + 1, none⟩ = some (.int .i64 a.f1) := by have := he 1 _ rfl; simpa [Nat.add_assoc] using this
      have d2 : wr.cell? ⟨b, o + k * 4 + 2, none⟩ = some (.int .i64 a.f2) := by have := he 2 _ rfl; simpa [Nat.add_assoc] using this
      have d3 : wr.cell? ⟨b, o + k * 4 + 3, none⟩ = some (.int .i64 a.f3) := by have := he 3 _ rfl; simpa [Nat.add_assoc] using this
      clear he
      have hbw : b < wr.heap.size := by omega
      go_wp2_with fail
      refine (hc'.out _ (show Below w.heap.size w _ by go_grown)).mono ?_
      rintro e w9 ⟨rfl, hb9⟩
      obtain ⟨hc9, hf9⟩ := bcell hb9
      have hz9 := hb9.size
      simp only [World.size_alloc] at hz9
      have hzl : wr.heap.size < w9.heap.size := by omega
      have hB9 := bnext (show Below w.heap.size w (wr.alloc (.cells #[.string a.f0, .int .i64 a.f1, .int .i64 a.f2, .int .i64 a.f3] 48)) by go_grown) hb9
      have hO9 := owns_on (hown.alloc (.cells #[.string a.f0, .int .i64 a.f1, .int .i64 a.f2, .int .i64 a.f3] 48)) hb9
      cases hn : f a
      · have H := Lib.hid (hm.out hn)
        go_wp2
        go_roundw
        case rel => exact ⟨k + 1, by go_num, by omega, hB9, by rw [H.out]; exact hO9⟩
        case measure => simp [intOf]; omega
      · have H := Lib.hid (hh.out hn)
        go_wp2_with (at_builtin; refine wpList_append_own _ rfl _ _ 69 rfl w.heap.size 9 i0 (.string ⟨#[]⟩) 1 16 Try.underlying69 hi ie0 ie1 ie2 rfl (by decide) _ _ _ rfl (hO9.alloc _) ⟨w9.heap.size, 0, none⟩ 1 1 [.string a.f0] rfl rfl ?c1 ?c2 ?c3 ?c4 ?c5 ?_)
        case c1 =>
          intro j u hj
          match j, hj with
          | 0, hj => simp at hj; subst hj; simp [Addr.add]
        case c2 => intro u hu; simp at hu; subst hu; rfl
        case c3 => unfold maxLen; omega
        case c4 => omega
        case c5 => simp; omega
        intro v' wn hown' hgrow _
        have hBn := (show Below w.heap.size w (w9.alloc (.cells #[.string a.f0] 9)) by go_grown).grown hgrow (by simp; omega) (fun q e => (hO9.lt q e).1)
        have hOn : wn.ownsRow w.heap.size 9 1 v' (namesTo f L (k + 1)).length ((namesTo f L (k + 1)).map Value.string) := by rw [H.out]; simpa using hown'
        clear hown' hgrow hB9 hO9 hb9 hown hc9 hf9
        go_wp2
        go_roundw
        case rel => exact ⟨k + 1, by go_num, by omega, hBn, hOn⟩
        case measure => simp [intOf]; omega
    · obtain rfl : k = L.length := by omega
      go_wp2
      go_ret
      exact ⟨_, rfl, hB1, Rs.of_owns hown⟩
theorem clos_DOn (s : ByteArray) (x y r mg : Int) (P : List (Int × Int)) (A2 : Option Addr) (c2 B gp gm : Nat) (w : World) (hgp : gp < w.heap.size) (hgm : gm < w.heap.size) (hc1 : w.cell? ⟨gp, 0, none⟩ = some (.slice A2 P.length c2)) (hc2 : w.cell? ⟨gm, 0, none⟩ = some (.int .i64 mg)) (hs2 : Sl w B A2 (pcells P)) (hB : B ≤ w.heap.size) (hp : pathM P = true) (hd : vDanger s x y r = true) :
    Calls Try.prog 112 #[.agg #[.string s, .int .i64 x, .int .i64 y, .int .i64 r], .pointer (some ⟨gp, 0, none⟩), .pointer (some ⟨gm, 0, none⟩)] w fun e w' => e = .returned (.bool (decide (ctM P x y (P.length - 1) - r < mg))) ∧ Below w.heap.size w w' := by
  obtain ⟨pa, pb, pc⟩ := path_yes hp
  obtain ⟨q1, q2⟩ := dang_yes hd
  have hcl := fun w' (hb' : Below w.heap.size w w') => impl_Clear P A2 c2 B s x y r w' (hs2.below (hb'.mono hB)) (Nat.le_trans hB hb'.size) pc pa pb q1 q2
  obtain ⟨D, hD⟩ : ∃ D, ctM P x y (P.length - 1) - r = D := ⟨_, rfl⟩
  simp only [hD] at hcl
  rw [hD]
  have HCL := Lib.hid hcl
  clear hcl hs2 pa pb pc q1 q2 hp hd hD
  go_enter Try.func112, Try.ntmps112
  go_wp2_with fail
  refine wp_region_grew (by kernel_rfl) (by kernel_rfl) ?_
  repeat (first | (go_big_quiet_step ((first | (go_at_call 105; exact grew_of (HCL.out _ ((show Below w.heap.size w _ by go_grown).trans ((Grew.below _).mono (by simp)))))))) | (quiet_step ((first | (go_at_call 105; exact grew_of (HCL.out _ ((show Below w.heap.size w _ by go_grown).trans ((Grew.below _).mono (by simp)))))))))
  refine wpQuiet_nil ?_
  rintro w9 ⟨⟨w8, hb9⟩, rfl⟩
  try dsimp only
  obtain ⟨hc9, hf9⟩ := bcell hb9
  go_wp2
  go_ret
  exact ⟨rfl, bnext (by go_grown) hb9⟩

def onC (L : List RDanger) (P : List (Int × Int)) (mg : Int) : Int := if vDangsM L && pathM P then (if inB mg 0 20000 then 0 else 2) else 1
def onN (L : List RDanger) (P : List (Int × Int)) (mg : Int) : List ByteArray := if onC L P mg = 0 then namesTo (nearP P mg) L L.length else []
theorem onN_le (L : List RDanger) (P : List (Int × Int)) (mg : Int) : (onN L P mg).length ≤ L.length := by
  unfold onN
  split
  · exact namesTo_le _ _ _
  · simp
theorem away_any (n : Int) (w : World) : Calls Try.prog 111 #[.int .i64 n] w fun e w' => e = .returned (.bool (inB n 0 20000)) ∧ w = w' := by
  go_enter Try.func111, Try.ntmps111
  go_wp2_with (go_at_call 80; refine (within_any _ _ _ _).mono ?_; rintro e w' ⟨rfl, rfl⟩)
  go_ret
  exact ⟨rfl, rfl⟩
set_option maxHeartbeats 1600000 in
theorem impl_DOn_ok (L : List RDanger) (A : Option Addr) (c B : Nat) (P : List (Int × Int)) (A2 : Option Addr) (c2 : Nat) (mg : Int) (w : World) (hs : Sl w B A (flat RDanger.cells L)) (hs2 : Sl w B A2 (pcells P)) (hB : B ≤ w.heap.size) (hok : ∀ a ∈ L, a.ok) (hl : L.length ≤ 1048576) (hv : vDangsM L = true) (hp : pathM P = true) (hmg : inB mg 0 20000 = true) : Calls Try.prog 50 #[.slice A L.length c, .slice A2 P.length c2, .int .i64 mg] w fun e w' => ∃ v, e = .returned (.tuple #[v, .int .i64 0]) ∧ Below w.heap.size w w' ∧ Rs w' w.heap.size 9 1 v (namesTo (nearP P mg) L L.length).length ((namesTo (nearP P mg) L L.length).map Value.string) := by
  have hs' := Lib.hid hs
  have hok' := Lib.hid hok
  have hs2' := Lib.hid hs2
  have hl2 : P.length ≤ 1048576 := by have := path_yes hp; omega
  clear hs hs2 hok
  go_enter Try.func50, Try.ntmps50
  go_wp2_with (first | (go_at_call 86; refine (impl_ValidDangers L _ _ B _ (hs'.out.below ((show Below w.heap.size w _ by go_grown).mono hB)) (by simp; omega) hok'.out hl).mono ?_; rintro e w1 ⟨rfl, hb1⟩; have hB1 := bnext (w := w) (by go_grown) hb1; have hS1 := hB1.size; ((have hz1 : w.heap.size < w1.heap.size := by have := hb1.size; (try simp only [World.size_alloc, World.size_setCell, World.size_drew] at this); omega); (have hy1 : w.heap.size + 1 < w1.heap.size := by have := hb1.size; (try simp only [World.size_alloc, World.size_setCell, World.size_drew] at this); omega)); obtain ⟨hc1, hf1⟩ := bcell hb1; clear hb1) | (go_at_call 104; refine (impl_Path P _ _ B _ (hs2'.out.below ((show Below w.heap.size w _ by go_grown).mono hB)) (by have := hS1; omega) hl2).mono ?_; rintro e w1 ⟨rfl, hb1⟩; have hB1 := bnext (w := w) (by go_grown) hb1; have hS1 := hB1.size; ((have hz1 : w.heap.size < w1.heap.size := by have := hb1.size; (try simp only [World.size_alloc, World.size_setCell, World.size_drew] at this); omega); (have hy1 : w.heap.size + 1 < w1.heap.size := by have := hb1.size; (try simp only [World.size_alloc, World.size_setCell, World.size_drew] at this); omega)); obtain ⟨hc1, hf1⟩ := bcell hb1; clear hb1) | (go_at_call 111; refine (away_any _ _).mono ?_; rintro e w' ⟨rfl, rfl⟩))
  have q1 : w1.cell? ⟨w.heap.size, 0, none⟩ = some (.slice A2 P.length c2) := by simp [go_sem, *]
  have q2 : w1.cell? ⟨w.heap.size + 1, 0, none⟩ = some (.int .i64 mg) := by simp [go_sem, *]
  refine (names_on L A c B (nearP P mg) w.heap.size (w.heap.size + 1) w1 (hs'.out.below (hB1.mono hB)) (by omega) hl ?_).mono ?_
  · intro k hk w' hb
    exact clos_DOn _ _ _ _ mg P A2 c2 B w.heap.size (w.heap.size + 1) w' (by have := hb.size; omega) (by have := hb.size; omega) ((hb.cell (p := ⟨w.heap.size, 0, none⟩) hz1).trans q1) ((hb.cell (p := ⟨w.heap.size + 1, 0, none⟩) hy1).trans q2) (hs2'.out.below ((bnext hB1 hb).mono hB)) (by have := hb.size; omega) hp (vDangs_at hv hk)
  rintro e w2 ⟨v, rfl, hb2, hR⟩
  go_wp2
  go_ret2
  exact ⟨v, rfl, bnext hB1 hb2, hR.more (by omega)⟩
theorem spec_DOn_no (L : List RDanger) (A : Option Addr) (c B : Nat) (P : List (Int × Int)) (A2 : Option Addr) (c2 : Nat) (mg : Int) (w : World) (hs : Sl w B A (flat RDanger.cells L)) (hs2 : Sl w B A2 (pcells P)) (hB : B ≤ w.heap.size) (hok : ∀ a ∈ L, a.ok) (hl : L.length ≤ 1048576) (hl2 : P.length ≤ 1048576) (h : ¬ (vDangsM L = true ∧ pathM P = true ∧ inB mg 0 20000 = true)) : Calls Try.prog 49 #[.slice A L.length c, .slice A2 P.length c2, .int .i64 mg] w fun e w' => e = .returned (.tuple #[.slice none 0 0, .int .i64 (onC L P mg)]) ∧ Below w.heap.size w w' := by
  have hs' := Lib.hid hs
  have hok' := Lib.hid hok
  have hs2' := Lib.hid hs2
  clear hs hs2 hok
  cases h1 : vDangsM L
  · have HC : Hid (onC L P mg = 1) := Lib.hid (by unfold onC; rw [h1]; rfl)
    clear h
    go_enter Try.func49, Try.ntmps49
    go_wp2_with (first | (go_at_call 84; refine (spec_l14Ok L _ _ B _ (hs'.out.below ((show Below w.heap.size w _ by go_grown).mono hB)) (by omega) hok'.out hl).mono ?_; rintro e w1 ⟨rfl, hb1⟩; have hB1 := bnext (w := w) (by go_grown) hb1; have hS1 := hB1.size; (skip); obtain ⟨hc1, hf1⟩ := bcell hb1; clear hb1) | (go_at_call 102; refine (spec_Path P _ _ B _ (hs2'.out.below ((show Below w.heap.size w _ by go_grown).mono hB)) (by have := hS1; omega) hl2).mono ?_; rintro e w1 ⟨rfl, hb1⟩; have hB1 := bnext (w := w) (by go_grown) hb1; have hS1 := hB1.size; (skip); obtain ⟨hc1, hf1⟩ := bcell hb1; clear hb1) | (go_at_call 110; refine (in_any _ _ _ _).mono ?_; rintro e w' ⟨rfl, rfl⟩))
    go_ret2
    exact ⟨by rw [HC.out]; rfl, by go_grown⟩
  cases h2 : pathM P
  · have HC : Hid (onC L P mg = 1) := Lib.hid (by unfold onC; rw [h1, h2]; rfl)
    clear h
    go_enter Try.func49, Try.ntmps49
    go_wp2_with (first | (go_at_call 84; refine (spec_l14Ok L _ _ B _ (hs'.out.below ((show Below w.heap.size w _ by go_grown).mono hB)) (by omega) hok'.out hl).mono ?_; rintro e w1 ⟨rfl, hb1⟩; have hB1 := bnext (w := w) (by go_grown) hb1; have hS1 := hB1.size; (skip); obtain ⟨hc1, hf1⟩ := bcell hb1; clear hb1) | (go_at_call 102; refine (spec_Path P _ _ B _ (hs2'.out.below ((show Below w.heap.size w _ by go_grown).mono hB)) (by have := hS1; omega) hl2).mono ?_; rintro e w1 ⟨rfl, hb1⟩; have hB1 := bnext (w := w) (by go_grown) hb1; have hS1 := hB1.size; (skip); obtain ⟨hc1, hf1⟩ := bcell hb1; clear hb1) | (go_at_call 110; refine (in_any _ _ _ _).mono ?_; rintro e w' ⟨rfl, rfl⟩))
    go_ret2
    exact ⟨by rw [HC.out]; rfl, by go_grown⟩
  cases h3 : inB mg 0 20000
  · have HC : Hid (onC L P mg = 2) := Lib.hid (by unfold onC; rw [h1, h2, h3]; rfl)
    clear h
    go_enter Try.func49, Try.ntmps49
    go_wp2_with (first | (go_at_call 84; refine (spec_l14Ok L _ _ B _ (hs'.out.below ((show Below w.heap.size w _ by go_grown).mono hB)) (by omega) hok'.out hl).mono ?_; rintro e w1 ⟨rfl, hb1⟩; have hB1 := bnext (w := w) (by go_grown) hb1; have hS1 := hB1.size; (skip); obtain ⟨hc1, hf1⟩ := bcell hb1; clear hb1) | (go_at_call 102; refine (spec_Path P _ _ B _ (hs2'.out.below ((show Below w.heap.size w _ by go_grown).mono hB)) (by have := hS1; omega) hl2).mono ?_; rintro e w1 ⟨rfl, hb1⟩; have hB1 := bnext (w := w) (by go_grown) hb1; have hS1 := hB1.size; (skip); obtain ⟨hc1, hf1⟩ := bcell hb1; clear hb1) | (go_at_call 110; refine (in_any _ _ _ _).mono ?_; rintro e w' ⟨rfl, rfl⟩))
    go_ret2
    exact ⟨by rw [HC.out]; rfl, by go_grown⟩
  · exact absurd ⟨h1, h2, h3⟩ h
theorem impl_DOn_no (L : List RDanger) (A : Option Addr) (c B : Nat) (P : List (Int × Int)) (A2 : Option Addr) (c2 : Nat) (mg : Int) (w : World) (hs : Sl w B A (flat RDanger.cells L)) (hs2 : Sl w B A2 (pcells P)) (hB : B ≤ w.heap.size) (hok : ∀ a ∈ L, a.ok) (hl : L.length ≤ 1048576) (hl2 : P.length ≤ 1048576) (h : ¬ (vDangsM L = true ∧ pathM P = true ∧ inB mg 0 20000 = true)) : Calls Try.prog 50 #[.slice A L.length c, .slice A2 P.length c2, .int .i64 mg] w fun e w' => e = .returned (.tuple #[.slice none 0 0, .int .i64 (onC L P mg)]) ∧ Below w.heap.size w w' := by
  have hs' := Lib.hid hs
  have hok' := Lib.hid hok
  have hs2' := Lib.hid hs2
  clear hs hs2 hok
  cases h1 : vDangsM L
  · have HC : Hid (onC L P mg = 1) := Lib.hid (by unfold onC; rw [h1]; rfl)
    clear h
    go_enter Try.func50, Try.ntmps50
    go_wp2_with (first | (go_at_call 86; refine (impl_ValidDangers L _ _ B _ (hs'.out.below ((show Below w.heap.size w _ by go_grown).mono hB)) (by simp; omega) hok'.out hl).mono ?_; rintro e w1 ⟨rfl, hb1⟩; have hB1 := bnext (w := w) (by go_grown) hb1; have hS1 := hB1.size; ((have hz1 : w.heap.size < w1.heap.size := by have := hb1.size; (try simp only [World.size_alloc, World.size_setCell, World.size_drew] at this); omega); (have hy1 : w.heap.size + 1 < w1.heap.size := by have := hb1.size; (try simp only [World.size_alloc, World.size_setCell, World.size_drew] at this); omega)); obtain ⟨hc1, hf1⟩ := bcell hb1; clear hb1) | (go_at_call 104; refine (impl_Path P _ _ B _ (hs2'.out.below ((show Below w.heap.size w _ by go_grown).mono hB)) (by have := hS1; omega) hl2).mono ?_; rintro e w1 ⟨rfl, hb1⟩; have hB1 := bnext (w := w) (by go_grown) hb1; have hS1 := hB1.size; ((have hz1 : w.heap.size < w1.heap.size := by have := hb1.size; (try simp only [World.size_alloc, World.size_setCell, World.size_drew] at this); omega); (have hy1 : w.heap.size + 1 < w1.heap.size := by have := hb1.size; (try simp only [World.size_alloc, World.size_setCell, World.size_drew] at this); omega)); obtain ⟨hc1, hf1⟩ := bcell hb1; clear hb1) | (go_at_call 111; refine (away_any _ _).mono ?_; rintro e w' ⟨rfl, rfl⟩))
    go_ret2
    exact ⟨by rw [HC.out]; rfl, by go_grown⟩
  cases h2 : pathM P
  · have HC : Hid (onC L P mg = 1) := Lib.hid (by unfold onC; rw [h1, h2]; rfl)
    clear h
    go_enter Try.func50, Try.ntmps50
    go_wp2_with (first | (go_at_call 86; refine (impl_ValidDangers L _ _ B _ (hs'.out.below ((show Below w.heap.size w _ by go_grown).mono hB)) (by simp; omega) hok'.out hl).mono ?_; rintro e w1 ⟨rfl, hb1⟩; have hB1 := bnext (w := w) (by go_grown) hb1; have hS1 := hB1.size; ((have hz1 : w.heap.size < w1.heap.size := by have := hb1.size; (try simp only [World.size_alloc, World.size_setCell, World.size_drew] at this); omega); (have hy1 : w.heap.size + 1 < w1.heap.size := by have := hb1.size; (try simp only [World.size_alloc, World.size_setCell, World.size_drew] at this); omega)); obtain ⟨hc1, hf1⟩ := bcell hb1; clear hb1) | (go_at_call 104; refine (impl_Path P _ _ B _ (hs2'.out.below ((show Below w.heap.size w _ by go_grown).mono hB)) (by have := hS1; omega) hl2).mono ?_; rintro e w1 ⟨rfl, hb1⟩; have hB1 := bnext (w := w) (by go_grown) hb1; have hS1 := hB1.size; ((have hz1 : w.heap.size < w1.heap.size := by have := hb1.size; (try simp only [World.size_alloc, World.size_setCell, World.size_drew] at this); omega); (have hy1 : w.heap.size + 1 < w1.heap.size := by have := hb1.size; (try simp only [World.size_alloc, World.size_setCell, World.size_drew] at this); omega)); obtain ⟨hc1, hf1⟩ := bcell hb1; clear hb1) | (go_at_call 111; refine (away_any _ _).mono ?_; rintro e w' ⟨rfl, rfl⟩))
    go_ret2
    exact ⟨by rw [HC.out]; rfl, by go_grown⟩
  cases h3 : inB mg 0 20000
  · have HC : Hid (onC L P mg = 2) := Lib.hid (by unfold onC; rw [h1, h2, h3]; rfl)
    clear h
    go_enter Try.func50, Try.ntmps50
    go_wp2_with (first | (go_at_call 86; refine (impl_ValidDangers L _ _ B _ (hs'.out.below ((show Below w.heap.size w _ by go_grown).mono hB)) (by simp; omega) hok'.out hl).mono ?_; rintro e w1 ⟨rfl, hb1⟩; have hB1 := bnext (w := w) (by go_grown) hb1; have hS1 := hB1.size; ((have hz1 : w.heap.size < w1.heap.size := by have := hb1.size; (try simp only [World.size_alloc, World.size_setCell, World.size_drew] at this); omega); (have hy1 : w.heap.size + 1 < w1.heap.size := by have := hb1.size; (try simp only [World.size_alloc, World.size_setCell, World.size_drew] at this); omega)); obtain ⟨hc1, hf1⟩ := bcell hb1; clear hb1) | (go_at_call 104; refine (impl_Path P _ _ B _ (hs2'.out.below ((show Below w.heap.size w _ by go_grown).mono hB)) (by have := hS1; omega) hl2).mono ?_; rintro e w1 ⟨rfl, hb1⟩; have hB1 := bnext (w := w) (by go_grown) hb1; have hS1 := hB1.size; ((have hz1 : w.heap.size < w1.heap.size := by have := hb1.size; (try simp only [World.size_alloc, World.size_setCell, World.size_drew] at this); omega); (have hy1 : w.heap.size + 1 < w1.heap.size := by have := hb1.size; (try simp only [World.size_alloc, World.size_setCell, World.size_drew] at this); omega)); obtain ⟨hc1, hf1⟩ := bcell hb1; clear hb1) | (go_at_call 111; refine (away_any _ _).mono ?_; rintro e w' ⟨rfl, rfl⟩))
    go_ret2
    exact ⟨by rw [HC.out]; rfl, by go_grown⟩
  · exact absurd ⟨h1, h2, h3⟩ h
theorem spec_DOn (L : List RDanger) (A : Option Addr) (c B : Nat) (P : List (Int × Int)) (A2 : Option Addr) (c2 : Nat) (mg : Int) (w : World) (hs : Sl w B A (flat RDanger.cells L)) (hs2 : Sl w B A2 (pcells P)) (hB : B ≤ w.heap.size) (hok : ∀ a ∈ L, a.ok) (hl : L.length ≤ 1048576) (hl2 : P.length ≤ 1048576) : Calls Try.prog 49 #[.slice A L.length c, .slice A2 P.length c2, .int .i64 mg] w fun e w' => ∃ v, e = .returned (.tuple #[v, .int .i64 (onC L P mg)]) ∧ Below w.heap.size w w' ∧ Rs w' w.heap.size 9 1 v (onN L P mg).length ((onN L P mg).map Value.string) := by
  by_cases h : vDangsM L = true ∧ pathM P = true ∧ inB mg 0 20000 = true
  · refine (spec_DOn_ok L A c B P A2 c2 mg w hs hs2 hB hok hl h.1 h.2.1 h.2.2).mono ?_
    rintro e w' ⟨v, rfl, hb, hR⟩
    have e1 : onC L P mg = 0 := by unfold onC; rw [h.1, h.2.1, h.2.2]; rfl
    have e2 : onN L P mg = namesTo (nearP P mg) L L.length := by unfold onN; rw [if_pos e1]
    exact ⟨v, by rw [e1], hb, by rw [e2]; exact hR⟩
  · refine (spec_DOn_no L A c B P A2 c2 mg w hs hs2 hB hok hl hl2 h).mono ?_
    rintro e w' ⟨rfl, hb⟩
    have e2 : onN L P mg = [] := by
      unfold onN
      rw [if_neg]
      intro e1
      apply h
      unfold onC at e1
      cases h1 : vDangsM L <;> cases h2 : pathM P <;> cases h3 : inB mg 0 20000 <;> simp [h1, h2, h3] at e1 ⊢
    exact ⟨_, rfl, hb, by rw [e2]; exact Rs.nil _ _ _ _⟩
theorem impl_DOn (L : List RDanger) (A : Option Addr) (c B : Nat) (P : List (Int × Int)) (A2 : Option Addr) (c2 : Nat) (mg : Int) (w : World) (hs : Sl w B A (flat RDanger.cells L)) (hs2 : Sl w B A2 (pcells P)) (hB : B ≤ w.heap.size) (hok : ∀ a ∈ L, a.ok) (hl : L.length ≤ 1048576) (hl2 : P.length ≤ 1048576) : Calls Try.prog 50 #[.slice A L.length c, .slice A2 P.length c2, .int .i64 mg] w fun e w' => ∃ v, e = .returned (.tuple #[v, .int .i64 (onC L P mg)]) ∧ Below w.heap.size w w' ∧ Rs w' w.heap.size 9 1 v (onN L P mg).length ((onN L P mg).map Value.string) := by
  by_cases h : vDangsM L = true ∧ pathM P = true ∧ inB mg 0 20000 = true
  · refine (impl_DOn_ok L A c B P A2 c2 mg w hs hs2 hB hok hl h.1 h.2.1 h.2.2).mono ?_
    rintro e w' ⟨v, rfl, hb, hR⟩
    have e1 : onC L P mg = 0 := by unfold onC; rw [h.1, h.2.1, h.2.2]; rfl
    have e2 : onN L P mg = namesTo (nearP P mg) L L.length := by unfold onN; rw [if_pos e1]
    exact ⟨v, by rw [e1], hb, by rw [e2]; exact hR⟩
  · refine (impl_DOn_no L A c B P A2 c2 mg w hs hs2 hB hok hl hl2 h).mono ?_
    rintro e w' ⟨rfl, hb⟩
    have e2 : onN L P mg = [] := by
      unfold onN
      rw [if_neg]
      intro e1
      apply h
      unfold onC at e1
      cases h1 : vDangsM L <;> cases h2 : pathM P <;> cases h3 : inB mg 0 20000 <;> simp [h1, h2, h3] at e1 ⊢
    exact ⟨_, rfl, hb, by rw [e2]; exact Rs.nil _ _ _ _⟩
end Go.Proofs.Ytnikdafbnkedkaa
