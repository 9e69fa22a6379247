/-
  Contracts of the spread of fixes: the program's and the reference's. Each under the conditions that it states.
-/
import Derived.Test.YtnikdafbnkedkaaFix
import Derived.Test.YtnikdafbnkedkaaPoints
import Derived.Test.YtnikdafbnkedkaaMark
import Derived.Test.YtnikdafbnkedkaaText1
import Derived.Test.YtnikdafbnkedkaaRow
import Derived.Test.YtnikdafbnkedkaaDraw3
import Derived.Deep.RegionHeld3
set_option linter.unusedVariables false
set_option linter.unnecessarySimpa false
set_option maxRecDepth 100000
set_option linter.unusedSimpArgs false
namespace Go.Proofs.Ytnikdafbnkedkaa
open Go.RowKit BigFrame

theorem pcells_len : ∀ L : List (Int × Int), (pcells L).length = L.length * 2
  | [] => rfl
  | p :: L => by
    have e : pcells (p :: L) = .int .i64 p.1 :: .int .i64 p.2 :: pcells L := rfl
    have ih := pcells_len L
    rw [e, List.length_cons, List.length_cons, List.length_cons]; omega
theorem pcells_app (L M : List (Int × Int)) : pcells (L ++ M) = pcells L ++ pcells M := by simp [pcells]
section
variable (P : List (Int × Int)) (M : List Int)
def fxAt (i k : Nat) : Bool := fxB (P.getD i (0, 0)).1 (P.getD i (0, 0)).2 (M.getD i 0) (P.getD k (0, 0)).1 (P.getD k (0, 0)).2 (M.getD k 0)
def fxPt (i k : Nat) : Int × Int := (fixX (P.getD i (0, 0)).1 (P.getD i (0, 0)).2 (M.getD i 0) (P.getD k (0, 0)).1 (P.getD k (0, 0)).2 (M.getD k 0), fixY (P.getD i (0, 0)).1 (P.getD i (0, 0)).2 (M.getD i 0) (P.getD k (0, 0)).1 (P.getD k (0, 0)).2 (M.getD k 0))
/-- The fixes of place i with those from i + 1 up to k. -/
def rowTo (i : Nat) : Nat → List (Int × Int)
  | 0 => []
  | k + 1 => if i < k ∧ fxAt P M i k = true then rowTo i k ++ [fxPt P M i k] else rowTo i k
def fixTo : Nat → List (Int × Int)
  | 0 => []
  | i + 1 => fixTo i ++ rowTo P M i P.length
theorem rowTo_nil (i : Nat) : ∀ k, k ≤ i + 1 → rowTo P M i k = []
  | 0, _ => rfl
  | k + 1, h => by unfold rowTo; rw [if_neg (by omega)]; exact rowTo_nil i k (by omega)
theorem rowTo_hit {i k : Nat} (h : i < k) (hf : fxAt P M i k = true) : rowTo P M i (k + 1) = rowTo P M i k ++ [fxPt P M i k] := by rw [rowTo, if_pos ⟨h, hf⟩]
theorem rowTo_miss {i k : Nat} (hf : fxAt P M i k = false) : rowTo P M i (k + 1) = rowTo P M i k := by rw [rowTo, if_neg (by rw [hf]; simp)]
theorem rowTo_len (i : Nat) : ∀ k, (rowTo P M i k).length ≤ k
  | 0 => Nat.le_refl _
  | k + 1 => by
    have := rowTo_len i k
    unfold rowTo
    split
    · simp; omega
    · omega
theorem fixTo_len : ∀ i, (fixTo P M i).length ≤ i * P.length
  | 0 => by simp [fixTo]
  | i + 1 => by
    have h1 := fixTo_len i
    have h2 := rowTo_len P M i P.length
    unfold fixTo
    rw [List.length_append, Nat.add_mul]
    omega
theorem rowTo_ok (i : Nat) : ∀ k, ∀ p ∈ rowTo P M i k, vPoint p.1 p.2 = true
  | 0, p, h => by simp [rowTo] at h
  | k + 1, p, h => by
    unfold rowTo at h
    split at h
    · rename_i hc
      rcases List.mem_append.1 h with h | h
      · exact rowTo_ok i k p h
      · simp at h; subst h
        have := hc.2
        unfold fxAt fxB at this
        rw [Bool.and_eq_true] at this
        exact this.2
    · exact rowTo_ok i k p h
theorem fixTo_ok : ∀ i, ∀ p ∈ fixTo P M i, vPoint p.1 p.2 = true
  | 0, p, h => by simp [fixTo] at h
  | i + 1, p, h => by
    unfold fixTo at h
    rcases List.mem_append.1 h with h | h
    · exact fixTo_ok i p h
    · exact rowTo_ok P M i _ p h
end
/-- The greatest distance of fix i from those ahead of it, up to k; m: what was found so far. -/
def sIn (F : List (Int × Int)) (i : Nat) (m : Int) : Nat → Int
  | 0 => m
  | k + 1 => max (sIn F i m k) (distM (F.getD i (0, 0)).1 (F.getD i (0, 0)).2 (F.getD k (0, 0)).1 (F.getD k (0, 0)).2)
def sOut (F : List (Int × Int)) : Nat → Int
  | 0 => 0
  | i + 1 => sIn F i (sOut F i) i
theorem sIn_bd (F : List (Int × Int)) (h : ∀ p ∈ F, vPoint p.1 p.2 = true) {i : Nat} (hi : i < F.length) {m : Int} (hm : 0 ≤ m ∧ m ≤ 282842) : ∀ k, k ≤ F.length → 0 ≤ sIn F i m k ∧ sIn F i m k ≤ 282842
  | 0, _ => hm
  | k + 1, hk => by
    have ih := sIn_bd F h hi hm k (by omega)
    have a := vPoint_yes (h F[i] (List.getElem_mem hi))
    have b := vPoint_yes (h F[k] (List.getElem_mem (by omega)))
    have hd := distM_bd a.1 a.2 b.1 b.2
    unfold sIn
    rw [List.getD_eq_getElem?_getD, List.getElem?_eq_getElem hi, List.getD_eq_getElem?_getD, List.getElem?_eq_getElem (show k < F.length by omega)]
    simp only [Option.getD_some]
    omega
theorem sOut_bd (F : List (Int × Int)) (h : ∀ p ∈ F, vPoint p.1 p.2 = true) : ∀ i, i ≤ F.length → 0 ≤ sOut F i ∧ sOut F i ≤ 282842
  | 0, _ => by unfold sOut; omega
  | i + 1, hi => by unfold sOut; exact sIn_bd F h (by omega) (sOut_bd F h i (by omega)) i (by omega)
def spC (P : List (Int × Int)) (M : List Int) : Int := if vPoints P then (if 2 ≤ P.length ∧ P.length ≤ 8 ∧ M.length = P.length then 0 else 2) else 1
def spV (P : List (Int × Int)) (M : List Int) : Int := if spC P M = 0 then sOut (fixTo P M P.length) (fixTo P M P.length).length else 0
theorem keep6 {w w' : World} {b o bm om i k : Nat} {ax ay bx by_ x y : Int} (hb : b < w.heap.size) (hm : bm < w.heap.size) (h : w.cell? ⟨b, o + i * 2, none⟩ = some (.int .i64 ax) ∧ w.cell? ⟨b, o + i * 2 + 1, none⟩ = some (.int .i64 ay) ∧ w.cell? ⟨bm, om + i, none⟩ = some (.int .i64 x) ∧ w.cell? ⟨b, o + k * 2, none⟩ = some (.int .i64 bx) ∧ w.cell? ⟨b, o + k * 2 + 1, none⟩ = some (.int .i64 by_) ∧ w.cell? ⟨bm, om + k, none⟩ = some (.int .i64 y)) (hB : Below w.heap.size w w') : w'.cell? ⟨b, o + i * 2, none⟩ = some (.int .i64 ax) ∧ w'.cell? ⟨b, o + i * 2 + 1, none⟩ = some (.int .i64 ay) ∧ w'.cell? ⟨bm, om + i, none⟩ = some (.int .i64 x) ∧ w'.cell? ⟨b, o + k * 2, none⟩ = some (.int .i64 bx) ∧ w'.cell? ⟨b, o + k * 2 + 1, none⟩ = some (.int .i64 by_) ∧ w'.cell? ⟨bm, om + k, none⟩ = some (.int .i64 y) := by
  obtain ⟨h1, h2, h3, h4, h5, h6⟩ := h
  obtain ⟨hc, _⟩ := bcell hB
  exact ⟨(hc _ _ hb).trans h1, (hc _ _ hb).trans h2, (hc _ _ hm).trans h3, (hc _ _ hb).trans h4, (hc _ _ hb).trans h5, (hc _ _ hm).trans h6⟩
theorem intsOf {w : World} {B : Nat} {A : Option Addr} {M : List Int} (hs : Sl w B A (M.map (Value.int .i64))) {k : Nat} (hk : k < M.length) : ∃ b o, A = some ⟨b, o, none⟩ ∧ b < B ∧ w.cell? ⟨b, o + k, none⟩ = some (.int .i64 M[k]) := by
  obtain ⟨b, o, e, hb, hc⟩ := hs (by intro e; rw [List.map_eq_nil_iff] at e; subst e; simp at hk)
  exact ⟨b, o, e, hb, hc k _ (by rw [List.getElem?_map, List.getElem?_eq_getElem hk]; rfl)⟩
theorem spec_l02All (L : List (Int × Int)) (A : Option Addr) (c B : Nat) (w : World) (hs : Sl w B A (pcells L)) (hB : B ≤ w.heap.size) (hl : L.length ≤ 1099511627776) :
    Calls Try.prog 113 #[.slice A L.length c] w fun e w' => e = .returned (.bool (vPoints L)) ∧ Below w.heap.size w w' := by
  have hs' := Lib.hid hs
  clear hs
  go_enter Try.func113, Try.ntmps113
  go_wp2
  go_loopw [3] (fun i wr => ∃ k : Nat, i = .int .i64 k ∧ k ≤ L.length ∧ vPoints (L.take k) = true ∧ Below w.heap.size w wr) (fun i _ => L.length - (intOf i).toNat)
  case atStart => exact ⟨0, rfl, Nat.zero_le _, rfl, Below.refl _ _⟩
  case round =>
    obtain ⟨k, rfl, hk, hv, hB1⟩ := hrel
    have hS1 := hB1.size
    have hv' := Lib.hid hv
    clear hv
    by_cases hlt : k < L.length
    · obtain ⟨b, o, rfl, hb, c1, c2⟩ := Sl.point (hs'.out.below (hB1.mono hB)) hlt
      cases hp : vPoint L[k].1 L[k].2
      · have hf := Lib.hid (vPoints_no hlt hp)
        go_wp2_with (go_at_call 76; refine (spec_l02Ok _ _ _).mono ?_; rintro e w1 ⟨rfl, hb1⟩; have hB1 := bnext (w := w) (by go_grown) hb1; have hS1 := hB1.size; (skip); obtain ⟨hc1, hf1⟩ := bcell hb1; clear hb1)
        go_ret
        exact ⟨ret_bool hf.out.symm, by go_grown⟩
      · have hf := Lib.hid (vPoints_take hlt hv'.out hp)
        go_wp2_with (go_at_call 76; refine (spec_l02Ok _ _ _).mono ?_; rintro e w1 ⟨rfl, hb1⟩; have hB1 := bnext (w := w) (by go_grown) hb1; have hS1 := hB1.size; (skip); obtain ⟨hc1, hf1⟩ := bcell hb1; clear hb1)
        go_roundw
        case rel => exact ⟨k + 1, by go_num, by omega, hf.out, by go_grown⟩
        case measure => simp [intOf]; omega
    · obtain rfl : k = L.length := by omega
      have hf : Hid (vPoints L = true) := by have := hv'.out; rw [List.take_length] at this; exact this
      go_wp2
      go_ret
      exact ⟨ret_bool hf.out.symm, by go_grown⟩
theorem owns_capF {w : World} {B : Nat} {e : TypeId} {sz : Nat} {A : Option Addr} {n c : Nat} {xs : List Value} (h : w.ownsRow B e sz (.slice A n c) n xs) : n ≤ c ∧ c ≤ 9223372036854775807 := by
  obtain ⟨_, ⟨e1, e2⟩ | ⟨g, cap, cur, e1, _, _, h1, h2, _⟩⟩ := h
  · cases e1; omega
  · cases e1; exact ⟨h1, by simpa [maxLen] using h2⟩
theorem owns_onF {w w' : World} {B : Nat} {e : TypeId} {sz : Nat} {v : Value} {n : Nat} {xs : List Value} (h : w.ownsRow B e sz v n xs) (hb : Below w.heap.size w w') : w'.ownsRow B e sz v n xs := by
  refine World.ownsRow.kept (row := none) h ⟨hb.os, hb.tape, hb.output, hb.size, fun k hk _ => hb.block k hk⟩ ?_
  cases v.ownBlock
  · exact .inl rfl
  · exact .inr (by simp)
theorem getD_at' {α : Type} {L : List α} {k : Nat} {d : α} (h : k < L.length) : L.getD k d = L[k] := by rw [List.getD_eq_getElem?_getD, List.getElem?_eq_getElem h]; rfl
theorem vPoints_at {L : List (Int × Int)} (h : vPoints L = true) {k : Nat} (hk : k < L.length) : vPoint L[k].1 L[k].2 = true := by
  unfold vPoints at h
  exact List.all_eq_true.1 h _ (List.getElem_mem hk)
theorem infoPt : (Try.prog.info? 25).map (fun i => (i.zero, i.size, i.bytes)) = some (some (.agg #[.int .i64 0, .int .i64 0]), 2, 16) := by kernel_rfl
set_option maxHeartbeats 1600000 in
theorem spec_Spread (P : List (Int × Int)) (M : List Int) (A A2 : Option Addr) (c c2 B : Nat) (w : World) (hs : Sl w B A (pcells P)) (hs2 : Sl w B A2 (M.map (Value.int .i64))) (hB : B ≤ w.heap.size) (hl : P.length ≤ 1048576) (hl2 : M.length ≤ 1048576) (hv : vPoints P = true) (h2 : 2 ≤ P.length) (h8 : P.length ≤ 8) (hm : M.length = P.length) :
    Calls Try.prog 52 #[.slice A P.length c, .slice A2 M.length c2] w fun e w' => e = .returned (.tuple #[.int .i64 (sOut (fixTo P M P.length) (fixTo P M P.length).length), .int .i64 0]) ∧ Below w.heap.size w w' := by
  have hs' := Lib.hid hs
  have hs2' := Lib.hid hs2
  have hv' := Lib.hid hv
  have hm' := Lib.hid hm
  obtain ⟨i0, hi, ie0, ie1, ie2⟩ := info_parts infoPt
  rw [hm]
  clear hs hs2 hm hl2
  go_enter Try.func52, Try.ntmps52
  go_wp2_with (first | (go_at_call 113; refine (spec_l02All P _ _ B _ hs'.out (by omega) (by omega)).mono ?_; rintro e w1 ⟨rfl, hb1⟩))
  have hS0 := hb1.size
  have hO0 : (w1.alloc (.cells #[] 25)).ownsRow w.heap.size 25 2 (.slice (some ⟨w1.heap.size, 0, none⟩) 0 0) (fixTo P M 0).length (pcells (fixTo P M 0)) := World.ownsRow_made w1 #[] 0 hb1.size (Nat.zero_le _) rfl
  have hB0 : Below w.heap.size w (w1.alloc (.cells #[] 25)) := by go_grown
  go_loopw [6, 7] (fun v i wr => ∃ j : Nat, i = .int .i64 j ∧ j ≤ P.length ∧ Below w.heap.size w wr ∧ wr.ownsRow w.heap.size 25 2 v (fixTo P M j).length (pcells (fixTo P M j))) (fun _ i _ => P.length - (intOf i).toNat)
  case atStart => exact ⟨0, rfl, Nat.zero_le _, hB0, hO0⟩
  case round =>
    clear hB0 hO0 hb1 hS0
    obtain ⟨j, rfl, hj, hB1, hown⟩ := hrel
    have hS1 := hB1.size
    by_cases hlt : j < P.length
    · have hR : fixTo P M j ++ rowTo P M j (j + 1) = fixTo P M j := by rw [rowTo_nil P M j (j + 1) (Nat.le_refl _), List.append_nil]
      have hO1 := hown
      rw [← hR] at hO1
      clear hown hR
      go_wp2_with fail
      go_loopw [6, 8] (fun v i wx => ∃ k : Nat, i = .int .i64 k ∧ j + 1 ≤ k ∧ k ≤ P.length ∧ Below w.heap.size w wx ∧ wx.ownsRow w.heap.size 25 2 v (fixTo P M j ++ rowTo P M j k).length (pcells (fixTo P M j ++ rowTo P M j k))) (fun _ i _ => P.length - (intOf i).toNat)
      case atStart => exact ⟨j + 1, by go_num, Nat.le_refl _, hlt, hB1, hO1⟩
      case round =>
        clear hO1 hB1 hS1
        obtain ⟨k, rfl, hjk, hk, hB1, hown⟩ := hrel
        have hS1 := hB1.size
        by_cases hlk : k < P.length
        · have hx1 := fixTo_len P M j
          have hx2 := rowTo_len P M j k
          have hx3 : j * P.length ≤ 64 := Nat.le_trans (Nat.mul_le_mul (show j ≤ 8 by omega) h8) (by omega)
          have hxl : (fixTo P M j ++ rowTo P M j k).length ≤ 1000 := by rw [List.length_append]; omega
          clear hx1 hx2 hx3
          have hmj : j < M.length := by rw [hm'.out]; exact hlt
          have hmk : k < M.length := by rw [hm'.out]; exact hlk
          obtain ⟨b, o, rfl, hb, c1, c2⟩ := Sl.point (hs'.out.below (hB1.mono hB)) hlt
          obtain ⟨b', o', e', hb', c3, c4⟩ := Sl.point (hs'.out.below (hB1.mono hB)) hlk
          cases e'
          obtain ⟨bm, om, rfl, hbm, c5⟩ := intsOf (hs2'.out.below (hB1.mono hB)) hmj
          obtain ⟨bm', om', e', hbm', c6⟩ := intsOf (hs2'.out.below (hB1.mono hB)) hmk
          cases e'
          have hh := Lib.hid (rowTo_hit P M (i := j) (k := k) (by omega))
          have hn := Lib.hid (rowTo_miss P M (i := j) (k := k))
          have vj := vPoint_yes (vPoints_at hv'.out hlt)
          have vk := vPoint_yes (vPoints_at hv'.out hlk)
          have hS := And.intro c1 (And.intro c2 (And.intro c5 (And.intro c3 (And.intro c4 c6))))
          have ej : P.getD j (0, 0) = P[j] := getD_at' hlt
          have ek : P.getD k (0, 0) = P[k] := getD_at' hlk
          have em : M.getD j 0 = M[j] := getD_at' hmj
          have en : M.getD k 0 = M[k] := getD_at' hmk
          unfold fxAt fxPt at hh
          unfold fxAt at hn
          rw [ej, ek, em, en] at hh hn
          clear ej ek em en c1 c2 c3 c4 c5 c6
          generalize P[j] = pj at *
          generalize P[k] = pk at *
          generalize M[j] = mj at *
          generalize M[k] = mk at *
          obtain ⟨ax, ay⟩ := pj
          obtain ⟨bx, by_⟩ := pk
          simp only at hh hn vj vk hS
          have hfx : ∀ w, Calls Try.prog 114 #[.agg #[.int .i64 ax, .int .i64 ay], .int .i64 mj, .agg #[.int .i64 bx, .int .i64 by_], .int .i64 mk] w fun e w' => e = .returned (.tuple #[.agg #[.int .i64 (fxV ax ay mj bx by_ mk (fixX ax ay mj bx by_ mk)), .int .i64 (fxV ax ay mj bx by_ mk (fixY ax ay mj bx by_ mk))], .bool (fxB ax ay mj bx by_ mk)]) ∧ Below w.heap.size w w' := fun w => spec_l16Fix ax ay mj bx by_ mk w vj.1 vj.2 vk.1 vk.2
          have hval : fxB ax ay mj bx by_ mk = true → fxV ax ay mj bx by_ mk (fixX ax ay mj bx by_ mk) = fixX ax ay mj bx by_ mk ∧ fxV ax ay mj bx by_ mk (fixY ax ay mj bx by_ mk) = fixY ax ay mj bx by_ mk := fun h => by
            unfold fxB at h
            rw [Bool.and_eq_true] at h
            unfold fxV
            rw [if_pos h.1, if_pos h.1]
            exact ⟨rfl, rfl⟩
          generalize fxV ax ay mj bx by_ mk (fixX ax ay mj bx by_ mk) = X at hfx hval
          generalize fxV ax ay mj bx by_ mk (fixY ax ay mj bx by_ mk) = Y at hfx hval
          generalize fxB ax ay mj bx by_ mk = ok at hfx hval hh hn
          have hbw : b < wr.heap.size := by omega
          have hmw : bm < wr.heap.size := by omega
          have hown' := Lib.hid hown
          have hB1' := Lib.hid hB1
          clear hown hB1
          go_upto_region 12 with fail
          go_cut [9, 10] (fun s t wx => ∃ g, s = .pointer (some ⟨g, 0, none⟩) ∧ t = (.bool ok) ∧ Below wr.heap.size wr wx ∧ (ok = true → Pt wx g X Y))
          case first =>
            obtain ⟨c1, c2, c5, c3, c4, c6⟩ := id hS
            go_region_held3 (fun w' => w'.cell? ⟨b, o + j * 2, none⟩ = some (.int .i64 ax) ∧ w'.cell? ⟨b, o + j * 2 + 1, none⟩ = some (.int .i64 ay) ∧ w'.cell? ⟨bm, om + j, none⟩ = some (.int .i64 mj) ∧ w'.cell? ⟨b, o + k * 2, none⟩ = some (.int .i64 bx) ∧ w'.cell? ⟨b, o + k * 2 + 1, none⟩ = some (.int .i64 by_) ∧ w'.cell? ⟨bm, om + k, none⟩ = some (.int .i64 mk)) (first | (with_reducible assumption) | (with_reducible refine keep6 hbw hmw hS ?_; go_grown; done)) (first | (go_at_call 114; refine (hfx _).mono ?_; rintro e w3 ⟨rfl, hb3⟩; have hB3 := bnext (show Below wr.heap.size wr _ by go_grown) hb3; have hS3 := keep6 hbw hmw hS hB3; have hz3 := hB3.size; (try have hx := Ex.new hb3); (try have hx := Ex.newd hb3); (try obtain ⟨_, u0, v0, y0, y1, y2, y3⟩ := id hx)))
            · go_wp2_with fail
              go_meet
              exact ⟨_, rfl, rfl, (by go_grown), fun _ => ⟨by simp, by simp [go_sem], by simp [go_sem]⟩⟩
            · have t := two_read y0 y1 X Y
              have hzz : wr.heap.size < w3.heap.size := by have := hb3.size; simp only [World.size_alloc, World.size_drew] at this; omega
              go_wp2_with fail
              go_meet
              exact ⟨_, rfl, rfl, (hB3.setCell (Nat.le_refl _) _).setCell (Nat.le_refl _) _, fun _ => ⟨by simpa using hzz, t.1, t.2⟩⟩
          case rest =>
            obtain ⟨g, rfl, rfl, hB5, hPg⟩ := hcut
            have hB6 := bnext hB1'.out hB5
            have hO5 := owns_onF hown'.out hB5
            have hS6 := hB6.size
            obtain ⟨FX, hFX⟩ : ∃ l, fixTo P M j ++ rowTo P M j k = l := ⟨_, rfl⟩
            rw [hFX] at hO5 hxl
            have HFX := Lib.hid hFX
            clear hFX hown' hB1'
            clear hS hfx
            cases ok
            · have H := Lib.hid (hn.out rfl)
              go_wp2
              go_roundw
              case rel => exact ⟨k + 1, by go_num, by omega, by omega, hB6, by rw [H.out, HFX.out]; exact hO5⟩
              case measure => simp [intOf]; omega
            · have H := hh.out rfl
              rw [← (hval rfl).1, ← (hval rfl).2] at H
              have HH := Lib.hid H
              obtain ⟨hg0, p0, p1⟩ := hPg rfl
              clear H hval hPg
              go_wp2_with (at_builtin; refine wpList_append_own _ rfl _ _ 65 rfl w.heap.size 25 i0 (.agg #[.int .i64 0, .int .i64 0]) 2 16 Try.underlying65 hi ie0 ie1 ie2 rfl (by decide) _ _ _ rfl (hO5.alloc _) ⟨wc.heap.size, 0, none⟩ 1 1 [.int .i64 X, .int .i64 Y] rfl rfl ?c1 ?c2 ?c3 ?c4 ?c5 ?_)
              case c2 => first | (intro u hu; simp at hu; rcases hu with rfl | rfl <;> rfl) | simp | trivial
              case c3 => unfold maxLen; omega
              case c4 => omega
              case c5 => first | omega | (simp; omega)
              intro v' wn hown2 hgrow _
              have hBn := (show Below w.heap.size w (wc.alloc (.cells #[.int .i64 X, .int .i64 Y] 25)) by go_grown).grown hgrow (by simp; omega) (fun q e => (hO5.lt q e).1)
              have hOn : wn.ownsRow w.heap.size 25 2 v' (fixTo P M j ++ rowTo P M j (k + 1)).length (pcells (fixTo P M j ++ rowTo P M j (k + 1))) := by
                have e1 : pcells (fixTo P M j ++ rowTo P M j (k + 1)) = pcells FX ++ [.int .i64 X, .int .i64 Y] := by rw [HH.out, ← List.append_assoc, pcells_app, HFX.out]; rfl
                have e2 : (fixTo P M j ++ rowTo P M j (k + 1)).length = FX.length + 1 := by rw [HH.out, ← List.append_assoc, List.length_append, HFX.out]; rfl
                rw [e1, e2]; exact hown2
              clear hown2 hgrow hO5 hB6 hB5 p0 p1 hg0
              go_wp2
              go_roundw
              case rel => exact ⟨k + 1, by go_num, by omega, by omega, hBn, hOn⟩
              case measure => simp [intOf]; omega
        · obtain rfl : k = P.length := by omega
          go_wp2
          go_roundw
          case rel => exact ⟨j + 1, by go_num, by omega, hB1, hown⟩
          case measure => simp [intOf]; omega
    · obtain rfl : j = P.length := by omega
      obtain ⟨FX, hFX⟩ : ∃ l, fixTo P M P.length = l := ⟨_, rfl⟩
      have hok : Hid (∀ p ∈ FX, vPoint p.1 p.2 = true) := Lib.hid (by rw [← hFX]; exact fixTo_ok P M _)
      have hFl : FX.length ≤ 64 := by rw [← hFX]; exact Nat.le_trans (fixTo_len P M _) (Nat.le_trans (Nat.mul_le_mul h8 h8) (by omega))
      rw [hFX] at hown
      have HFX := Lib.hid hFX
      obtain ⟨A3, c3, rfl, hF⟩ := (Rs.of_owns hown).sl
      have hcap := owns_capF hown
      obtain ⟨nz, hnz⟩ : ∃ n, wr.heap.size = n := ⟨_, rfl⟩
      rw [hnz] at hF
      have hnl : nz ≤ wr.heap.size := by omega
      clear hFX hown hlt hj hS1 hnz
      go_wp2_with fail
      go_loopw [11, 12] (fun m i wx => ∃ j : Nat, i = .int .i64 j ∧ j ≤ FX.length ∧ m = .int .i64 (sOut FX j) ∧ Below w.heap.size w wx ∧ nz ≤ wx.heap.size ∧ Sl wx nz A3 (pcells FX)) (fun _ i _ => FX.length - (intOf i).toNat)
      case atStart => exact ⟨0, rfl, Nat.zero_le _, rfl, hB1, hnl, hF⟩
      case round =>
        clear hB1 hnl hF
        obtain ⟨j, rfl, hj, rfl, hB2, hnl, hF⟩ := hrel
        have hsb := sOut_bd FX hok.out j hj
        by_cases hlt : j < FX.length
        · go_wp2_with fail
          go_loopw [11, 13] (fun m i wy => ∃ k : Nat, i = .int .i64 k ∧ k ≤ j ∧ m = .int .i64 (sIn FX j (sOut FX j) k) ∧ Below w.heap.size w wy ∧ nz ≤ wy.heap.size ∧ Sl wy nz A3 (pcells FX)) (fun _ i _ => j - (intOf i).toNat)
          case atStart => exact ⟨0, rfl, Nat.zero_le _, rfl, hB2, hnl, hF⟩
          case round =>
            clear hB2 hnl hF
            obtain ⟨k, rfl, hk, rfl, hB2, hnl, hF⟩ := hrel
            have hS2 := hB2.size
            by_cases hlk : k < j
            · obtain ⟨b, o, rfl, hb, d1, d2⟩ := Sl.point hF hlt
              obtain ⟨b', o', e', hb', d3, d4⟩ := Sl.point hF (show k < FX.length by omega)
              cases e'
              have vj := vPoint_yes (hok.out _ (List.getElem_mem hlt))
              have vk := vPoint_yes (hok.out _ (List.getElem_mem (show k < FX.length by omega)))
              have hstep : sIn FX j (sOut FX j) (k + 1) = max (sIn FX j (sOut FX j) k) (distM FX[j].1 FX[j].2 FX[k].1 FX[k].2) := by rw [sIn, getD_at' hlt, getD_at' (show k < FX.length by omega)]
              have hib := sIn_bd FX hok.out hlt hsb k (by omega)
              have hdb := distM_bd vj.1 vj.2 vk.1 vk.2
              have hap := fun w => spec_Apart FX[j].1 FX[j].2 FX[k].1 FX[k].2 w vj.1 vj.2 vk.1 vk.2
              generalize FX[j] = pj at *
              generalize FX[k] = pk at *
              obtain ⟨ax, ay⟩ := pj
              obtain ⟨bx, by_⟩ := pk
              simp only at hstep hap d1 d2 d3 d4 hdb
              generalize distM ax ay bx by_ = D at hstep hap hdb
              have HST := Lib.hid hstep
              have HF := Lib.hid hF
              clear hF
              generalize sIn FX j (sOut FX j) k = sm at *
              clear hstep vj vk
              have hbw : b < wr.heap.size := by omega
              go_wp2_with fail
              refine wp_region_grew (by kernel_rfl) (by kernel_rfl) ?_
              repeat (first | (go_big_quiet_step ((first | (go_at_call 78; exact grew_of (hap _)) | (go_at_call 115; exact grew_same (max_any _ _ _))))) | (quiet_step ((first | (go_at_call 78; exact grew_of (hap _)) | (go_at_call 115; exact grew_same (max_any _ _ _))))))
              refine wpQuiet_nil ?_
              rintro w8 ⟨⟨w8, hb8⟩, rfl⟩
              try dsimp only
              obtain ⟨hc8, hf8⟩ := bcell hb8
              go_wp2
              go_roundw
              case rel => exact ⟨k + 1, by go_num, by omega, by rw [HST.out], bnext hB2 hb8, Nat.le_trans hnl hb8.size, HF.out.below (hb8.mono hnl)⟩
              case measure => simp [intOf]; omega
            · obtain rfl : k = j := by omega
              go_wp2
              go_roundw
              case rel => exact ⟨k + 1, by go_num, by omega, rfl, hB2, hnl, hF⟩
              case measure => simp [intOf]; omega
        · obtain rfl : j = FX.length := by omega
          go_wp2
          go_ret2
          exact ⟨by rw [HFX.out]; rfl, hB2⟩
set_option maxHeartbeats 1600000 in
theorem impl_Spread (P : List (Int × Int)) (M : List Int) (A A2 : Option Addr) (c c2 B : Nat) (w : World) (hs : Sl w B A (pcells P)) (hs2 : Sl w B A2 (M.map (Value.int .i64))) (hB : B ≤ w.heap.size) (hl : P.length ≤ 1048576) (hl2 : M.length ≤ 1048576) (hv : vPoints P = true) (h2 : 2 ≤ P.length) (h8 : P.length ≤ 8) (hm : M.length = P.length) :
    Calls Try.prog 54 #[.slice A P.length c, .slice A2 M.length c2] w fun e w' => e = .returned (.tuple #[.int .i64 (sOut (fixTo P M P.length) (fixTo P M P.length).length), .int .i64 0]) ∧ Below w.heap.size w w' := by
  have hs' := Lib.hid hs
  have hs2' := Lib.hid hs2
  have hv' := Lib.hid hv
  have hm' := Lib.hid hm
  obtain ⟨i0, hi, ie0, ie1, ie2⟩ := info_parts infoPt
  have hin : inB (P.length : Int) 2 8 = true := inB_mk (by omega) (by omega)
  rw [hm]
  clear hs hs2 hm hl2
  go_enter Try.func54, Try.ntmps54
  go_wp2_with (first | (go_at_call 74; refine (arePoints_any P _ _ B _ hs'.out (by omega) (by omega)).mono ?_; rintro e w1 ⟨rfl, hb1⟩) | (go_at_call 80; refine (within_any _ _ _ _).mono ?_; rintro e w' ⟨rfl, rfl⟩))
  have hS0 := hb1.size
  have hO0 : (w1.alloc (.cells #[] 25)).ownsRow w.heap.size 25 2 (.slice (some ⟨w1.heap.size, 0, none⟩) 0 0) (fixTo P M 0).length (pcells (fixTo P M 0)) := World.ownsRow_made w1 #[] 0 hb1.size (Nat.zero_le _) rfl
  have hB0 : Below w.heap.size w (w1.alloc (.cells #[] 25)) := by go_grown
  go_loopw [6, 33] (fun v i wr => ∃ j : Nat, i = .int .i64 j ∧ j ≤ P.length ∧ Below w.heap.size w wr ∧ wr.ownsRow w.heap.size 25 2 v (fixTo P M j).length (pcells (fixTo P M j))) (fun _ i _ => P.length - (intOf i).toNat)
  case atStart => exact ⟨0, rfl, Nat.zero_le _, hB0, hO0⟩
  case round =>
    clear hB0 hO0 hb1 hS0
    obtain ⟨j, rfl, hj, hB1, hown⟩ := hrel
    have hS1 := hB1.size
    by_cases hlt : j < P.length
    · have hR : fixTo P M j ++ rowTo P M j (j + 1) = fixTo P M j := by rw [rowTo_nil P M j (j + 1) (Nat.le_refl _), List.append_nil]
      have hO1 := hown
      rw [← hR] at hO1
      clear hown hR
      go_wp2_with fail
      go_loopw [6, 8] (fun v i wx => ∃ k : Nat, i = .int .i64 k ∧ j + 1 ≤ k ∧ k ≤ P.length ∧ Below w.heap.size w wx ∧ wx.ownsRow w.heap.size 25 2 v (fixTo P M j ++ rowTo P M j k).length (pcells (fixTo P M j ++ rowTo P M j k))) (fun _ i _ => P.length - (intOf i).toNat)
      case atStart => exact ⟨j + 1, by go_num, Nat.le_refl _, hlt, hB1, hO1⟩
      case round =>
        clear hO1 hB1 hS1
        obtain ⟨k, rfl, hjk, hk, hB1, hown⟩ := hrel
        have hS1 := hB1.size
        by_cases hlk : k < P.length
        · have hx1 := fixTo_len P M j
          have hx2 := rowTo_len P M j k
          have hx3 : j * P.length ≤ 64 := Nat.le_trans (Nat.mul_le_mul (show j ≤ 8 by omega) h8) (by omega)
          have hxl : (fixTo P M j ++ rowTo P M j k).length ≤ 1000 := by rw [List.length_append]; omega
          clear hx1 hx2 hx3
          have hmj : j < M.length := by rw [hm'.out]; exact hlt
          have hmk : k < M.length := by rw [hm'.out]; exact hlk
          obtain ⟨b, o, rfl, hb, c1, c2⟩ := Sl.point (hs'.out.below (hB1.mono hB)) hlt
          obtain ⟨b', o', e', hb', c3, c4⟩ := Sl.point (hs'.out.below (hB1.mono hB)) hlk
          cases e'
          obtain ⟨bm, om, rfl, hbm, c5⟩ := intsOf (hs2'.out.below (hB1.mono hB)) hmj
          obtain ⟨bm', om', e', hbm', c6⟩ := intsOf (hs2'.out.below (hB1.mono hB)) hmk
          cases e'
          have hh := Lib.hid (rowTo_hit P M (i := j) (k := k) (by omega))
          have hn := Lib.hid (rowTo_miss P M (i := j) (k := k))
          have vj' := vPoints_at hv'.out hlt
          have vk' := vPoints_at hv'.out hlk
          have hS := And.intro c1 (And.intro c2 (And.intro c5 (And.intro c3 (And.intro c4 c6))))
          have ej : P.getD j (0, 0) = P[j] := getD_at' hlt
          have ek : P.getD k (0, 0) = P[k] := getD_at' hlk
          have em : M.getD j 0 = M[j] := getD_at' hmj
          have en : M.getD k 0 = M[k] := getD_at' hmk
          unfold fxAt fxPt at hh
          unfold fxAt at hn
          rw [ej, ek, em, en] at hh hn
          clear ej ek em en c1 c2 c3 c4 c5 c6
          generalize P[j] = pj at *
          generalize P[k] = pk at *
          generalize M[j] = mj at *
          generalize M[k] = mk at *
          obtain ⟨ax, ay⟩ := pj
          obtain ⟨bx, by_⟩ := pk
          simp only at hh hn vj' vk' hS
          have hv2 : vPoint2 ax ay bx by_ = true := by unfold vPoint2; rw [vj', vk']; rfl
          have hfx : ∀ w, Calls Try.prog 116 #[.agg #[.int .i64 ax, .int .i64 ay], .int .i64 mj, .agg #[.int .i64 bx, .int .i64 by_], .int .i64 mk] w fun e w' => e = .returned (.tuple #[.agg #[.int .i64 (fixV ax ay mj bx by_ mk (fixX ax ay mj bx by_ mk)), .int .i64 (fixV ax ay mj bx by_ mk (fixY ax ay mj bx by_ mk))], .int .i64 (fixC ax ay mj bx by_ mk)]) ∧ Below w.heap.size w w' := fun w => impl_FixBy ax ay mj bx by_ mk w
          have hcd : fixC ax ay mj bx by_ mk = if fxB ax ay mj bx by_ mk = true then 0 else 6 := by
            unfold fixC fxB
            rw [if_pos hv2]
          have hval : fxB ax ay mj bx by_ mk = true → fixV ax ay mj bx by_ mk (fixX ax ay mj bx by_ mk) = fixX ax ay mj bx by_ mk ∧ fixV ax ay mj bx by_ mk (fixY ax ay mj bx by_ mk) = fixY ax ay mj bx by_ mk := fun h => by
            rw [if_pos h] at hcd
            unfold fixV
            rw [if_pos hcd, if_pos hcd]
            exact ⟨rfl, rfl⟩
          generalize fixV ax ay mj bx by_ mk (fixX ax ay mj bx by_ mk) = X at hfx hval
          generalize fixV ax ay mj bx by_ mk (fixY ax ay mj bx by_ mk) = Y at hfx hval
          generalize fixC ax ay mj bx by_ mk = cd at hfx hcd
          generalize fxB ax ay mj bx by_ mk = ok at hfx hval hh hn hcd
          have HCD := Lib.hid hcd
          clear hcd
          have hbw : b < wr.heap.size := by omega
          have hmw : bm < wr.heap.size := by omega
          have hown' := Lib.hid hown
          have hB1' := Lib.hid hB1
          clear hown hB1
          go_upto_region 12 with fail
          go_cut [9, 10] (fun s t wx => ∃ g, s = .pointer (some ⟨g, 0, none⟩) ∧ t = (.int .i64 cd) ∧ Below wr.heap.size wr wx ∧ (ok = true → Pt wx g X Y))
          case first =>
            obtain ⟨c1, c2, c5, c3, c4, c6⟩ := id hS
            go_region_held3 (fun w' => w'.cell? ⟨b, o + j * 2, none⟩ = some (.int .i64 ax) ∧ w'.cell? ⟨b, o + j * 2 + 1, none⟩ = some (.int .i64 ay) ∧ w'.cell? ⟨bm, om + j, none⟩ = some (.int .i64 mj) ∧ w'.cell? ⟨b, o + k * 2, none⟩ = some (.int .i64 bx) ∧ w'.cell? ⟨b, o + k * 2 + 1, none⟩ = some (.int .i64 by_) ∧ w'.cell? ⟨bm, om + k, none⟩ = some (.int .i64 mk)) (first | (with_reducible assumption) | (with_reducible refine keep6 hbw hmw hS ?_; go_grown; done)) (first | (go_at_call 116; refine (hfx _).mono ?_; rintro e w3 ⟨rfl, hb3⟩; have hB3 := bnext (show Below wr.heap.size wr _ by go_grown) hb3; have hS3 := keep6 hbw hmw hS hB3; have hz3 := hB3.size; (try have hx := Ex.new hb3); (try have hx := Ex.newd hb3); (try obtain ⟨_, u0, v0, y0, y1, y2, y3⟩ := id hx)))
            · go_wp2_with fail
              go_meet
              exact ⟨_, rfl, rfl, (by go_grown), fun _ => ⟨by simp, by simp [go_sem], by simp [go_sem]⟩⟩
            · have t := two_read y0 y1 X Y
              have hzz : wr.heap.size < w3.heap.size := by have := hb3.size; simp only [World.size_alloc, World.size_drew] at this; omega
              go_wp2_with fail
              go_meet
              exact ⟨_, rfl, rfl, (hB3.setCell (Nat.le_refl _) _).setCell (Nat.le_refl _) _, fun _ => ⟨by simpa using hzz, t.1, t.2⟩⟩
          case rest =>
            obtain ⟨g, rfl, rfl, hB5, hPg⟩ := hcut
            have hB6 := bnext hB1'.out hB5
            have hO5 := owns_onF hown'.out hB5
            have hS6 := hB6.size
            obtain ⟨FX, hFX⟩ : ∃ l, fixTo P M j ++ rowTo P M j k = l := ⟨_, rfl⟩
            rw [hFX] at hO5 hxl
            have HFX := Lib.hid hFX
            clear hFX hown' hB1'
            clear hS hfx
            cases ok
            · have hc6 : cd = 6 := by simpa using HCD.out
              subst hc6
              have H := Lib.hid (hn.out rfl)
              go_wp2
              go_roundw
              case rel => exact ⟨k + 1, by go_num, by omega, by omega, hB6, by rw [H.out, HFX.out]; exact hO5⟩
              case measure => simp [intOf]; omega
            · have hc0 : cd = 0 := by simpa using HCD.out
              subst hc0
              have H := hh.out rfl
              rw [← (hval rfl).1, ← (hval rfl).2] at H
              have HH := Lib.hid H
              obtain ⟨hg0, p0, p1⟩ := hPg rfl
              clear H hval hPg
              go_wp2_with (at_builtin; refine wpList_append_own _ rfl _ _ 65 rfl w.heap.size 25 i0 (.agg #[.int .i64 0, .int .i64 0]) 2 16 Try.underlying65 hi ie0 ie1 ie2 rfl (by decide) _ _ _ rfl (hO5.alloc _) ⟨wc.heap.size, 0, none⟩ 1 1 [.int .i64 X, .int .i64 Y] rfl rfl ?c1 ?c2 ?c3 ?c4 ?c5 ?_)
              case c2 => first | (intro u hu; simp at hu; rcases hu with rfl | rfl <;> rfl) | simp | trivial
              case c3 => unfold maxLen; omega
              case c4 => omega
              case c5 => first | omega | (simp; omega)
              intro v' wn hown2 hgrow _
              have hBn := (show Below w.heap.size w (wc.alloc (.cells #[.int .i64 X, .int .i64 Y] 25)) by go_grown).grown hgrow (by simp; omega) (fun q e => (hO5.lt q e).1)
              have hOn : wn.ownsRow w.heap.size 25 2 v' (fixTo P M j ++ rowTo P M j (k + 1)).length (pcells (fixTo P M j ++ rowTo P M j (k + 1))) := by
                have e1 : pcells (fixTo P M j ++ rowTo P M j (k + 1)) = pcells FX ++ [.int .i64 X, .int .i64 Y] := by rw [HH.out, ← List.append_assoc, pcells_app, HFX.out]; rfl
                have e2 : (fixTo P M j ++ rowTo P M j (k + 1)).length = FX.length + 1 := by rw [HH.out, ← List.append_assoc, List.length_append, HFX.out]; rfl
                rw [e1, e2]; exact hown2
              clear hown2 hgrow hO5 hB6 hB5 p0 p1 hg0
              go_wp2
              go_roundw
              case rel => exact ⟨k + 1, by go_num, by omega, by omega, hBn, hOn⟩
              case measure => simp [intOf]; omega
        · obtain rfl : k = P.length := by omega
          go_wp2
          go_roundw
          case rel => exact ⟨j + 1, by go_num, by omega, hB1, hown⟩
          case measure => simp [intOf]; omega
    · obtain rfl : j = P.length := by omega
      obtain ⟨FX, hFX⟩ : ∃ l, fixTo P M P.length = l := ⟨_, rfl⟩
      have hok : Hid (∀ p ∈ FX, vPoint p.1 p.2 = true) := Lib.hid (by rw [← hFX]; exact fixTo_ok P M _)
      have hFl : FX.length ≤ 64 := by rw [← hFX]; exact Nat.le_trans (fixTo_len P M _) (Nat.le_trans (Nat.mul_le_mul h8 h8) (by omega))
      rw [hFX] at hown
      have HFX := Lib.hid hFX
      obtain ⟨A3, c3, rfl, hF⟩ := (Rs.of_owns hown).sl
      have hcap := owns_capF hown
      obtain ⟨nz, hnz⟩ : ∃ n, wr.heap.size = n := ⟨_, rfl⟩
      rw [hnz] at hF
      have hnl : nz ≤ wr.heap.size := by omega
      clear hFX hown hlt hj hS1 hnz
      go_wp2_with fail
      go_loopw [11, 73] (fun m i wx => ∃ j : Nat, i = .int .i64 j ∧ j ≤ FX.length ∧ m = .int .i64 (sOut FX j) ∧ Below w.heap.size w wx ∧ nz ≤ wx.heap.size ∧ Sl wx nz A3 (pcells FX)) (fun _ i _ => FX.length - (intOf i).toNat)
      case atStart => exact ⟨0, rfl, Nat.zero_le _, rfl, hB1, hnl, hF⟩
      case round =>
        clear hB1 hnl hF
        obtain ⟨j, rfl, hj, rfl, hB2, hnl, hF⟩ := hrel
        have hsb := sOut_bd FX hok.out j hj
        have hS2 := hB2.size
        by_cases hlt : j < FX.length
        · obtain ⟨b, o, rfl, hb, d1, d2⟩ := Sl.point hF hlt
          have vj := vPoint_yes (hok.out _ (List.getElem_mem hlt))
          have hbw : b < wr.heap.size := by omega
          obtain ⟨gp, hgp⟩ : ∃ n, wr.heap.size = n := ⟨_, rfl⟩
          have hP0 : Pt (wr.alloc (.cells #[.int .i64 FX[j].1, .int .i64 FX[j].2] 25)) gp FX[j].1 FX[j].2 := by rw [← hgp]; exact ⟨by simp, by simp [go_sem], by simp [go_sem]⟩
          have hB3 : Below w.heap.size w (wr.alloc (.cells #[.int .i64 FX[j].1, .int .i64 FX[j].2] 25)) := by go_grown
          have hn3 : nz ≤ (wr.alloc (.cells #[.int .i64 FX[j].1, .int .i64 FX[j].2] 25)).heap.size := by simp; omega
          have hF3 := hF.below ((show Below wr.heap.size wr (wr.alloc (.cells #[.int .i64 FX[j].1, .int .i64 FX[j].2] 25)) by go_grown).mono hnl)
          have hstp := fun (k : Nat) (hk : k < FX.length) => (show sIn FX j (sOut FX j) (k + 1) = max (sIn FX j (sOut FX j) k) (distM FX[j].1 FX[j].2 FX[k].1 FX[k].2) by rw [sIn, getD_at' hlt, getD_at' hk])
          have hibd := fun (k : Nat) (hk : k ≤ FX.length) => sIn_bd FX hok.out hlt hsb k hk
          have HSTP := Lib.hid hstp
          have HIBD := Lib.hid hibd
          clear hF hnl hstp hibd
          generalize FX[j] = pj at *
          obtain ⟨ax, ay⟩ := pj
          simp only at d1 d2 vj hP0 hB3 hn3 hF3 HSTP
          go_wp2_with fail
          go_loopw [11, 82] (fun m i wy => ∃ k : Nat, i = .int .i64 k ∧ k ≤ j ∧ m = .int .i64 (sIn FX j (sOut FX j) k) ∧ Below w.heap.size w wy ∧ nz ≤ wy.heap.size ∧ Sl wy nz (some ⟨b, o, none⟩) (pcells FX) ∧ Pt wy gp ax ay) (fun _ i _ => j - (intOf i).toNat)
          case atStart => exact ⟨0, rfl, Nat.zero_le _, rfl, hB3, hn3, hF3, hP0⟩
          case round =>
            clear hB2 hB3 hn3 hF3 hP0 hS2 d1 d2 hbw hgp
            obtain ⟨k, rfl, hk, rfl, hB2, hnl, hF, hP⟩ := hrel
            have hS2 := hB2.size
            have hpl := hP.1
            by_cases hlk : k < j
            · have hkl : k < FX.length := by omega
              obtain ⟨b', o', e', hb', d3, d4⟩ := Sl.point hF hkl
              cases e'
              have p0 := hP.2.1
              have p1 := hP.2.2
              have vk := vPoint_yes (hok.out _ (List.getElem_mem hkl))
              have hstep := HSTP.out k hkl
              have hib := HIBD.out k (by omega)
              have hdb := distM_bd vj.1 vj.2 vk.1 vk.2
              have hap := fun w => impl_Distance ax ay FX[k].1 FX[k].2 w vj.1 vj.2 vk.1 vk.2
              generalize FX[k] = pk at *
              obtain ⟨bx, by_⟩ := pk
              simp only at hstep hap d3 d4 hdb
              generalize distM ax ay bx by_ = D at hstep hap hdb
              have HST := Lib.hid hstep
              generalize sIn FX j (sOut FX j) k = sm at *
              have HF := Lib.hid hF
              have HP := Lib.hid hP
              clear hstep vk hF hP
              have hbw : b < wr.heap.size := by omega
              go_wp2_with fail
              refine (hap _).mono ?_
              rintro e w8 ⟨rfl, hb8⟩
              have hB8 := bnext (show Below wr.heap.size wr (wr.alloc (.cells #[.int .i64 bx, .int .i64 by_] 25)) by go_grown) hb8
              go_wp2
              all_goals
                go_roundw
                case rel => exact ⟨k + 1, by go_num, by omega, by rw [HST.out]; first | rfl | (congr 1; omega), bnext hB2 hB8, Nat.le_trans hnl hB8.size, HF.out.below (hB8.mono hnl), HP.out.on hB8⟩
                case measure => simp [intOf]; omega
            · obtain rfl : k = j := by omega
              go_wp2
              go_roundw
              case rel => exact ⟨k + 1, by go_num, by omega, rfl, hB2, hnl, hF⟩
              case measure => simp [intOf]; omega
        · obtain rfl : j = FX.length := by omega
          go_wp2
          go_ret2
          exact ⟨by rw [HFX.out]; rfl, hB2⟩

theorem spec_FS (P : List (Int × Int)) (M : List Int) (A A2 : Option Addr) (c c2 B : Nat) (w : World) (hs : Sl w B A (pcells P)) (hs2 : Sl w B A2 (M.map (Value.int .i64))) (hB : B ≤ w.heap.size) (hl : P.length ≤ 1048576) (hl2 : M.length ≤ 1048576) :
    Calls Try.prog 52 #[.slice A P.length c, .slice A2 M.length c2] w fun e w' => e = .returned (.tuple #[.int .i64 (spV P M), .int .i64 (spC P M)]) ∧ Below w.heap.size w w' := by
  cases hv : vPoints P
  · have HC : Hid (spC P M = 1) := Lib.hid (by unfold spC; rw [hv]; rfl)
    have HV : Hid (spV P M = 0) := Lib.hid (by unfold spV; rw [if_neg (by rw [HC.out]; omega)])
    have hs' := Lib.hid hs
    clear hs hs2
    go_enter Try.func52, Try.ntmps52
    go_wp2_with (first | (go_at_call 113; refine (spec_l02All P _ _ B _ hs'.out (by omega) (by omega)).mono ?_; rintro e w1 ⟨rfl, hb1⟩))
    go_ret2
    exact ⟨by rw [HV.out, HC.out]; rfl, hb1⟩
  by_cases h : 2 ≤ P.length ∧ P.length ≤ 8 ∧ M.length = P.length
  · have hC : spC P M = 0 := by unfold spC; rw [if_pos hv, if_pos h]
    rw [show spV P M = sOut (fixTo P M P.length) (fixTo P M P.length).length by unfold spV; rw [if_pos hC], hC]
    exact spec_Spread P M A A2 c c2 B w hs hs2 hB hl hl2 hv h.1 h.2.1 h.2.2
  · have HC : Hid (spC P M = 2) := Lib.hid (by unfold spC; rw [if_pos hv, if_neg h])
    have HV : Hid (spV P M = 0) := Lib.hid (by unfold spV; rw [if_neg (by rw [HC.out]; omega)])
    have hs' := Lib.hid hs
    clear hs hs2
    rcases (by omega : P.length < 2 ∨ 8 < P.length ∨ (2 ≤ P.length ∧ P.length ≤ 8 ∧ ¬ M.length = P.length)) with h1 | h1 | ⟨h1, h2, h3⟩
    · have hin : inB (P.length : Int) 2 8 = false := inB_un (by omega)
      clear h
      go_enter Try.func52, Try.ntmps52
      go_wp2_with (first | (go_at_call 113; refine (spec_l02All P _ _ B _ hs'.out (by omega) (by omega)).mono ?_; rintro e w1 ⟨rfl, hb1⟩))
      go_ret2
      exact ⟨by rw [HV.out, HC.out]; rfl, hb1⟩
    · have hin : inB (P.length : Int) 2 8 = false := inB_un (by omega)
      have h2 : ¬ (P.length : Int) < 2 := by omega
      have h4 : (8 : Int) < (P.length : Int) := by omega
      clear h
      go_enter Try.func52, Try.ntmps52
      go_wp2_with (first | (go_at_call 113; refine (spec_l02All P _ _ B _ hs'.out (by omega) (by omega)).mono ?_; rintro e w1 ⟨rfl, hb1⟩))
      go_ret2
      exact ⟨by rw [HV.out, HC.out]; rfl, hb1⟩
    · have hin : inB (P.length : Int) 2 8 = true := inB_mk (by omega) (by omega)
      have h5 : ((M.length : Int) == (P.length : Int)) = false := beq_eq_false_iff_ne.2 (by omega)
      have h5' : ((M.length : Int) != (P.length : Int)) = true := by rw [bne, h5]; rfl
      have h6 : ¬ (P.length : Int) < 2 := by omega
      have h7 : ¬ (8 : Int) < (P.length : Int) := by omega
      clear h h3
      go_enter Try.func52, Try.ntmps52
      go_wp2_with (first | (go_at_call 113; refine (spec_l02All P _ _ B _ hs'.out (by omega) (by omega)).mono ?_; rintro e w1 ⟨rfl, hb1⟩))
      go_ret2
      exact ⟨by rw [HV.out, HC.out]; rfl, hb1⟩

theorem impl_FS (P : List (Int × Int)) (M : List Int) (A A2 : Option Addr) (c c2 B : Nat) (w : World) (hs : Sl w B A (pcells P)) (hs2 : Sl w B A2 (M.map (Value.int .i64))) (hB : B ≤ w.heap.size) (hl : P.length ≤ 1048576) (hl2 : M.length ≤ 1048576) :
    Calls Try.prog 54 #[.slice A P.length c, .slice A2 M.length c2] w fun e w' => e = .returned (.tuple #[.int .i64 (spV P M), .int .i64 (spC P M)]) ∧ Below w.heap.size w w' := by
  cases hv : vPoints P
  · have HC : Hid (spC P M = 1) := Lib.hid (by unfold spC; rw [hv]; rfl)
    have HV : Hid (spV P M = 0) := Lib.hid (by unfold spV; rw [if_neg (by rw [HC.out]; omega)])
    have hs' := Lib.hid hs
    clear hs hs2
    go_enter Try.func54, Try.ntmps54
    go_wp2_with (first | (go_at_call 74; refine (arePoints_any P _ _ B _ hs'.out (by omega) (by omega)).mono ?_; rintro e w1 ⟨rfl, hb1⟩) | (go_at_call 80; refine (within_any _ _ _ _).mono ?_; rintro e w' ⟨rfl, rfl⟩))
    go_ret2
    exact ⟨by rw [HV.out, HC.out]; rfl, hb1⟩
  by_cases h : 2 ≤ P.length ∧ P.length ≤ 8 ∧ M.length = P.length
  · have hC : spC P M = 0 := by unfold spC; rw [if_pos hv, if_pos h]
    rw [show spV P M = sOut (fixTo P M P.length) (fixTo P M P.length).length by unfold spV; rw [if_pos hC], hC]
    exact impl_Spread P M A A2 c c2 B w hs hs2 hB hl hl2 hv h.1 h.2.1 h.2.2
  · have HC : Hid (spC P M = 2) := Lib.hid (by unfold spC; rw [if_pos hv, if_neg h])
    have HV : Hid (spV P M = 0) := Lib.hid (by unfold spV; rw [if_neg (by rw [HC.out]; omega)])
    have hs' := Lib.hid hs
    clear hs hs2
    rcases (by omega : P.length < 2 ∨ 8 < P.length ∨ (2 ≤ P.length ∧ P.length ≤ 8 ∧ ¬ M.length = P.length)) with h1 | h1 | ⟨h1, h2, h3⟩
    · have hin : inB (P.length : Int) 2 8 = false := inB_un (by omega)
      clear h
      go_enter Try.func54, Try.ntmps54
      go_wp2_with (first | (go_at_call 74; refine (arePoints_any P _ _ B _ hs'.out (by omega) (by omega)).mono ?_; rintro e w1 ⟨rfl, hb1⟩) | (go_at_call 80; refine (within_any _ _ _ _).mono ?_; rintro e w' ⟨rfl, rfl⟩))
      go_ret2
      exact ⟨by rw [HV.out, HC.out]; rfl, hb1⟩
    · have hin : inB (P.length : Int) 2 8 = false := inB_un (by omega)
      have h2 : ¬ (P.length : Int) < 2 := by omega
      have h4 : (8 : Int) < (P.length : Int) := by omega
      clear h
      go_enter Try.func54, Try.ntmps54
      go_wp2_with (first | (go_at_call 74; refine (arePoints_any P _ _ B _ hs'.out (by omega) (by omega)).mono ?_; rintro e w1 ⟨rfl, hb1⟩) | (go_at_call 80; refine (within_any _ _ _ _).mono ?_; rintro e w' ⟨rfl, rfl⟩))
      go_ret2
      exact ⟨by rw [HV.out, HC.out]; rfl, hb1⟩
    · have hin : inB (P.length : Int) 2 8 = true := inB_mk (by omega) (by omega)
      have h5 : ((M.length : Int) == (P.length : Int)) = false := beq_eq_false_iff_ne.2 (by omega)
      have h5' : ((M.length : Int) != (P.length : Int)) = true := by rw [bne, h5]; rfl
      have h6 : ¬ (P.length : Int) < 2 := by omega
      have h7 : ¬ (8 : Int) < (P.length : Int) := by omega
      clear h h3
      go_enter Try.func54, Try.ntmps54
      go_wp2_with (first | (go_at_call 74; refine (arePoints_any P _ _ B _ hs'.out (by omega) (by omega)).mono ?_; rintro e w1 ⟨rfl, hb1⟩) | (go_at_call 80; refine (within_any _ _ _ _).mono ?_; rintro e w' ⟨rfl, rfl⟩))
      go_ret2
      exact ⟨by rw [HV.out, HC.out]; rfl, hb1⟩
end Go.Proofs.Ytnikdafbnkedkaa
