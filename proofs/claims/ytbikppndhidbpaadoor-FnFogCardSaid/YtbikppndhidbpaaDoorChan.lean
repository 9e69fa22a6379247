/-
  Contracts of channels: what makes one valid, and whether two are equal: the program's and the reference's. Each under the conditions that it states.
-/
import Derived.Test.YtbikppndhidbpaaDoorText1
import Derived.Test.YtbikppndhidbpaaDoorRow
import Derived.Test.YtbikppndhidbpaaDoorPoints
import Derived.Test.YtbikppndhidbpaaDoorMark
set_option linter.unusedVariables false
set_option linter.unnecessarySimpa false
set_option maxRecDepth 100000
set_option linter.unusedSimpArgs false
namespace Go.Proofs.YtbikppndhidbpaaDoor
open Go.RowKit BigFrame

def szN (left : Int) (n : Nat) : Int := if left - n < 0 then -1 else left - n
structure RPoint where
  f0 : Int
  f1 : Int
instance : Inhabited RPoint := ⟨⟨0, 0⟩⟩
def RPoint.cells (a : RPoint) : List Value := [.int .i64 a.f0, .int .i64 a.f1]
theorem RPoint.len (a : RPoint) : a.cells.length = 2 := rfl
def RPoint.ok (a : RPoint) : Prop := IntKind.i64.has a.f0 ∧ IntKind.i64.has a.f1
def RPoint.same (a b : RPoint) : Bool := decide (a.f0 = b.f0) && (decide (a.f1 = b.f1))

def ssPoint (j : Nat) : Bool := decide (j < 0)
/-- Number k of a line is valid, and another than the one ahead of it. -/
def okPt (P : List RPoint) (k : Nat) : Bool := vPoint (P.getD k default).f0 (P.getD k default).f1 && (decide (k = 0) || !((P.getD (k - 1) default).f0 == (P.getD k default).f0 && (P.getD (k - 1) default).f1 == (P.getD k default).f1))
def vLine (P : List RPoint) : Bool := allTo (okPt P) P.length
def vChan (s : ByteArray) (P : List RPoint) (wd : Int) : Bool := vLine P && (nameM s && (inB P.length 2 12 && inB wd 10 5000))
theorem okPt_bad {P : List RPoint} {k : Nat} {a : RPoint} (hg : P.getD k default = a) (h : vPoint a.f0 a.f1 = false) : okPt P k = false := by
  unfold okPt; rw [hg, h]; rfl
theorem okPt_zero {P : List RPoint} {a : RPoint} (hg : P.getD 0 default = a) (h : vPoint a.f0 a.f1 = true) : okPt P 0 = true := by
  unfold okPt; rw [hg, h]; rfl
theorem okPt_step {P : List RPoint} {m : Nat} {a p : RPoint} (hg : P.getD (m + 1) default = a) (hp : P.getD m default = p) (h : vPoint a.f0 a.f1 = true) : okPt P (m + 1) = !(p.f0 == a.f0 && p.f1 == a.f1) := by
  unfold okPt; rw [hg, Nat.add_sub_cancel, hp, h]; simp
theorem okPt_step2 {P : List RPoint} {m : Nat} {a p : RPoint} (hg : P.getD (m + 1) default = a) (hp : P.getD m default = p) (h : vPoint a.f0 a.f1 = true) : okPt P (m + 1) = !(a.f0 == p.f0 && a.f1 == p.f1) := by
  rw [okPt_step hg hp h, Bool.beq_comm (a := p.f0), Bool.beq_comm (a := p.f1)]
theorem vChan_hit {s : ByteArray} {P : List RPoint} {wd : Int} {k : Nat} (hk : k < P.length) (h : okPt P k = false) : vChan s P wd = false := by
  unfold vChan vLine; rw [allTo_hit hk h]; rfl
/-- A channel in memory, at the head of block g. -/
def Cz (w : World) (g : Nat) (s : ByteArray) (A : Option Addr) (n c : Nat) (wd : Int) : Prop := g < w.heap.size ∧ w.cell? ⟨g, 0, none⟩ = some (.string s) ∧ w.cell? ⟨g, 1, none⟩ = some (.slice A n c) ∧ w.cell? ⟨g, 2, none⟩ = some (.int .i64 wd)
theorem Cz.on {w w' : World} {g : Nat} {s : ByteArray} {A : Option Addr} {n c : Nat} {wd : Int} (h : Cz w g s A n c wd) (hb : Below w.heap.size w w') : Cz w' g s A n c wd := by
  obtain ⟨hg, c0, c1, c2⟩ := h
  obtain ⟨hc, _⟩ := bcell hb
  exact ⟨Nat.lt_of_lt_of_le hg hb.size, (hc _ _ hg).trans c0, (hc _ _ hg).trans c1, (hc _ _ hg).trans c2⟩
theorem Cz.new (w : World) (s : ByteArray) (A : Option Addr) (n c : Nat) (wd : Int) (t : TypeId) : Cz (w.alloc (.cells #[.string s, .slice A n c, .int .i64 wd] t)) w.heap.size s A n c wd := ⟨by simp, by simp, by simp, by simp⟩
set_option maxHeartbeats 2400000 in
theorem impl_ValidChannel (s : ByteArray) (hs : s.size ≤ maxLen) (P : List RPoint) (A : Option Addr) (c B : Nat) (wd : Int) (w : World) (hP : Sl w B A (flat RPoint.cells P)) (hB : B ≤ w.heap.size) (hl : P.length ≤ 1048576) :
    Calls Tryd.prog 92 #[.agg #[.string s, .slice A P.length c, .int .i64 wd]] w fun e w' => e = .returned (.bool (vChan s P wd)) ∧ Below w.heap.size w w' := by
  have hP' := Lib.hid hP
  have hZ0 := Lib.hid (Cz.new w s A P.length c wd 71)
  clear hP
  go_enter Tryd.func92, Tryd.ntmps92
  go_wp2
  go_loopw [8] (fun i wr => ∃ k : Nat, i = .int .i64 k ∧ k ≤ P.length ∧ allTo (okPt P) k = true ∧ Below w.heap.size w wr ∧ Cz wr w.heap.size s A P.length c wd) (fun i _ => P.length - (intOf i).toNat)
  case atStart => exact ⟨0, rfl, Nat.zero_le _, rfl, by go_grown, hZ0.out⟩
  case round =>
    obtain ⟨k, rfl, hk, hv, hB1, hZ⟩ := hrel
    have hS1 := hB1.size
    have hv' := Lib.hid hv
    clear hv
    by_cases hlt : k < P.length
    · obtain ⟨b, o, rfl, hb, he⟩ := Sl.elem RPoint.len (by decide) (hP'.out.below (hB1.mono hB)) hlt
      have hg := Lib.hid (getD_at hlt)
      obtain ⟨a, ha⟩ : ∃ a, P[k] = a := ⟨_, rfl⟩
      rw [ha] at hg he
      clear ha
      have d0 : wr.cell? ⟨b, o + k * 2, none⟩ = some (.int .i64 a.f0) := by have := he 0 _ rfl; simpa [Nat.add_assoc] using this
      have d1 : wr.cell? ⟨b, o + k * 2 + 1, none⟩ = some (.int .i64 a.f1) := by have := he 1 _ rfl; simpa [Nat.add_assoc] using this
      clear he
      have hbw : b < wr.heap.size := by omega
      have hki : (k : Int) < (P.length : Int) := by omega
      obtain ⟨hzl, z0, z1, z2⟩ := id hZ
      cases hva : vPoint a.f0 a.f1
      · have hm := Lib.hid (vChan_hit (s := s) (wd := wd) hlt (okPt_bad hg.out hva))
        go_wp2_with fail
        refine wp_region_grew (by kernel_rfl) (by kernel_rfl) ?_
        repeat (first | (go_big_quiet_step ((first | (go_at_call 69; exact grew_of (impl_ValidPoint _ _ _))))) | (quiet_step ((first | (go_at_call 69; exact grew_of (impl_ValidPoint _ _ _))))))
        refine wpQuiet_nil ?_
        rintro _ ⟨⟨w9, hb9⟩, rfl⟩
        try dsimp only
        obtain ⟨hc9, hf9⟩ := bcell hb9
        go_wp2
        go_ret
        exact ⟨ret_bool hm.out.symm, bnext hB1 (bnext (by go_grown) hb9)⟩
      rcases k with _ | m
      · simp only [Nat.zero_mul, Nat.add_zero] at d0 d1
        have hf2 := Lib.hid (allTo_step hv'.out (okPt_zero hg.out hva))
        go_wp2_with fail
        refine wp_region_grew (by kernel_rfl) (by kernel_rfl) ?_
        repeat (first | (go_big_quiet_step ((first | (go_at_call 69; exact grew_of (impl_ValidPoint _ _ _))))) | (quiet_step ((first | (go_at_call 69; exact grew_of (impl_ValidPoint _ _ _))))))
        refine wpQuiet_nil ?_
        rintro _ ⟨⟨w9, hb9⟩, rfl⟩
        try dsimp only
        obtain ⟨hc9, hf9⟩ := bcell hb9
        go_wp2
        go_roundw
        case rel => exact ⟨0 + 1, by go_num, by omega, hf2.out, bnext hB1 (bnext (by go_grown) hb9), hZ.on (bnext (by go_grown) hb9)⟩
        case measure => simp [intOf]; omega
      obtain ⟨b2, o2, e2, hb2, he2⟩ := Sl.elem RPoint.len (by decide) (hP'.out.below (hB1.mono hB)) (show m < P.length by omega)
      cases e2
      have hp := Lib.hid (getD_at (show m < P.length by omega))
      obtain ⟨p, hp'⟩ : ∃ p, P[m] = p := ⟨_, rfl⟩
      rw [hp'] at hp he2
      clear hp'
      have n0 : wr.cell? ⟨b, o + m * 2, none⟩ = some (.int .i64 p.f0) := by have := he2 0 _ rfl; simpa [Nat.add_assoc] using this
      have n1 : wr.cell? ⟨b, o + m * 2 + 1, none⟩ = some (.int .i64 p.f1) := by have := he2 1 _ rfl; simpa [Nat.add_assoc] using this
      clear he2
      have hst := Lib.hid (okPt_step hg.out hp.out hva)
      have hpos : (0 : Int) < (m : Int) + 1 := by omega
      cases hx : (p.f0 == a.f0)
      · have hf2 := Lib.hid (allTo_step hv'.out (hst.out.trans (by rw [hx]; rfl)))
        go_wp2_with fail
        refine wp_region_grew (by kernel_rfl) (by kernel_rfl) ?_
        repeat (first | (go_big_quiet_step ((first | (go_at_call 69; exact grew_of (impl_ValidPoint _ _ _))))) | (quiet_step ((first | (go_at_call 69; exact grew_of (impl_ValidPoint _ _ _))))))
        refine wpQuiet_nil ?_
        rintro _ ⟨⟨w9, hb9⟩, rfl⟩
        try dsimp only
        obtain ⟨hc9, hf9⟩ := bcell hb9
        go_wp2
        go_roundw
        case rel => exact ⟨m + 1 + 1, by go_num, by omega, hf2.out, bnext hB1 (bnext (by go_grown) hb9), hZ.on (bnext (by go_grown) hb9)⟩
        case measure => simp [intOf]; omega
      cases hy : (p.f1 == a.f1)
      · have hf2 := Lib.hid (allTo_step hv'.out (hst.out.trans (by rw [hx, hy]; rfl)))
        go_wp2_with fail
        refine wp_region_grew (by kernel_rfl) (by kernel_rfl) ?_
        repeat (first | (go_big_quiet_step ((first | (go_at_call 69; exact grew_of (impl_ValidPoint _ _ _))))) | (quiet_step ((first | (go_at_call 69; exact grew_of (impl_ValidPoint _ _ _))))))
        refine wpQuiet_nil ?_
        rintro _ ⟨⟨w9, hb9⟩, rfl⟩
        try dsimp only
        obtain ⟨hc9, hf9⟩ := bcell hb9
        go_wp2
        go_roundw
        case rel => exact ⟨m + 1 + 1, by go_num, by omega, hf2.out, bnext hB1 (bnext (by go_grown) hb9), hZ.on (bnext (by go_grown) hb9)⟩
        case measure => simp [intOf]; omega
      · have hm := Lib.hid (vChan_hit (s := s) (wd := wd) hlt (hst.out.trans (by rw [hx, hy]; rfl)))
        go_wp2_with fail
        refine wp_region_grew (by kernel_rfl) (by kernel_rfl) ?_
        repeat (first | (go_big_quiet_step ((first | (go_at_call 69; exact grew_of (impl_ValidPoint _ _ _))))) | (quiet_step ((first | (go_at_call 69; exact grew_of (impl_ValidPoint _ _ _))))))
        refine wpQuiet_nil ?_
        rintro _ ⟨⟨w9, hb9⟩, rfl⟩
        try dsimp only
        obtain ⟨hc9, hf9⟩ := bcell hb9
        go_wp2
        go_ret
        exact ⟨ret_bool hm.out.symm, bnext hB1 (bnext (by go_grown) hb9)⟩
    · obtain rfl : k = P.length := by omega
      have hm : Hid (vChan s P wd = (nameM s && (inB P.length 2 12 && inB wd 10 5000))) := by apply Lib.hid; unfold vChan vLine; rw [hv'.out]; rfl
      obtain ⟨hzl, z0, z1, z2⟩ := id hZ
      go_wp2_with (first | (go_at_call 129; refine (impl_IsName _ hs _).mono ?_; rintro e w' ⟨rfl, rfl⟩) | (go_at_call 61; refine (within_any _ _ _ _).mono ?_; rintro e w' ⟨rfl, rfl⟩))
      all_goals (go_ret; exact ⟨ret_bool (by rw [hm.out]; simp [*]), hB1⟩)
end Go.Proofs.YtbikppndhidbpaaDoor
