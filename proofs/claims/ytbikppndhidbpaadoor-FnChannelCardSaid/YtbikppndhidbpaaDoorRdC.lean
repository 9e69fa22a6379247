/-
  Plain words: which texts are channels, and which; the text of a channel: the program's contract. Under the conditions that each states.
-/
import Derived.Test.YtbikppndhidbpaaDoorChan
import Derived.Test.YtbikppndhidbpaaDoorListP
import Derived.Test.YtbikppndhidbpaaDoorSplit2
import Derived.Test.YtbikppndhidbpaaDoorRdD
set_option linter.unusedVariables false
set_option linter.unnecessarySimpa false
set_option maxRecDepth 100000
set_option linter.unusedSimpArgs false
namespace Go.Proofs.YtbikppndhidbpaaDoor
open Go.RowKit BigFrame

theorem noBig {n : Nat} (h : n ≤ 1000000000) : ¬ 9223372036854775807 < n := by omega
def rpP (p : List UInt8) : RPoint := ⟨rpX p, rpY p⟩
def lineL (L : List UInt8) : List RPoint := ((splitL 32 L).drop 2).map rpP
def crOk (L : List UInt8) : Bool := decide (4 ≤ (splitL 32 L).length) && (numOk (rlA L 1) && (((splitL 32 L).drop 2).all rpOk && vChan (ba (rlA L 0)) (lineL L) (rdV (ba (rlA L 1)))))
def crS (L : List UInt8) : ByteArray := if crOk L then ba (rlA L 0) else ⟨#[]⟩
def crP (L : List UInt8) : List RPoint := if crOk L then lineL L else []
def crW (L : List UInt8) : Int := if crOk L then rdV (ba (rlA L 1)) else 0
theorem cr_no {L : List UInt8} (h : crOk L = false) : crS L = ⟨#[]⟩ ∧ crP L = [] ∧ crW L = 0 := ⟨by unfold crS; rw [h]; rfl, by unfold crP; rw [h]; rfl, by unfold crW; rw [h]; rfl⟩
theorem cr_yes {L a b : List UInt8} {R : List (List UInt8)} (h : crOk L = true) (hS : splitL 32 L = a :: b :: R) : crS L = ba a ∧ crP L = R.map rpP ∧ crW L = rdV (ba b) := by
  have e0 : rlA L 0 = a := by unfold rlA; rw [hS]; rfl
  have e1 : rlA L 1 = b := by unfold rlA; rw [hS]; rfl
  have e2 : lineL L = R.map rpP := by unfold lineL; rw [hS]; rfl
  exact ⟨by unfold crS; rw [h, e0]; rfl, by unfold crP; rw [h, e2]; rfl, by unfold crW; rw [h, e1]; rfl⟩
theorem cr_is {L a b : List UInt8} {R : List (List UInt8)} (hS : splitL 32 L = a :: b :: R) : crOk L = (decide (2 ≤ R.length) && (numOk b && (R.all rpOk && vChan (ba a) (R.map rpP) (rdV (ba b))))) := by
  have e0 : rlA L 0 = a := by unfold rlA; rw [hS]; rfl
  have e1 : rlA L 1 = b := by unfold rlA; rw [hS]; rfl
  have e2 : lineL L = R.map rpP := by unfold lineL; rw [hS]; rfl
  unfold crOk
  rw [e0, e1, e2, hS]
  congr 1
  simp
theorem two_of {S : List (List UInt8)} (h : 2 ≤ S.length) : ∃ a b R, S = a :: b :: R := by
  rcases S with _ | ⟨a, _ | ⟨b, R⟩⟩
  · simp at h
  · simp at h
  · exact ⟨a, b, R, rfl⟩
/-- The text of a channel, its first k points. -/
def ctTo (s : ByteArray) (wd : Int) (P : List RPoint) : Nat → ByteArray
  | 0 => s ++ ⟨#[32]⟩ ++ decT wd
  | k + 1 => ctTo s wd P k ++ (⟨#[32]⟩ ++ ptT (P.getD k default).f0 (P.getD k default).f1)
def chanX (s : ByteArray) (P : List RPoint) (wd : Int) : ByteArray := if vChan s P wd then ctTo s wd P P.length else ⟨#[]⟩
theorem ctTo_step {s : ByteArray} {wd : Int} {P : List RPoint} {k : Nat} {a : RPoint} (hg : P.getD k default = a) : ctTo s wd P (k + 1) = ctTo s wd P k ++ (⟨#[32]⟩ ++ ptT a.f0 a.f1) := by
  rw [ctTo, hg]
theorem vChan_yes {s : ByteArray} {P : List RPoint} {wd : Int} (h : vChan s P wd = true) : vLine P = true ∧ nameM s = true ∧ (2 ≤ P.length ∧ P.length ≤ 12) ∧ (10 ≤ wd ∧ wd ≤ 5000) := by
  unfold vChan at h
  simp only [Bool.and_eq_true] at h
  have h1 := inB_yes.1 h.2.2.1
  have h2 := inB_yes.1 h.2.2.2
  exact ⟨h.1, h.2.1, ⟨by omega, by omega⟩, h2⟩
theorem all_ofC {f : Nat → Bool} {k n : Nat} (h : allTo f n = true) (hk : k < n) : f k = true := by
  rw [← Bool.not_eq_false]
  intro hf
  rw [allTo_hit hk hf] at h
  cases h
theorem vLine_pt {P : List RPoint} (h : vLine P = true) {k : Nat} (hk : k < P.length) : vPoint (P[k]).f0 (P[k]).f1 = true := by
  have h1 := all_ofC h hk
  unfold okPt at h1
  rw [getD_at hk, Bool.and_eq_true] at h1
  exact h1.1
theorem name_freeC {l : List UInt8} (h : nameM (ba l) = true) : (32 : UInt8) ∉ l ∧ l ≠ [] := by
  unfold nameM at h
  rw [Bool.and_eq_true, Bool.and_eq_true] at h
  obtain ⟨h1, h2, _⟩ := h
  constructor
  · intro hm
    obtain ⟨k, hk, e⟩ := List.mem_iff_getElem.1 hm
    have hk2 : k < (ba l).size := by rw [ba_size]; exact hk
    have hf := all_ofC h1 hk2
    obtain ⟨b, hb, _, hbe⟩ := byteAt_is hk2
    have hb3 : b = 32 := by
      rw [← hb]
      show (l[k]'hk).toNat = 32
      rw [e]; rfl
    unfold nameF at hf
    rw [hbe, hb3] at hf
    simp [inB] at hf
  · intro e
    subst e
    exact absurd h2 (by decide)
theorem ctTo_join {a b : List UInt8} {R : List (List UInt8)} (hb : numOk b = true) (hR : ∀ p ∈ R, rpOk p = true) : ∀ k, k ≤ R.length → (ctTo (ba a) (rdV (ba b)) (R.map rpP) k).data.toList = Lib.join (a :: b :: R.take k) [32]
  | 0, _ => by
    rw [ctTo, decT_of hb]
    simp only [ByteArray.data_append, Array.toList_append]
    show (a ++ [32]) ++ b = _
    rw [List.take_zero, Lib.join_cons]
    simp [Lib.joinTail]
  | k + 1, hk => by
    have ih := ctTo_join (a := a) hb hR k (by omega)
    have hkl : k < R.length := by omega
    have hg : (R.map rpP).getD k default = rpP R[k] := by rw [List.getD_eq_getElem?_getD, List.getElem?_map, List.getElem?_eq_getElem hkl]; rfl
    rw [ctTo_step hg]
    have hp : ptT (rpP R[k]).f0 (rpP R[k]).f1 = ba R[k] := ptT_of (hR _ (List.getElem_mem hkl))
    rw [hp]
    simp only [ByteArray.data_append, Array.toList_append]
    rw [ih, List.take_succ_eq_append_getElem hkl]
    show _ ++ ([32] ++ R[k]) = _
    generalize R.take k = T
    generalize R[k] = z
    rw [Lib.join_cons, Lib.join_cons]
    simp [Lib.joinTail]
theorem chan_free {a b : List UInt8} {R : List (List UInt8)} (ha : nameM (ba a) = true) (hb : numOk b = true) (hR : ∀ p ∈ R, rpOk p = true) : ∀ p ∈ a :: b :: R, (32 : UInt8) ∉ p ∧ p ≠ [] := by
  intro p hp
  rcases List.mem_cons.1 hp with rfl | hp
  · exact name_freeC ha
  rcases List.mem_cons.1 hp with rfl | hp
  · exact num_free2 hb
  · exact rp_free (hR p hp)
/-- Where the reference reads, the words are the parts, and the text is the text. -/
theorem cr_words {L : List UInt8} (h : crOk L = true) : wordsL L = splitL 32 L ∧ ∃ a b R, splitL 32 L = a :: b :: R ∧ (2 ≤ R.length ∧ R.length ≤ 12) ∧ numOk b = true ∧ (∀ p ∈ R, rpOk p = true) ∧ vChan (ba a) (R.map rpP) (rdV (ba b)) = true ∧ (ctTo (ba a) (rdV (ba b)) (R.map rpP) R.length).data.toList = L := by
  have h4 : 4 ≤ (splitL 32 L).length := by
    unfold crOk at h
    rw [Bool.and_eq_true] at h
    exact of_decide_eq_true h.1
  obtain ⟨a, b, R, hS⟩ := two_of (S := splitL 32 L) (by omega)
  have h' := h
  rw [cr_is hS] at h'
  simp only [Bool.and_eq_true, List.all_eq_true] at h'
  obtain ⟨h1, h2, h3, h5⟩ := h'
  have hv := vChan_yes h5
  have hfree := chan_free hv.2.1 h2 h3
  refine ⟨words_all (by rw [hS]; exact fun p hp => (hfree p hp).2), a, b, R, hS, ⟨of_decide_eq_true h1, by have := hv.2.2.1.2; rw [List.length_map] at this; exact this⟩, h2, h3, h5, ?_⟩
  rw [ctTo_join h2 h3 _ (Nat.le_refl _), List.take_length, ← hS]
  exact split_join 32 L
/-- What the program reads, the reference reads. -/
theorem cr_good {L a b : List UInt8} {R : List (List UInt8)} (hr : 2 ≤ R.length) (hb : numOk b = true) (hR : ∀ p ∈ R, rpOk p = true) (hv : vChan (ba a) (R.map rpP) (rdV (ba b)) = true) (hT : (ctTo (ba a) (rdV (ba b)) (R.map rpP) R.length).data.toList = L) : splitL 32 L = a :: b :: R ∧ crOk L = true := by
  rw [ctTo_join hb hR _ (Nat.le_refl _), List.take_length] at hT
  have hfree := chan_free (vChan_yes hv).2.1 hb hR
  have hS := split_parts 32 (a :: b :: R) (by simp) (fun p hp => (hfree p hp).1)
  rw [hT] at hS
  refine ⟨hS, ?_⟩
  rw [cr_is hS, hb, hv, decide_eq_true hr, List.all_eq_true.2 hR]
  rfl
theorem ctTo_size {s : ByteArray} {wd : Int} {P : List RPoint} (hs : s.size ≤ 1048576) (hw : 10 ≤ wd ∧ wd ≤ 5000) (hv : vLine P = true) : ∀ k, k ≤ P.length → (ctTo s wd P k).size ≤ 1048600 + 50 * k
  | 0, _ => by
    have := decT_size (n := wd) (by omega) (by omega)
    rw [ctTo, ByteArray.size_append, ByteArray.size_append]
    have : (⟨#[32]⟩ : ByteArray).size = 1 := rfl
    omega
  | k + 1, hk => by
    have ih := ctTo_size hs hw hv k (by omega)
    have hp := vPoint_yes (vLine_pt hv (show k < P.length by omega))
    have s1 := decT_size (n := (P[k]).f0) (by omega) (by omega)
    have s2 := decT_size (n := (P[k]).f1) (by omega) (by omega)
    rw [ctTo_step (getD_at (show k < P.length by omega))]
    unfold ptT
    simp only [ByteArray.size_append]
    have e1 : (⟨#[32]⟩ : ByteArray).size = 1 := rfl
    have e2 : (⟨#[44]⟩ : ByteArray).size = 1 := rfl
    omega
theorem has_pt {x : Int} (h : 0 ≤ x ∧ x ≤ 200000) : IntKind.i64.has x := by simp [IntKind.has, IntKind.min, IntKind.max, IntKind.signed, IntKind.bits]; omega
set_option maxHeartbeats 1600000 in
theorem impl_ChanText (s : ByteArray) (hs : s.size ≤ 1048576) (P : List RPoint) (A : Option Addr) (c B : Nat) (wd : Int) (w : World) (hP : Sl w B A (flat RPoint.cells P)) (hB : B ≤ w.heap.size) (hl : P.length ≤ 1048576) (ht : Tab w) :
    Calls Tryd.prog 44 #[.agg #[.string s, .slice A P.length c, .int .i64 wd]] w fun e w' => e = .returned (.string (chanX s P wd)) ∧ Below w.heap.size w w' := by
  have hP' := Lib.hid hP
  have ht' := Lib.hid ht
  have hZ0 := Lib.hid (Cz.new w s A P.length c wd 71)
  have hsm : s.size ≤ maxLen := by unfold maxLen; omega
  clear hP ht
  cases hv : vChan s P wd
  · have hX : Hid (chanX s P wd = ⟨#[]⟩) := Lib.hid (by unfold chanX; rw [hv]; rfl)
    go_enter Tryd.func44, Tryd.ntmps44
    go_wp2_with fail
    refine (impl_ValidChannel s hsm P A c B wd _ (hP'.out.below ((show Below w.heap.size w _ by go_grown).mono hB)) (by simp; omega) hl).mono ?_
    rintro e w1 ⟨rfl, hb1⟩
    rw [hv]
    have hB1 := bnext (show Below w.heap.size w _ by go_grown) hb1
    go_wp2
    go_ret
    exact ⟨ret_str hX.out.symm, hB1⟩
  have hX : Hid (chanX s P wd = ctTo s wd P P.length) := Lib.hid (by unfold chanX; rw [hv]; rfl)
  obtain ⟨hvl, hvn, hv2, hvw⟩ := vChan_yes hv
  have hvl' := Lib.hid hvl
  have hsz := Lib.hid (ctTo_size hs hvw hvl)
  have hd := decT_size (n := wd) (by omega) (by omega)
  have q1 := noBig (n := s.size + 1) (by omega)
  have q2 := noBig (n := s.size + 1 + (decT wd).size) (by omega)
  clear hvl hvn
  go_enter Tryd.func44, Tryd.ntmps44
  go_wp2_with fail
  refine (impl_ValidChannel s hsm P A c B wd _ (hP'.out.below ((show Below w.heap.size w _ by go_grown).mono hB)) (by simp; omega) hl).mono ?_
  rintro e w1 ⟨rfl, hb1⟩
  rw [hv]
  have hB1 := bnext (show Below w.heap.size w _ by go_grown) hb1
  obtain ⟨hzl, z0, z1, z2⟩ := hZ0.out.on hb1
  have hT1 := Lib.hid (ht'.out.on hB1)
  clear hb1 hv
  go_wp2_with fail
  refine wp_region_grew (by kernel_rfl) (by kernel_rfl) ?_
  repeat (first | (go_big_quiet_step ((go_at_call 74; exact grew_of (impl_Dec _ (by omega) (by omega) _ (hT1.out.on (Grew.below _)))))) | (quiet_step ((go_at_call 74; exact grew_of (impl_Dec _ (by omega) (by omega) _ (hT1.out.on (Grew.below _)))))))
  refine wpQuiet_nil ?_
  rintro w9 ⟨⟨w8, hb9⟩, rfl⟩
  try dsimp only
  obtain ⟨hc9, hf9⟩ := bcell hb9
  have hB9 := bnext hB1 hb9
  have y1 := (hc9 _ 1 hzl).trans z1
  clear hc9 hf9 hb9 hB1 hT1 z0 z1 z2
  have hX0 : Hid (ctTo s wd P 0 = s ++ ⟨#[32]⟩ ++ decT wd) := Lib.hid rfl
  go_wp2_with fail
  go_loopw [3, 19] (fun t i wr => ∃ k : Nat, t = .string (ctTo s wd P k) ∧ i = .int .i64 k ∧ k ≤ P.length ∧ Below w.heap.size w wr) (fun _ i _ => P.length - (intOf i).toNat)
  case atStart => exact ⟨0, by rw [hX0.out], rfl, Nat.zero_le _, hB9⟩
  case round =>
    clear hB9 y1 hX0
    obtain ⟨k, rfl, rfl, hk, hBr⟩ := hrel
    have hSr := hBr.size
    by_cases hlt : k < P.length
    · obtain ⟨b, o, rfl, hb, he⟩ := Sl.elem RPoint.len (by decide) (hP'.out.below (hBr.mono hB)) hlt
      have hst := Lib.hid (ctTo_step (s := s) (wd := wd) (getD_at hlt))
      have hpv := vLine_pt hvl'.out hlt
      obtain ⟨a, ha⟩ : ∃ a, P[k] = a := ⟨_, rfl⟩
      rw [ha] at he hst hpv
      have d0 : wr.cell? ⟨b, o + k * 2, none⟩ = some (.int .i64 a.f0) := by have := he 0 _ rfl; simpa [Nat.add_assoc] using this
      have d1 : wr.cell? ⟨b, o + k * 2 + 1, none⟩ = some (.int .i64 a.f1) := by have := he 1 _ rfl; simpa [Nat.add_assoc] using this
      have hpb := vPoint_yes hpv
      have hs1 := hsz.out k hk
      have s1 := decT_size (n := a.f0) (by omega) (by omega)
      have s2 := decT_size (n := a.f1) (by omega) (by omega)
      have s3 : (ptT a.f0 a.f1).size ≤ 50 := by
        unfold ptT
        rw [ByteArray.size_append, ByteArray.size_append]
        have : (⟨#[44]⟩ : ByteArray).size = 1 := rfl
        omega
      have hk12 : k ≤ 12 := by omega
      have q3 := noBig (n := 1 + (ptT a.f0 a.f1).size) (by omega)
      have q4 := noBig (n := (ctTo s wd P k).size + (1 + (ptT a.f0 a.f1).size)) (by omega)
      have hp1 := Lib.hid (has_pt hpb.1)
      have hp2 := Lib.hid (has_pt hpb.2)
      clear he ha s1 s2
      go_wp2_with (go_at_call 28; refine (impl_ptText a.f0 a.f1 hpv hp1.out hp2.out _ (ht'.out.on (by go_grown))).mono ?_; rintro e w5 ⟨rfl, hb5⟩)
      go_roundw
      case rel => exact ⟨k + 1, by rw [hst.out], by go_num, by omega, bnext (show Below w.heap.size w _ by go_grown) hb5⟩
      case measure => simp [intOf]; omega
    · obtain rfl : k = P.length := by omega
      go_wp2
      go_ret
      exact ⟨ret_str hX.out.symm, hBr⟩
end Go.Proofs.YtbikppndhidbpaaDoor
