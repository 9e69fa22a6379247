/-
  Contracts of the tenths of phases: the colors at all tenths of a second: the program's and the reference's. Each under the conditions that it states.
-/
import Derived.Test.YtpnffdkkmibchaaGreatDoorRhyV
import Derived.Test.YtpnffdkkmibchaaGreatDoorRhyM
import Derived.Test.YtpnffdkkmibchaaGreatDoorMark
set_option linter.unusedVariables false
set_option linter.unnecessarySimpa false
set_option maxRecDepth 100000
set_option linter.unusedSimpArgs false
namespace Go.Proofs.YtpnffdkkmibchaaGreatDoor
open Go.RowKit BigFrame Go.Deep

/-- The number of a color: 0, or its letter. -/
def cdM (s : ByteArray) : Nat := match s.data.toList with
  | [] => 0
  | c :: _ => c.toNat
/-- The color of a number. -/
def nm (c : Nat) : ByteArray := if c = 0 then ⟨#[]⟩ else ⟨#[c.toUInt8]⟩
theorem color_cases {s : ByteArray} (h : colorM s = true) : ∃ c : UInt8, c ≠ 0 ∧ s = ⟨#[c]⟩ := by
  have hs : s.size = 1 := by
    rcases Nat.decEq s.size 1 with h1 | h1
    · rw [color_long h1] at h; cases h
    · exact h1
  obtain ⟨⟨l⟩⟩ := s
  match l, hs with
  | [c], _ =>
    refine ⟨c, fun e => ?_, rfl⟩
    subst e
    unfold colorM at h
    rw [ByteArray.toList_eq] at h
    revert h
    decide
theorem nil_of {s : ByteArray} (h : s.toList.isEmpty = true) : s = ⟨#[]⟩ := by
  obtain ⟨⟨l⟩⟩ := s
  rw [ByteArray.toList_eq] at h
  rcases l with _ | ⟨c, r⟩
  · rfl
  · cases h
theorem ph_cases {a : RPhase} (h : okPh a = true) : (1 ≤ a.f1 ∧ a.f1 ≤ 600) ∧ (a.f0 = ⟨#[]⟩ ∨ ∃ c : UInt8, c ≠ 0 ∧ a.f0 = ⟨#[c]⟩) := by
  unfold okPh at h
  rw [Bool.and_eq_true, Bool.or_eq_true] at h
  refine ⟨inB_yes.1 h.1, ?_⟩
  rcases h.2 with h1 | h1
  · exact Or.inl (nil_of h1)
  · exact Or.inr (color_cases h1)
theorem cd_nil : cdM ⟨#[]⟩ = 0 := rfl
theorem cd_one (c : UInt8) : cdM ⟨#[c]⟩ = c.toNat := rfl
theorem nm_nil : nm 0 = ⟨#[]⟩ := rfl
theorem nm_one {c : UInt8} (h : c ≠ 0) : nm c.toNat = ⟨#[c]⟩ := by
  have h0 : c.toNat ≠ 0 := fun e => h (UInt8.toNat_inj.1 (by simpa using e))
  unfold nm
  rw [if_neg h0]
  simp
/-- The numbers of the tenths of the first k phases. -/
def tnTo (P : List RPhase) : Nat → List Nat
  | 0 => []
  | k + 1 => tnTo P k ++ List.replicate (P.getD k default).f1.toNat (cdM (P.getD k default).f0)
def tns (P : List RPhase) : List Nat := tnTo P P.length
theorem tn_step {P : List RPhase} {k : Nat} (hk : k < P.length) : tnTo P (k + 1) = tnTo P k ++ List.replicate (P[k]).f1.toNat (cdM (P[k]).f0) := by
  simp only [tnTo]; rw [getD_at hk]
def bts (W : List Nat) : List Value := W.map fun c : Nat => .int .u8 (c : Int)
def cls (W : List Nat) : List Value := W.map fun c => .string (nm c)
theorem bts_snoc (W : List Nat) (c : Nat) : bts (W ++ [c]) = bts W ++ [.int .u8 (c : Int)] := by unfold bts; rw [List.map_append]; rfl
theorem cls_snoc (W : List Nat) (c : Nat) : cls (W ++ [c]) = cls W ++ [.string (nm c)] := by unfold cls; rw [List.map_append]; rfl
theorem rep_snoc (W : List Nat) (j c : Nat) : W ++ List.replicate (j + 1) c = (W ++ List.replicate j c) ++ [c] := by rw [List.replicate_succ', List.append_assoc]
theorem tn_len {P : List RPhase} (h : allTo (okPhA P) P.length = true) : ∀ k, k ≤ P.length → (tnTo P k).length = (sumPh P k).toNat ∧ 0 ≤ sumPh P k ∧ sumPh P k ≤ sumPh P P.length := by
  have hok : ∀ k, k < P.length → okPhA P k = true := fun k hk => by
    cases hq : okPhA P k
    · rw [allTo_hit hk hq] at h; cases h
    · rfl
  have low : ∀ k, k ≤ P.length → (tnTo P k).length = (sumPh P k).toNat ∧ 0 ≤ sumPh P k := fun k => by
    induction k with
    | zero => intro _; exact ⟨rfl, Int.le_refl _⟩
    | succ k ih =>
      intro hk
      obtain ⟨h1, h2⟩ := ih (by omega)
      have h3 := hok k (by omega)
      obtain ⟨h4, _⟩ := ph_cases h3
      simp only [tnTo, sumPh, List.length_append, List.length_replicate]
      omega
  have up : ∀ d k, k + d = P.length → sumPh P k ≤ sumPh P P.length := fun d => by
    induction d with
    | zero => intro k hk; rw [show k = P.length by omega]; exact Int.le_refl _
    | succ d ih =>
      intro k hk
      have h1 := ih (k + 1) (by omega)
      obtain ⟨h4, _⟩ := ph_cases (hok k (by omega))
      simp only [sumPh] at h1
      omega
  intro k hk
  exact ⟨(low k hk).1, (low k hk).2, up (P.length - k) k (by omega)⟩
theorem ok_at {P : List RPhase} (h : allTo (okPhA P) P.length = true) {k : Nat} (hk : k < P.length) : okPh P[k] = true := by
  rw [← okPhA_at hk]
  cases hq : okPhA P k
  · rw [allTo_hit hk hq] at h; cases h
  · rfl
theorem infoU8 : (Tryz.prog.info? 5).map (fun i => (i.zero, i.size, i.bytes)) = some (some (.int .u8 0), 1, 1) := by kernel_rfl
/-- An element of a row that came in, in whatever world has grown. -/
theorem elem_w {w : World} {B : Nat} {A : Option Addr} {P : List RPhase} (hs : Sl w B A (flat RPhase.cells P)) (hB : B ≤ w.heap.size) {k : Nat} (hk : k < P.length) : ∃ b o : Nat, A = some ⟨b, o, none⟩ ∧ b < w.heap.size ∧ ∀ wx, Below w.heap.size w wx → wx.cell? ⟨b, o + k * 2, none⟩ = some (.string (P[k]).f0) ∧ wx.cell? ⟨b, o + k * 2 + 1, none⟩ = some (.int .i64 (P[k]).f1) := by
  obtain ⟨b, o, rfl, hb, he⟩ := Sl.elem RPhase.len (by decide) hs hk
  refine ⟨b, o, rfl, by omega, fun wx hx => ?_⟩
  obtain ⟨hc, _⟩ := bcell hx
  exact ⟨(hc _ _ (by omega)).trans (by have := he 0 _ rfl; simpa [Nat.add_assoc] using this), (hc _ _ (by omega)).trans (by have := he 1 _ rfl; simpa [Nat.add_assoc] using this)⟩
set_option maxHeartbeats 1600000 in
theorem spec_Tn (P : List RPhase) (A : Option Addr) (c B : Nat) (w : World) (hs : Sl w B A (flat RPhase.cells P)) (hB : B ≤ w.heap.size) (hv : vPhases P = true) : Calls Tryz.prog 60 #[.slice A P.length c] w fun e w' => ∃ v, e = .returned v ∧ Below w.heap.size w w' ∧ w'.ownsRow w.heap.size 5 1 v (tns P).length (bts (tns P)) := by
  obtain ⟨h1, h40, hall, hsum⟩ := vPhases_yes hv
  have hs' := Lib.hid hs
  have hlen := Lib.hid (tn_len hall)
  have hall' := Lib.hid hall
  obtain ⟨i0, hi, ie0, ie1, ie2⟩ := info_parts infoU8
  clear hs hall
  go_enter Tryz.func60, Tryz.ntmps60
  go_wp2
  have hO0 : (w.alloc (.cells #[] 5)).ownsRow w.heap.size 5 1 (.slice (some ⟨w.heap.size, 0, none⟩) 0 0) (tnTo P 0).length (bts (tnTo P 0)) := World.ownsRow_made w #[] 0 (Nat.le_refl _) (Nat.zero_le _) rfl
  have hBa : Below w.heap.size w (w.alloc (.cells #[] 5)) := by go_grown
  go_loopw [3, 4] (fun v i wr => ∃ k : Nat, i = .int .i64 k ∧ k ≤ P.length ∧ Below w.heap.size w wr ∧ wr.ownsRow w.heap.size 5 1 v (tnTo P k).length (bts (tnTo P k))) (fun _ i _ => P.length - (intOf i).toNat)
  case atStart => exact ⟨0, rfl, Nat.zero_le _, hBa, hO0⟩
  case round =>
    clear hBa hO0
    obtain ⟨k, rfl, hk, hB1, hown⟩ := hrel
    have hS1 := hB1.size
    by_cases hlt : k < P.length
    · have hT := hlen.out (k + 1) hlt
      have hT' := hlen.out k hk
      have hst0 := Lib.hid (tn_step hlt)
      have hsm := sum_step hlt
      obtain ⟨b, o, rfl, hb, he⟩ := elem_w hs'.out hB hlt
      have hphc := ph_cases (ok_at hall'.out hlt)
      obtain ⟨a, ha⟩ : ∃ a, P[k] = a := ⟨_, rfl⟩
      rw [ha] at he hst0 hphc hsm
      clear ha
      obtain ⟨⟨hf1, hf2⟩, hcol⟩ := hphc
      have hN : ((tnTo P k).length : Int) + a.f1 ≤ 600 := by omega
      clear hT hT' hsm
      obtain ⟨m, hm⟩ : ∃ m : Nat, a.f1 = m := ⟨a.f1.toNat, by omega⟩
      have hm2 : a.f1.toNat = m := by omega
      have hst1 := hst0.out
      rw [hm2] at hst1
      rw [hm] at he hN
      have hbw : b < wr.heap.size := by omega
      clear hst0 hm2 hm hf1 hf2
      rcases hcol with hc0 | ⟨c, hc0, hc1⟩
      · rw [hc0] at he hst1
        rw [cd_nil] at hst1
        have hfin := Lib.hid hst1
        have hel := Lib.hid he
        obtain ⟨d0, d1⟩ := he wr hB1
        clear he hst1 hc0
        go_wp2_with fail
        go_loopw [3, 6] (fun v i wr => ∃ j : Nat, i = .int .i64 j ∧ j ≤ m ∧ Below w.heap.size w wr ∧ wr.ownsRow w.heap.size 5 1 v (tnTo P k ++ List.replicate j (0)).length (bts (tnTo P k ++ List.replicate j (0)))) (fun _ i _ => m - (intOf i).toNat)
        case atStart => exact ⟨0, rfl, Nat.zero_le _, hB1, by simpa using hown⟩
        case round =>
          clear hB1 hown d0 d1 hS1
          obtain ⟨j, rfl, hj, hB1, hown⟩ := hrel
          have hS1 := hB1.size
          obtain ⟨d0, d1⟩ := hel.out wr hB1
          by_cases hjm : j < m
          · have hst := Lib.hid (bts_snoc (tnTo P k ++ List.replicate j (0)) (0))
            have hrs := Lib.hid (rep_snoc (tnTo P k) j (0))
            have hlj : (tnTo P k ++ List.replicate j (0)).length ≤ 600 := by rw [List.length_append, List.length_replicate]; omega
            obtain ⟨X, hX⟩ : ∃ X, tnTo P k ++ List.replicate j (0) = X := ⟨_, rfl⟩
            rw [hX] at hown hst hlj hrs
            obtain ⟨q, hq⟩ : ∃ q, X.length = q := ⟨_, rfl⟩
            have hq' := Lib.hid hq
            rw [hq] at hown hlj
            clear hX hq
            go_wp2_with (at_builtin; refine wpList_append_own _ rfl _ _ 22 rfl (w.heap.size) 5 i0 (.int .u8 0) 1 1 Tryz.underlying22 hi ie0 ie1 ie2 rfl (by decide) _ _ _ rfl (hown.alloc _) ⟨wr.heap.size, 0, none⟩ 1 1 [.int .u8 (0)] rfl rfl ?pc1 ?pc2 ?pc3 ?pc4 ?pc5 ?_)
            case pc1 =>
              intro j u hj
              match j, hj with
              | 0, hj => obtain rfl := Option.some.inj hj; simp [Addr.add, go_sem]; try rfl
            case pc2 => intro u hu; obtain rfl := List.mem_singleton.1 hu; rfl
            case pc3 => unfold maxLen; omega
            case pc4 => omega
            case pc5 => first | omega | (simp; omega)
            intro v' wn hown' hgrow _
            have hBn := (show Below w.heap.size w (wr.alloc (.cells #[.int .u8 (0)] 5)) by go_grown).grown hgrow (by simp; omega) (fun q e => by have := (hown.lt q e).1; omega)
            clear hown hgrow d0 d1
            go_wp2
            go_roundw
            case rel => exact ⟨j + 1, by go_num, by omega, hBn, by rw [hrs.out, hst.out, List.length_append, hq'.out]; exact hown'⟩
            case measure => simp [intOf]; omega
          · obtain rfl : j = m := by omega
            clear d0
            go_wp2
            go_roundw
            case rel => exact ⟨k + 1, by go_num, by omega, hB1, by rw [hfin.out]; exact hown⟩
            case measure => simp [intOf]; omega
      · rw [hc1] at he hst1
        rw [cd_one] at hst1
        have hfin := Lib.hid hst1
        have hel := Lib.hid he
        obtain ⟨d0, d1⟩ := he wr hB1
        have hne : (⟨#[c]⟩ : ByteArray).toList.isEmpty = false := by rw [ByteArray.toList_eq]; rfl
        clear he hst1 hc1
        go_wp2_with fail
        go_loopw [3, 6] (fun v i wr => ∃ j : Nat, i = .int .i64 j ∧ j ≤ m ∧ Below w.heap.size w wr ∧ wr.ownsRow w.heap.size 5 1 v (tnTo P k ++ List.replicate j (c.toNat)).length (bts (tnTo P k ++ List.replicate j (c.toNat)))) (fun _ i _ => m - (intOf i).toNat)
        case atStart => exact ⟨0, rfl, Nat.zero_le _, hB1, by simpa using hown⟩
        case round =>
          clear hB1 hown d0 d1 hS1
          obtain ⟨j, rfl, hj, hB1, hown⟩ := hrel
          have hS1 := hB1.size
          obtain ⟨d0, d1⟩ := hel.out wr hB1
          by_cases hjm : j < m
          · have hst := Lib.hid (bts_snoc (tnTo P k ++ List.replicate j (c.toNat)) (c.toNat))
            have hrs := Lib.hid (rep_snoc (tnTo P k) j (c.toNat))
            have hlj : (tnTo P k ++ List.replicate j (c.toNat)).length ≤ 600 := by rw [List.length_append, List.length_replicate]; omega
            obtain ⟨X, hX⟩ : ∃ X, tnTo P k ++ List.replicate j (c.toNat) = X := ⟨_, rfl⟩
            rw [hX] at hown hst hlj hrs
            obtain ⟨q, hq⟩ : ∃ q, X.length = q := ⟨_, rfl⟩
            have hq' := Lib.hid hq
            rw [hq] at hown hlj
            clear hX hq
            go_wp2_with (at_builtin; refine wpList_append_own _ rfl _ _ 22 rfl (w.heap.size) 5 i0 (.int .u8 0) 1 1 Tryz.underlying22 hi ie0 ie1 ie2 rfl (by decide) _ _ _ rfl (hown.alloc _) ⟨wr.heap.size, 0, none⟩ 1 1 [.int .u8 ((c.toNat : Int))] rfl rfl ?pc1 ?pc2 ?pc3 ?pc4 ?pc5 ?_)
            case pc1 =>
              intro j u hj
              match j, hj with
              | 0, hj => obtain rfl := Option.some.inj hj; simp [Addr.add, go_sem]; try rfl
            case pc2 => intro u hu; obtain rfl := List.mem_singleton.1 hu; rfl
            case pc3 => unfold maxLen; omega
            case pc4 => omega
            case pc5 => first | omega | (simp; omega)
            intro v' wn hown' hgrow _
            have hBn := (show Below w.heap.size w (wr.alloc (.cells #[.int .u8 ((c.toNat : Int))] 5)) by go_grown).grown hgrow (by simp; omega) (fun q e => by have := (hown.lt q e).1; omega)
            clear hown hgrow d0 d1
            go_wp2
            go_roundw
            case rel => exact ⟨j + 1, by go_num, by omega, hBn, by rw [hrs.out, hst.out, List.length_append, hq'.out]; exact hown'⟩
            case measure => simp [intOf]; omega
          · obtain rfl : j = m := by omega
            clear d0
            go_wp2
            go_roundw
            case rel => exact ⟨k + 1, by go_num, by omega, hB1, by rw [hfin.out]; exact hown⟩
            case measure => simp [intOf]; omega
    · obtain rfl : k = P.length := by omega
      go_wp2
      go_ret
      exact ⟨_, rfl, hB1, hown⟩
end Go.Proofs.YtpnffdkkmibchaaGreatDoor
