/-
  Contract of R8Text: a text that can be sent is drawn. Under the conditions that it states.
-/
import Derived.Test.YtpnffdkkmibchaaDoorMoT
import Derived.Test.YtpnffdkkmibchaaDoorDraw2
set_option linter.unusedVariables false
set_option linter.unnecessarySimpa false
set_option maxRecDepth 100000
set_option linter.unusedSimpArgs false
namespace Go.Proofs.YtpnffdkkmibchaaDoor
open Go.RowKit BigFrame Go.Deep

theorem conv_byteM (w : World) (x : Int) : (convert 22 9 (.slice (some ⟨w.heap.size, 0, none⟩) 1 1)).run Tryd.prog (w.alloc (.cells #[.int .u8 x] 5)) = .ok (.string ⟨#[UInt8.ofNat x.toNat]⟩) (w.alloc (.cells #[.int .u8 x] 5)) := by
  rw [run_convert_bytes_string _ _ _ 5 _ _ _ Tryd.underlying22 Tryd.underlying5 Tryd.underlying9]
  rw [run_bytesToString _ _ _ _ [x] (by simp [go_sem])]
  rfl
theorem bs_app (a b : List UInt8) : bs (a ++ b) = bs a ++ bs b := by
  unfold bs
  apply ByteArray.ext
  simp
theorem lt_bs (x : Nat) : lt x = bs [(65 + x).toUInt8] := rfl
theorem txB_snoc (A : List (Nat × Bool)) (x : Nat) (b : Bool) : txtB (A ++ [(x, b)]) = txtB A ++ ((65 + x).toUInt8 :: (if b then [32] else [])) := by
  unfold txtB
  rw [txt_app, List.map_append]
  cases b <;> simp [txt] <;> rfl
theorem txS_snoc0 (A : List (Nat × Bool)) (x : Nat) : txS (A ++ [(x, false)]) = txS A ++ lt x := by
  unfold txS; rw [txB_snoc, if_neg (by simp), bs_app, lt_bs]
theorem txS_snoc1 (A : List (Nat × Bool)) (x : Nat) : txS (A ++ [(x, true)]) = txS A ++ lt x ++ ⟨#[32]⟩ := by
  unfold txS; rw [txB_snoc, if_pos rfl, lt_bs, show ((65 + x).toUInt8 :: [32] : List UInt8) = [(65 + x).toUInt8] ++ [32] from rfl, bs_app, bs_app, ByteArray.append_assoc]; rfl
theorem lt_of {r : Int} (h : 0 ≤ r ∧ r < 26) : ∃ x : Nat, x < 26 ∧ r = x ∧ (⟨#[UInt8.ofNat (65 + r).toNat]⟩ : ByteArray) = lt x := by
  refine ⟨r.toNat, by omega, by omega, ?_⟩
  unfold lt
  rw [show (65 + r).toNat = 65 + r.toNat by omega]
theorem goodL.snoc {A : List (Nat × Bool)} (h : goodL A) {x : Nat} (hx : x < 26) (b : Bool) : goodL (A ++ [(x, b)]) := fun p hp => by
  rcases List.mem_append.1 hp with hp | hp
  · exact h p hp
  · rw [List.mem_singleton] at hp; rw [hp]; exact hx
def finT (m : Nat) (X : List (Nat × Bool)) : Prop := goodL X ∧ X.length + m ≤ 5 ∧ (m = 0 → endL X)
set_option maxHeartbeats 3200000 in
theorem r8_text (L : List Int) (A : Option Addr) (c B : Nat) (w : World) (hs : Sl w B A (L.map (Value.int .u8))) (hB : B ≤ w.heap.size) (hu : ∀ z ∈ L, IntKind.u8.has z) (hl : L.length ≤ 1048576) :
    Calls Tryd.prog 11 #[.slice A L.length c] w fun e w' => ∃ LS, (goodL LS ∧ endL LS ∧ (txt LS).length ≤ 12) ∧ e = .returned (.string (txS LS)) ∧ Below w.heap.size w w' := by
  go_enter Tryd.func11, Tryd.ntmps11
  go_wp2_with fail
  refine (src_from L _ _ B _ hs hB hu hl).mono ?_
  rintro e w1 ⟨rfl, hb1, hs1⟩
  go_wp2_with fail
  refine (src_pick B _ 0 5 _ (by omega) (by omega) hs1 (by omega)).mono ?_
  rintro e w2 ⟨r, hr, rfl, hg2, hs2⟩
  have hB2 : Below w.heap.size w w2 := hb1.grown hg2 hb1.size (fun k e => by cases e; exact Nat.le_refl _)
  obtain ⟨n, hn, rfl⟩ : ∃ n : Nat, n < 5 ∧ r = n := ⟨r.toNat, by omega, by omega⟩
  clear hb1 hs1 hg2 hs hu hr
  go_wp2_with fail
  go_loopw [4, 5] (fun o i wr => ∃ (m K : Nat) (X : List (Nat × Bool)), o = .string (txS X) ∧ i = .int .i64 m ∧ (m ≤ 5 ∧ K + 4 * m ≤ 1000) ∧ Hid (finT m X) ∧ SrcAt wr B w.heap.size K ∧ Below w.heap.size w wr) (fun _ i _ => (intOf i).toNat)
  case atStart => exact ⟨n + 1, 2, [], rfl, by go_num, ⟨by omega, by omega⟩, Lib.hid ⟨(fun p hp => by cases hp), by simp; omega, fun h => by omega⟩, hs2, hB2⟩
  case round =>
    clear hs2 hB2
    obtain ⟨m, K, X, rfl, rfl, ⟨hm, hK⟩, hX, hsr, hB1⟩ := hrel
    have hS1 := hB1.size
    by_cases hm0 : 0 < m
    · have hXl := (txt_len X).2
      have hxs := txS_size X
      have hX5 := hX.out.2.1
      have hsx : (txS X).size ≤ 10 := by omega
      obtain ⟨S, hS⟩ : ∃ S, txS X = S := ⟨_, rfl⟩
      have hSx := Lib.hid hS
      rw [hS] at hsx ⊢
      clear hS hxs hXl hX5
      go_wp2_with fail
      refine (src_pick B _ K 26 _ (by omega) (by omega) hsr (by omega)).mono ?_
      rintro e w3 ⟨r, hr, rfl, hg3, hs3⟩
      have hB3 : Below w.heap.size w w3 := hB1.grown hg3 hB1.size (fun k e => by cases e; exact Nat.le_refl _)
      have hS3 := hB3.size
      have hcv := conv_byteM w3 (65 + r)
      obtain ⟨x, hx, rfl, hlt⟩ := lt_of hr
      rw [hlt] at hcv
      have hl1 : (lt x).size = 1 := rfl
      have h0 := Lib.hid (txS_snoc0 X x)
      have h1 := Lib.hid (txS_snoc1 X x)
      rw [hSx.out] at h0 h1
      obtain ⟨l, hl⟩ : ∃ l, lt x = l := ⟨_, rfl⟩
      rw [hl] at hcv hl1 h0 h1
      have hs4 := hs3.on (show Below w3.heap.size w3 (w3.alloc (.cells #[.int .u8 (65 + (x : Int))] 5)) by go_grown)
      have hB4 : Below w.heap.size w (w3.alloc (.cells #[.int .u8 (65 + (x : Int))] 5)) := by go_grown
      clear hl hlt hsr hg3 hB1 hs3 hr
      by_cases hm1 : m = 1
      · subst hm1
        have hrel2 := Lib.hid (show finT 0 (X ++ [(x, false)]) from ⟨hX.out.1.snoc hx _, by have := hX.out.2.1; simp; omega, fun _ => ⟨X, x, rfl⟩⟩)
        go_wp2_with fail
        go_roundw
        case rel => exact ⟨0, K + 2, X ++ [(x, false)], by rw [h0.out], by simp, ⟨by omega, by omega⟩, hrel2, hs4, hB4⟩
        case measure => simp [intOf]
      · have hm2 : 1 < (m : Int) := by omega
        obtain ⟨q, rfl⟩ : ∃ q, m = q + 1 := ⟨m - 1, by omega⟩
        have hq0 : ¬ q = 0 := by omega
        go_wp2_with fail
        refine (src_one B _ (K + 2) 4 _ (by omega) (by omega) hs4 (by omega)).mono ?_
        rintro e w5 ⟨b, rfl, hg5, hs5⟩
        have hB5 : Below w.heap.size w w5 := hB4.grown hg5 hB4.size (fun k e => by cases e; exact Nat.le_refl _)
        have hrel2 := Lib.hid (show finT q (X ++ [(x, b)]) from ⟨hX.out.1.snoc hx _, by have := hX.out.2.1; simp; omega, fun h => absurd h hq0⟩)
        clear hg5 hs4 hB4
        cases b
        · go_wp2_with fail
          go_roundw
          case rel => exact ⟨q, K + 4, X ++ [(x, false)], by rw [h0.out], by go_num, ⟨by omega, by omega⟩, hrel2, hs5, hB5⟩
          case measure => simp [intOf]
        · go_wp2_with fail
          go_roundw
          case rel => exact ⟨q, K + 4, X ++ [(x, true)], by rw [h1.out], by go_num, ⟨by omega, by omega⟩, hrel2, hs5, hB5⟩
          case measure => simp [intOf]
    · obtain rfl : m = 0 := by omega
      have hXl := (txt_len X).2
      have hX5 := hX.out.2.1
      have hXe : endL X := hX.out.2.2 rfl
      go_wp2_with fail
      go_ret
      exact ⟨X, ⟨hX.out.1, hXe, by omega⟩, rfl, hB1⟩
end Go.Proofs.YtpnffdkkmibchaaDoor
