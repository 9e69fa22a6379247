/-
  Contract of LettersLike: the program's, at the signs of a letter. Under the conditions that it states.
-/
import Derived.Test.YtpnffdkkmibchaaDoorMoC
import Derived.Test.YtpnffdkkmibchaaDoorShelfT
import Derived.Shelf.Strings.SlTrimAscii
set_option linter.unusedVariables false
set_option linter.unnecessarySimpa false
set_option maxRecDepth 100000
set_option linter.unusedSimpArgs false
namespace Go.Proofs.YtpnffdkkmibchaaDoor
open Go.RowKit BigFrame Go.Deep

theorem drop_all {p : UInt8 → Bool} : ∀ {l : List UInt8}, (∀ a ∈ l, p a = true) → l.dropWhile p = []
  | [], _ => rfl
  | a :: l, h => by
    rw [List.dropWhile_cons, if_pos (h a (by simp))]
    exact drop_all (fun b hb => h b (by simp [hb]))
theorem trim_signs {σ : List UInt8} (h : ∀ s ∈ σ, s = 46 ∨ s = 45) : Lib.trimS σ [46, 45] = [] := by
  have h1 : σ.dropWhile (([46, 45] : List UInt8).contains ·) = [] := drop_all (fun a ha => by rcases h a ha with rfl | rfl <;> rfl)
  have h2 : σ.reverse.dropWhile (([46, 45] : List UInt8).contains ·) = [] := drop_all (fun a ha => by rcases h a (by simpa using ha) with rfl | rfl <;> rfl)
  unfold Lib.trimS Lib.trimLeftS Lib.trimRightS
  rw [h2]
  rfl
theorem impl_Trim (x : Nat) (hx : x < 26) (w : World) : Calls Tryd.prog 14 #[.string (sgB x), .string ⟨#[46, 45]⟩] w fun e w' => e = .returned (.string ⟨#[]⟩) ∧ Below w.heap.size w w' := by
  have h2 := sg_len hx
  have h3 := sgB_size x
  refine (Any.strings_Trim_laid st_lays160 (by kernel_rfl) (sgB x) ⟨#[46, 45]⟩ w (by omega) (by decide) (ascii_of_all (by decide))).mono ?_
  rintro e w1 ⟨rfl, hb⟩
  have e1 : Lib.trimS (sgB x).data.toList (⟨#[46, 45]⟩ : ByteArray).data.toList = [] := trim_signs (sg_all hx)
  rw [e1]
  exact ⟨rfl, hb⟩
set_option maxHeartbeats 1600000 in
theorem impl_Like (x : Nat) (hx : x < 26) (w : World) : Calls Tryd.prog 8 #[.string (sgB x)] w fun e w' => ∃ s : ByteArray, 1 ≤ s.size ∧ s.size ≤ 26 ∧ e = .returned (.tuple #[.string s, .int .i64 0]) ∧ Below w.heap.size w w' := by
  have hT := fun w => impl_Trim x hx w
  obtain ⟨u, hu⟩ : ∃ u, sgB x = u := ⟨_, rfl⟩
  have hP : ∀ k, k < 26 → ∃ b : Bool, (k = x → b = true) ∧ ∀ w, Calls Tryd.prog 15 #[.string (sgB k), .string u] w fun e w' => e = .returned (.bool b) ∧ w = w' := fun k hk => by
    refine ⟨Lib.hasPrefix (sgB k).data.toList u.data.toList, fun e => ?_, fun w => ?_⟩
    · subst e; rw [← hu]; exact List.isPrefixOf_iff_prefix.2 (List.prefix_refl _)
    · refine (sr_strings_HasPrefix (sgB k) u w).mono ?_
      rintro e w1 ⟨rfl, rfl⟩
      exact ⟨rfl, rfl⟩
  rw [hu] at hT ⊢
  have hP' := Lib.hid hP
  clear hu hP
  go_enter Tryd.func8, Tryd.ntmps8
  go_wp2_with fail
  refine (hT _).mono ?_
  rintro e w1 ⟨rfl, hb1⟩
  go_wp2_with fail
  go_loopw [4] (fun v wr => ∃ (k : Nat) (s : ByteArray), v = .string s ∧ wr.heap[w1.heap.size]? = some (.stringIter abc k) ∧ k ≤ 26 ∧ s.size ≤ k ∧ (x < k → 1 ≤ s.size) ∧ Below w1.heap.size w1 wr) (fun _ wr => 26 - wr.iterPos w1.heap.size)
  case atStart => exact ⟨0, ⟨#[]⟩, rfl, World.iter_heap w1 abc 0, by omega, Nat.le_refl _, fun h => by omega, below_iter w1 _ _⟩
  case round =>
    obtain ⟨k, s, rfl, hit, hk, hsz, hpos, hB1⟩ := hrel
    have hszw : w1.heap.size < wr.heap.size := (Array.getElem?_eq_some_iff.1 hit).1
    by_cases hlt : k < 26
    · have hnx : ∀ ty, (Instr.next (.pointer (some ⟨w1.heap.size, 0, none⟩)) true ty).run Tryd.prog wr = _ := fun ty => abc_next ty hit hlt
      have hit2 := Lib.iterAt_heap wr w1.heap.size abc k (k + 1) hit
      have hbw2 := Lib.below_iterAt hB1 (k := w1.heap.size) (by omega) abc (k + 1)
      have he := enc_letter hlt
      have hsg := fun w => impl_signs k hlt w
      obtain ⟨b, hbx, hpk⟩ := hP'.out k hlt
      obtain ⟨v, hv⟩ : ∃ v, sgB k = v := ⟨_, rfl⟩
      rw [hv] at hsg hpk
      have hl1 : (lt k).size = 1 := rfl
      obtain ⟨l, hl⟩ : ∃ l, lt k = l := ⟨_, rfl⟩
      rw [hl] at he hsg hl1
      clear hv hl
      cases b
      · have hkx : ¬ k = x := fun e => by have := hbx e; cases this
        clear hbx
        go_wp2_with (first | (go_at_call 13; refine (hsg _).mono ?_; rintro e w' ⟨rfl, rfl⟩) | (go_at_call 15; refine (hpk _).mono ?_; rintro e w' ⟨rfl, rfl⟩))
        go_roundw
        case rel => exact ⟨k + 1, s, rfl, hit2, by omega, by omega, fun h => hpos (by omega), hbw2⟩
        case measure => simp only [World.iterPos, hit2, hit]; omega
      · clear hbx
        go_wp2_with (first | (go_at_call 13; refine (hsg _).mono ?_; rintro e w' ⟨rfl, rfl⟩) | (go_at_call 15; refine (hpk _).mono ?_; rintro e w' ⟨rfl, rfl⟩))
        go_roundw
        case rel => exact ⟨k + 1, s ++ l, rfl, hit2, by omega, by rw [ByteArray.size_append]; omega, fun h => by rw [ByteArray.size_append]; omega, hbw2⟩
        case measure => simp only [World.iterPos, hit2, hit]; omega
    · obtain rfl : k = 26 := by omega
      have hnx : ∀ ty, (Instr.next (.pointer (some ⟨w1.heap.size, 0, none⟩)) true ty).run Tryd.prog wr = _ := fun ty => abc_end ty hit
      have h1 := hpos hx
      go_wp2_with fail
      go_ret2
      exact ⟨s, h1, hsz, rfl, bnext hb1 hB1⟩
end Go.Proofs.YtpnffdkkmibchaaDoor
