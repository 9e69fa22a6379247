/-
  Contracts of rotated rows of colors and of the normal form of a light: the program's. Each under the conditions that it states.
-/
import Derived.Test.YtpnffdkkmibchaaGreatDoorRhyX
import Derived.StillTailTactics
set_option linter.unusedVariables false
set_option linter.unnecessarySimpa false
set_option maxRecDepth 100000
set_option linter.unusedSimpArgs false
namespace Go.Proofs.YtpnffdkkmibchaaGreatDoor
open Go.RowKit BigFrame Go.Deep

theorem cls_drop_sl {w : World} {B b o : Nat} {W : List Nat} (h : Sl w B (some ⟨b, o, none⟩) (cls W)) (i : Nat) : Sl w B (some ⟨b, o + i, none⟩) (cls (W.drop i)) := fun hne => by
  have hne2 : cls W ≠ [] := fun e => hne (by have := cls_len W; rw [e] at this; simp at this; have h2 : W = [] := List.eq_nil_of_length_eq_zero this.symm; rw [h2]; simp [cls])
  obtain ⟨b', o', e, hb, hc⟩ := h hne2
  cases e
  refine ⟨b, o + i, rfl, hb, fun j u hu => ?_⟩
  have := hc (i + j) u (by unfold cls at hu ⊢; rw [List.getElem?_map, List.getElem?_drop] at hu; rw [List.getElem?_map]; exact hu)
  rwa [← Nat.add_assoc] at this
set_option maxHeartbeats 1600000 in
theorem impl_Rot (W : List Nat) (A : Option Addr) (c B i : Nat) (w : World) (hs : Sl w B A (cls W)) (hB : B ≤ w.heap.size) (hW : 0 < W.length) (hl : W.length ≤ 1000) (hi : i < W.length) (hc : W.length ≤ c) : Calls Tryz.prog 25 #[.slice A W.length c, .int .i64 i] w (RotPost W i w) := by
  obtain ⟨b, o, rfl, hb, -⟩ := cls_w hs hB hW
  have hs' := Lib.hid hs
  have hiI : (i : Int) ≤ (W.length : Int) := by omega
  have hcI : (W.length : Int) ≤ (c : Int) := by omega
  have hic : (i : Int) ≤ (c : Int) := by omega
  have hi0 : ¬ (i : Int) < 0 := by omega
  clear hs
  go_enter Tryz.func25, Tryz.ntmps25
  go_wp2_with fail
  go_still_tail 6, (by kernel_rfl)
  change wpList _ _ _ _ _ w.drew
  obtain ⟨w2, hw2⟩ : ∃ w2, w2 = w.drew := ⟨_, rfl⟩
  rw [← hw2]
  have hB2 : Below w.heap.size w w2 := by rw [hw2]; go_grown
  have hS2 := hB2.size
  clear hw2
  go_wp2_with fail
  have hUl : (W.drop i).length = W.length - i := List.length_drop
  have hVl : (W.take i).length = i := by rw [List.length_take]; omega
  have hBx : Below w.heap.size w (w2.alloc (.cells #[.slice (some ⟨b, o + i, none⟩) (W.length - i) (c - i), .slice (some ⟨b, o, none⟩) i c] 44)) := by go_grown
  have hlift := fun {xs : List Value} {a : Option Addr} (h : Sl w B a xs) => (h.below (hBx.mono hB)).more (B' := (w2.alloc (.cells #[.slice (some ⟨b, o + i, none⟩) (W.length - i) (c - i), .slice (some ⟨b, o, none⟩) i c] 44)).heap.size) (Nat.le_trans hB hBx.size)
  refine (lib_ConcatS (W.drop i) (W.take i) ⟨b, o + i, none⟩ ⟨b, o, none⟩ (c - i) c w2.heap.size _ (by simp) (by rw [hUl]; simp) (by rw [hVl]; simp) (hlift (cls_drop_sl hs'.out i)) (hlift (by rw [cls_take]; exact hs'.out.take i)) (by omega) (by omega)).mono ?_
  rintro e w3 ⟨v, rfl, hb3, hown⟩
  rw [rotL_eq (by omega), rotL_len] at hown
  obtain ⟨A7, c7, rfl, hsl⟩ := (Rs.of_owns hown).sl
  have hB3 := bnext hBx hb3
  have hsl' := Lib.hid hsl
  clear hown hsl hlift hUl hVl hb3 hBx
  go_wp2
  go_ret
  exact ⟨A7, c7, rfl, hB3, hsl'.out⟩
end Go.Proofs.YtpnffdkkmibchaaGreatDoor
