/-
  FaultText: the program's function returns what the reference's returns, for all arguments. Under no condition; the library's table of powers of ten reads as its text lays it (the card ties it).
-/
import Derived.Test.YtlgpgohojbgkaaaDoorTexts
import Derived.Test.YtlgpgohojbgkaaaDoorNames
import Derived.Test.YtlgpgohojbgkaaaDoorTie
import Derived.Test.YtlgpgohojbgkaaaDoorCards
import Derived.LaidMore
import Derived.Lay
import Derived.SevenTiedAt
import Derived.Stop.LaidErr
import Derived.MakeChecks
import Derived.Deep.RegionHeld3
set_option linter.unusedVariables false
set_option linter.unnecessarySimpa false
set_option maxRecDepth 100000
set_option linter.unusedSimpArgs false
namespace Go.Proofs.YtlgpgohojbgkaaaDoor
open Go.RowKit BigFrame

/-- A region's condition may grow on the way. -/
theorem wpAnyH_more {P : Program} {ops : Array Oper} {Q : Exit → Act → World → Prop} {md : Region.Mode} {S S' : World → Prop} (hS : ∀ w, S' w → S w) : ∀ (fuel : Nat) (listed : Array Bool) (a : Act) (w : World), wpAnyH P md ops Q S' fuel listed a w → wpAnyH P md ops Q S fuel listed a w
  | 0, _, _, _, h => h
  | fuel + 1, _, _, _, h => ⟨h.1, fun i hi => wpOp_mono (fun a' w' h' => ⟨hS _ h'.1, wpAnyH_more hS fuel _ a' w' h'.2⟩) (h.2 i hi)⟩

def faultT (a : Int) (X : ByteArray) (f u : Int) : ByteArray := decT a ++ ⟨#[32]⟩ ++ X ++ ⟨#[32]⟩ ++ decT f ++ ⟨#[32]⟩ ++ decT u
def vFault (a k f u : Int) : Bool := inB a 1 9999 && (inB k 1 4 && (inB f 0 143999999 && (u == -1 || inB u (f + 1) 143999999)))
def faultX (a k f u : Int) : ByteArray := if vFault a k f u then faultT a (pickS k faultNames) f u else ⟨#[]⟩
/-- A fault in memory. -/
def Ft (w : World) (g : Nat) (a k f u : Int) : Prop := g < w.heap.size ∧ w.cell? ⟨g, 0, none⟩ = some (.int .i64 a) ∧ w.cell? ⟨g, 1, none⟩ = some (.int .i64 k) ∧ w.cell? ⟨g, 2, none⟩ = some (.int .i64 f) ∧ w.cell? ⟨g, 3, none⟩ = some (.int .i64 u)
theorem Ft.on {w w' : World} {g : Nat} {a k f u : Int} (h : Ft w g a k f u) (hb : Below w.heap.size w w') : Ft w' g a k f u := by
  obtain ⟨hg, c0, c1, c2, c3⟩ := h
  obtain ⟨hc, _⟩ := bcell hb
  exact ⟨Nat.lt_of_lt_of_le hg hb.size, (hc _ _ hg).trans c0, (hc _ _ hg).trans c1, (hc _ _ hg).trans c2, (hc _ _ hg).trans c3⟩

def names4 : List ByteArray := [⟨#[111, 117, 116]⟩, ⟨#[114, 104, 121, 116, 104, 109]⟩, ⟨#[112, 108, 97, 99, 101]⟩, ⟨#[115, 111, 117, 110, 100]⟩]
theorem spec_names (w : World) : Calls Tryd.prog 99 #[] w fun e w' => e = .returned (.slice (some ⟨w.heap.size, 0, none⟩) 4 4) ∧ Below w.heap.size w w' ∧ w.heap.size < w'.heap.size ∧ ∀ (j : Nat) (x : ByteArray), names4[j]? = some x → w'.cell? ⟨w.heap.size, j, none⟩ = some (.string x) := by
  have hs := Sl.new w #[.string ⟨#[111, 117, 116]⟩, .string ⟨#[114, 104, 121, 116, 104, 109]⟩, .string ⟨#[112, 108, 97, 99, 101]⟩, .string ⟨#[115, 111, 117, 110, 100]⟩] 9
  go_enter Tryd.func99, Tryd.ntmps99
  go_wp2
  go_ret
  refine ⟨rfl, by go_grown, by simp, fun j x hj => ?_⟩
  obtain ⟨b, o, e, hb, hc⟩ := hs (by simp)
  cases e
  have := hc j (.string x) (by
    show (names4.map Value.string)[j]? = _
    rw [List.getElem?_map, hj]; rfl)
  simpa using this
theorem spec_faultText (a k f u : Int) (ha : IntKind.i64.has a) (hf : IntKind.i64.has f) (hu : IntKind.i64.has u) (hk : 1 ≤ k ∧ k ≤ 4) (X : ByteArray) (hX : pickS k faultNames = X) (hXs : X.size ≤ 10) (g : Nat) (w : World) (hF : Ft w g a k f u) :
    Calls Tryd.prog 45 #[.pointer (some ⟨g, 0, none⟩)] w fun e w' => e = .returned (.string (faultT a X f u)) ∧ Below w.heap.size w w' := by
  have ha' := has_i64 ha
  have hf' := has_i64 hf
  have hu' := has_i64 hu
  have s1 := decT_size ha'.1 ha'.2
  have s2 := decT_size hf'.1 hf'.2
  have s3 := decT_size hu'.1 hu'.2
  have q1 := noB (n := (decT a).size + 1) (by omega)
  have q2 := noB (n := (decT a).size + 1 + X.size) (by omega)
  have q3 := noB (n := (decT a).size + 1 + X.size + 1) (by omega)
  have q4 := noB (n := (decT a).size + 1 + X.size + 1 + (decT f).size) (by omega)
  have q5 := noB (n := (decT a).size + 1 + X.size + 1 + (decT f).size + 1) (by omega)
  have q6 := noB (n := (decT a).size + 1 + X.size + 1 + (decT f).size + 1 + (decT u).size) (by omega)
  unfold faultT
  have hF : Hid (Ft w.drew g a k f u) := Lib.hid (hF.on (by go_grown))
  have hx : ∃ m : Nat, k = (m : Int) + 1 ∧ names4[m]? = some X := by
    have hc : k = 1 ∨ k = 2 ∨ k = 3 ∨ k = 4 := by omega
    rcases hc with rfl | rfl | rfl | rfl
    · exact ⟨0, rfl, by rw [← hX]; rfl⟩
    · exact ⟨1, rfl, by rw [← hX]; rfl⟩
    · exact ⟨2, rfl, by rw [← hX]; rfl⟩
    · exact ⟨3, rfl, by rw [← hX]; rfl⟩
  obtain ⟨m, rfl, hm⟩ := hx
  have hm' := Lib.hid hm
  have hm4 : m < 4 := by omega
  have hw1 : IntKind.i64.wrap (m : Int) = m := by rw [IntKind.wrap_i64]; omega
  have hm4' : (m : Int) < 4 := by omega
  have hm0' : (0 : Int) ≤ m := by omega
  clear hX hm
  go_enter Tryd.func45, Tryd.ntmps45
  go_wp2_with fail
  refine wp_region_held_drew (S := fun w' => Ft w' g a (m + 1) f u) (by kernel_rfl) hF.out (fun hHeld => ?_)
  refine wpAnyH_take (i := 0) (v := ?_) rfl (by kernel_rfl) (by kernel_rfl) (by kernel_rfl) (fun _ _ _ h => h) (Or.inl ⟨by rfl, ?_⟩) (by assumption) ?_
  rotate_left
  · (intro w9 hS9; obtain ⟨hg9, d0, d1, d2, d3⟩ := hS9; go_simp; try (with_reducible rfl))
  try simp only [Act.put, List.setIfInBounds_toArray, List.set_cons_zero, List.set_cons_succ]
  refine wpAnyH_take (i := 1) (v := ?_) rfl (by kernel_rfl) (by kernel_rfl) (by kernel_rfl) (fun _ _ _ h => h) (Or.inl ⟨by rfl, ?_⟩) (by assumption) ?_
  rotate_left
  · (intro w9 hS9; obtain ⟨hg9, d0, d1, d2, d3⟩ := hS9; go_simp; try (with_reducible rfl))
  try simp only [Act.put, List.setIfInBounds_toArray, List.set_cons_zero, List.set_cons_succ]
  refine wpAnyH_take (i := 2) (v := ?_) rfl (by kernel_rfl) (by kernel_rfl) (by kernel_rfl) (fun _ _ _ h => h) (Or.inl ⟨by rfl, ?_⟩) (by assumption) ?_
  rotate_left
  · (intro w9 hS9; obtain ⟨hg9, d0, d1, d2, d3⟩ := hS9; go_simp; try (with_reducible rfl))
  try simp only [Act.put, List.setIfInBounds_toArray, List.set_cons_zero, List.set_cons_succ]
  refine wpAnyH_take (i := 3) (v := ?_) rfl (by kernel_rfl) (by kernel_rfl) (by kernel_rfl) (fun _ _ _ h => h) (Or.inl ⟨by rfl, ?_⟩) (by assumption) ?_
  rotate_left
  · (intro w9 hS9; obtain ⟨hg9, d0, d1, d2, d3⟩ := hS9; go_simp; try (with_reducible rfl))
  try simp only [Act.put, List.setIfInBounds_toArray, List.set_cons_zero, List.set_cons_succ]
  refine wpAnyH_take (i := 7) (v := ?_) rfl (by kernel_rfl) (by kernel_rfl) (by kernel_rfl) (fun _ _ _ h => h) (Or.inl ⟨by rfl, ?_⟩) (by assumption) ?_
  rotate_left
  · (intro w9 hS9; obtain ⟨hg9, d0, d1, d2, d3⟩ := hS9; go_simp; try (with_reducible rfl))
  try simp only [Act.put, List.setIfInBounds_toArray, List.set_cons_zero, List.set_cons_succ]
  refine wpAnyH_take (i := 8) (v := ?_) rfl (by kernel_rfl) (by kernel_rfl) (by kernel_rfl) (fun _ _ _ h => h) (Or.inl ⟨by rfl, ?_⟩) (by assumption) ?_
  rotate_left
  · (intro w9 hS9; obtain ⟨hg9, d0, d1, d2, d3⟩ := hS9; go_simp; try (with_reducible rfl))
  try simp only [Act.put, List.setIfInBounds_toArray, List.set_cons_zero, List.set_cons_succ]
  refine wpAnyH_take (i := 9) (v := ?_) rfl (by kernel_rfl) (by kernel_rfl) (by kernel_rfl) (fun _ _ _ h => h) (Or.inl ⟨by rfl, ?_⟩) (by assumption) ?_
  rotate_left
  · (intro w9 hS9; obtain ⟨hg9, d0, d1, d2, d3⟩ := hS9; go_simp; try (with_reducible rfl))
  try simp only [Act.put, List.setIfInBounds_toArray, List.set_cons_zero, List.set_cons_succ]
  refine wpAnyH_take (i := 10) (v := ?_) rfl (by kernel_rfl) (by kernel_rfl) (by kernel_rfl) (fun _ _ _ h => h) (Or.inl ⟨by rfl, ?_⟩) (by assumption) ?_
  rotate_left
  · (intro w9 hS9; obtain ⟨hg9, d0, d1, d2, d3⟩ := hS9; go_simp; try (with_reducible rfl))
  try simp only [Act.put, List.setIfInBounds_toArray, List.set_cons_zero, List.set_cons_succ]
  refine wpAnyH_take (i := 11) (v := ?_) rfl (by kernel_rfl) (by kernel_rfl) (by kernel_rfl) (fun _ _ _ h => h) (Or.inl ⟨by rfl, ?_⟩) (by assumption) ?_
  rotate_left
  · (intro w9 hS9; obtain ⟨hg9, d0, d1, d2, d3⟩ := hS9; go_simp; try (with_reducible rfl))
  try simp only [Act.put, List.setIfInBounds_toArray, List.set_cons_zero, List.set_cons_succ]
  refine wpAnyH_take (i := 16) (v := ?_) rfl (by kernel_rfl) (by kernel_rfl) (by kernel_rfl) (fun _ _ _ h => h) (Or.inl ⟨by rfl, ?_⟩) (by assumption) ?_
  rotate_left
  · (intro w9 hS9; obtain ⟨hg9, d0, d1, d2, d3⟩ := hS9; go_simp; try (with_reducible rfl))
  try simp only [Act.put, List.setIfInBounds_toArray, List.set_cons_zero, List.set_cons_succ]
  refine wpAnyH_take (i := 17) (v := ?_) rfl (by kernel_rfl) (by kernel_rfl) (by kernel_rfl) (fun _ _ _ h => h) (Or.inl ⟨by rfl, ?_⟩) (by assumption) ?_
  rotate_left
  · (intro w9 hS9; obtain ⟨hg9, d0, d1, d2, d3⟩ := hS9; go_simp; try (with_reducible rfl))
  try simp only [Act.put, List.setIfInBounds_toArray, List.set_cons_zero, List.set_cons_succ]
  refine wpAnyH_take (i := 18) (v := ?_) rfl (by kernel_rfl) (by kernel_rfl) (by kernel_rfl) (fun _ _ _ h => h) (Or.inl ⟨by rfl, ?_⟩) (by assumption) ?_
  rotate_left
  · (intro w9 hS9; obtain ⟨hg9, d0, d1, d2, d3⟩ := hS9; go_simp; try (with_reducible rfl))
  try simp only [Act.put, List.setIfInBounds_toArray, List.set_cons_zero, List.set_cons_succ]
  refine wpAnyH_take (i := 19) (v := ?_) rfl (by kernel_rfl) (by kernel_rfl) (by kernel_rfl) (fun _ _ _ h => h) (Or.inl ⟨by rfl, ?_⟩) (by assumption) ?_
  rotate_left
  · (intro w9 hS9; obtain ⟨hg9, d0, d1, d2, d3⟩ := hS9; go_simp; try (with_reducible rfl))
  try simp only [Act.put, List.setIfInBounds_toArray, List.set_cons_zero, List.set_cons_succ]
  refine wpAnyH_take (i := 23) (v := ?_) rfl (by kernel_rfl) (by kernel_rfl) (by kernel_rfl) (fun _ _ _ h => h) (Or.inl ⟨by rfl, ?_⟩) (by assumption) ?_
  rotate_left
  · (intro w9 hS9; obtain ⟨hg9, d0, d1, d2, d3⟩ := hS9; go_simp; try (with_reducible rfl))
  try simp only [Act.put, List.setIfInBounds_toArray, List.set_cons_zero, List.set_cons_succ]
  refine wpAnyH_take (i := 24) (v := ?_) rfl (by kernel_rfl) (by kernel_rfl) (by kernel_rfl) (fun _ _ _ h => h) (Or.inl ⟨by rfl, ?_⟩) (by assumption) ?_
  rotate_left
  · (intro w9 hS9; obtain ⟨hg9, d0, d1, d2, d3⟩ := hS9; go_simp; try (with_reducible rfl))
  try simp only [Act.put, List.setIfInBounds_toArray, List.set_cons_zero, List.set_cons_succ]
  refine wpAnyH_take (i := 25) (v := ?_) rfl (by kernel_rfl) (by kernel_rfl) (by kernel_rfl) (fun _ _ _ h => h) (Or.inl ⟨by rfl, ?_⟩) (by assumption) ?_
  rotate_left
  · (intro w9 hS9; obtain ⟨hg9, d0, d1, d2, d3⟩ := hS9; go_simp; try (with_reducible rfl))
  try simp only [Act.put, List.setIfInBounds_toArray, List.set_cons_zero, List.set_cons_succ]
  refine wpAnyH_take (i := 26) (v := ?_) rfl (by kernel_rfl) (by kernel_rfl) (by kernel_rfl) (fun _ _ _ h => h) (Or.inl ⟨by rfl, ?_⟩) (by assumption) ?_
  rotate_left
  · (intro w9 hS9; obtain ⟨hg9, d0, d1, d2, d3⟩ := hS9; go_simp; try (with_reducible rfl))
  try simp only [Act.put, List.setIfInBounds_toArray, List.set_cons_zero, List.set_cons_succ]
  refine wpAnyH_ready (rs := [4]) (by kernel_rfl) (by simp) ?_
  refine AllReadyH.cons rfl (fun K hK => ?_) AllReadyH.nil
  go_simp
  refine (spec_Dec _ (by omega) (by omega) _).mono ?_
  rintro e w1 ⟨rfl, hb1⟩
  have hF1 := hHeld.on hb1
  have hB1 : Below w.heap.size w w1 := (show Below w.heap.size w w.drew by go_grown).trans hb1
  go_wp2_with fail
  refine hK.out _ _ hF1 (fun hHeld => ?_)
  clear hK K
  try simp only [Act.put, List.setIfInBounds_toArray, List.set_cons_zero, List.set_cons_succ]
  refine wpAnyH_take (i := 5) (v := ?_) rfl (by kernel_rfl) (by kernel_rfl) (by kernel_rfl) (fun _ _ _ h => h) (Or.inl ⟨by rfl, ?_⟩) (by assumption) ?_
  rotate_left
  · (intro w9 hS9; obtain ⟨hg9, d0, d1, d2, d3⟩ := hS9; go_simp; try (with_reducible rfl))
  try simp only [Act.put, List.setIfInBounds_toArray, List.set_cons_zero, List.set_cons_succ]
  refine wpAnyH_ready (rs := [6]) (by kernel_rfl) (by simp) ?_
  refine AllReadyH.cons rfl (fun K hK => ?_) AllReadyH.nil
  go_simp
  refine (spec_names _).mono ?_
  rintro e w2 ⟨rfl, hb2, hl2, hc2⟩
  have hF2 := hHeld.on hb2
  have hB2 := bnext hB1 hb2
  have hn := hc2 m X hm'.out
  obtain ⟨n, hnn⟩ : ∃ n, w1.heap.size = n := ⟨_, rfl⟩
  rw [hnn] at hn hl2
  go_wp2_with fail
  try rw [hnn]
  refine hK.out _ _ hF2 (fun hHeld' => wpAnyH_more (S' := fun w' => Ft w' g a (m + 1) f u ∧ n < w'.heap.size ∧ w'.cell? ⟨n, m, none⟩ = some (.string X)) (fun _ h => h.1) _ _ _ _ ?_)
  have hHeld2 : Ft w2 g a (m + 1) f u ∧ n < w2.heap.size ∧ w2.cell? ⟨n, m, none⟩ = some (.string X) := ⟨hF2, hl2, hn⟩
  clear hK K hc2 hnn hHeld' hHeld hF1 hF2 hn
  try simp only [Act.put, List.setIfInBounds_toArray, List.set_cons_zero, List.set_cons_succ]
  refine wpAnyH_take (i := 12) (v := ?_) rfl (by kernel_rfl) (by kernel_rfl) (by kernel_rfl) (fun _ _ _ h => h) (Or.inl ⟨by rfl, ?_⟩) (by assumption) ?_
  rotate_left
  · (intro w9 hS9; obtain ⟨⟨hg9, d0, d1, d2, d3⟩, hn9, d4⟩ := hS9; go_simp; try (with_reducible rfl))
  try simp only [Act.put, List.setIfInBounds_toArray, List.set_cons_zero, List.set_cons_succ]
  refine wpAnyH_take (i := 13) (v := ?_) rfl (by kernel_rfl) (by kernel_rfl) (by kernel_rfl) (fun _ _ _ h => h) (Or.inl ⟨by rfl, ?_⟩) (by assumption) ?_
  rotate_left
  · (intro w9 hS9; obtain ⟨⟨hg9, d0, d1, d2, d3⟩, hn9, d4⟩ := hS9; go_simp; try (with_reducible rfl))
  try simp only [Act.put, List.setIfInBounds_toArray, List.set_cons_zero, List.set_cons_succ]
  refine wpAnyH_take (i := 14) (v := ?_) rfl (by kernel_rfl) (by kernel_rfl) (by kernel_rfl) (fun _ _ _ h => h) (Or.inl ⟨by rfl, ?_⟩) (by assumption) ?_
  rotate_left
  · (intro w9 hS9; obtain ⟨⟨hg9, d0, d1, d2, d3⟩, hn9, d4⟩ := hS9; go_simp; try (with_reducible rfl))
  try simp only [Act.put, List.setIfInBounds_toArray, List.set_cons_zero, List.set_cons_succ]
  refine wpAnyH_take (i := 15) (v := ?_) rfl (by kernel_rfl) (by kernel_rfl) (by kernel_rfl) (fun _ _ _ h => h) (Or.inl ⟨by rfl, ?_⟩) (by assumption) ?_
  rotate_left
  · (intro w9 hS9; obtain ⟨⟨hg9, d0, d1, d2, d3⟩, hn9, d4⟩ := hS9; go_simp; try (with_reducible rfl))
  try simp only [Act.put, List.setIfInBounds_toArray, List.set_cons_zero, List.set_cons_succ]
  refine wpAnyH_ready (rs := [20]) (by kernel_rfl) (by simp) ?_
  refine AllReadyH.cons rfl (fun K hK => ?_) AllReadyH.nil
  go_simp
  refine (spec_Dec _ (by omega) (by omega) _).mono ?_
  rintro e w3 ⟨rfl, hb3⟩
  have hB3 := bnext hB2 hb3
  have hHeld3 : Ft w3 g a (m + 1) f u ∧ n < w3.heap.size ∧ w3.cell? ⟨n, m, none⟩ = some (.string X) := ⟨hHeld2.1.on hb3, Nat.lt_of_lt_of_le hHeld2.2.1 hb3.size, (hb3.cell (p := ⟨n, m, none⟩) hHeld2.2.1).trans hHeld2.2.2⟩
  go_wp2_with fail
  refine hK.out _ _ hHeld3 (fun hHeld => ?_)
  clear hK K hHeld
  try simp only [Act.put, List.setIfInBounds_toArray, List.set_cons_zero, List.set_cons_succ]
  refine wpAnyH_take (i := 21) (v := ?_) rfl (by kernel_rfl) (by kernel_rfl) (by kernel_rfl) (fun _ _ _ h => h) (Or.inl ⟨by rfl, ?_⟩) (by assumption) ?_
  rotate_left
  · (intro w9 hS9; obtain ⟨⟨hg9, d0, d1, d2, d3⟩, hn9, d4⟩ := hS9; go_simp; try (with_reducible rfl))
  try simp only [Act.put, List.setIfInBounds_toArray, List.set_cons_zero, List.set_cons_succ]
  refine wpAnyH_take (i := 22) (v := ?_) rfl (by kernel_rfl) (by kernel_rfl) (by kernel_rfl) (fun _ _ _ h => h) (Or.inl ⟨by rfl, ?_⟩) (by assumption) ?_
  rotate_left
  · (intro w9 hS9; obtain ⟨⟨hg9, d0, d1, d2, d3⟩, hn9, d4⟩ := hS9; go_simp; try (with_reducible rfl))
  try simp only [Act.put, List.setIfInBounds_toArray, List.set_cons_zero, List.set_cons_succ]
  refine wpAnyH_ready (rs := [27]) (by kernel_rfl) (by simp) ?_
  refine AllReadyH.cons rfl (fun K hK => ?_) AllReadyH.nil
  go_simp
  refine (spec_Dec _ (by omega) (by omega) _).mono ?_
  rintro e w4 ⟨rfl, hb4⟩
  have hB4 := bnext hB3 hb4
  have hHeld4 : Ft w4 g a (m + 1) f u ∧ n < w4.heap.size ∧ w4.cell? ⟨n, m, none⟩ = some (.string X) := ⟨hHeld3.1.on hb4, Nat.lt_of_lt_of_le hHeld3.2.1 hb4.size, (hb4.cell (p := ⟨n, m, none⟩) hHeld3.2.1).trans hHeld3.2.2⟩
  go_wp2_with fail
  refine hK.out _ _ hHeld4 (fun hHeld => ?_)
  clear hK K hHeld
  try simp only [Act.put, List.setIfInBounds_toArray, List.set_cons_zero, List.set_cons_succ]
  refine wpAnyH_take (i := 28) (oi := ⟨some 31, _, _, _, _, _⟩) (v := ?_) rfl (by kernel_rfl) (by kernel_rfl) (by kernel_rfl) (fun _ _ _ h => h) (Or.inl ⟨by rfl, ?_⟩) (by assumption) ?_
  rotate_left
  · (intro w9 hS9; obtain ⟨⟨hg9, d0, d1, d2, d3⟩, hn9, d4⟩ := hS9; go_simp; try (with_reducible rfl))
  try simp only [Act.put, List.setIfInBounds_toArray, List.set_cons_zero, List.set_cons_succ]
  refine wpAnyH_take (i := 29) (oi := ⟨some 2, _, _, _, _, _⟩) (v := ?_) rfl (by kernel_rfl) (by kernel_rfl) (by kernel_rfl) (fun _ _ _ h => h) (Or.inl ⟨by rfl, ?_⟩) (by assumption) ?_
  rotate_left
  · (intro w9 hS9; obtain ⟨⟨hg9, d0, d1, d2, d3⟩, hn9, d4⟩ := hS9; go_simp; try (with_reducible rfl))
  try simp only [Act.put, List.setIfInBounds_toArray, List.set_cons_zero, List.set_cons_succ]
  refine wpAnyH_done (by kernel_rfl) ?_ _
  go_wp2
  go_ret
  first | exact ⟨rfl, hB4⟩ | exact ⟨by simp, hB4⟩ | exact ⟨by simp [Act.put, Act.eval], hB4⟩ | (refine ⟨?_, hB4⟩; simp [Act.put, go_sem])
theorem vF_spec (a k f u : Int) : vFault a k f u = (inB a 1 9999 && (inB k 1 4 && (inB f 0 143999999 && (u == -1 || (inB u 0 143999999 && decide (f < u)))))) := by
  unfold vFault
  by_cases hf : 0 ≤ f ∧ f ≤ 143999999
  · have e : inB u (f + 1) 143999999 = (inB u 0 143999999 && decide (f < u)) := by
      unfold inB
      rw [Bool.eq_iff_iff]
      simp
      omega
    rw [e]
  · rw [inB_un hf]; simp
theorem number_any (n : Int) (w : World) : Calls Tryd.prog 95 #[.int .i64 n] w fun e w' => e = .returned (.bool (inB n 1 9999)) ∧ w = w' := by (go_enter Tryd.func95, Tryd.ntmps95; go_wp2_with (go_at_call 109; refine (in_any _ _ _ _).mono ?_; rintro e w' ⟨rfl, rfl⟩); go_ret; exact ⟨rfl, rfl⟩)
theorem kind_any (n : Int) (w : World) : Calls Tryd.prog 96 #[.int .i64 n] w fun e w' => e = .returned (.bool (inB n 1 4)) ∧ w = w' := by (go_enter Tryd.func96, Tryd.ntmps96; go_wp2_with (go_at_call 109; refine (in_any _ _ _ _).mono ?_; rintro e w' ⟨rfl, rfl⟩); go_ret; exact ⟨rfl, rfl⟩)
theorem time_any (n : Int) (w : World) : Calls Tryd.prog 97 #[.int .i64 n] w fun e w' => e = .returned (.bool (inB n 0 143999999)) ∧ w = w' := by (go_enter Tryd.func97, Tryd.ntmps97; go_wp2_with (go_at_call 109; refine (in_any _ _ _ _).mono ?_; rintro e w' ⟨rfl, rfl⟩); go_ret; exact ⟨rfl, rfl⟩)
set_option maxHeartbeats 1600000 in
theorem spec_faultOne (a k f u : Int) (g : Nat) (w : World) (hF : Ft w g a k f u) : Calls Tryd.prog 44 #[.pointer (some ⟨g, 0, none⟩)] w fun e w' => e = .returned (.bool (vFault a k f u)) ∧ Below w.heap.size w w' := by
  obtain ⟨hg, c0, c1, c2, c3⟩ := hF
  have hs := vF_spec a k f u
  cases h1 : inB a 1 9999
  · have hm : Hid (vFault a k f u = false) := by apply Lib.hid; rw [hs, h1]; rfl
    clear hs
    go_enter Tryd.func44, Tryd.ntmps44
    go_wp2_with fail
    refine wp_region_grew (by kernel_rfl) (by kernel_rfl) ?_
    repeat (first | (go_big_quiet_step ((first | (go_at_call 95; exact grew_same (number_any _ _)) | (go_at_call 96; exact grew_same (kind_any _ _)) | (go_at_call 97; exact grew_same (time_any _ _))))) | (quiet_step ((first | (go_at_call 95; exact grew_same (number_any _ _)) | (go_at_call 96; exact grew_same (kind_any _ _)) | (go_at_call 97; exact grew_same (time_any _ _))))))
    refine wpQuiet_nil ?_
    rintro _ ⟨⟨w9, hb9⟩, rfl⟩
    try dsimp only
    obtain ⟨hc9, hf9⟩ := bcell hb9
    go_wp2
    go_ret
    exact ⟨ret_bool hm.out.symm, hb9⟩
  cases h2 : inB k 1 4
  · have hm : Hid (vFault a k f u = false) := by apply Lib.hid; rw [hs, h1, h2]; rfl
    clear hs
    go_enter Tryd.func44, Tryd.ntmps44
    go_wp2_with fail
    refine wp_region_grew (by kernel_rfl) (by kernel_rfl) ?_
    repeat (first | (go_big_quiet_step ((first | (go_at_call 95; exact grew_same (number_any _ _)) | (go_at_call 96; exact grew_same (kind_any _ _)) | (go_at_call 97; exact grew_same (time_any _ _))))) | (quiet_step ((first | (go_at_call 95; exact grew_same (number_any _ _)) | (go_at_call 96; exact grew_same (kind_any _ _)) | (go_at_call 97; exact grew_same (time_any _ _))))))
    refine wpQuiet_nil ?_
    rintro _ ⟨⟨w9, hb9⟩, rfl⟩
    try dsimp only
    obtain ⟨hc9, hf9⟩ := bcell hb9
    go_wp2
    go_ret
    exact ⟨ret_bool hm.out.symm, hb9⟩
  cases h3 : inB f 0 143999999
  · have hm : Hid (vFault a k f u = false) := by apply Lib.hid; rw [hs, h1, h2, h3]; rfl
    clear hs
    go_enter Tryd.func44, Tryd.ntmps44
    go_wp2_with fail
    refine wp_region_grew (by kernel_rfl) (by kernel_rfl) ?_
    repeat (first | (go_big_quiet_step ((first | (go_at_call 95; exact grew_same (number_any _ _)) | (go_at_call 96; exact grew_same (kind_any _ _)) | (go_at_call 97; exact grew_same (time_any _ _))))) | (quiet_step ((first | (go_at_call 95; exact grew_same (number_any _ _)) | (go_at_call 96; exact grew_same (kind_any _ _)) | (go_at_call 97; exact grew_same (time_any _ _))))))
    refine wpQuiet_nil ?_
    rintro _ ⟨⟨w9, hb9⟩, rfl⟩
    try dsimp only
    obtain ⟨hc9, hf9⟩ := bcell hb9
    go_wp2
    go_ret
    exact ⟨ret_bool hm.out.symm, hb9⟩
  cases h4 : (u == -1)
  rotate_left
  · have hm : Hid (vFault a k f u = true) := by apply Lib.hid; rw [hs, h1, h2, h3, h4]; rfl
    clear hs
    go_enter Tryd.func44, Tryd.ntmps44
    go_wp2_with fail
    refine wp_region_grew (by kernel_rfl) (by kernel_rfl) ?_
    repeat (first | (go_big_quiet_step ((first | (go_at_call 95; exact grew_same (number_any _ _)) | (go_at_call 96; exact grew_same (kind_any _ _)) | (go_at_call 97; exact grew_same (time_any _ _))))) | (quiet_step ((first | (go_at_call 95; exact grew_same (number_any _ _)) | (go_at_call 96; exact grew_same (kind_any _ _)) | (go_at_call 97; exact grew_same (time_any _ _))))))
    refine wpQuiet_nil ?_
    rintro _ ⟨⟨w9, hb9⟩, rfl⟩
    try dsimp only
    obtain ⟨hc9, hf9⟩ := bcell hb9
    go_wp2
    go_ret
    exact ⟨ret_bool hm.out.symm, hb9⟩
  cases h5 : inB u 0 143999999
  · have hm : Hid (vFault a k f u = false) := by apply Lib.hid; rw [hs, h1, h2, h3, h4, h5]; rfl
    clear hs
    go_enter Tryd.func44, Tryd.ntmps44
    go_wp2_with fail
    refine wp_region_grew (by kernel_rfl) (by kernel_rfl) ?_
    repeat (first | (go_big_quiet_step ((first | (go_at_call 95; exact grew_same (number_any _ _)) | (go_at_call 96; exact grew_same (kind_any _ _)) | (go_at_call 97; exact grew_same (time_any _ _))))) | (quiet_step ((first | (go_at_call 95; exact grew_same (number_any _ _)) | (go_at_call 96; exact grew_same (kind_any _ _)) | (go_at_call 97; exact grew_same (time_any _ _))))))
    refine wpQuiet_nil ?_
    rintro _ ⟨⟨w9, hb9⟩, rfl⟩
    try dsimp only
    obtain ⟨hc9, hf9⟩ := bcell hb9
    go_wp2
    go_ret
    exact ⟨ret_bool hm.out.symm, hb9⟩
  cases h6 : decide (f < u)
  · have hm : Hid (vFault a k f u = false) := by apply Lib.hid; rw [hs, h1, h2, h3, h4, h5, h6]; rfl
    clear hs
    go_enter Tryd.func44, Tryd.ntmps44
    go_wp2_with fail
    refine wp_region_grew (by kernel_rfl) (by kernel_rfl) ?_
    repeat (first | (go_big_quiet_step ((first | (go_at_call 95; exact grew_same (number_any _ _)) | (go_at_call 96; exact grew_same (kind_any _ _)) | (go_at_call 97; exact grew_same (time_any _ _))))) | (quiet_step ((first | (go_at_call 95; exact grew_same (number_any _ _)) | (go_at_call 96; exact grew_same (kind_any _ _)) | (go_at_call 97; exact grew_same (time_any _ _))))))
    refine wpQuiet_nil ?_
    rintro _ ⟨⟨w9, hb9⟩, rfl⟩
    try dsimp only
    obtain ⟨hc9, hf9⟩ := bcell hb9
    go_wp2
    go_ret
    exact ⟨ret_bool hm.out.symm, hb9⟩
  · have hm : Hid (vFault a k f u = true) := by apply Lib.hid; rw [hs, h1, h2, h3, h4, h5, h6]; rfl
    clear hs
    go_enter Tryd.func44, Tryd.ntmps44
    go_wp2_with fail
    refine wp_region_grew (by kernel_rfl) (by kernel_rfl) ?_
    repeat (first | (go_big_quiet_step ((first | (go_at_call 95; exact grew_same (number_any _ _)) | (go_at_call 96; exact grew_same (kind_any _ _)) | (go_at_call 97; exact grew_same (time_any _ _))))) | (quiet_step ((first | (go_at_call 95; exact grew_same (number_any _ _)) | (go_at_call 96; exact grew_same (kind_any _ _)) | (go_at_call 97; exact grew_same (time_any _ _))))))
    refine wpQuiet_nil ?_
    rintro _ ⟨⟨w9, hb9⟩, rfl⟩
    try dsimp only
    obtain ⟨hc9, hf9⟩ := bcell hb9
    go_wp2
    go_ret
    exact ⟨ret_bool hm.out.symm, hb9⟩
theorem kind_name {a k f u : Int} (h : vFault a k f u = true) : (1 ≤ k ∧ k ≤ 4) ∧ (pickS k faultNames).size ≤ 10 := by
  unfold vFault at h
  simp only [Bool.and_eq_true] at h
  have hk := inB_yes.1 h.2.1
  refine ⟨hk, ?_⟩
  have hc : k = 1 ∨ k = 2 ∨ k = 3 ∨ k = 4 := by omega
  rcases hc with rfl | rfl | rfl | rfl <;> decide
theorem spec_FaultText (a k f u : Int) (ha : IntKind.i64.has a) (hf : IntKind.i64.has f) (hu : IntKind.i64.has u) (w : World) : Calls Tryd.prog 9 #[.agg #[.int .i64 a, .int .i64 k, .int .i64 f, .int .i64 u]] w fun e w' => e = .returned (.string (faultX a k f u)) ∧ Below w.heap.size w w' := by
  have hD : Hid (Ft ((w.alloc (.cells #[.int .i64 a, .int .i64 k, .int .i64 f, .int .i64 u] 25))) w.heap.size a k f u) := Lib.hid ⟨by simp, by simp [go_sem], by simp [go_sem], by simp [go_sem], by simp [go_sem]⟩
  cases hv : vFault a k f u
  · have hX : Hid (faultX a k f u = ⟨#[]⟩) := by apply Lib.hid; unfold faultX; rw [hv]; rfl
    go_enter Tryd.func9, Tryd.ntmps9
    go_wp2_with fail
    refine (spec_faultOne a k f u _ _ hD.out).mono ?_
    rintro e w1 ⟨rfl, hb1⟩
    rw [hv]
    go_wp2
    go_ret
    exact ⟨ret_str hX.out.symm, bnext (by go_grown) hb1⟩
  · have hX : Hid (faultX a k f u = faultT a (pickS k faultNames) f u) := by apply Lib.hid; unfold faultX; rw [hv]; rfl
    obtain ⟨hk, hs⟩ := kind_name hv
    go_enter Tryd.func9, Tryd.ntmps9
    go_wp2_with fail
    refine (spec_faultOne a k f u _ _ hD.out).mono ?_
    rintro e w1 ⟨rfl, hb1⟩
    rw [hv]
    go_wp2_with fail
    refine (spec_faultText a k f u ha hf hu hk _ rfl hs _ _ (hD.out.on hb1)).mono ?_
    rintro e w2 ⟨rfl, hb2⟩
    go_wp2
    go_ret
    exact ⟨ret_str hX.out.symm, bnext (bnext (by go_grown) hb1) hb2⟩
theorem isNumber_any (n : Int) (w : World) : Calls Tryd.prog 100 #[.int .i64 n] w fun e w' => e = .returned (.bool (inB n 1 9999)) ∧ w = w' := by (go_enter Tryd.func100, Tryd.ntmps100; go_wp2_with (go_at_call 65; refine (within_any _ _ _ _).mono ?_; rintro e w' ⟨rfl, rfl⟩); go_ret; exact ⟨rfl, rfl⟩)
theorem isKind_any (n : Int) (w : World) : Calls Tryd.prog 101 #[.int .i64 n] w fun e w' => e = .returned (.bool (inB n 1 4)) ∧ w = w' := by (go_enter Tryd.func101, Tryd.ntmps101; go_wp2_with (go_at_call 65; refine (within_any _ _ _ _).mono ?_; rintro e w' ⟨rfl, rfl⟩); go_ret; exact ⟨rfl, rfl⟩)
theorem isTime_any (n : Int) (w : World) : Calls Tryd.prog 102 #[.int .i64 n] w fun e w' => e = .returned (.bool (inB n 0 143999999)) ∧ w = w' := by (go_enter Tryd.func102, Tryd.ntmps102; go_wp2_with (go_at_call 65; refine (within_any _ _ _ _).mono ?_; rintro e w' ⟨rfl, rfl⟩); go_ret; exact ⟨rfl, rfl⟩)
theorem impl_faultOne (a k f u : Int) (w : World) : Calls Tryd.prog 46 #[.agg #[.int .i64 a, .int .i64 k, .int .i64 f, .int .i64 u]] w fun e w' => e = .returned (.bool (vFault a k f u)) ∧ Below w.heap.size w w' := by
  cases h1 : inB a 1 9999
  · have hm : Hid (vFault a k f u = false) := by apply Lib.hid; unfold vFault; rw [h1]; rfl
    go_enter Tryd.func46, Tryd.ntmps46
    go_wp2_with (first | (go_at_call 100; refine (isNumber_any _ _).mono ?_; rintro e w' ⟨rfl, rfl⟩) | (go_at_call 101; refine (isKind_any _ _).mono ?_; rintro e w' ⟨rfl, rfl⟩) | (go_at_call 102; refine (isTime_any _ _).mono ?_; rintro e w' ⟨rfl, rfl⟩) | (go_at_call 65; refine (within_any _ _ _ _).mono ?_; rintro e w' ⟨rfl, rfl⟩))
    go_ret
    exact ⟨ret_bool hm.out.symm, by go_grown⟩
  cases h2 : inB k 1 4
  · have hm : Hid (vFault a k f u = false) := by apply Lib.hid; unfold vFault; rw [h1, h2]; rfl
    go_enter Tryd.func46, Tryd.ntmps46
    go_wp2_with (first | (go_at_call 100; refine (isNumber_any _ _).mono ?_; rintro e w' ⟨rfl, rfl⟩) | (go_at_call 101; refine (isKind_any _ _).mono ?_; rintro e w' ⟨rfl, rfl⟩) | (go_at_call 102; refine (isTime_any _ _).mono ?_; rintro e w' ⟨rfl, rfl⟩) | (go_at_call 65; refine (within_any _ _ _ _).mono ?_; rintro e w' ⟨rfl, rfl⟩))
    go_ret
    exact ⟨ret_bool hm.out.symm, by go_grown⟩
  cases h3 : inB f 0 143999999
  · have hm : Hid (vFault a k f u = false) := by apply Lib.hid; unfold vFault; rw [h1, h2, h3]; rfl
    go_enter Tryd.func46, Tryd.ntmps46
    go_wp2_with (first | (go_at_call 100; refine (isNumber_any _ _).mono ?_; rintro e w' ⟨rfl, rfl⟩) | (go_at_call 101; refine (isKind_any _ _).mono ?_; rintro e w' ⟨rfl, rfl⟩) | (go_at_call 102; refine (isTime_any _ _).mono ?_; rintro e w' ⟨rfl, rfl⟩) | (go_at_call 65; refine (within_any _ _ _ _).mono ?_; rintro e w' ⟨rfl, rfl⟩))
    go_ret
    exact ⟨ret_bool hm.out.symm, by go_grown⟩
  have hfb := inB_yes.1 h3
  cases h4 : (u == -1)
  rotate_left
  · have hm : Hid (vFault a k f u = true) := by apply Lib.hid; unfold vFault; rw [h1, h2, h3, h4]; rfl
    go_enter Tryd.func46, Tryd.ntmps46
    go_wp2_with (first | (go_at_call 100; refine (isNumber_any _ _).mono ?_; rintro e w' ⟨rfl, rfl⟩) | (go_at_call 101; refine (isKind_any _ _).mono ?_; rintro e w' ⟨rfl, rfl⟩) | (go_at_call 102; refine (isTime_any _ _).mono ?_; rintro e w' ⟨rfl, rfl⟩) | (go_at_call 65; refine (within_any _ _ _ _).mono ?_; rintro e w' ⟨rfl, rfl⟩))
    go_ret
    exact ⟨ret_bool hm.out.symm, by go_grown⟩
  cases h5 : inB u (f + 1) 143999999
  · have hm : Hid (vFault a k f u = false) := by apply Lib.hid; unfold vFault; rw [h1, h2, h3, h4, h5]; rfl
    go_enter Tryd.func46, Tryd.ntmps46
    go_wp2_with (first | (go_at_call 100; refine (isNumber_any _ _).mono ?_; rintro e w' ⟨rfl, rfl⟩) | (go_at_call 101; refine (isKind_any _ _).mono ?_; rintro e w' ⟨rfl, rfl⟩) | (go_at_call 102; refine (isTime_any _ _).mono ?_; rintro e w' ⟨rfl, rfl⟩) | (go_at_call 65; refine (within_any _ _ _ _).mono ?_; rintro e w' ⟨rfl, rfl⟩))
    go_ret
    exact ⟨ret_bool hm.out.symm, by go_grown⟩
  · have hm : Hid (vFault a k f u = true) := by apply Lib.hid; unfold vFault; rw [h1, h2, h3, h4, h5]; rfl
    go_enter Tryd.func46, Tryd.ntmps46
    go_wp2_with (first | (go_at_call 100; refine (isNumber_any _ _).mono ?_; rintro e w' ⟨rfl, rfl⟩) | (go_at_call 101; refine (isKind_any _ _).mono ?_; rintro e w' ⟨rfl, rfl⟩) | (go_at_call 102; refine (isTime_any _ _).mono ?_; rintro e w' ⟨rfl, rfl⟩) | (go_at_call 65; refine (within_any _ _ _ _).mono ?_; rintro e w' ⟨rfl, rfl⟩))
    go_ret
    exact ⟨ret_bool hm.out.symm, by go_grown⟩
set_option maxHeartbeats 1600000 in
theorem impl_FaultText (a k f u : Int) (ha : IntKind.i64.has a) (hf : IntKind.i64.has f) (hu : IntKind.i64.has u) (w : World) (ht : Tab w) : Calls Tryd.prog 11 #[.agg #[.int .i64 a, .int .i64 k, .int .i64 f, .int .i64 u]] w fun e w' => e = .returned (.string (faultX a k f u)) ∧ Below w.heap.size w w' := by
  have ht' := Lib.hid ht
  clear ht
  cases hv : vFault a k f u
  · have hX : Hid (faultX a k f u = ⟨#[]⟩) := by apply Lib.hid; unfold faultX; rw [hv]; rfl
    go_enter Tryd.func11, Tryd.ntmps11
    go_wp2_with fail
    refine (impl_faultOne a k f u _).mono ?_
    rintro e w1 ⟨rfl, hb1⟩
    rw [hv]
    go_wp2
    go_ret
    exact ⟨ret_str hX.out.symm, bnext (by go_grown) hb1⟩
  · have hX : Hid (faultX a k f u = faultT a (pickS k faultNames) f u) := by apply Lib.hid; unfold faultX; rw [hv]; rfl
    obtain ⟨hk, hs⟩ := kind_name hv
    have hN := fun w => impl_FaultName k w
    obtain ⟨X, hXX⟩ : ∃ X, pickS k faultNames = X := ⟨_, rfl⟩
    rw [hXX] at hX hs hN
    clear hXX
    unfold faultT at hX
    have ha' := has_i64 ha
    have hf' := has_i64 hf
    have hu' := has_i64 hu
    have s1 := decT_size ha'.1 ha'.2
    have s2 := decT_size hf'.1 hf'.2
    have s3 := decT_size hu'.1 hu'.2
    have q1 := noB (n := (decT a).size + 1) (by omega)
    have q2 := noB (n := (decT a).size + 1 + X.size) (by omega)
    have q3 := noB (n := (decT a).size + 1 + X.size + 1) (by omega)
    have q4 := noB (n := (decT a).size + 1 + X.size + 1 + (decT f).size) (by omega)
    have q5 := noB (n := (decT a).size + 1 + X.size + 1 + (decT f).size + 1) (by omega)
    have q6 := noB (n := (decT a).size + 1 + X.size + 1 + (decT f).size + 1 + (decT u).size) (by omega)
    go_enter Tryd.func11, Tryd.ntmps11
    go_wp2_with fail
    refine (impl_faultOne a k f u _).mono ?_
    rintro e w1 ⟨rfl, hb1⟩
    rw [hv]
    have hB1 := bnext (show Below w.heap.size w ((w.alloc (.cells #[.int .i64 a, .int .i64 k, .int .i64 f, .int .i64 u] 25))) by go_grown) hb1
    have hS1 := hb1.size
    simp only [World.size_alloc] at hS1
    have hz1 : w.heap.size < w1.heap.size := by omega
    have hT : Hid (Tab w1) := Lib.hid (ht'.out.on hB1)
    obtain ⟨hc1, hf1⟩ := bcell hb1
    clear hb1
    go_wp2_with fail
    refine wp_region_grew (by kernel_rfl) (by kernel_rfl) ?_
    repeat (first | (go_big_quiet_step ((first | (go_at_call 47; exact grew_of (impl_Dec _ (by omega) (by omega) _ (hT.out.on (Grew.below _)))) | (go_at_call 48; exact grew_of (hN _))))) | (quiet_step ((first | (go_at_call 47; exact grew_of (impl_Dec _ (by omega) (by omega) _ (hT.out.on (Grew.below _)))) | (go_at_call 48; exact grew_of (hN _))))))
    refine wpQuiet_nil ?_
    rintro _ ⟨⟨w9, hb9⟩, rfl⟩
    try dsimp only
    obtain ⟨hc9, hf9⟩ := bcell hb9
    go_wp2
    go_ret
    exact ⟨ret_str hX.out.symm, bnext hB1 hb9⟩
theorem own : ownKnob Tryd.prog.godebug = none := by kernel_rfl
theorem laidOut : laidOutB Tryd.prog = true := by kernel_rfl
theorem toFault_one (a k f u : Int) (w : World) : Calls Tryd.prog 10 #[.agg #[.int .i64 a, .int .i64 k, .int .i64 f, .int .i64 u]] w fun e w' => e = .returned (.agg #[.int .i64 a, .int .i64 k, .int .i64 f, .int .i64 u]) ∧ Below w.heap.size w w' := by
  go_enter Tryd.func10, Tryd.ntmps10
  go_wp2
  go_returns
  exact ⟨rfl, by go_grown⟩
theorem fault_tab {W : World} (h : laidMetH Tryd.prog Rows.fnExactFaultTextRow.laid W) : Tab W := by
  rw [MakeChecks.laidMetH_plain _ _ _ (by kernel_rfl)] at h
  exact Lib.tabIs_of_head tabVar (by kernel_rfl) Tryd.underlying183 Tryd.underlying138 (by kernel_rfl) (by kernel_rfl) h.tail.tail
namespace fnExactFaultText
open Go.ChangeShapes Go.WideShapes Go.ChangeAt Go.RowKit
set_option linter.unusedVariables false
set_option maxHeartbeats 1600000 in
theorem walk (W : World) (a0_0 : Int) (wa0_0 : IntKind.i64.has a0_0) (a0_1 : Int) (wa0_1 : IntKind.i64.has a0_1) (a0_2 : Int) (wa0_2 : IntKind.i64.has a0_2) (a0_3 : Int) (wa0_3 : IntKind.i64.has a0_3) (hL : laidMetH Tryd.prog Rows.fnExactFaultTextRow.laid W) :
    Calls Tryd.prog 3 #[.agg #[.int .i64 a0_0, .int .i64 a0_1, .int .i64 a0_2, .int .i64 a0_3]] W fun e w' => e = .returned (.bool true) ∧ Below W.heap.size W w' := by
  revert W
  intro w hL
  have ht := Lib.hid (fault_tab hL)
  clear hL
  go_enter Tryd.func3, Tryd.ntmps3
  go_wp2_with (first | (go_at_call 10; refine (toFault_one _ _ _ _ _).mono ?_; rintro e w1 ⟨rfl, hb1⟩; have hB1 := bnext (w := w) (by go_grown) hb1; have hS1 := hB1.size; ((have hz1 : w.heap.size < w1.heap.size := by have := hb1.size; (try simp only [World.size_alloc, World.size_setCell, World.size_drew] at this); omega)); obtain ⟨hc1, hf1⟩ := bcell hb1; clear hb1) | (go_at_call 9; refine (spec_FaultText _ _ _ _ wa0_0 wa0_2 wa0_3 _).mono ?_; rintro e w1 ⟨rfl, hb1⟩; have hB1 := bnext (w := w) (by go_grown) hb1; have hS1 := hB1.size; ((have hz1 : w.heap.size < w1.heap.size := by have := hb1.size; (try simp only [World.size_alloc, World.size_setCell, World.size_drew] at this); omega)); obtain ⟨hc1, hf1⟩ := bcell hb1; clear hb1) | (go_at_call 11; refine (impl_FaultText _ _ _ _ wa0_0 wa0_2 wa0_3 _ (ht.out.on (by go_grown))).mono ?_; rintro e w1 ⟨rfl, hb1⟩; have hB1 := bnext (w := w) (by go_grown) hb1; have hS1 := hB1.size; ((have hz1 : w.heap.size < w1.heap.size := by have := hb1.size; (try simp only [World.size_alloc, World.size_setCell, World.size_drew] at this); omega)); obtain ⟨hc1, hf1⟩ := bcell hb1; clear hb1))
  go_ret
  exact ⟨rfl, by go_grown⟩

theorem lifted (os : Os) (started : os.Started) (H : Type) (enc : TypeId × Value → H) :
    ReturnsInHanded {} Tryd.checked os 3 .any (fun w args => (Rows.fnExactFaultTextSpec.pre enc Tryd.prog Tryd.f3 Rows.fnExactFaultTextRow.domain false w args ∧ laidMetH Tryd.prog Rows.fnExactFaultTextRow.laid w) ∧ sizedMet enc Tryd.prog Tryd.f3 (OpenSpec.ofChange Rows.fnExactFaultTextSpec) false w args) (Rows.fnExactFaultTextSpec.post enc Tryd.prog Tryd.f3 false true false false) := by
  refine returnsInHanded_of_change_and (C := Tryd.checked) (X := fun w _ => laidMetH Tryd.prog Rows.fnExactFaultTextRow.laid w) (fun _ _ _ hh h => h.of_heap hh) own started (by kernel_rfl) Tryd.func3
    (ChangeSpec.witness_shaped (enc := enc) (C := Tryd.checked) (os := os) (X := fun w _ => laidMetH Tryd.prog Rows.fnExactFaultTextRow.laid w) false (World.laidAll Tryd.prog os Rows.fnExactFaultTextRow.laid) #[.agg #[.int .i64 0, .int .i64 0, .int .i64 0, .int .i64 0]] 8 (World.laidAll_os _ _ _)
      (World.shaped_of_ZipB (by kernel_rfl) (by kernel_rfl)) (by kernel_rfl) (by kernel_rfl) (by kernel_rfl)
      (by rw [MakeChecks.laidMetH_plain _ _ _ (by kernel_rfl)]; exact laidMet_laidAll _ (by kernel_rfl) (by kernel_rfl))) ?_
  intro W base args ds gs before hval0 hW hcnd _ hL _
  have hval : ∀ (j : Nat) t v, Tryd.f3.params[j]? = some t → args[j]? = some v → Value.okWide Tryd.prog W .any base t v := hval0
  have hW' := hW
  obtain ⟨p, q, hA0, hV, rfl, hfz, hnd⟩ := hW
  have hA : DataW.TrodAll enc Tryd.prog W 0 (fun _ => true) true Tryd.f3.params.toList args.toList ds p := hA0
  rw [Tryd.params3] at hA hval
  obtain ⟨v0, vs0, d0, ds0, p0, q0, hargs, rfl, rfl, h0, r0⟩ := trodAll_cons hA
  obtain ⟨rfl, rfl, rfl⟩ := trodAll_nil r0
  obtain rfl : args = #[v0] := by cases args; simp_all
  have g0 := h0
  obtain ⟨rfl, rfl⟩ := trodVars_none hV
  clear hA0 hval0
  simp only [List.append_nil] at hW'
  have hlt : ∀ x ∈ p0, x.block < W.heap.size := fun x hx => by simpa using hW'.lt x (by simpa using hx)
  obtain ⟨cs0, rfl, k0_0⟩ := open_struct Tryd.underlying23 (ts := [2, 2, 2, 2]) (by kernel_rfl) (hval 0 23 _ rfl rfl)
  obtain ⟨c0_0, cs0_0, rfl, q0_0, k0_1⟩ := okCells_cons k0_0
  obtain ⟨c0_1, cs0_1, rfl, q0_1, k0_2⟩ := okCells_cons k0_1
  obtain ⟨c0_2, cs0_2, rfl, q0_2, k0_3⟩ := okCells_cons k0_2
  obtain ⟨c0_3, cs0_3, rfl, q0_3, k0_4⟩ := okCells_cons k0_3
  obtain rfl := okCells_nil k0_4
  obtain ⟨a0_0, rfl, wa0_0⟩ := cell_int Tryd.underlying2 q0_0
  obtain ⟨a0_1, rfl, wa0_1⟩ := cell_int Tryd.underlying2 q0_1
  obtain ⟨a0_2, rfl, wa0_2⟩ := cell_int Tryd.underlying2 q0_2
  obtain ⟨a0_3, rfl, wa0_3⟩ := cell_int Tryd.underlying2 q0_3
  refine (walk W a0_0 wa0_0 a0_1 wa0_1 a0_2 wa0_2 a0_3 wa0_3 hL).mono fun e W' ⟨he, hg⟩ => ?_
  subst he
  exact ⟨_, rfl, post_below (pa := _) hW' (trodAll_cons_mk (shut_bool Tryd.underlying4 _) trodAll_mk0) (trodAll_cons_mk (Below.trod laidOut (by kernel_rfl) (of_decide_eq_true (by kernel_rfl)) g0 hg (fun x hx => hlt x (by simp [hx]))) trodAll_mk0) rfl (by simp) hg⟩

theorem over : Rows.fnExactFaultTextRow.holds Tryd.pinned (OpenSpec.ofChange Rows.fnExactFaultTextSpec) :=
  OpenClaim.holds_of_wide 3 Tryd.f3 rfl rfl rfl rfl rfl rfl rfl ⟨rfl, rfl, rfl, rfl, rfl⟩ rfl rfl rfl rfl rfl (by kernel_rfl) Tryd.func3 (by kernel_rfl)
    (of_decide_eq_true (by kernel_rfl)) (by unfold Func.isWrapper; first | (rw [if_pos (by decide +kernel)]; kernel_rfl) | (rw [if_neg (by decide +kernel)]; exact ⟨rfl, rfl⟩))
    (fun os started H enc _ => lifted os started H enc)

theorem proved : Rows.FnExactFaultTextCardSaid :=
  Claim7.holds_tied_plain_at .later [] [.data, .data, .data] true (true, "5071906fd05b8f218cdc652544452a051fd326819706c99f5e79965e5702fabb") true over (fun _ h => by cases h) (by kernel_rfl) (fun _ h => by cases h) fnExactFaultText_row_tie rfl ⟨rfl, rfl⟩ (by kernel_rfl) rfl
    (fun f fn hf hfn => by
      obtain rfl : f = 3 := Option.some.inj ((show Tryd.prog.funcNamed "loop.example/g00953/laws.FnExactFaultText" = some 3 by kernel_rfl).symm.trans hf) |>.symm
      obtain rfl : fn = Tryd.f3 := (Option.some.inj (Tryd.func3.symm.trans hfn)).symm
      exact ⟨by kernel_rfl, fun j t ht => by
        rw [Tryd.params3] at ht
        have hm : t ∈ [23] := by simpa using Array.mem_of_getElem? ht
        have hall : ([23].all fun u => !Tryd.prog.wantsStandIn u) = true := by kernel_rfl
        exact (show Tryd.prog.wantsStandIn t = false by simpa using List.all_eq_true.1 hall t hm)⟩)
    (by kernel_rfl)
#print axioms proved
end fnExactFaultText

end Go.Proofs.YtlgpgohojbgkaaaDoor
