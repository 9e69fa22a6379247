/-
  Contracts of the buoys of a channel: the program's and the reference's. Under the conditions that each states.
-/
import Derived.Test.YtlflefnjoeappaaGates
import Derived.Deep.RegionHeld3
import Derived.Deep.RegionLawGrows
set_option linter.unusedVariables false
set_option linter.unnecessarySimpa false
set_option maxRecDepth 100000
set_option linter.unusedSimpArgs false
namespace Go.Proofs.Ytlflefnjoeappaa
open Go.RowKit BigFrame

def BuPost (C : Int) (L : List RBuoy) (w : World) (e : Ending) (w' : World) : Prop := ∃ v, e = .returned (.tuple #[v, .int .i64 C]) ∧ Below w.heap.size w w' ∧ Rs w' w.heap.size 66 3 v L.length (flat RBuoy.cells L)
def BoPost (C : Int) (L : List RBuoy) (w : World) (e : Ending) (w' : World) : Prop := ∃ v, e = .returned (.tuple #[v, .int .i64 C]) ∧ Below w.heap.size w w' ∧ w'.ownsRow w.heap.size 66 3 v L.length (flat RBuoy.cells L)
theorem owns_more {w : World} {B B' : Nat} {e : TypeId} {sz : Nat} {v : Value} {n : Nat} {xs : List Value} (h : w.ownsRow B e sz v n xs) (hB : B' ≤ B) : w.ownsRow B' e sz v n xs := by
  obtain ⟨hl, h | ⟨g, cap, cur, h1, h2, h3⟩⟩ := h
  · exact ⟨hl, .inl h⟩
  · exact ⟨hl, .inr ⟨g, cap, cur, h1, Nat.le_trans hB h2, h3⟩⟩
theorem owns_nil (w : World) (B : Nat) (e : TypeId) (sz : Nat) : w.ownsRow B e sz (.slice none 0 0) 0 [] := ⟨by simp, .inl ⟨rfl, rfl⟩⟩
theorem infoBu : (Try.prog.info? 66).map (fun i => (i.zero, i.size, i.bytes)) = some (some (.agg #[.int .i64 0, .int .i64 0, .int .i64 0]), 3, 24) := by kernel_rfl
theorem gtL_le (nm : ByteArray) (P : List RPoint) (wd s : Int) : (gtL nm P wd s).length ≤ 32 := by
  unfold gtL
  split
  · rename_i h
    unfold gtC at h
    split at h
    · cases h
    · split at h
      · cases h
      · split at h
        · cases h
        · omega
  · exact Nat.zero_le _
def lBuoy (a : RGate) : RBuoy := ⟨a.f1, a.f2, 1⟩
def rBuoy (a : RGate) : RBuoy := ⟨a.f3, a.f4, 2⟩
theorem buoysTo_step {G : List RGate} {k : Nat} {a : RGate} (hk : k < G.length) (hg : G.getD k default = a) : flat RBuoy.cells (buoysOf (G.take (k + 1))) = flat RBuoy.cells (buoysOf (G.take k)) ++ [.int .i64 a.f1, .int .i64 a.f2, .int .i64 1, .int .i64 a.f3, .int .i64 a.f4, .int .i64 2] := by
  have e : G[k] = a := (getD_at hk).symm.trans hg
  rw [List.take_succ_eq_append_getElem hk, e, buoysOf_snoc, flat_append]
  rfl
theorem step_append_own {P : Program} {ops : Array Oper} {o : Oper} {a : Act} {w : World} {K : Act → World → Prop} {Q : Exit → Act → World → Prop} {E : Prop} (hg : o.guard = none) (s x : Operand) (t : TypeId)
    (ho : o.op = .call { callee := .builtin .append, args := #[s, x], argTypes := #[t, t] }) (base : Nat) (e : TypeId) (i : TypeInfo) (z : Value) (size bytes : Nat) (ht : P.underlying t = some (.slice e)) (hi : P.info? e = some i) (hz : i.zero = some z)
    (hsize : i.size = size) (hby : i.bytes = bytes) (hzs : z.cells.size = size) (hsz : 0 < size) (v : Value) (n : Nat) (xs : List Value) (hs : a.eval s = v) (hown : w.ownsRow base e size v n xs)
    (ad : Addr) (m c : Nat) (news : List Value) (hx : a.eval x = .slice (some ad) m c) (hl : news.length = m * size) (hnews : ∀ j u, news[j]? = some u → w.cell? (ad.add j) = some u) (h1 : ∀ u ∈ news, u.oneCell' = true)
    (h63 : n + m ≤ maxLen) (hbytes : (n + m) * bytes ≤ 140737488355328) (hbase : base ≤ w.heap.size)
    (h : ∀ v' w', w'.ownsRow base e size v' (n + m) (xs ++ news) → w.grownBy w' v.ownBlock → K (a.put o.dst v') w') : if Region.wanted o (yielded ops a.tmps) = true then Oper.wp P o a w K Q else E := by
  rw [if_pos (by simp [Region.wanted, hg])]
  exact wp_append_own w s x t ho base e i z size bytes ht hi hz hsize hby hzs hsz v n xs hs hown ad m c news hx hl hnews h1 h63 hbytes hbase fun v' w' h2 h3 _ => h v' w' h2 h3
set_option maxHeartbeats 3200000 in
theorem spec_Buoys (nm : ByteArray) (hnm : nm.size ≤ maxLen) (P : List RPoint) (A : Option Addr) (c B g : Nat) (wd s : Int) (w : World) (hZ0 : Cz w g nm A P.length c wd) (hP : Sl w B A (flat RPoint.cells P)) (hB : B ≤ w.heap.size) (hl : P.length ≤ 1048576) :
    Calls Try.prog 149 #[.pointer (some ⟨g, 0, none⟩), .int .i64 s] w (BuPost (gtC nm P wd s) (buoysOf (gtL nm P wd s)) w) := by
  have hsp := spec_Gates nm hnm P A c B g wd s w hZ0 hP hB hl
  have hle := gtL_le nm P wd s
  have hno : ¬ gtC nm P wd s = 0 → gtL nm P wd s = [] := fun h => by unfold gtL; rw [if_neg h]
  obtain ⟨j0, hj, je0, je1, je2⟩ := info_parts infoBu
  generalize gtL nm P wd s = G at *
  generalize gtC nm P wd s = C at *
  have hno' := Lib.hid hno
  clear hno hP hZ0
  go_enter Try.func149, Try.ntmps149
  go_wp2_with fail
  refine hsp.mono ?_
  rintro e w1 ⟨v, rfl, hB1, hR⟩
  have hS1 := hB1.size
  by_cases hC : C = 0
  rotate_left
  · have hC' : (C != 0) = true := by simpa using hC
    have hG := Lib.hid (hno'.out hC)
    clear hC
    go_wp2
    go_ret2
    exact ⟨_, rfl, hB1, by rw [hG.out]; exact Rs.nil _ _ _ _⟩
  subst hC
  obtain ⟨A7, c7, rfl, _⟩ := hR.sl
  have hbR := Lib.hid hR.block
  clear hno'
  go_wp2_with fail
  have hO0 : (w1.alloc (.cells #[] 66)).ownsRow w1.heap.size 66 3 (.slice (some ⟨w1.heap.size, 0, none⟩) 0 0) 0 (flat RBuoy.cells (buoysOf (G.take 0))) := World.ownsRow_made w1 #[] 0 (Nat.le_refl _) (Nat.zero_le _) rfl
  have hBa : Below w1.heap.size w1 (w1.alloc (.cells #[] 66)) := by go_grown
  go_loopw [8, 9] (fun v i wr => ∃ k : Nat, i = .int .i64 k ∧ k ≤ G.length ∧ Below w1.heap.size w1 wr ∧ wr.ownsRow w1.heap.size 66 3 v (2 * k) (flat RBuoy.cells (buoysOf (G.take k)))) (fun _ i _ => G.length - (intOf i).toNat)
  case atStart => exact ⟨0, rfl, Nat.zero_le _, hBa, hO0⟩
  case round =>
    clear hBa hO0
    obtain ⟨k, rfl, hk, hBr, hown⟩ := hrel
    have hSr := hBr.size
    by_cases hlt : k < G.length
    · obtain ⟨b, o, e7, hb, he⟩ := Sl.elem RGate.len (by decide) (rs_row (hR.on hBr)) hlt
      subst e7
      have hg := Lib.hid (getD_at hlt)
      obtain ⟨a, ha⟩ : ∃ a, G[k] = a := ⟨_, rfl⟩
      rw [ha] at hg he
      clear ha
      have d0 : wr.cell? ⟨b, o + k * 5, none⟩ = some (.int .i64 a.f0) := by have := he 0 _ rfl; simpa [Nat.add_assoc] using this
      have d1 : wr.cell? ⟨b, o + k * 5 + 1, none⟩ = some (.int .i64 a.f1) := by have := he 1 _ rfl; simpa [Nat.add_assoc] using this
      have d2 : wr.cell? ⟨b, o + k * 5 + 2, none⟩ = some (.int .i64 a.f2) := by have := he 2 _ rfl; simpa [Nat.add_assoc] using this
      have d3 : wr.cell? ⟨b, o + k * 5 + 3, none⟩ = some (.int .i64 a.f3) := by have := he 3 _ rfl; simpa [Nat.add_assoc] using this
      have d4 : wr.cell? ⟨b, o + k * 5 + 4, none⟩ = some (.int .i64 a.f4) := by have := he 4 _ rfl; simpa [Nat.add_assoc] using this
      have hki : (k : Int) < (G.length : Int) := by omega
      have hst := Lib.hid (buoysTo_step hlt hg.out)
      clear he
      go_wp2_with fail
      have hSd : (wr.drew.cell? ⟨b, o + k * 5, none⟩ = some (.int .i64 a.f0)) ∧ (wr.drew.cell? ⟨b, o + k * 5 + 1, none⟩ = some (.int .i64 a.f1)) ∧ (wr.drew.cell? ⟨b, o + k * 5 + 2, none⟩ = some (.int .i64 a.f2)) ∧ (wr.drew.cell? ⟨b, o + k * 5 + 3, none⟩ = some (.int .i64 a.f3)) ∧ (wr.drew.cell? ⟨b, o + k * 5 + 4, none⟩ = some (.int .i64 a.f4)) := ⟨d0, d1, d2, d3, d4⟩
      refine wp_region_held_drew (S := fun w' => (w'.cell? ⟨b, o + k * 5, none⟩ = some (.int .i64 a.f0)) ∧ (w'.cell? ⟨b, o + k * 5 + 1, none⟩ = some (.int .i64 a.f1)) ∧ (w'.cell? ⟨b, o + k * 5 + 2, none⟩ = some (.int .i64 a.f2)) ∧ (w'.cell? ⟨b, o + k * 5 + 3, none⟩ = some (.int .i64 a.f3)) ∧ (w'.cell? ⟨b, o + k * 5 + 4, none⟩ = some (.int .i64 a.f4))) (by kernel_rfl) hSd (fun hHeld => ?_)
      refine wpAnyH_take (i := 0) (v := ?_) rfl (by kernel_rfl) (by kernel_rfl) (by kernel_rfl) (fun _ _ _ h => h) (Or.inl ⟨by rfl, ?_⟩) (by assumption) ?_
      rotate_left
      · (intro w9 hS9; obtain ⟨y0, y1, y2, y3, y4⟩ := hS9; go_simp; try (with_reducible rfl))
      try simp only [Act.put, List.setIfInBounds_toArray, List.set_cons_zero, List.set_cons_succ]
      refine wpAnyH_take (i := 1) (v := ?_) rfl (by kernel_rfl) (by kernel_rfl) (by kernel_rfl) (fun _ _ _ h => h) (Or.inl ⟨by rfl, ?_⟩) (by assumption) ?_
      rotate_left
      · (intro w9 hS9; obtain ⟨y0, y1, y2, y3, y4⟩ := hS9; go_simp; try (with_reducible rfl))
      try simp only [Act.put, List.setIfInBounds_toArray, List.set_cons_zero, List.set_cons_succ]
      refine wpAnyH_take (i := 2) (v := ?_) rfl (by kernel_rfl) (by kernel_rfl) (by kernel_rfl) (fun _ _ _ h => h) (Or.inl ⟨by rfl, ?_⟩) (by assumption) ?_
      rotate_left
      · (intro w9 hS9; obtain ⟨y0, y1, y2, y3, y4⟩ := hS9; go_simp; try (with_reducible rfl))
      try simp only [Act.put, List.setIfInBounds_toArray, List.set_cons_zero, List.set_cons_succ]
      refine wpAnyH_take (i := 3) (v := ?_) rfl (by kernel_rfl) (by kernel_rfl) (by kernel_rfl) (fun _ _ _ h => h) (Or.inl ⟨by rfl, ?_⟩) (by assumption) ?_
      rotate_left
      · (intro w9 hS9; obtain ⟨y0, y1, y2, y3, y4⟩ := hS9; go_simp; try (with_reducible rfl))
      try simp only [Act.put, List.setIfInBounds_toArray, List.set_cons_zero, List.set_cons_succ]
      refine wpAnyH_take (i := 4) (v := ?_) rfl (by kernel_rfl) (by kernel_rfl) (by kernel_rfl) (fun _ _ _ h => h) (Or.inl ⟨by rfl, ?_⟩) (by assumption) ?_
      rotate_left
      · (intro w9 hS9; obtain ⟨y0, y1, y2, y3, y4⟩ := hS9; go_simp; try (with_reducible rfl))
      try simp only [Act.put, List.setIfInBounds_toArray, List.set_cons_zero, List.set_cons_succ]
      refine wpAnyH_take (i := 5) (v := ?_) rfl (by kernel_rfl) (by kernel_rfl) (by kernel_rfl) (fun _ _ _ h => h) (Or.inl ⟨by rfl, ?_⟩) (by assumption) ?_
      rotate_left
      · (intro w9 hS9; obtain ⟨y0, y1, y2, y3, y4⟩ := hS9; go_simp; try (with_reducible rfl))
      try simp only [Act.put, List.setIfInBounds_toArray, List.set_cons_zero, List.set_cons_succ]
      refine wpAnyH_take (i := 6) (v := ?_) rfl (by kernel_rfl) (by kernel_rfl) (by kernel_rfl) (fun _ _ _ h => h) (Or.inl ⟨by rfl, ?_⟩) (by assumption) ?_
      rotate_left
      · (intro w9 hS9; obtain ⟨y0, y1, y2, y3, y4⟩ := hS9; go_simp; try (with_reducible rfl))
      try simp only [Act.put, List.setIfInBounds_toArray, List.set_cons_zero, List.set_cons_succ]
      refine wpAnyH_take (i := 7) (v := ?_) rfl (by kernel_rfl) (by kernel_rfl) (by kernel_rfl) (fun _ _ _ h => h) (Or.inl ⟨by rfl, ?_⟩) (by assumption) ?_
      rotate_left
      · (intro w9 hS9; obtain ⟨y0, y1, y2, y3, y4⟩ := hS9; go_simp; try (with_reducible rfl))
      try simp only [Act.put, List.setIfInBounds_toArray, List.set_cons_zero, List.set_cons_succ]
      refine wpAnyH_take (i := 8) (v := ?_) rfl (by kernel_rfl) (by kernel_rfl) (by kernel_rfl) (fun _ _ _ h => h) (Or.inl ⟨by rfl, ?_⟩) (by assumption) ?_
      rotate_left
      · (intro w9 hS9; obtain ⟨y0, y1, y2, y3, y4⟩ := hS9; go_simp; try (with_reducible rfl))
      try simp only [Act.put, List.setIfInBounds_toArray, List.set_cons_zero, List.set_cons_succ]
      refine wpAnyH_take (i := 9) (v := ?_) rfl (by kernel_rfl) (by kernel_rfl) (by kernel_rfl) (fun _ _ _ h => h) (Or.inl ⟨by rfl, ?_⟩) (by assumption) ?_
      rotate_left
      · (intro w9 hS9; obtain ⟨y0, y1, y2, y3, y4⟩ := hS9; go_simp; try (with_reducible rfl))
      try simp only [Act.put, List.setIfInBounds_toArray, List.set_cons_zero, List.set_cons_succ]
      refine wpAnyH_take (i := 10) (v := ?_) rfl (by kernel_rfl) (by kernel_rfl) (by kernel_rfl) (fun _ _ _ h => h) (Or.inl ⟨by rfl, ?_⟩) (by assumption) ?_
      rotate_left
      · (intro w9 hS9; obtain ⟨y0, y1, y2, y3, y4⟩ := hS9; go_simp; try (with_reducible rfl))
      try simp only [Act.put, List.setIfInBounds_toArray, List.set_cons_zero, List.set_cons_succ]
      refine wpAnyH_take (i := 11) (v := ?_) rfl (by kernel_rfl) (by kernel_rfl) (by kernel_rfl) (fun _ _ _ h => h) (Or.inl ⟨by rfl, ?_⟩) (by assumption) ?_
      rotate_left
      · (intro w9 hS9; obtain ⟨y0, y1, y2, y3, y4⟩ := hS9; go_simp; try (with_reducible rfl))
      try simp only [Act.put, List.setIfInBounds_toArray, List.set_cons_zero, List.set_cons_succ]
      refine wpAnyH_take (i := 12) (v := ?_) rfl (by kernel_rfl) (by kernel_rfl) (by kernel_rfl) (fun _ _ _ h => h) (Or.inl ⟨by rfl, ?_⟩) (by assumption) ?_
      rotate_left
      · (intro w9 hS9; obtain ⟨y0, y1, y2, y3, y4⟩ := hS9; go_simp; try (with_reducible rfl))
      try simp only [Act.put, List.setIfInBounds_toArray, List.set_cons_zero, List.set_cons_succ]
      refine wpAnyH_ready (rs := [13]) (by kernel_rfl) (by simp) ?_
      refine AllReadyH.cons rfl (fun K hK => ?_) AllReadyH.nil
      go_simp
      have hal : Below wr.heap.size wr ((wr.alloc (.cells #[.int .i64 a.f1, .int .i64 a.f2, .int .i64 1, .int .i64 a.f3, .int .i64 a.f4, .int .i64 2] 66)).drew) := by go_grown
      have hwd : wr.drew.heap.size = wr.heap.size := rfl
      have hOa := owns_onW hown hal
      obtain ⟨wa, hwa⟩ : ∃ wa, (wr.alloc (.cells #[.int .i64 a.f1, .int .i64 a.f2, .int .i64 1, .int .i64 a.f3, .int .i64 a.f4, .int .i64 2] 66)).drew = wa := ⟨_, rfl⟩
      have hnw : ∀ j u, ([.int .i64 a.f1, .int .i64 a.f2, .int .i64 1, .int .i64 a.f3, .int .i64 a.f4, .int .i64 2] : List Value)[j]? = some u → wa.cell? ((⟨wr.heap.size, 0, none⟩ : Addr).add j) = some u := fun j u hu => by
        have h := (Sl.new wr #[.int .i64 a.f1, .int .i64 a.f2, .int .i64 1, .int .i64 a.f3, .int .i64 a.f4, .int .i64 2] 66) (by simp)
        obtain ⟨b9, o9, e9, _, hc9⟩ := h
        cases e9
        rw [← hwa, Addr.add_lit]
        exact hc9 j u (by simpa using hu)
      rw [hwa] at hal hOa ⊢
      have hsz : wa.heap.size = wr.heap.size + 1 := by rw [← hwa]; simp
      clear hwa hSd
      obtain ⟨hca, _⟩ := bcell hal
      have hSa : (wa.cell? ⟨b, o + k * 5, none⟩ = some (.int .i64 a.f0)) ∧ (wa.cell? ⟨b, o + k * 5 + 1, none⟩ = some (.int .i64 a.f1)) ∧ (wa.cell? ⟨b, o + k * 5 + 2, none⟩ = some (.int .i64 a.f2)) ∧ (wa.cell? ⟨b, o + k * 5 + 3, none⟩ = some (.int .i64 a.f3)) ∧ (wa.cell? ⟨b, o + k * 5 + 4, none⟩ = some (.int .i64 a.f4)) := ⟨(hca _ _ hb).trans d0, (hca _ _ hb).trans d1, (hca _ _ hb).trans d2, (hca _ _ hb).trans d3, (hca _ _ hb).trans d4⟩
      refine hK.out _ _ hSa (fun hHeld => ?_)
      clear hK K hHeld
      try simp only [Act.put, List.setIfInBounds_toArray, List.set_cons_zero, List.set_cons_succ]
      refine wpAnyH_ready (rs := [14]) (by kernel_rfl) (by simp) ?_
      refine AllReadyH.cons rfl (fun K hK => ?_) AllReadyH.nil
      refine step_append_own rfl _ _ 56 rfl w1.heap.size 66 j0 (.agg #[.int .i64 0, .int .i64 0, .int .i64 0]) 3 24 Try.underlying56 hj je0 je1 je2 rfl (by decide) _ (2 * k) _ rfl hOa ⟨wr.heap.size, 0, none⟩ 2 2 [.int .i64 a.f1, .int .i64 a.f2, .int .i64 1, .int .i64 a.f3, .int .i64 a.f4, .int .i64 2] rfl rfl hnw (by intro u hu; simp at hu; rcases hu with rfl | rfl | rfl | rfl | rfl | rfl <;> rfl) (by unfold maxLen; omega) (by omega) (by omega) ?_
      intro v' wm hown' hgrow
      have hbb := hbR.out b rfl
      have hgc : ∀ q u, wa.cell? ⟨b, q, none⟩ = some u → wm.cell? ⟨b, q, none⟩ = some u := fun q u h => hgrow.cell h (fun e => by have := (hown.lt b e.symm).1; omega)
      have hSm : (wm.cell? ⟨b, o + k * 5, none⟩ = some (.int .i64 a.f0)) ∧ (wm.cell? ⟨b, o + k * 5 + 1, none⟩ = some (.int .i64 a.f1)) ∧ (wm.cell? ⟨b, o + k * 5 + 2, none⟩ = some (.int .i64 a.f2)) ∧ (wm.cell? ⟨b, o + k * 5 + 3, none⟩ = some (.int .i64 a.f3)) ∧ (wm.cell? ⟨b, o + k * 5 + 4, none⟩ = some (.int .i64 a.f4)) := ⟨hgc _ _ hSa.1, hgc _ _ hSa.2.1, hgc _ _ hSa.2.2.1, hgc _ _ hSa.2.2.2.1, hgc _ _ hSa.2.2.2.2⟩
      have hBm := (bnext hBr hal).grown hgrow (by omega) (fun q e => by have := (hown.lt q e).1; omega)
      rw [← hst.out, show 2 * k + 2 = 2 * (k + 1) by omega] at hown'
      refine hK.out _ _ hSm (fun hHeld => ?_)
      clear hK K
      try simp only [Act.put, List.setIfInBounds_toArray, List.set_cons_zero, List.set_cons_succ]
      refine wpAnyH_take (i := 15) (v := ?_) rfl (by kernel_rfl) (by kernel_rfl) (by kernel_rfl) (fun _ _ _ h => h) (Or.inl ⟨by rfl, ?_⟩) (by assumption) ?_
      rotate_left
      · (intro w9 hS9; obtain ⟨y0, y1, y2, y3, y4⟩ := hS9; go_simp; try (with_reducible rfl))
      try simp only [Act.put, List.setIfInBounds_toArray, List.set_cons_zero, List.set_cons_succ]
      refine wpAnyH_done (by kernel_rfl) ?_ _
      clear hgrow hst hOa hal hown hSm hSa hgc hnw d0 d1 d2 d3 d4
      go_wp2
      go_roundw
      case rel => exact ⟨k + 1, by go_num, by omega, hBm, hown'⟩
      case measure => simp [intOf]; omega
    · obtain rfl : k = G.length := by omega
      have hbl := Lib.hid (buoysOf_len G)
      go_wp2
      go_ret2
      refine ⟨_, rfl, hB1.trans (hBr.mono hS1), ?_⟩
      rw [hbl.out]
      rw [List.take_length] at hown
      exact (Rs.of_owns hown).more hS1
set_option maxHeartbeats 3200000 in
theorem impl_Buoys (nm : ByteArray) (hnm : nm.size ≤ maxLen) (P : List RPoint) (A : Option Addr) (c B : Nat) (wd s : Int) (w : World) (hP : Sl w B A (flat RPoint.cells P)) (hB : B ≤ w.heap.size) (hl : P.length ≤ 1048576) :
    Calls Try.prog 34 #[.agg #[.string nm, .slice A P.length c, .int .i64 wd], .int .i64 s] w (BoPost (gtC nm P wd s) (buoysOf (gtL nm P wd s)) w) := by
  have hsp := fun w hP hB => impl_Gates nm hnm P A c B wd s w hP hB hl
  have hle := gtL_le nm P wd s
  have hno : ¬ gtC nm P wd s = 0 → gtL nm P wd s = [] := fun h => by unfold gtL; rw [if_neg h]
  obtain ⟨j0, hj, je0, je1, je2⟩ := info_parts infoBu
  generalize gtL nm P wd s = G at *
  generalize gtC nm P wd s = C at *
  have hno' := Lib.hid hno
  have hP' := Lib.hid hP
  have hsp' := Lib.hid hsp
  clear hno hP hsp
  go_enter Try.func34, Try.ntmps34
  go_wp2_with fail
  refine (hsp'.out _ (hP'.out.below ((show Below w.heap.size w _ by go_grown).mono hB)) (by simp; omega)).mono ?_
  rintro e w1 ⟨v, rfl, hb1, hR⟩
  have hB1 := bnext (show Below w.heap.size w _ by go_grown) hb1
  have hS1 := hB1.size
  rw [World.size_alloc] at hR
  clear hb1
  by_cases hC : C = 0
  rotate_left
  · have hC' : (C != 0) = true := by simpa using hC
    have hG := Lib.hid (hno'.out hC)
    clear hC
    go_wp2
    go_ret2
    exact ⟨_, rfl, hB1, by rw [hG.out]; exact owns_nil _ _ _ _⟩
  subst hC
  obtain ⟨A7, c7, rfl, _⟩ := hR.sl
  clear hno'
  go_wp2_with fail
  have hO0 : (w1.alloc (.cells #[] 66)).ownsRow w1.heap.size 66 3 (.slice (some ⟨w1.heap.size, 0, none⟩) 0 0) 0 (flat RBuoy.cells (buoysOf (G.take 0))) := World.ownsRow_made w1 #[] 0 (Nat.le_refl _) (Nat.zero_le _) rfl
  have hBa : Below w1.heap.size w1 (w1.alloc (.cells #[] 66)) := by go_grown
  go_loopw [8, 23] (fun v i wr => ∃ k : Nat, i = .int .i64 k ∧ k ≤ G.length ∧ Below w1.heap.size w1 wr ∧ wr.ownsRow w1.heap.size 66 3 v (2 * k) (flat RBuoy.cells (buoysOf (G.take k)))) (fun _ i _ => G.length - (intOf i).toNat)
  case atStart => exact ⟨0, rfl, Nat.zero_le _, hBa, hO0⟩
  case round =>
    clear hBa hO0
    obtain ⟨k, rfl, hk, hBr, hown⟩ := hrel
    have hSr := hBr.size
    by_cases hlt : k < G.length
    · obtain ⟨b, o, e7, hb, he⟩ := Sl.elem RGate.len (by decide) (rs_row (hR.on hBr)) hlt
      subst e7
      have hg := Lib.hid (getD_at hlt)
      obtain ⟨a, ha⟩ : ∃ a, G[k] = a := ⟨_, rfl⟩
      rw [ha] at hg he
      clear ha
      have d0 : wr.cell? ⟨b, o + k * 5, none⟩ = some (.int .i64 a.f0) := by have := he 0 _ rfl; simpa [Nat.add_assoc] using this
      have d1 : wr.cell? ⟨b, o + k * 5 + 1, none⟩ = some (.int .i64 a.f1) := by have := he 1 _ rfl; simpa [Nat.add_assoc] using this
      have d2 : wr.cell? ⟨b, o + k * 5 + 2, none⟩ = some (.int .i64 a.f2) := by have := he 2 _ rfl; simpa [Nat.add_assoc] using this
      have d3 : wr.cell? ⟨b, o + k * 5 + 3, none⟩ = some (.int .i64 a.f3) := by have := he 3 _ rfl; simpa [Nat.add_assoc] using this
      have d4 : wr.cell? ⟨b, o + k * 5 + 4, none⟩ = some (.int .i64 a.f4) := by have := he 4 _ rfl; simpa [Nat.add_assoc] using this
      have hki : (k : Int) < (G.length : Int) := by omega
      have hst := Lib.hid (buoysTo_step hlt hg.out)
      clear he
      go_wp2_with (at_builtin; refine wpList_append_own _ rfl _ _ 56 rfl (w1.heap.size) 66 j0 (.agg #[.int .i64 0, .int .i64 0, .int .i64 0]) 3 24 Try.underlying56 hj je0 je1 je2 rfl (by decide) _ _ _ rfl ((hown.alloc _).alloc _) ⟨wr.heap.size + 1, 0, none⟩ 2 2 [.int .i64 a.f1, .int .i64 a.f2, .int .i64 1, .int .i64 a.f3, .int .i64 a.f4, .int .i64 2] rfl rfl ?pc1 ?pc2 ?pc3 ?pc4 ?pc5 ?_)
      try (case pc1 =>
          intro j u hj
          match j, hj with
          | 0, hj => simp [RBuoy.cells] at hj; subst hj; simp [Addr.add]
          | 1, hj => simp [RBuoy.cells] at hj; subst hj; simp [Addr.add]
          | 2, hj => simp [RBuoy.cells] at hj; subst hj; simp [Addr.add]
          | 3, hj => simp [RBuoy.cells] at hj; subst hj; simp [Addr.add]
          | 4, hj => simp [RBuoy.cells] at hj; subst hj; simp [Addr.add]
          | 5, hj => simp [RBuoy.cells] at hj; subst hj; simp [Addr.add])
      try (case pc2 => first | (intro u hu; simp [RBuoy.cells] at hu; rcases hu with rfl | rfl | rfl | rfl | rfl | rfl <;> rfl) | rfl | simp)
      case pc3 => unfold maxLen; omega
      case pc4 => omega
      case pc5 => first | omega | (simp; omega)
      intro v' wm hown' hgrow _
      have hBm := (show Below w1.heap.size w1 ((wr.alloc (.cells (RGate.cells a).toArray 60)).alloc (.cells #[.int .i64 a.f1, .int .i64 a.f2, .int .i64 1, .int .i64 a.f3, .int .i64 a.f4, .int .i64 2] 66)) by go_grown).grown hgrow (by simp; omega) (fun q e => by have := (hown.lt q e).1; omega)
      rw [← hst.out, show 2 * k + 2 = 2 * (k + 1) by omega] at hown'
      clear hgrow hst hown hBr d0 d1 d2 d3 d4
      go_wp2
      go_roundw
      case rel => exact ⟨k + 1, by go_num, by omega, hBm, hown'⟩
      case measure => simp [intOf]; omega
    · obtain rfl : k = G.length := by omega
      have hbl := Lib.hid (buoysOf_len G)
      go_wp2
      go_ret2
      refine ⟨_, rfl, hB1.trans (hBr.mono hS1), ?_⟩
      rw [hbl.out]
      rw [List.take_length] at hown
      exact owns_more hown hS1
end Go.Proofs.Ytlflefnjoeappaa
