/-
  Rows: at a straight channel with its own buoys none is missing and none is wrong; without one, this one is missing; one turned, this one is wrong. For all arguments. Under no condition.
-/
import Derived.Test.YtlflefnjoeappaaRowsQ
import Derived.Test.YtlflefnjoeappaaR8E
import Derived.Test.YtlflefnjoeappaaWrS
import Derived.Test.YtlflefnjoeappaaWrT
import Derived.Test.YtlflefnjoeappaaMissI
import Derived.Deep.RegionHeld3
set_option linter.unusedVariables false
set_option linter.unnecessarySimpa false
set_option maxRecDepth 100000
set_option linter.unusedSimpArgs false
namespace Go.Proofs.Ytlflefnjoeappaa
open Go.RowKit BigFrame
theorem own : ownKnob Try.prog.godebug = none := by kernel_rfl
theorem laidOut : laidOutB Try.prog = true := by kernel_rfl
theorem flat_turn {L : List RBuoy} {k : Nat} {a : RBuoy} (hk : k < L.length) (ha : L.getD k default = a) : (flat RBuoy.cells L).set (k * 3 + 2) (.int .i64 (3 - a.f2)) = flat RBuoy.cells (turnAt L k) := by
  have ha' : L[k] = a := by rw [← ha, List.getD_eq_getElem?_getD, List.getElem?_eq_getElem hk]; rfl
  have e : flat RBuoy.cells L = flat RBuoy.cells (L.take k) ++ (a.cells ++ flat RBuoy.cells (L.drop (k + 1))) := by
    conv => lhs; rw [← List.take_append_drop k L, List.drop_eq_getElem_cons hk, ha']
    rw [flat_append]; rfl
  have hl : (flat RBuoy.cells (L.take k)).length = k * 3 := by rw [flat_len RBuoy.len, List.length_take, Nat.min_eq_left (by omega)]
  have e3 : ∀ b : RBuoy, L.set k b = L.take k ++ b :: L.drop (k + 1) := fun b => by rw [List.set_eq_take_append_cons_drop, if_pos hk]
  unfold turnAt
  rw [e3, ha, e, ← hl, List.set_append, if_neg (by omega), Nat.add_sub_cancel_left, flat_append]
  rfl
theorem sl_set {w : World} {g i : Nat} {xs : List Value} {u v : Value} (h : Sl w w.heap.size (some ⟨g, 0, none⟩) xs) (hg : g < w.heap.size) (hu : w.cell? ⟨g, i, none⟩ = some u) : Sl (w.setCell ⟨g, i, none⟩ v) (w.setCell ⟨g, i, none⟩ v).heap.size (some ⟨g, 0, none⟩) (xs.set i v) := by
  intro hne
  refine ⟨g, 0, rfl, by simpa using hg, fun j x hx => ?_⟩
  rw [Nat.zero_add]
  have hne' : xs ≠ [] := fun e => hne (by rw [e]; rfl)
  obtain ⟨b, o, e, _, hc⟩ := h hne'
  cases e
  by_cases hj : i = j
  · subst hj
    have hl : i < xs.length := by
      rcases (by omega : i < xs.length ∨ xs.length ≤ i) with h1 | h1
      · exact h1
      · rw [List.getElem?_eq_none (by simpa using h1)] at hx; cases hx
    rw [List.getElem?_set_self hl] at hx
    cases hx
    exact World.cell?_setCell_same _ _ _ hu
  · rw [List.getElem?_set_ne hj] at hx
    rw [World.cell?_setCell_other _ _ _ _ (fun e => by injection e with _ h2; exact hj h2)]
    have := hc j x hx
    rwa [Nat.zero_add] at this
namespace fnRows
open Go.ChangeShapes Go.WideShapes Go.ChangeAt Go.RowKit
set_option linter.unusedVariables false
set_option maxHeartbeats 6400000 in
theorem walk (W : World) (A0 : Option Addr) (c0 : Nat) (L0 : List Int) (s0 : Sl W W.heap.size A0 (bytesL L0)) (b0 : ∀ z ∈ L0, IntKind.u8.has z) (m0 : L0.length ≤ maxLen) (A1 : Option Addr) (c1 : Nat) (L1 : List Int) (s1 : Sl W W.heap.size A1 (bytesL L1)) (b1 : ∀ z ∈ L1, IntKind.u8.has z) (m1 : L1.length ≤ maxLen) :
    Calls Try.prog 6 #[.slice A0 L0.length c0, .slice A1 L1.length c1] W fun e w' => e = .returned (.bool true) ∧ Below W.heap.size W w' := by
  have s0' := Lib.hid s0
  have s1' := Lib.hid s1
  clear s0 s1
  obtain ⟨q, hq⟩ : ∃ q, (decide (1048576 < L0.length) || decide (1048576 < L1.length)) = q := ⟨_, rfl⟩
  have h8 := fun w => long8_any L0.length L1.length c0 c1 A0 A1 w m0 m1
  rw [hq] at h8
  cases q
  rotate_left
  · clear hq
    go_enter Try.func6, Try.ntmps6
    go_wp2_with fail
    refine (h8 _).mono ?_
    rintro e w' ⟨rfl, rfl⟩
    go_wp2
    go_ret
    exact ⟨rfl, Below.refl _ _⟩
  have hl : L0.length ≤ 1048576 ∧ L1.length ≤ 1048576 := by simp at hq; omega
  clear hq
  have B0 := Lib.hid b0
  have B1 := Lib.hid b1
  clear b0 b1
  go_enter Try.func6, Try.ntmps6
  go_wp2_with fail
  refine (h8 _).mono ?_
  rintro e w' ⟨rfl, rfl⟩
  clear h8
  go_wp2_with fail
  refine (r8_channel L0 A0 c0 W.heap.size W s0'.out (Nat.le_refl _) B0.out hl.1).mono ?_
  rintro e w1 ⟨nm, v, P, wd, rfl, hb1, hR, hgood⟩
  have hPl : 2 ≤ P.length ∧ P.length ≤ 4 := hgood.2.2.1
  have hgd := Lib.hid hgood
  clear hgood
  obtain ⟨A2, c2, rfl, hsl⟩ := hR.sl
  obtain ⟨b, o, rfl, hb, he⟩ := Sl.elem RPoint.len (by decide) hsl (show 0 < P.length by omega)
  obtain ⟨b', o', e', _, he'⟩ := Sl.elem RPoint.len (by decide) hsl (show 1 < P.length by omega)
  cases e'
  obtain ⟨u, hu⟩ : ∃ u, P.getD 0 default = u := ⟨_, rfl⟩
  obtain ⟨v, hv⟩ : ∃ v, P.getD 1 default = v := ⟨_, rfl⟩
  have hu' : P[0] = u := by rw [← hu, List.getD_eq_getElem?_getD, List.getElem?_eq_getElem]; rfl
  have hv' : P[1] = v := by rw [← hv, List.getD_eq_getElem?_getD, List.getElem?_eq_getElem]; rfl
  rw [hu'] at he
  rw [hv'] at he'
  have d0 : w1.cell? ⟨b, o, none⟩ = some (.int .i64 u.f0) := he 0 _ rfl
  have d1 : w1.cell? ⟨b, o + 1, none⟩ = some (.int .i64 u.f1) := he 1 _ rfl
  have d2 : w1.cell? ⟨b, o + 2, none⟩ = some (.int .i64 v.f0) := he' 0 _ rfl
  have d3 : w1.cell? ⟨b, o + 3, none⟩ = some (.int .i64 v.f1) := he' 1 _ rfl
  have hbw : b < w1.heap.size := hb
  have hu'' := Lib.hid hu
  have hv'' := Lib.hid hv
  clear he he' hu hv hu' hv' hsl hR hb
  have hE := Lib.hid (En.new w1 #[.string nm, .slice (some ⟨b, o, none⟩) P.length c2, .int .i64 wd] 49)
  have hBc : Below W.heap.size W w1 := hb1
  have hs1 := hb1.size
  clear hb1
  go_upto_region 4 with fail
  have hpa : (1 : Int) < (P.length : Int) := by omega
  have hpb : (0 : Int) < (P.length : Int) := by omega
  refine wp_atB ?_
  intro w2 hw2
  have hal : Below w1.heap.size w1 w2 := by rw [hw2]; go_grown
  have hE2 : En w2 w1.heap.size 3 := by rw [hw2]; exact hE.out
  have hs2 : w2.heap.size = w1.heap.size + 1 := by rw [hw2]; simp
  have k0 : w2.cell? ⟨w1.heap.size, 0, none⟩ = some (.string nm) := by rw [hw2]; simp
  have k1 : w2.cell? ⟨w1.heap.size, 1, none⟩ = some (.slice (some ⟨b, o, none⟩) P.length c2) := by rw [hw2]; simp
  have k2 : w2.cell? ⟨w1.heap.size, 2, none⟩ = some (.int .i64 wd) := by rw [hw2]; simp
  have hc2 := (bcell hal).1
  replace d0 := (hc2 _ _ hbw).trans d0
  replace d1 := (hc2 _ _ hbw).trans d1
  replace d2 := (hc2 _ _ hbw).trans d2
  replace d3 := (hc2 _ _ hbw).trans d3
  have kf := (hE2.at (k := 1) (by omega)).2
  replace hBc := bnext hBc hal
  have hkl : w1.heap.size < w2.heap.size := by omega
  have hne2 : ¬ w2.heap.size = w1.heap.size := by omega
  have hs2' := Lib.hid hs2
  clear hw2 hc2 hal hE hs2
  go_region
  refine thenB ?_
  intro w3 hw3
  have hs3 : w3.heap.size = w2.heap.size + 1 := by rw [hw3]; simp
  have hg3 : w2.grownBy w3 (some w1.heap.size) := by
    rw [hw3]
    exact World.grownBy.trans (grown_one w2 w1.heap.size 1 _) (grown_none' (by go_grown) _)
  have hBc3 := hBc.grown hg3 hBc.size (fun k e => by have := Option.some.inj e; omega)
  have hal2 : Below (w2.setCell ⟨w1.heap.size, 1, none⟩ (.slice (some ⟨w2.heap.size, 0, none⟩) 2 2)).heap.size (w2.setCell ⟨w1.heap.size, 1, none⟩ (.slice (some ⟨w2.heap.size, 0, none⟩) 2 2)) w3 := by rw [hw3]; go_grown
  have hkl2 : w1.heap.size < (w2.setCell ⟨w1.heap.size, 1, none⟩ (.slice (some ⟨w2.heap.size, 0, none⟩) 2 2)).heap.size := by simpa using hkl
  have hC1 : w3.cell? ⟨w1.heap.size, 1, none⟩ = some (.slice (some ⟨w2.heap.size, 0, none⟩) 2 2) := keep_c (World.cell?_setCell_same _ _ _ k1) hkl2 hal2
  have hC0 : w3.cell? ⟨w1.heap.size, 0, none⟩ = some (.string nm) := keep_c (by rw [World.cell?_setCell_other _ _ _ _ (fun e => by simp at e)]; exact k0) hkl2 hal2
  have hC2 : w3.cell? ⟨w1.heap.size, 2, none⟩ = some (.int .i64 wd) := keep_c (by rw [World.cell?_setCell_other _ _ _ _ (fun e => by simp at e)]; exact k2) hkl2 hal2
  have hZ : Cz w3 w1.heap.size nm (some ⟨w2.heap.size, 0, none⟩) 2 2 wd := ⟨by omega, hC0, hC1, hC2⟩
  have hSl : Sl w3 w3.heap.size (some ⟨w2.heap.size, 0, none⟩) (flat RPoint.cells [u, v]) := by
    have h := Sl.new (w2.setCell ⟨w1.heap.size, 1, none⟩ (.slice (some ⟨w2.heap.size, 0, none⟩) 2 2)) #[.int .i64 u.f0, .int .i64 u.f1, .int .i64 v.f0, .int .i64 v.f1] 52
    simp only [World.size_setCell] at h
    rw [hs3, hw3]
    exact h
  replace hBc := hBc3
  clear d0 d1 d2 d3 k0 k1 k2 kf hbw hpa hpb hE2 hC0 hC1 hC2 hg3 hw3 hBc3 hal2 hkl2
  go_wp2_with fail
  refine (r8Wide_any L1 A1 c1 W.heap.size 0 700 w3 (s1'.out.below hBc) B1.out hl.2 (by omega) (by omega) (by omega)).mono ?_
  rintro e w' ⟨r, hr, rfl, rfl⟩
  obtain ⟨s, hs⟩ : ∃ s, 60 + r = s := ⟨_, rfl⟩
  have hsb : 60 ≤ s ∧ s ≤ 759 := by omega
  have hT := good_two hgd.out hsb
  have hG2 := two_good hgd.out hsb
  rw [hu''.out, hv''.out] at hT hG2
  have hvc := good_chan hG2
  have hnm : nm.size ≤ maxLen := by have := hG2.1.2; unfold maxLen; omega
  have hgt : ∀ w, Sl w w.heap.size (some ⟨w2.heap.size, 0, none⟩) (flat RPoint.cells [u, v]) → Calls Try.prog 33 #[.agg #[.string nm, .slice (some ⟨w2.heap.size, 0, none⟩) 2 2, .int .i64 wd], .int .i64 s] w (GtPost (gtC nm [u, v] wd s) (gtL nm [u, v] wd s) w) := fun w h => impl_Gates nm hnm [u, v] _ 2 w.heap.size wd s w h (Nat.le_refl _) (by simp)
  have hbo : ∀ w, Sl w w.heap.size (some ⟨w2.heap.size, 0, none⟩) (flat RPoint.cells [u, v]) → Calls Try.prog 34 #[.agg #[.string nm, .slice (some ⟨w2.heap.size, 0, none⟩) 2 2, .int .i64 wd], .int .i64 s] w (BoPost (gtC nm [u, v] wd s) (buoysOf (gtL nm [u, v] wd s)) w) := fun w h => impl_Buoys nm hnm [u, v] _ 2 w.heap.size wd s w h (Nat.le_refl _) (by simp)
  rcases two_gtC hT hvc with h5 | ⟨h0, hlen⟩
  · have hgl : gtL nm [u, v] wd s = [] := by unfold gtL; rw [if_neg (by rw [h5]; decide)]
    rw [h5, hgl] at hgt hbo
    have hgt' := Lib.hid hgt
    have hbo' := Lib.hid hbo
    clear hgt hbo h5 hgl hT hG2 hvc hnm
    obtain ⟨hzl, z0, z1, z2⟩ := id hZ
    go_wp2_with fail
    clear hzl z0 z1 z2
    refine (hgt'.out w3 hSl).mono ?_
    rintro e w4 ⟨vg, rfl, hb4, hRg⟩
    have hs4 := hb4.size
    replace hBc := bnext hBc hb4
    replace hZ := hZ.on hb4
    replace hSl := (hSl.below hb4).more hb4.size
    obtain ⟨hzl, z0, z1, z2⟩ := id hZ
    go_wp2_with fail
    clear hzl z0 z1 z2
    refine (hbo'.out w4 hSl).mono ?_
    rintro e w5 ⟨vb, rfl, hb5, hOb⟩
    have hs5 := hb5.size
    replace hBc := bnext hBc hb5
    replace hZ := hZ.on hb5
    go_wp2
    go_ret
    exact ⟨rfl, hBc⟩
  have hgl : gtL nm [u, v] wd s = gates [u, v] wd s := by unfold gtL; rw [if_pos h0]
  rw [h0, hgl] at hgt hbo
  have hrw := rows_all hT hvc h0 hlen
  clear hgl h0
  generalize gates [u, v] wd s = G at hgt hbo hrw hlen
  generalize buoysOf G = Bs at hbo hrw
  have hgt' := Lib.hid hgt
  have hbo' := Lib.hid hbo
  have hGl := hrw.len
  have hBl := hrw.two
  have hmi := Lib.hid (fun (L : List RBuoy) (A2 : Option Addr) (c2 : Nat) (w : World) (h : Sl w w.heap.size (some ⟨w2.heap.size, 0, none⟩) (flat RPoint.cells [u, v])) (h2 : Sl w w.heap.size A2 (flat RBuoy.cells L)) (hL : L.length ≤ 1048576) => show Calls Try.prog 35 #[.agg #[.string nm, .slice (some ⟨w2.heap.size, 0, none⟩) 2 2, .int .i64 wd], .int .i64 s, .slice A2 L.length c2, .int .i64 0] w (BuPost (msC nm [u, v] wd s L 0) (msL nm [u, v] wd s L 0) w) from impl_Missing nm hnm [u, v] _ 2 w.heap.size wd s L A2 c2 0 w h h2 (Nat.le_refl _) (by simp) hL)
  have hwr := Lib.hid (fun (L : List RBuoy) (A2 : Option Addr) (c2 : Nat) (w : World) (h : Sl w w.heap.size (some ⟨w2.heap.size, 0, none⟩) (flat RPoint.cells [u, v])) (h2 : Sl w w.heap.size A2 (flat RBuoy.cells L)) (hL : L.length ≤ 1048576) => show Calls Try.prog 36 #[.agg #[.string nm, .slice (some ⟨w2.heap.size, 0, none⟩) 2 2, .int .i64 wd], .slice A2 L.length c2] w (WrPost (wrC nm [u, v] wd L) (wrK nm [u, v] wd L) w) from impl_Wrong nm hnm [u, v] _ 2 wd L A2 c2 w.heap.size w h h2 (Nat.le_refl _) (by simp) hL)
  have hrw' := Lib.hid hrw
  clear hgt hbo hT hG2 hvc hnm hrw
  obtain ⟨hzl, z0, z1, z2⟩ := id hZ
  go_wp2_with fail
  clear hzl z0 z1 z2
  refine (hgt'.out w3 hSl).mono ?_
  rintro e w4 ⟨vg, rfl, hb4, hRg⟩
  have hs4 := hb4.size
  replace hBc := bnext hBc hb4
  replace hZ := hZ.on hb4
  replace hSl := (hSl.below hb4).more hb4.size
  obtain ⟨Ag, cg, rfl, hslg⟩ := hRg.sl
  obtain ⟨bg, og, rfl, hbg, heg⟩ := Sl.elem RGate.len (by decide) hslg (show 0 < G.length by omega)
  have dg : w4.cell? ⟨bg, og, none⟩ = some (.int .i64 0) := by
    have h := heg 0 _ rfl
    have hh := hrw'.out.head
    rw [List.getD_eq_getElem?_getD, List.getElem?_eq_getElem (by omega)] at hh
    have hh' : G[0].f0 = 0 := hh
    rw [hh'] at h
    simpa using h
  clear heg hslg hRg
  obtain ⟨hzl, z0, z1, z2⟩ := id hZ
  go_wp2_with fail
  clear hzl z0 z1 z2
  refine (hbo'.out w4 hSl).mono ?_
  rintro e w5 ⟨vb, rfl, hb5, hOb⟩
  replace dg := keep_c dg hbg hb5
  have hbg5 : bg < w5.heap.size := Nat.lt_of_lt_of_le hbg hb5.size
  have hs5 := hb5.size
  replace hBc := bnext hBc hb5
  replace hZ := hZ.on hb5
  replace hSl := (hSl.below hb5).more hb5.size
  obtain ⟨Ab, cb, rfl, hslb⟩ := (Rs.of_owns hOb).sl
  have i1 : (Bs.length : Int) = 2 * (G.length : Int) := by omega
  have i2 : (2 : Int) ≤ (G.length : Int) := by omega
  have i3 : (G.length : Int) ≤ 32 := by omega
  have hm0 := hmi.out Bs Ab cb w5 hSl hslb (by omega)
  rw [hrw'.out.msC, hrw'.out.msL] at hm0
  have hm0' := Lib.hid hm0
  clear hm0 hGl hBl hlen
  obtain ⟨hzl, z0, z1, z2⟩ := id hZ
  go_wp2_with fail
  clear hzl z0 z1 z2
  refine hm0'.out.mono ?_
  rintro e w6 ⟨vm, rfl, hb6, hRm⟩
  obtain ⟨Am, cm, rfl, _⟩ := hRm.sl
  have hO6 := owns_onW hOb hb6
  have hsl6 := (hslb.below hb6).more hb6.size
  have hs6 := hb6.size
  replace hBc := bnext hBc hb6
  replace hZ := hZ.on hb6
  replace hSl := (hSl.below hb6).more hb6.size
  have hw0 := hwr.out Bs Ab cb w6 hSl hsl6 (by omega)
  rw [hrw'.out.wrC, hrw'.out.wrK] at hw0
  have hw0' := Lib.hid hw0
  have i4 : 4 ≤ Bs.length ∧ Bs.length ≤ 64 := by omega
  clear hw0 hm0' hRm hslb hOb dg hbg5 i1 i2 i3
  obtain ⟨hzl, z0, z1, z2⟩ := id hZ
  go_wp2_with fail
  clear hzl z0 z1 z2
  refine hw0'.out.mono ?_
  rintro e w7 ⟨vw, rfl, hb7, hRw⟩
  obtain ⟨Aw, cw, rfl, _⟩ := hRw.sl
  have hO7 := owns_onW hO6 hb7
  have hsl7 := (hsl6.below hb7).more hb7.size
  have hs7 := hb7.size
  replace hBc := bnext hBc hb7
  replace hZ := hZ.on hb7
  replace hSl := (hSl.below hb7).more hb7.size
  clear hw0' hRw hsl6 hO6
  go_wp2_with fail
  refine (r8At_any L1 A1 c1 W.heap.size 2 Bs.length w7 (s1'.out.below hBc) B1.out hl.2 (by omega) (by omega)).mono ?_
  rintro e w' ⟨r2, hr2, rfl, rfl⟩
  obtain ⟨k, rfl⟩ := Int.eq_ofNat_of_zero_le hr2.1
  have hk : k < Bs.length := by omega
  go_upto_region 17 with fail
  obtain ⟨gB, e1, hBs, hbB, hgBl⟩ : ∃ gB, Ab = some ⟨gB, 0, none⟩ ∧ Bs.length ≤ cb ∧ cb ≤ maxLen ∧ gB < w7.heap.size := by
    obtain ⟨_, ⟨_, h0⟩ | ⟨gB, cap, cur, hv9, _, hh, hn, hm, _⟩⟩ := hO7
    · omega
    · injection hv9 with h1 h2 h3
      subst h3
      exact ⟨gB, h1, hn, hm, (Array.getElem?_eq_some_iff.1 hh).1⟩
  subst e1
  have p1 : (0 : Int) ≤ (k : Int) ∧ (k : Int) ≤ (cb : Int) := by omega
  have p2 : (0 : Int) ≤ (k : Int) + 1 ∧ (k : Int) + 1 ≤ (Bs.length : Int) := by omega
  have p3 : (Bs.length : Int) ≤ (cb : Int) := by omega
  have p4 : IntKind.i64.wrap ((k : Int) + 1) = (k : Int) + 1 := IntWalk.i64_in _ (by omega)
  obtain ⟨j0, hj, je0, je1, je2⟩ := info_parts infoBu
  have hcB : ∀ j x, (flat RBuoy.cells Bs)[j]? = some x → w7.cell? ⟨gB, j, none⟩ = some x := by
    obtain ⟨b9, o9, e9, _, hc9⟩ := hsl7 (fun e => by have h := flat_len RBuoy.len Bs; rw [e] at h; simp at h; omega)
    cases e9
    intro j x hx
    have := hc9 j x hx
    rwa [Nat.zero_add] at this
  have hcB' := Lib.hid hcB
  clear hcB
  go_cut [16] (fun x wx => ∃ wz, wz = wx ∧ Below w7.heap.size w7 wz ∧ Rs wz w7.heap.size 66 3 x (Bs.take k ++ Bs.drop (k + 1)).length (flat RBuoy.cells (Bs.take k ++ Bs.drop (k + 1))))
  case first =>
    by_cases hcb : cb = k + 1
    · subst hcb
      have hBk := Lib.hid (show Bs.length = k + 1 by omega)
      have p5 : ¬ (k : Int) + 1 < (k : Int) := by omega
      have p6 : (Bs.length : Int) ≤ (k : Int) + 1 := by omega
      refine wp_region_held_drew (S := fun _ => True) (by kernel_rfl) True.intro (fun hHeld => ?_)
      refine wpAnyH_take (i := 1) (v := ?_) rfl (by kernel_rfl) (by kernel_rfl) (by kernel_rfl) (fun _ _ _ h => h) (Or.inl ⟨by rfl, ?_⟩) (by assumption) ?_
      rotate_left
      · (intro w9 hS9; go_simp; try (with_reducible rfl))
      try simp only [Act.put, List.setIfInBounds_toArray, List.set_cons_zero, List.set_cons_succ]
      refine wpAnyH_take (i := 2) (v := ?_) rfl (by kernel_rfl) (by kernel_rfl) (by kernel_rfl) (fun _ _ _ h => h) (Or.inl ⟨by rfl, ?_⟩) (by assumption) ?_
      rotate_left
      · (intro w9 hS9; go_simp; try (with_reducible rfl))
      try simp only [Act.put, List.setIfInBounds_toArray, List.set_cons_zero, List.set_cons_succ]
      refine wpAnyH_take (i := 5) (v := ?_) rfl (by kernel_rfl) (by kernel_rfl) (by kernel_rfl) (fun _ _ _ h => h) (Or.inl ⟨by rfl, ?_⟩) (by assumption) ?_
      rotate_left
      · (intro w9 hS9; go_simp; try (with_reducible rfl))
      try simp only [Act.put, List.setIfInBounds_toArray, List.set_cons_zero, List.set_cons_succ]
      refine wpAnyH_take (i := 6) (v := ?_) rfl (by kernel_rfl) (by kernel_rfl) (by kernel_rfl) (fun _ _ _ h => h) (Or.inl ⟨by rfl, ?_⟩) (by assumption) ?_
      rotate_left
      · (intro w9 hS9; go_simp; try (with_reducible rfl))
      try simp only [Act.put, List.setIfInBounds_toArray, List.set_cons_zero, List.set_cons_succ]
      refine wpAnyH_take (i := 7) (v := ?_) rfl (by kernel_rfl) (by kernel_rfl) (by kernel_rfl) (fun _ _ _ h => h) (Or.inl ⟨by rfl, ?_⟩) (by assumption) ?_
      rotate_left
      · (intro w9 hS9; go_simp; try (with_reducible rfl))
      try simp only [Act.put, List.setIfInBounds_toArray, List.set_cons_zero, List.set_cons_succ]
      refine wpAnyH_take (i := 3) (v := .slice (some ⟨gB, 0, none⟩) k (k + 1)) rfl (by kernel_rfl) (by kernel_rfl) (by kernel_rfl) (fun _ _ _ h => h) (Or.inl ⟨by rfl, ?_⟩) (by assumption) ?_
      · (intro w9 hS9; go_simp)
      try simp only [Act.put, List.setIfInBounds_toArray, List.set_cons_zero, List.set_cons_succ]
      refine wpAnyH_take (i := 8) (v := .slice (some ⟨gB, 0, none⟩) 0 0) rfl (by kernel_rfl) (by kernel_rfl) (by kernel_rfl) (fun _ _ _ h => h) (Or.inl ⟨by rfl, ?_⟩) (by assumption) ?_
      · (intro w9 hS9; go_simp)
      try simp only [Act.put, List.setIfInBounds_toArray, List.set_cons_zero, List.set_cons_succ]
      refine wpAnyH_ready (rs := [0]) (by kernel_rfl) (by simp) ?_
      refine AllReadyH.cons rfl (fun K hK => ?_) AllReadyH.nil
      go_simp
      have hal : Below w7.heap.size w7 ((w7.alloc (.cells #[] 66)).drew) := by go_grown
      have hOa := owns_onW (show (w7.alloc (.cells #[] 66)).ownsRow w7.heap.size 66 3 (.slice (some ⟨w7.heap.size, 0, none⟩) 0 0) 0 [] from World.ownsRow_made w7 #[] 0 (Nat.le_refl _) (Nat.zero_le _) rfl) (show Below _ _ ((w7.alloc (.cells #[] 66)).drew) by go_grown)
      have hsz : ((w7.alloc (.cells #[] 66)).drew).heap.size = w7.heap.size + 1 := by simp
      generalize (w7.alloc (.cells #[] 66)).drew = wa at hal hOa hsz ⊢
      refine hK.out _ _ True.intro (fun hHeld => ?_)
      clear hK K hHeld
      try simp only [List.getElem_toArray, List.getElem_cons_succ, List.getElem_cons_zero, Act.put, List.setIfInBounds_toArray, List.set_cons_zero, List.set_cons_succ]
      refine wpAnyH_ready (rs := [4]) (by kernel_rfl) (by simp) ?_
      refine AllReadyH.cons rfl (fun K hK => ?_) AllReadyH.nil
      refine step_append_own rfl _ _ 56 rfl w7.heap.size 66 j0 (.agg #[.int .i64 0, .int .i64 0, .int .i64 0]) 3 24 Try.underlying56 hj je0 je1 je2 rfl (by decide) _ 0 _ rfl hOa ⟨gB, 0, none⟩ k (k + 1) (flat RBuoy.cells (Bs.take k)) rfl (by rw [flat_len RBuoy.len, List.length_take, Nat.min_eq_left (by omega)]) (fun j x hx => by rw [Addr.add_lit]; exact ((bcell hal).1 _ _ hgBl).trans (by rw [Nat.zero_add]; exact hcB'.out _ _ (flat_take RBuoy.len Bs k hx))) (flat_one (fun a x hx => by simp [RBuoy.cells] at hx; rcases hx with rfl | rfl | rfl <;> rfl) _) (by unfold maxLen; omega) (by omega) (by omega) ?_
      intro v' wm hown' hgrow
      refine hK.out _ _ True.intro (fun hHeld => ?_)
      clear hK K hHeld
      try simp only [List.getElem_toArray, List.getElem_cons_succ, List.getElem_cons_zero, Act.put, List.setIfInBounds_toArray, List.set_cons_zero, List.set_cons_succ]
      refine wpAnyH_ready (rs := [9]) (by kernel_rfl) (by simp) ?_
      refine AllReadyH.cons rfl (fun K hK => ?_) AllReadyH.nil
      refine step_append_own rfl _ _ 56 rfl w7.heap.size 66 j0 (.agg #[.int .i64 0, .int .i64 0, .int .i64 0]) 3 24 Try.underlying56 hj je0 je1 je2 rfl (by decide) _ (0 + k) _ rfl hown' ⟨gB, 0, none⟩ (0) (0) (flat RBuoy.cells (Bs.drop (k + 1))) rfl (by rw [flat_len RBuoy.len, List.length_drop] <;> omega) (fun j x hx => (by rw [List.drop_eq_nil_of_le (by have := hBk.out; omega)] at hx; simp [flat] at hx)) (flat_one (fun a x hx => by simp [RBuoy.cells] at hx; rcases hx with rfl | rfl | rfl <;> rfl) _) (by unfold maxLen; omega) (by omega) (by have := hgrow.size; omega) ?_
      intro v'' wn hown'' hgrow2
      refine hK.out _ _ True.intro (fun hHeld => ?_)
      clear hK K hHeld
      try simp only [List.getElem_toArray, List.getElem_cons_succ, List.getElem_cons_zero, Act.put, List.setIfInBounds_toArray, List.set_cons_zero, List.set_cons_succ]
      refine wpAnyH_take (i := 10) (v := ?_) rfl (by kernel_rfl) (by kernel_rfl) (by kernel_rfl) (fun _ _ _ h => h) (Or.inl ⟨by rfl, ?_⟩) (by assumption) ?_
      rotate_left
      · (intro w9 hS9; go_simp; try (with_reducible rfl))
      try simp only [Act.put, List.setIfInBounds_toArray, List.set_cons_zero, List.set_cons_succ]
      try simp only [List.getElem_toArray, List.getElem_cons_succ, List.getElem_cons_zero, Act.put, List.setIfInBounds_toArray, List.set_cons_zero, List.set_cons_succ]
      refine wpAnyH_done (by kernel_rfl) ?_ _
      go_wp2_with fail
      go_meet
      have hbm : Below w7.heap.size w7 wm := hal.grown hgrow (by omega) (fun q e => by have e' : w7.heap.size = q := Option.some.inj e; omega)
      have hbn : Below w7.heap.size w7 wn := hbm.grown hgrow2 hbm.size (fun q e => (hown'.lt q e).1)
      refine ⟨_, rfl, hbn, ?_⟩
      have hR := Rs.of_owns hown''
      rw [show 0 + k + (0) = k + (Bs.length - (k + 1)) by omega, List.nil_append] at hR
      rw [flat_append, List.length_append, List.length_take, List.length_drop, Nat.min_eq_left (by omega)]
      exact hR
    · refine wp_region_held_drew (S := fun _ => True) (by kernel_rfl) True.intro (fun hHeld => ?_)
      refine wpAnyH_take (i := 1) (v := ?_) rfl (by kernel_rfl) (by kernel_rfl) (by kernel_rfl) (fun _ _ _ h => h) (Or.inl ⟨by rfl, ?_⟩) (by assumption) ?_
      rotate_left
      · (intro w9 hS9; go_simp; try (with_reducible rfl))
      try simp only [Act.put, List.setIfInBounds_toArray, List.set_cons_zero, List.set_cons_succ]
      refine wpAnyH_take (i := 2) (v := ?_) rfl (by kernel_rfl) (by kernel_rfl) (by kernel_rfl) (fun _ _ _ h => h) (Or.inl ⟨by rfl, ?_⟩) (by assumption) ?_
      rotate_left
      · (intro w9 hS9; go_simp; try (with_reducible rfl))
      try simp only [Act.put, List.setIfInBounds_toArray, List.set_cons_zero, List.set_cons_succ]
      refine wpAnyH_take (i := 5) (v := ?_) rfl (by kernel_rfl) (by kernel_rfl) (by kernel_rfl) (fun _ _ _ h => h) (Or.inl ⟨by rfl, ?_⟩) (by assumption) ?_
      rotate_left
      · (intro w9 hS9; go_simp; try (with_reducible rfl))
      try simp only [Act.put, List.setIfInBounds_toArray, List.set_cons_zero, List.set_cons_succ]
      refine wpAnyH_take (i := 6) (v := ?_) rfl (by kernel_rfl) (by kernel_rfl) (by kernel_rfl) (fun _ _ _ h => h) (Or.inl ⟨by rfl, ?_⟩) (by assumption) ?_
      rotate_left
      · (intro w9 hS9; go_simp; try (with_reducible rfl))
      try simp only [Act.put, List.setIfInBounds_toArray, List.set_cons_zero, List.set_cons_succ]
      refine wpAnyH_take (i := 7) (v := ?_) rfl (by kernel_rfl) (by kernel_rfl) (by kernel_rfl) (fun _ _ _ h => h) (Or.inl ⟨by rfl, ?_⟩) (by assumption) ?_
      rotate_left
      · (intro w9 hS9; go_simp; try (with_reducible rfl))
      try simp only [Act.put, List.setIfInBounds_toArray, List.set_cons_zero, List.set_cons_succ]
      refine wpAnyH_take (i := 3) (v := .slice (some ⟨gB, 0, none⟩) k (cb)) rfl (by kernel_rfl) (by kernel_rfl) (by kernel_rfl) (fun _ _ _ h => h) (Or.inl ⟨by rfl, ?_⟩) (by assumption) ?_
      · (intro w9 hS9; go_simp)
      try simp only [Act.put, List.setIfInBounds_toArray, List.set_cons_zero, List.set_cons_succ]
      refine wpAnyH_take (i := 8) (v := .slice (some ⟨gB, (k + 1) * 3, none⟩) (Bs.length - (k + 1)) (cb - (k + 1))) rfl (by kernel_rfl) (by kernel_rfl) (by kernel_rfl) (fun _ _ _ h => h) (Or.inl ⟨by rfl, ?_⟩) (by assumption) ?_
      · (intro w9 hS9; go_simp)
      try simp only [Act.put, List.setIfInBounds_toArray, List.set_cons_zero, List.set_cons_succ]
      refine wpAnyH_ready (rs := [0]) (by kernel_rfl) (by simp) ?_
      refine AllReadyH.cons rfl (fun K hK => ?_) AllReadyH.nil
      go_simp
      have hal : Below w7.heap.size w7 ((w7.alloc (.cells #[] 66)).drew) := by go_grown
      have hOa := owns_onW (show (w7.alloc (.cells #[] 66)).ownsRow w7.heap.size 66 3 (.slice (some ⟨w7.heap.size, 0, none⟩) 0 0) 0 [] from World.ownsRow_made w7 #[] 0 (Nat.le_refl _) (Nat.zero_le _) rfl) (show Below _ _ ((w7.alloc (.cells #[] 66)).drew) by go_grown)
      have hsz : ((w7.alloc (.cells #[] 66)).drew).heap.size = w7.heap.size + 1 := by simp
      generalize (w7.alloc (.cells #[] 66)).drew = wa at hal hOa hsz ⊢
      refine hK.out _ _ True.intro (fun hHeld => ?_)
      clear hK K hHeld
      try simp only [List.getElem_toArray, List.getElem_cons_succ, List.getElem_cons_zero, Act.put, List.setIfInBounds_toArray, List.set_cons_zero, List.set_cons_succ]
      refine wpAnyH_ready (rs := [4]) (by kernel_rfl) (by simp) ?_
      refine AllReadyH.cons rfl (fun K hK => ?_) AllReadyH.nil
      refine step_append_own rfl _ _ 56 rfl w7.heap.size 66 j0 (.agg #[.int .i64 0, .int .i64 0, .int .i64 0]) 3 24 Try.underlying56 hj je0 je1 je2 rfl (by decide) _ 0 _ rfl hOa ⟨gB, 0, none⟩ k (cb) (flat RBuoy.cells (Bs.take k)) rfl (by rw [flat_len RBuoy.len, List.length_take, Nat.min_eq_left (by omega)]) (fun j x hx => by rw [Addr.add_lit]; exact ((bcell hal).1 _ _ hgBl).trans (by rw [Nat.zero_add]; exact hcB'.out _ _ (flat_take RBuoy.len Bs k hx))) (flat_one (fun a x hx => by simp [RBuoy.cells] at hx; rcases hx with rfl | rfl | rfl <;> rfl) _) (by unfold maxLen; omega) (by omega) (by omega) ?_
      intro v' wm hown' hgrow
      refine hK.out _ _ True.intro (fun hHeld => ?_)
      clear hK K hHeld
      try simp only [List.getElem_toArray, List.getElem_cons_succ, List.getElem_cons_zero, Act.put, List.setIfInBounds_toArray, List.set_cons_zero, List.set_cons_succ]
      refine wpAnyH_ready (rs := [9]) (by kernel_rfl) (by simp) ?_
      refine AllReadyH.cons rfl (fun K hK => ?_) AllReadyH.nil
      refine step_append_own rfl _ _ 56 rfl w7.heap.size 66 j0 (.agg #[.int .i64 0, .int .i64 0, .int .i64 0]) 3 24 Try.underlying56 hj je0 je1 je2 rfl (by decide) _ (0 + k) _ rfl hown' ⟨gB, (k + 1) * 3, none⟩ (Bs.length - (k + 1)) ((cb - (k + 1))) (flat RBuoy.cells (Bs.drop (k + 1))) rfl (by rw [flat_len RBuoy.len, List.length_drop] <;> omega) (fun j x hx => (by rw [Addr.add_lit]; exact hgrow.cell (((bcell hal).1 _ _ hgBl).trans (hcB'.out _ _ (flat_drop RBuoy.len Bs (by omega) hx))) (fun e => by first | (have e' : gB = w7.heap.size := Option.some.inj e; omega) | (have e' : w7.heap.size = gB := Option.some.inj e; omega)))) (flat_one (fun a x hx => by simp [RBuoy.cells] at hx; rcases hx with rfl | rfl | rfl <;> rfl) _) (by unfold maxLen; omega) (by omega) (by have := hgrow.size; omega) ?_
      intro v'' wn hown'' hgrow2
      refine hK.out _ _ True.intro (fun hHeld => ?_)
      clear hK K hHeld
      try simp only [List.getElem_toArray, List.getElem_cons_succ, List.getElem_cons_zero, Act.put, List.setIfInBounds_toArray, List.set_cons_zero, List.set_cons_succ]
      refine wpAnyH_take (i := 10) (v := ?_) rfl (by kernel_rfl) (by kernel_rfl) (by kernel_rfl) (fun _ _ _ h => h) (Or.inl ⟨by rfl, ?_⟩) (by assumption) ?_
      rotate_left
      · (intro w9 hS9; go_simp; try (with_reducible rfl))
      try simp only [Act.put, List.setIfInBounds_toArray, List.set_cons_zero, List.set_cons_succ]
      try simp only [List.getElem_toArray, List.getElem_cons_succ, List.getElem_cons_zero, Act.put, List.setIfInBounds_toArray, List.set_cons_zero, List.set_cons_succ]
      refine wpAnyH_done (by kernel_rfl) ?_ _
      go_wp2_with fail
      go_meet
      have hbm : Below w7.heap.size w7 wm := hal.grown hgrow (by omega) (fun q e => by have e' : w7.heap.size = q := Option.some.inj e; omega)
      have hbn : Below w7.heap.size w7 wn := hbm.grown hgrow2 hbm.size (fun q e => (hown'.lt q e).1)
      refine ⟨_, rfl, hbn, ?_⟩
      have hR := Rs.of_owns hown''
      rw [show 0 + k + (Bs.length - (k + 1)) = k + (Bs.length - (k + 1)) by omega, List.nil_append] at hR
      rw [flat_append, List.length_append, List.length_take, List.length_drop, Nat.min_eq_left (by omega)]
      exact hR
  case rest =>
    obtain ⟨wx, rfl, hbx, hRc⟩ := hcut
    clear p1 p2 p3 p4 hO7
    have hmL : (Bs.take k ++ Bs.drop (k + 1)).length ≤ 1048576 := by rw [List.length_append, List.length_take, List.length_drop]; omega
    have hmc := hrw'.out.cutC k hk
    have hml := hrw'.out.cutL k hk
    generalize Bs.take k ++ Bs.drop (k + 1) = M at hRc hmL hmc hml
    obtain ⟨Ac, cc, rfl, hslc⟩ := hRc.sl
    obtain ⟨b9, o9, e9, _, he9⟩ := Sl.elem RBuoy.len (by decide) hsl7 hk
    cases e9
    obtain ⟨bq, hbq⟩ : ∃ bq, Bs[k] = bq := ⟨_, rfl⟩
    have hgk : Bs.getD k default = bq := by rw [← hbq, List.getD_eq_getElem?_getD, List.getElem?_eq_getElem hk]; rfl
    rw [hbq] at hml he9
    have r0 : w7.cell? ⟨gB, k * 3, none⟩ = some (.int .i64 bq.f0) := by have := he9 0 _ rfl; rwa [Nat.zero_add, Nat.add_zero] at this
    have r1 : w7.cell? ⟨gB, k * 3 + 1, none⟩ = some (.int .i64 bq.f1) := by have := he9 1 _ rfl; rwa [Nat.zero_add] at this
    have r2' : w7.cell? ⟨gB, k * 3 + 2, none⟩ = some (.int .i64 bq.f2) := by have := he9 2 _ rfl; rwa [Nat.zero_add] at this
    have hkd := hrw'.out.kind k hk
    rw [hgk] at hkd
    have hgk' := Lib.hid hgk
    clear he9 hbq hgk
    have hsx := hbx.size
    replace hBc := bnext hBc hbx
    replace hZ := hZ.on hbx
    replace hSl := (hSl.below hbx).more hbx.size
    have hm1 := hmi.out M Ac cc wx hSl hslc hmL
    rw [hmc, hml] at hm1
    have hm1' := Lib.hid hm1
    clear hm1 hmc hml hRc
    obtain ⟨hzl, z0, z1, z2⟩ := id hZ
    go_wp2_with fail
    clear hzl z0 z1 z2
    refine hm1'.out.mono ?_
    rintro e w8 ⟨vm1, rfl, hb8, hRm1⟩
    obtain ⟨Am1, cm1, rfl, hslm⟩ := hRm1.sl
    obtain ⟨bm, om, rfl, hbm, hem⟩ := Sl.elem RBuoy.len (by decide) hslm (show 0 < [bq].length by simp)
    have m0' : w8.cell? ⟨bm, om, none⟩ = some (.int .i64 bq.f0) := hem 0 _ rfl
    have m1' : w8.cell? ⟨bm, om + 1, none⟩ = some (.int .i64 bq.f1) := hem 1 _ rfl
    have m2' : w8.cell? ⟨bm, om + 2, none⟩ = some (.int .i64 bq.f2) := hem 2 _ rfl
    have hb78 : Below w7.heap.size w7 w8 := bnext hbx hb8
    replace r0 := keep_c r0 hgBl hb78
    replace r1 := keep_c r1 hgBl hb78
    replace r2' := keep_c r2' hgBl hb78
    have hs8 := hb8.size
    replace hBc := bnext hBc hb8
    replace hZ := hZ.on hb8
    replace hSl := (hSl.below hb8).more hb8.size
    have hcB8 := Lib.hid (fun j x hx => keep_c (hcB'.out j x hx) hgBl hb78)
    have hk1 : (0 : Int) ≤ (k : Int) ∧ (k : Int) < (Bs.length : Int) := by omega
    have hgB8 : gB < w8.heap.size := Nat.lt_of_lt_of_le hgBl hb78.size
    clear hem hslm hRm1 hm1' hcB' hb78
    go_upto_region 19 with fail
    go_cut [149] (fun v wx => v = .bool false ∧ ∃ wz, wz = wx ∧ Below w8.heap.size w8 wz)
    case first =>
      go_region
      all_goals go_wp2_with fail
      all_goals go_meet
      all_goals exact ⟨rfl, _, rfl, by go_grown⟩
    case rest =>
    obtain ⟨rfl, w9, rfl, hb9⟩ := hcut
    have hs9 := hb9.size
    replace hBc := bnext hBc hb9
    replace hZ := hZ.on hb9
    replace hSl := (hSl.below hb9).more hb9.size
    replace r2' := keep_c r2' hgB8 hb9
    have hcB9 := Lib.hid (fun j x hx => keep_c (hcB8.out j x hx) hgB8 hb9)
    have hgB9 : gB < w9.heap.size := Nat.lt_of_lt_of_le hgB8 hb9.size
    have hO9 : (w9.alloc (.cells #[] 66)).ownsRow w9.heap.size 66 3 (.slice (some ⟨w9.heap.size, 0, none⟩) 0 0) 0 [] := World.ownsRow_made w9 #[] 0 (Nat.le_refl _) (Nat.zero_le _) rfl
    clear r0 r1 r2' m0' m1' m2' hcB8 hgB8
    go_wp2_with (at_builtin; refine wpList_append_own _ rfl _ _ 56 rfl w9.heap.size 66 j0 (.agg #[.int .i64 0, .int .i64 0, .int .i64 0]) 3 24 Try.underlying56 hj je0 je1 je2 rfl (by decide) _ _ _ rfl hO9 ⟨gB, 0, none⟩ Bs.length cb (flat RBuoy.cells Bs) rfl ?zc1 ?zc2 ?zc3 ?zc4 ?zc5 ?zc6 ?_)
    case zc1 => rw [flat_len RBuoy.len]
    case zc2 => exact fun j x hx => by rw [Addr.add_lit, Nat.zero_add]; exact keep_c (hcB9.out j x hx) hgB9 (by go_grown)
    case zc3 => exact flat_one (fun a x hx => by simp [RBuoy.cells] at hx; rcases hx with rfl | rfl | rfl <;> rfl) _
    case zc4 => unfold maxLen; omega
    case zc5 => omega
    case zc6 => simp
    intro vL w10 hO10 hg10 _
    try rw [Nat.zero_add] at hO10
    try rw [List.nil_append] at hO10
    have hal9 : Below w9.heap.size w9 (w9.alloc (.cells #[] 66)) := by go_grown
    have hb10 : Below w9.heap.size w9 w10 := hal9.grown hg10 (by simp) (fun q e => by have e' : w9.heap.size = q := Option.some.inj e; omega)
    obtain ⟨gL, cL, rfl, hgL, hfL, hgLl⟩ : ∃ gL cL, vL = .slice (some ⟨gL, 0, none⟩) Bs.length cL ∧ w9.heap.size ≤ gL ∧ w10.frozen? ⟨gL, k * 3 + 2, none⟩ = false ∧ gL < w10.heap.size := by
      obtain ⟨_, ⟨_, h0⟩ | ⟨gL, cap, cur, hv9, hb9, hh, _⟩⟩ := id hO10
      · omega
      · exact ⟨gL, cap, hv9, hb9, by simp [World.frozen?, hh], (Array.getElem?_eq_some_iff.1 hh).1⟩
    obtain ⟨A5, c5, e5, hsL⟩ := (Rs.of_owns hO10).sl
    cases e5
    have hl2 : w10.cell? ⟨gL, k * 3 + 2, none⟩ = some (.int .i64 bq.f2) := by
      obtain ⟨b5, o5, e5, _, he5⟩ := Sl.elem RBuoy.len (by decide) hsL hk
      cases e5
      have hg := hgk'.out
      rw [List.getD_eq_getElem?_getD, List.getElem?_eq_getElem hk] at hg
      have hg' : Bs[k] = bq := hg
      rw [hg'] at he5
      have := he5 2 _ rfl
      rwa [Nat.zero_add] at this
    clear hO9 hal9 hg10 hO10
    have hkd1 : 1 ≤ bq.f2 := hkd.1
    have hkd2 : bq.f2 ≤ 2 := hkd.2
    go_upto_region 23 with fail
    refine wp_atB ?_
    intro w11 hw11
    have hb11 : Below w9.heap.size w9 w11 := by rw [hw11]; exact hb10.setCell hgL _
    have hsT : Sl w11 w11.heap.size (some ⟨gL, 0, none⟩) (flat RBuoy.cells (turnAt Bs k)) := by
      rw [hw11, ← flat_turn hk hgk'.out]
      exact sl_set hsL hgLl hl2
    clear hw11 hsL hl2 hfL hb10 hb9
    have hs11 := hb11.size
    replace hBc := bnext hBc hb11
    replace hZ := hZ.on hb11
    replace hSl := (hSl.below hb11).more hb11.size
    have hw1 := hwr.out (turnAt Bs k) (some ⟨gL, 0, none⟩) cL w11 hSl hsT (by rw [turnAt_len]; omega)
    rw [hrw'.out.trnC k hk, hrw'.out.trnK k hk, turnAt_len] at hw1
    have hw1' := Lib.hid hw1
    clear hw1
    obtain ⟨hzl, z0, z1, z2⟩ := id hZ
    go_wp2_with fail
    clear hzl z0 z1 z2
    refine hw1'.out.mono ?_
    rintro e w12 ⟨vw1, rfl, hb12, hRw1⟩
    obtain ⟨Aw1, cw1, rfl, hslw⟩ := hRw1.sl
    have hs12 := hb12.size
    replace hBc := bnext hBc hb12
    replace hZ := hZ.on hb12
    have hsm : ∀ (A A2 : Option Addr) (c c2 : Nat) (w : World), Sl w w.heap.size A (ints [(k : Int)]) → Sl w w.heap.size A2 (ints [(k : Int)]) → Calls Try.prog 38 #[.slice A 1 c, .slice A2 1 c2] w fun e w' => e = .returned (.bool true) ∧ Below w.heap.size w w' := fun A A2 c c2 w h h2 => r8Same_same [(k : Int)] A A2 c c2 w.heap.size w h h2 (Nat.le_refl _) (by simp)
    have hsm' := Lib.hid hsm
    have hslw' : Sl w12 w12.heap.size Aw1 (ints [(k : Int)]) := hslw
    clear hsm hslw hRw1 hw1'
    go_wp2_with fail
    refine (hsm'.out Aw1 (some ⟨w12.heap.size, 0, none⟩) cw1 1 _ ((hslw'.below (by go_grown)).more (by simp)) (by
      have h := Sl.new w12 #[.int .i64 (k : Int)] 2
      exact h.more (by simp))).mono ?_
    rintro e w13 ⟨rfl, hb13⟩
    have hb13' : Below w12.heap.size w12 w13 := bnext (by go_grown) hb13
    go_wp2
    go_ret
    exact ⟨rfl, bnext hBc hb13'⟩

theorem lifted (os : Os) (started : os.Started) (H : Type) (enc : TypeId × Value → H) :
    ReturnsInHanded {} Try.checked os 6 .any (Rows.fnRowsSpec.pre6 enc Try.prog Try.f6 Rows.fnRowsRow.domain false) (Rows.fnRowsSpec.post enc Try.prog Try.f6 false true false false) := by
  refine returnsInHanded_of_change (C := Try.checked) own started (by kernel_rfl) Try.func6
    (ChangeSpec.witness6 (enc := enc) (C := Try.checked) false ⟨#[], #[.slice none 0 0, .slice none 0 0], []⟩ 8 (by kernel_rfl) (by kernel_rfl) (by kernel_rfl) (by kernel_rfl)) ?_
  intro W base args ds gs before hval0 hW hcnd _
  have hval : ∀ (j : Nat) t v, Try.f6.params[j]? = some t → args[j]? = some v → Value.okWide Try.prog W .any base t v := hval0
  have hW' := hW
  obtain ⟨p, q, hA0, hV, rfl, hfz, hnd⟩ := hW
  have hA : DataW.TrodAll enc Try.prog W 0 (fun _ => true) true Try.f6.params.toList args.toList ds p := hA0
  rw [Try.params6] at hA hval
  obtain ⟨v0, vs0, d0, ds0, p0, q0, hargs, rfl, rfl, h0, r0⟩ := trodAll_cons hA
  obtain ⟨v1, vs1, d1, ds1, p1, q1, rfl, rfl, rfl, h1, r1⟩ := trodAll_cons r0
  obtain ⟨rfl, rfl, rfl⟩ := trodAll_nil r1
  obtain rfl : args = #[v0, v1] := by cases args; simp_all
  have g0 := h0
  have g1 := h1
  obtain ⟨rfl, rfl⟩ := trodVars_none hV
  clear hA0 hval0
  simp only [List.append_nil] at hW'
  have hlt : ∀ x ∈ p0 ++ (p1), x.block < W.heap.size := fun x hx => by simpa using hW'.lt x (by simpa using hx)
  obtain ⟨fu0, hf0⟩ := h0
  obtain ⟨A0, c0, L0, hv0, s0, b0, m0⟩ := open_row8 Try.underlying28 Try.underlying5 (by kernel_rfl) hf0
  obtain ⟨va0, vl0, vc0, rfl⟩ := Go.WideShapes.okWide_slice Try.underlying28 (hval 0 28 _ rfl rfl)
  obtain ⟨rfl, rfl, rfl⟩ : A0 = va0 ∧ L0.length = vl0 ∧ c0 = vc0 := by have := hv0; simp [Value.cells] at this; exact ⟨this.1.symm, this.2.1.symm, this.2.2.symm⟩
  obtain ⟨fu1, hf1⟩ := h1
  obtain ⟨A1, c1, L1, hv1, s1, b1, m1⟩ := open_row8 Try.underlying28 Try.underlying5 (by kernel_rfl) hf1
  obtain ⟨va1, vl1, vc1, rfl⟩ := Go.WideShapes.okWide_slice Try.underlying28 (hval 1 28 _ rfl rfl)
  obtain ⟨rfl, rfl, rfl⟩ : A1 = va1 ∧ L1.length = vl1 ∧ c1 = vc1 := by have := hv1; simp [Value.cells] at this; exact ⟨this.1.symm, this.2.1.symm, this.2.2.symm⟩
  refine (walk W A0 c0 L0 s0 b0 m0 A1 c1 L1 s1 b1 m1).mono fun e W' ⟨he, hg⟩ => ?_
  subst he
  exact ⟨_, rfl, post_below (pa := _) hW' (trodAll_cons_mk (shut_bool Try.underlying4 _) trodAll_mk0) (trodAll_cons_mk (Below.trod laidOut (by kernel_rfl) (of_decide_eq_true (by kernel_rfl)) g0 hg (fun x hx => hlt x (by simp [hx]))) (trodAll_cons_mk (Below.trod laidOut (by kernel_rfl) (of_decide_eq_true (by kernel_rfl)) g1 hg (fun x hx => hlt x (by simp [hx]))) trodAll_mk0)) rfl (by simp) hg⟩

theorem over : Rows.fnRowsRow.holds Try.pinned (OpenSpec.ofChange Rows.fnRowsSpec) :=
  OpenClaim.holds_of_wide 6 Try.f6 rfl rfl rfl rfl rfl rfl rfl ⟨rfl, rfl, rfl, rfl, rfl⟩ rfl rfl rfl rfl rfl (by kernel_rfl) Try.func6 (by kernel_rfl)
    (of_decide_eq_true (by kernel_rfl)) (by unfold Func.isWrapper; first | (rw [if_pos (by decide +kernel)]; kernel_rfl) | (rw [if_neg (by decide +kernel)]; exact ⟨rfl, rfl⟩))
    (fun os started H enc _ => lifted os started H enc)

theorem proved : Rows.FnRowsSaid := over
#print axioms proved
end fnRows

end Go.Proofs.Ytlflefnjoeappaa
