/-
  Contracts of gates: the program's and the reference's. Under the conditions that each states.
-/
import Derived.Test.YtlflefnjoeappaaAlong
import Derived.Test.YtlflefnjoeappaaSetN
set_option linter.unusedVariables false
set_option linter.unnecessarySimpa false
set_option maxRecDepth 100000
set_option linter.unusedSimpArgs false
namespace Go.Proofs.Ytlflefnjoeappaa
open Go.RowKit BigFrame

theorem wing_bd {u v wd n : Int} (hu : 0 ≤ u ∧ u ≤ 200000) (hv : 0 ≤ v ∧ v ≤ 200000) (hw : 10 ≤ wd ∧ wd ≤ 5000) (hn : 1 ≤ n) : (-500000000 ≤ (v - u) * (wd / 2) ∧ (v - u) * (wd / 2) ≤ 500000000) ∧ -500000001 ≤ wingX u v (wd / 2) n ∧ wingX u v (wd / 2) n ≤ 500000001 := by
  have k := mul_bd (x := v - u) (y := wd / 2) (B := 200000) (C := 2500) (by omega) (by omega) (by omega) (by omega)
  have := divR_bd (a := (v - u) * (wd / 2)) (b := n) (A := 500000000) hn (by omega) (by omega)
  unfold wingX
  omega
theorem place_bd {P : List RPoint} {d : Int} (h2 : 2 ≤ P.length) (hvl : vLine P = true) (h0 : 0 ≤ d) (hd : d ≤ lenM P) : (0 ≤ (placeM P d).1 ∧ (placeM P d).1 ≤ 200000) ∧ 0 ≤ (placeM P d).2 ∧ (placeM P d).2 ≤ 200000 := by
  have hf := fndM_spec h2 h0 hd
  unfold placeM partM
  have a := line_in hvl (fndM P d).1
  have b := line_in hvl ((fndM P d).1 + 1)
  exact btw_in (line_ne hvl (by omega)) hf.2.2.1 hf.2.2.2 a.1 a.2 b.1 b.2
/-- A gate, by its parts. -/
theorem gate_is {P : List RPoint} {wd d n : Int} {k : Nat} {p a : RPoint} {V : Int × Int} (hk : (fndM P d).1 = k) (hp : P.getD k default = p) (ha : P.getD (k + 1) default = a) (hn : segD P k = n) (hV : placeM P d = V) :
    gateM P wd d = ⟨d, V.1 - wingX p.f1 a.f1 (wd / 2) n, V.2 + wingX p.f0 a.f0 (wd / 2) n, V.1 + wingX p.f1 a.f1 (wd / 2) n, V.2 - wingX p.f0 a.f0 (wd / 2) n⟩ := by
  unfold gateM gX gY
  rw [hk, hV, hp, ha, hn]
set_option maxHeartbeats 3200000 in
theorem impl_gate (s : ByteArray) (P : List RPoint) (A : Option Addr) (c B : Nat) (wd d : Int) (w : World) (hP : Sl w B A (flat RPoint.cells P)) (hB : B ≤ w.heap.size) (hl : P.length ≤ 1048576) (h2 : 2 ≤ P.length) (hvl : vLine P = true) (hwd : 10 ≤ wd ∧ wd ≤ 5000) (hd : 0 ≤ d ∧ d ≤ lenM P) :
    Calls Try.prog 84 #[.agg #[.string s, .slice A P.length c, .int .i64 wd], .int .i64 d] w fun e w' => e = .returned (.agg #[.int .i64 (gateM P wd d).f0, .int .i64 (gateM P wd d).f1, .int .i64 (gateM P wd d).f2, .int .i64 (gateM P wd d).f3, .int .i64 (gateM P wd d).f4]) ∧ Below w.heap.size w w' := by
  obtain ⟨b, o, rfl, hbB, _⟩ := Sl.elem RPoint.len (by decide) hP (show 0 < P.length by omega)
  have hP' := Lib.hid hP
  have hvl' := Lib.hid hvl
  have hf := fndM_spec h2 hd.1 hd.2
  obtain ⟨k, hk⟩ : ∃ k, (fndM P d).1 = k := ⟨_, rfl⟩
  rw [hk] at hf
  have hkl : k + 1 < P.length := by have := hf.1; omega
  have hs1 := line_ne hvl hkl
  have hsl := seg_le hvl k
  clear hf
  obtain ⟨p, hp⟩ : ∃ p, P.getD k default = p := ⟨_, rfl⟩
  obtain ⟨a, ha⟩ : ∃ a, P.getD (k + 1) default = a := ⟨_, rfl⟩
  have hvp := line_in hvl k
  have hva := line_in hvl (k + 1)
  rw [hp] at hvp
  rw [ha] at hva
  have hpb := place_bd h2 hvl hd.1 hd.2
  have hG := Lib.hid (gate_is (wd := wd) hk hp ha rfl rfl)
  have hsg := seg_is hp ha
  have k1 := wing_bd hvp.2 hva.2 hwd hs1
  have k2 := wing_bd hvp.1 hva.1 hwd hs1
  have hq := fun w => impl_Distance p.f0 p.f1 a.f0 a.f1 w hvp.1 hvp.2 hva.1 hva.2
  rw [← hsg] at hq
  have hal := fun w (h : Sl w B (some ⟨b, o, none⟩) (flat RPoint.cells P)) (hB : B ≤ w.heap.size) => impl_along s P (some ⟨b, o, none⟩) c B wd d w h hB hl h2 hvl hd
  rw [hk, hp, ha] at hal
  have hd1 : ∀ w, Calls Try.prog 133 #[.int .i64 ((a.f1 - p.f1) * (wd / 2)), .int .i64 (segD P k)] w fun e w' => e = .returned (.int .i64 (wingX p.f1 a.f1 (wd / 2) (segD P k))) ∧ w = w' := fun w => impl_divRound _ _ _ (by omega) (by omega) (by omega) (by omega) (by omega)
  have hd2 : ∀ w, Calls Try.prog 133 #[.int .i64 ((a.f0 - p.f0) * (wd / 2)), .int .i64 (segD P k)] w fun e w' => e = .returned (.int .i64 (wingX p.f0 a.f0 (wd / 2) (segD P k))) ∧ w = w' := fun w => impl_divRound _ _ _ (by omega) (by omega) (by omega) (by omega) (by omega)
  clear hk hp ha hsg
  generalize placeM P d = V at hpb hG hal
  generalize segD P k = n at *
  generalize wingX p.f1 a.f1 (wd / 2) n = gx at *
  generalize wingX p.f0 a.f0 (wd / 2) n = gy at *
  have hal' := Lib.hid hal
  have hZ0 := Lib.hid (Cz.new w s (some ⟨b, o, none⟩) P.length c wd 49)
  have hE0 := Lib.hid (En.new (w.alloc (.cells #[.string s, .slice (some ⟨b, o, none⟩) P.length c, .int .i64 wd] 49)) #[.int .i64 0, .int .i64 0, .int .i64 0, .int .i64 0, .int .i64 0] 60)
  clear hP hvl hal
  go_enter Try.func84, Try.ntmps84
  go_wp2_with fail
  refine (hal'.out _ (hP'.out.below ((show Below w.heap.size w _ by go_grown).mono hB)) (by simp; omega)).mono ?_
  rintro e w1 ⟨rfl, hb1⟩
  have hZ1 := (hZ0.out.on (show Below _ _ ((w.alloc (.cells #[.string s, .slice (some ⟨b, o, none⟩) P.length c, .int .i64 wd] 49)).alloc (.cells #[.int .i64 0, .int .i64 0, .int .i64 0, .int .i64 0, .int .i64 0] 60)) by go_grown)).on hb1
  have hE1 := hE0.out.on hb1
  have hB1 := bnext (show Below w.heap.size w _ by go_grown) hb1
  simp only [World.size_alloc] at hE1
  clear hb1 hE0 hZ0
  go_wp2_with fail
  refine wp_atB ?_
  intro w2 hw2
  have hal2 : Below w1.heap.size w1 w2 := by rw [hw2]; go_grown
  have c0 : PtB w2 w1.heap.size V.1 V.2 := by rw [hw2]; exact ⟨by simp; omega, by simp [go_sem], by simp [go_sem]⟩
  have c1 : PtB w2 (w1.heap.size + 1) p.f0 p.f1 := by rw [hw2]; exact ⟨by simp, by simp [go_sem], by simp [go_sem]⟩
  have c2 : PtB w2 (w1.heap.size + 1 + 1) a.f0 a.f1 := by rw [hw2]; exact ⟨by simp, by simp [go_sem], by simp [go_sem]⟩
  clear hw2
  have hB2 := bnext hB1 hal2
  have hZ2 := hZ1.on hal2
  have hE2 := hE1.on hal2
  obtain ⟨hzl, z0, z1, z2⟩ := id hZ2
  obtain ⟨l0, m0, m1⟩ := id c0
  obtain ⟨l1, n0, n1⟩ := id c1
  obtain ⟨l2, o0, o1⟩ := id c2
  clear hB1 hZ1 hE1 hal2
  refine wp_region_grew (by kernel_rfl) (by kernel_rfl) ?_
  repeat (first | (go_big_quiet_step ((first | (go_at_call 93; exact grew_of (hq _)) | (go_at_call 133; exact grew_same (hd1 _))))) | (quiet_step ((first | (go_at_call 93; exact grew_of (hq _)) | (go_at_call 133; exact grew_same (hd1 _))))))
  refine wpQuiet_nil ?_
  rintro w9 ⟨⟨w8, hb9⟩, rfl⟩
  try dsimp only
  obtain ⟨hc9, hf9⟩ := bcell hb9
  have hB9 := bnext hB2 hb9
  have hZ9 := hZ2.on hb9
  have hE9 := hE2.on hb9
  replace c0 := c0.on hb9
  replace c1 := c1.on hb9
  replace c2 := c2.on hb9
  clear hzl z0 z1 z2 l0 m0 m1 l1 n0 n1 l2 o0 o1 hc9 hf9 hb9 hB2 hZ2 hE2
  obtain ⟨hzl, z0, z1, z2⟩ := id hZ9
  obtain ⟨l0, m0, m1⟩ := id c0
  obtain ⟨l1, n0, n1⟩ := id c1
  obtain ⟨l2, o0, o1⟩ := id c2
  go_wp2_with fail
  refine wp_region_grew (by kernel_rfl) (by kernel_rfl) ?_
  repeat (first | (go_big_quiet_step ((first | (go_at_call 93; exact grew_of (hq _)) | (go_at_call 133; exact grew_same (hd2 _))))) | (quiet_step ((first | (go_at_call 93; exact grew_of (hq _)) | (go_at_call 133; exact grew_same (hd2 _))))))
  refine wpQuiet_nil ?_
  rintro w10 ⟨⟨w8, hb10⟩, rfl⟩
  try dsimp only
  obtain ⟨hc10, hf10⟩ := bcell hb10
  have hB10 := bnext hB9 hb10
  have hE10 := hE9.on hb10
  replace c0 := c0.on hb10
  clear hzl z0 z1 z2 l0 m0 m1 l1 n0 n1 l2 o0 o1 hc10 hf10 hb10 hB9 hZ9 hE9 c1 c2 hq hd1 hd2
  obtain ⟨l0, m0, m1⟩ := id c0
  obtain ⟨⟨u0, x0⟩, y0⟩ := hE10.at (k := 0) (by simp)
  obtain ⟨⟨u1, x1⟩, y1⟩ := hE10.at (k := 1) (by simp)
  obtain ⟨⟨u2, x2⟩, y2⟩ := hE10.at (k := 2) (by simp)
  obtain ⟨⟨u3, x3⟩, y3⟩ := hE10.at (k := 3) (by simp)
  obtain ⟨⟨u4, x4⟩, y4⟩ := hE10.at (k := 4) (by simp)
  have hE' : En w10 (w.heap.size + 1) 5 := hE10
  clear hE10
  go_wp2
  refine end_atA ?_
  intro wf hwf
  have hr := hE'.read (vs := [.int .i64 d, .int .i64 (V.1 - gx), .int .i64 (V.2 + gy), .int .i64 (V.1 + gx), .int .i64 (V.2 - gy)]) hwf
  have hBf : Below w.heap.size w wf := by rw [hwf]; exact ((((hB10.setCell (by simp) _).setCell (by simp) _).setCell (by simp) _).setCell (by simp) _).setCell (by simp) _
  have t0 := hr 0 _ rfl
  have t1 := hr 1 _ rfl
  have t2 := hr 2 _ rfl
  have t3 := hr 3 _ rfl
  have t4 := hr 4 _ rfl
  clear hwf hr x0 x1 x2 x3 x4
  refine bodyPost_ret (by simp [results, Try.results84, go_sem, t0, t1, t2, t3, t4]; try rfl) rfl ?_
  exact ⟨by rw [hG.out], hBf⟩
set_option maxHeartbeats 3200000 in
theorem spec_Gate (s : ByteArray) (P : List RPoint) (A : Option Addr) (c B g : Nat) (wd d : Int) (w : World) (hZ0 : Cz w g s A P.length c wd) (hP : Sl w B A (flat RPoint.cells P)) (hB : B ≤ w.heap.size) (hl : P.length ≤ 1048576) (h2 : 2 ≤ P.length) (hvl : vLine P = true) (hwd : 10 ≤ wd ∧ wd ≤ 5000) (hd : 0 ≤ d ∧ d ≤ lenM P) :
    Calls Try.prog 210 #[.pointer (some ⟨g, 0, none⟩), .int .i64 d] w fun e w' => e = .returned (.agg #[.int .i64 (gateM P wd d).f0, .int .i64 (gateM P wd d).f1, .int .i64 (gateM P wd d).f2, .int .i64 (gateM P wd d).f3, .int .i64 (gateM P wd d).f4]) ∧ Below w.heap.size w w' := by
  obtain ⟨b, o, rfl, hbB, _⟩ := Sl.elem RPoint.len (by decide) hP (show 0 < P.length by omega)
  have hP' := Lib.hid hP
  have hvl' := Lib.hid hvl
  have hf := fndM_spec h2 hd.1 hd.2
  obtain ⟨k, hk⟩ : ∃ k, (fndM P d).1 = k := ⟨_, rfl⟩
  rw [hk] at hf
  have hkl : k + 1 < P.length := by have := hf.1; omega
  have hs1 := line_ne hvl hkl
  have hsl := seg_le hvl k
  clear hf
  obtain ⟨p, hp⟩ : ∃ p, P.getD k default = p := ⟨_, rfl⟩
  obtain ⟨a, ha⟩ : ∃ a, P.getD (k + 1) default = a := ⟨_, rfl⟩
  have hvp := line_in hvl k
  have hva := line_in hvl (k + 1)
  rw [hp] at hvp
  rw [ha] at hva
  have hpb := place_bd h2 hvl hd.1 hd.2
  have hG := Lib.hid (gate_is (wd := wd) hk hp ha rfl rfl)
  have hsg := seg_is hp ha
  have k1 := wing_bd hvp.2 hva.2 hwd hs1
  have k2 := wing_bd hvp.1 hva.1 hwd hs1
  have hq := fun w => spec_Apart p.f0 p.f1 a.f0 a.f1 w hvp.1 hvp.2 hva.1 hva.2
  rw [← hsg] at hq
  have hfi := fun w (h : Sl w B (some ⟨b, o, none⟩) (flat RPoint.cells P)) (hB : B ≤ w.heap.size) => spec_Find P (some ⟨b, o, none⟩) c B d w h hB hl h2 hvl hd
  rw [hk] at hfi
  have hpl := fun w (h : Sl w B (some ⟨b, o, none⟩) (flat RPoint.cells P)) (hB : B ≤ w.heap.size) => spec_Place P (some ⟨b, o, none⟩) c B d w h hB hl h2 hvl hd
  have hd1 : ∀ w, Calls Try.prog 222 #[.int .i64 ((a.f1 - p.f1) * (wd / 2)), .int .i64 (segD P k)] w fun e w' => e = .returned (.int .i64 (wingX p.f1 a.f1 (wd / 2) (segD P k))) ∧ w = w' := fun w => spec_Div _ _ _ (by omega) (by omega) (by omega) (by omega) (by omega)
  have hd2 : ∀ w, Calls Try.prog 222 #[.int .i64 ((a.f0 - p.f0) * (wd / 2)), .int .i64 (segD P k)] w fun e w' => e = .returned (.int .i64 (wingX p.f0 a.f0 (wd / 2) (segD P k))) ∧ w = w' := fun w => spec_Div _ _ _ (by omega) (by omega) (by omega) (by omega) (by omega)
  have cp : ∀ w', Below w.heap.size w w' → (w'.cell? ⟨b, o + k * 2, none⟩ = some (.int .i64 p.f0) ∧ w'.cell? ⟨b, o + k * 2 + 1, none⟩ = some (.int .i64 p.f1)) ∧ w'.cell? ⟨b, o + (k + 1) * 2, none⟩ = some (.int .i64 a.f0) ∧ w'.cell? ⟨b, o + (k + 1) * 2 + 1, none⟩ = some (.int .i64 a.f1) := fun w' h => by
    have hs' := hP.below (h.mono hB)
    obtain ⟨b1, o1, e1, hb, he⟩ := Sl.elem RPoint.len (by decide) hs' hkl
    cases e1
    obtain ⟨b2, o2, e2, hb2, he2⟩ := Sl.elem RPoint.len (by decide) hs' (show k < P.length by omega)
    cases e2
    have ep : P[k] = p := (getD_at (show k < P.length by omega)).symm.trans hp
    have ea : P[k + 1] = a := (getD_at hkl).symm.trans ha
    rw [ea] at he
    rw [ep] at he2
    exact ⟨⟨by have := he2 0 _ rfl; simpa [Nat.add_assoc] using this, by have := he2 1 _ rfl; simpa [Nat.add_assoc] using this⟩, by have := he 0 _ rfl; simpa [Nat.add_assoc] using this, by have := he 1 _ rfl; simpa [Nat.add_assoc] using this⟩
  have hc' := Lib.hid cp
  clear hk hp ha hsg cp
  generalize placeM P d = V at hpb hG hpl
  generalize segD P k = n at *
  generalize wingX p.f1 a.f1 (wd / 2) n = gx at *
  generalize wingX p.f0 a.f0 (wd / 2) n = gy at *
  have hfi' := Lib.hid hfi
  have hpl' := Lib.hid hpl
  have hE0 := Lib.hid (En.new w #[.int .i64 0, .int .i64 0, .int .i64 0, .int .i64 0, .int .i64 0] 60)
  have hbw : b < w.heap.size := by omega
  clear hP hvl hfi hpl
  obtain ⟨hzl, z0, z1, z2⟩ := id hZ0
  have hki : (k : Int) + 1 < (P.length : Int) := by omega
  go_enter Try.func210, Try.ntmps210
  go_wp2_with fail
  refine (hfi'.out _ (hP'.out.below ((show Below w.heap.size w _ by go_grown).mono hB)) (by simp; omega)).mono ?_
  rintro e w1 ⟨rfl, hb1⟩
  have hE1 := hE0.out.on hb1
  have hB1 := bnext (show Below w.heap.size w _ by go_grown) hb1
  have hZ1 := hZ0.on hB1
  have hbw1 : b < w1.heap.size := Nat.lt_of_lt_of_le hbw hB1.size
  clear hb1 hE0 hzl z0 z1 z2
  obtain ⟨hzl, z0, z1, z2⟩ := id hZ1
  obtain ⟨⟨n0, n1⟩, d0, d1⟩ := hc'.out _ hB1
  go_wp2_with fail
  refine (hq _).mono ?_
  rintro e w2 ⟨rfl, hb2⟩
  have hal2 : Below w1.heap.size w1 w2 := bnext (show Below w1.heap.size w1 _ by go_grown) hb2
  have c1 : PtB w2 w1.heap.size p.f0 p.f1 := by
    refine PtB.on ?_ hb2
    exact ⟨by simp; omega, by simp [go_sem], by simp [go_sem]⟩
  have c2 : PtB w2 (w1.heap.size + 1) a.f0 a.f1 := by
    refine PtB.on ?_ hb2
    exact ⟨by simp, by simp [go_sem], by simp [go_sem]⟩
  have hE2 := hE1.on hal2
  have hB2 := bnext hB1 hal2
  have hZ2 := hZ0.on hB2
  clear hb2 hal2 hzl z0 z1 z2 hE1 hZ1 n0 n1 d0 d1 hq hbw1
  obtain ⟨hzl, z0, z1, z2⟩ := id hZ2
  go_wp2_with fail
  refine (hpl'.out _ (hP'.out.below (hB2.mono hB)) (Nat.le_trans hB hB2.size)).mono ?_
  rintro e w3 ⟨rfl, hb3⟩
  have hE3 := hE2.on hb3
  have hB3 := bnext hB2 hb3
  have hZ3 := hZ0.on hB3
  replace c1 := c1.on hb3
  replace c2 := c2.on hb3
  clear hb3 hzl z0 z1 z2 hE2 hZ2
  go_wp2_with fail
  refine wp_atB ?_
  intro w4 hw4
  have hal4 : Below w3.heap.size w3 w4 := by rw [hw4]; go_grown
  have c0 : PtB w4 w3.heap.size V.1 V.2 := by rw [hw4]; exact ⟨by simp, by simp [go_sem], by simp [go_sem]⟩
  clear hw4
  replace c1 := c1.on hal4
  replace c2 := c2.on hal4
  have hE4 := hE3.on hal4
  have hB4 := bnext hB3 hal4
  have hZ4 := hZ0.on hB4
  obtain ⟨hzl, z0, z1, z2⟩ := id hZ4
  obtain ⟨l0, m0, m1⟩ := id c0
  obtain ⟨l1, n0, n1⟩ := id c1
  obtain ⟨l2, o0, o1⟩ := id c2
  clear hal4 hB3 hE3 hZ3
  refine wp_region_grew (by kernel_rfl) (by kernel_rfl) ?_
  repeat (first | (go_big_quiet_step ((first | (go_at_call 222; exact grew_same (hd1 _))))) | (quiet_step ((first | (go_at_call 222; exact grew_same (hd1 _))))))
  refine wpQuiet_nil ?_
  rintro w9 ⟨⟨w8, hb9⟩, rfl⟩
  try dsimp only
  obtain ⟨hc9, hf9⟩ := bcell hb9
  have hB9 := bnext hB4 hb9
  have hZ9 := hZ0.on hB9
  have hE9 := hE4.on hb9
  replace c0 := c0.on hb9
  replace c1 := c1.on hb9
  replace c2 := c2.on hb9
  clear hzl z0 z1 z2 l0 m0 m1 l1 n0 n1 l2 o0 o1 hc9 hf9 hb9 hB4 hZ4 hE4
  obtain ⟨hzl, z0, z1, z2⟩ := id hZ9
  obtain ⟨l0, m0, m1⟩ := id c0
  obtain ⟨l1, n0, n1⟩ := id c1
  obtain ⟨l2, o0, o1⟩ := id c2
  go_wp2_with fail
  refine wp_region_grew (by kernel_rfl) (by kernel_rfl) ?_
  repeat (first | (go_big_quiet_step ((first | (go_at_call 222; exact grew_same (hd2 _))))) | (quiet_step ((first | (go_at_call 222; exact grew_same (hd2 _))))))
  refine wpQuiet_nil ?_
  rintro w10 ⟨⟨w8, hb10⟩, rfl⟩
  try dsimp only
  obtain ⟨hc10, hf10⟩ := bcell hb10
  have hB10 := bnext hB9 hb10
  have hE10 := hE9.on hb10
  replace c0 := c0.on hb10
  clear hzl z0 z1 z2 l0 m0 m1 l1 n0 n1 l2 o0 o1 hc10 hf10 hb10 hB9 hZ9 hE9 c1 c2 hd1 hd2
  obtain ⟨l0, m0, m1⟩ := id c0
  obtain ⟨⟨u0, x0⟩, y0⟩ := hE10.at (k := 0) (by simp)
  obtain ⟨⟨u1, x1⟩, y1⟩ := hE10.at (k := 1) (by simp)
  obtain ⟨⟨u2, x2⟩, y2⟩ := hE10.at (k := 2) (by simp)
  obtain ⟨⟨u3, x3⟩, y3⟩ := hE10.at (k := 3) (by simp)
  obtain ⟨⟨u4, x4⟩, y4⟩ := hE10.at (k := 4) (by simp)
  have hE' : En w10 w.heap.size 5 := hE10
  clear hE10
  go_wp2
  refine end_atA ?_
  intro wf hwf
  have hr := hE'.read (vs := [.int .i64 d, .int .i64 (V.1 - gx), .int .i64 (V.2 + gy), .int .i64 (V.1 + gx), .int .i64 (V.2 - gy)]) hwf
  have hBf : Below w.heap.size w wf := by rw [hwf]; exact ((((hB10.setCell (by simp) _).setCell (by simp) _).setCell (by simp) _).setCell (by simp) _).setCell (by simp) _
  have t0 := hr 0 _ rfl
  have t1 := hr 1 _ rfl
  have t2 := hr 2 _ rfl
  have t3 := hr 3 _ rfl
  have t4 := hr 4 _ rfl
  clear hwf hr x0 x1 x2 x3 x4
  refine bodyPost_ret (by simp [results, Try.results210, go_sem, t0, t1, t2, t3, t4]; try rfl) rfl ?_
  exact ⟨by rw [hG.out], hBf⟩
end Go.Proofs.Ytlflefnjoeappaa
