/-
  Contracts of channels read from texts: the program's and the reference's. Under the conditions that each states.
-/
import Derived.Test.YtbikppndhidbpaaDoorRdC
import Derived.Lib.BufferOwn
set_option linter.unusedVariables false
set_option linter.unnecessarySimpa false
set_option maxRecDepth 100000
set_option linter.unusedSimpArgs false
namespace Go.Proofs.YtbikppndhidbpaaDoor
open Go.RowKit BigFrame

/-- What reading a channel leaves. -/
def CrPost (L : List UInt8) (w : World) (e : Ending) (w' : World) : Prop := ∃ v, e = .returned (.tuple #[.agg #[.string (crS L), v, .int .i64 (crW L)], .bool (crOk L)]) ∧ Below w.heap.size w w' ∧ Rs w' w.heap.size 38 2 v (crP L).length (flat RPoint.cells (crP L))
/-- A channel that is built in memory: its line is not laid yet. -/
def Cq (w : World) (n : Nat) (s : ByteArray) (v : Value) (wd : Int) : Prop := n < w.heap.size ∧ (w.cell? ⟨n, 0, none⟩ = some (.string s) ∧ w.cell? ⟨n, 1, none⟩ = some v ∧ w.cell? ⟨n, 2, none⟩ = some (.int .i64 wd)) ∧ w.frozen? ⟨n, 1, none⟩ = false
theorem Cq.on {w w' : World} {n : Nat} {s : ByteArray} {v : Value} {wd : Int} (h : Cq w n s v wd) (hb : Below w.heap.size w w') : Cq w' n s v wd := by
  obtain ⟨h1, ⟨c0, c1, c2⟩, f⟩ := h
  obtain ⟨hc, hf⟩ := bcell hb
  exact ⟨Nat.lt_of_lt_of_le h1 hb.size, ⟨(hc _ _ h1).trans c0, (hc _ _ h1).trans c1, (hc _ _ h1).trans c2⟩, (hf _ _ h1).trans f⟩
theorem frozen_far {w w' : World} {row : Option Nat} {n k : Nat} (hg : w.grownBy w' row) (hl : n < w.heap.size) (hne : row ≠ some n) : w'.frozen? ⟨n, k, none⟩ = w.frozen? ⟨n, k, none⟩ := by
  have hb : w'.heap[n]? = w.heap[n]? := hg.block n hl (fun e => hne e.symm)
  simp only [World.frozen?, hb]
theorem Cq.far {w w' : World} {row : Option Nat} {n : Nat} {s : ByteArray} {v : Value} {wd : Int} (h : Cq w n s v wd) (hg : w.grownBy w' row) (hne : row ≠ some n) : Cq w' n s v wd := by
  obtain ⟨h1, ⟨c0, c1, c2⟩, f⟩ := h
  exact ⟨Nat.lt_of_lt_of_le h1 hg.size, ⟨hg.cell c0 (fun e => hne e.symm), hg.cell c1 (fun e => hne e.symm), hg.cell c2 (fun e => hne e.symm)⟩, (frozen_far hg h1 hne).trans f⟩
theorem Cq.set {w : World} {n : Nat} {s : ByteArray} {v : Value} {wd : Int} (h : Cq w n s v wd) (v' : Value) : Cq (w.setCell ⟨n, 1, none⟩ v') n s v' wd := by
  obtain ⟨h1, ⟨c0, c1, c2⟩, f⟩ := h
  refine ⟨by simpa using h1, ⟨?_, World.cell?_setCell_same _ _ _ c1, ?_⟩, by simpa using f⟩
  · rw [World.cell?_setCell_other _ _ _ _ (fun e => by simp at e)]; exact c0
  · rw [World.cell?_setCell_other _ _ _ _ (fun e => by simp at e)]; exact c2
theorem Cq.new (w : World) (s : ByteArray) (wd : Int) (t : TypeId) : Cq (w.alloc (.cells #[.string s, .slice none 0 0, .int .i64 wd] t)) w.heap.size s (.slice none 0 0) wd := ⟨by simp, ⟨by simp, by simp, by simp⟩, by simp⟩
/-- An empty channel, to be written. -/
def Zc (w : World) (g : Nat) : Prop := g < w.heap.size ∧ (w.cell? ⟨g, 0, none⟩ = some (.string ⟨#[]⟩) ∧ w.cell? ⟨g, 1, none⟩ = some (.slice none 0 0) ∧ w.cell? ⟨g, 2, none⟩ = some (.int .i64 0)) ∧ w.frozen? ⟨g, 0, none⟩ = false ∧ w.frozen? ⟨g, 1, none⟩ = false ∧ w.frozen? ⟨g, 2, none⟩ = false
theorem Zc.far {w w' : World} {row : Option Nat} {g : Nat} (h : Zc w g) (hg : w.grownBy w' row) (hne : row ≠ some g) : Zc w' g := by
  obtain ⟨h1, ⟨c0, c1, c2⟩, f0, f1, f2⟩ := h
  exact ⟨Nat.lt_of_lt_of_le h1 hg.size, ⟨hg.cell c0 (fun e => hne e.symm), hg.cell c1 (fun e => hne e.symm), hg.cell c2 (fun e => hne e.symm)⟩, (frozen_far hg h1 hne).trans f0, (frozen_far hg h1 hne).trans f1, (frozen_far hg h1 hne).trans f2⟩
theorem grown_of {w w' : World} (hb : Below w.heap.size w w') : w.grownBy w' none := ⟨hb.os, hb.tape, hb.output, hb.size, fun k hk _ => hb.block k hk⟩
theorem Zc.on {w w' : World} {g : Nat} (h : Zc w g) (hb : Below w.heap.size w w') : Zc w' g := h.far (grown_of hb) (by simp)
theorem Zc.new (w : World) (t : TypeId) : Zc (w.alloc (.cells #[.string ⟨#[]⟩, .slice none 0 0, .int .i64 0] t)) w.heap.size := ⟨by simp, ⟨by simp, by simp, by simp⟩, by simp, by simp, by simp⟩
theorem zc_read {w : World} {g : Nat} (h : Zc w g) (a : ByteArray) (b : Value) (c : Int) :
    (World.setCell (World.setCell (World.setCell w ⟨g, 0, none⟩ (.string (a))) ⟨g, 1, none⟩ (b)) ⟨g, 2, none⟩ (.int .i64 (c))).cell? ⟨g, 0, none⟩ = some (.string a) ∧ (World.setCell (World.setCell (World.setCell w ⟨g, 0, none⟩ (.string (a))) ⟨g, 1, none⟩ (b)) ⟨g, 2, none⟩ (.int .i64 (c))).cell? ⟨g, 1, none⟩ = some b ∧ (World.setCell (World.setCell (World.setCell w ⟨g, 0, none⟩ (.string (a))) ⟨g, 1, none⟩ (b)) ⟨g, 2, none⟩ (.int .i64 (c))).cell? ⟨g, 2, none⟩ = some (.int .i64 c) := by
  obtain ⟨_, ⟨c0, c1, c2⟩, _⟩ := h
  have r := setFrom_read g [.string a, b, .int .i64 c] w 0 (fun k hk => by
    rw [Nat.zero_add]
    match k, hk with
    | 0, _ => rw [c0]; rfl
    | 1, _ => rw [c1]; rfl
    | 2, _ => rw [c2]; rfl)
  exact ⟨r 0 _ rfl, r 1 _ rfl, r 2 _ rfl⟩
theorem tri_below {B g : Nat} {a w : World} (hg : B ≤ g) (h : Below B a w) (x : ByteArray) (y : Value) (z : Int) : Below B a (World.setCell (World.setCell (World.setCell w ⟨g, 0, none⟩ (.string (x))) ⟨g, 1, none⟩ (y)) ⟨g, 2, none⟩ (.int .i64 (z))) :=
  setFrom_below hg [.string x, y, .int .i64 z] 0 h
theorem tri_grown {w : World} {g : Nat} (x : ByteArray) (y : Value) (z : Int) : w.grownBy (World.setCell (World.setCell (World.setCell w ⟨g, 0, none⟩ (.string (x))) ⟨g, 1, none⟩ (y)) ⟨g, 2, none⟩ (.int .i64 (z))) (some g) :=
  Go.Lib.grownBy_setB (Go.Lib.grownBy_setB (Go.Lib.grownBy_setB (World.grownBy.refl w (some g)) 0 _) 1 _) 2 _
theorem owns_slice {w : World} {B n sz : Nat} {e : TypeId} {v : Value} {xs : List Value} (h : w.ownsRow B e sz v n xs) : ∃ A c, v = .slice A n c := by
  obtain ⟨hl, h0 | ⟨g, cap, cur, rfl, _⟩⟩ := h
  · obtain ⟨rfl, rfl⟩ := h0; exact ⟨none, 0, rfl⟩
  · exact ⟨_, cap, rfl⟩
theorem owns_row {w : World} {B n sz : Nat} {e : TypeId} {A : Option Addr} {c : Nat} {xs : List Value} (h : w.ownsRow B e sz (.slice A n c) n xs) : Sl w w.heap.size A xs := by
  obtain ⟨A2, c2, e2, hs⟩ := (Rs.of_owns h).sl
  cases e2
  exact hs
def rowR (R : List (List UInt8)) (k : Nat) : List RPoint := (R.take k).map rpP
def okR (R : List (List UInt8)) (k : Nat) : Bool := (R.take k).all rpOk
theorem rowR_len {R : List (List UInt8)} {k : Nat} (hk : k ≤ R.length) : (rowR R k).length = k := by unfold rowR; rw [List.length_map, List.length_take, Nat.min_eq_left hk]
theorem rowR_step {R : List (List UInt8)} {k : Nat} {p : List UInt8} (hk : k < R.length) (hp : R[k] = p) : flat RPoint.cells (rowR R (k + 1)) = flat RPoint.cells (rowR R k) ++ [.int .i64 (rpX p), .int .i64 (rpY p)] := by
  unfold rowR
  rw [List.take_succ_eq_append_getElem hk, List.map_append, flat_append, hp]
  rfl
theorem okR_step {R : List (List UInt8)} {k : Nat} {p : List UInt8} (hk : k < R.length) (hp : R[k] = p) : okR R (k + 1) = (okR R k && rpOk p) := by
  unfold okR
  rw [List.take_succ_eq_append_getElem hk, List.all_append, hp]
  simp
theorem rowR_all (R : List (List UInt8)) : rowR R R.length = R.map rpP := by unfold rowR; rw [List.take_length]
theorem okR_all (R : List (List UInt8)) : okR R R.length = R.all rpOk := by unfold okR; rw [List.take_length]
theorem infoPt : (Tryd.prog.info? 38).map (fun i => (i.zero, i.size, i.bytes)) = some (some (.agg #[.int .i64 0, .int .i64 0]), 2, 16) := by kernel_rfl
set_option maxHeartbeats 3200000 in
theorem impl_RChan (s : ByteArray) (hs : s.size ≤ 1048576) (w : World) (hE : Env w) : Calls Tryd.prog 43 #[.string s] w (CrPost s.data.toList w) := by
  obtain ⟨L, hL⟩ : ∃ L, s.data.toList = L := ⟨_, rfl⟩
  have hsz : s.size = L.length := by rw [← hL]; exact (Array.length_toList).symm
  have hE' := Lib.hid hE
  have hpl : ∀ p ∈ wordsL L, p.length ≤ L.length := fun p hp => part_len 32 L p (mem_full hp)
  have hcw := Lib.hid (fun h => cr_words (L := L) h)
  obtain ⟨S, hS⟩ : ∃ S, wordsL L = S := ⟨_, rfl⟩
  rw [hS] at hpl
  have hS' := Lib.hid hS
  clear hE
  by_cases h4 : 4 ≤ S.length ∧ S.length ≤ 14
  rotate_left
  · have hK : Hid (crOk L = false) := by
      apply Lib.hid
      rw [← Bool.not_eq_true]
      intro h
      obtain ⟨hw, a, b, R, hS2, hR2, _⟩ := hcw.out h
      rw [hw, hS2] at hS
      apply h4
      rw [← hS]
      simp
      omega
    rw [hL]
    clear hS hpl
    by_cases h4a : S.length < 4
    · have h4' : ((S.length : Int) < 4) := by omega
      go_enter Tryd.func43, Tryd.ntmps43
      go_wp2_with fail
      refine (impl_Words2 s hs _ (hE'.out.on (by go_grown))).mono ?_
      rintro e w1 ⟨A, cc, rfl, hA, hcc, hb1⟩
      rw [hL, hS'.out]
      have hB1 := bnext (w := w) (by go_grown) hb1
      have hZ1 := (Zc.new w 71).on hb1
      clear hA hb1
      have hV := Lib.hid (cr_no hK.out)
      obtain ⟨zl, ⟨z0, z1, z2⟩, y0, y1, y2⟩ := id hZ1
      go_wp2
      all_goals try (exfalso; omega)
      refine end_at ?_
      intro wf hwf
      obtain ⟨t0, t1, t2⟩ : wf.cell? ⟨w.heap.size, 0, none⟩ = some (.string (⟨#[]⟩)) ∧ wf.cell? ⟨w.heap.size, 1, none⟩ = some (.slice none 0 0) ∧ wf.cell? ⟨w.heap.size, 2, none⟩ = some (.int .i64 (0)) := by rw [hwf]; exact zc_read hZ1 _ _ _
      have hBf : Below w.heap.size w wf := by rw [hwf]; exact tri_below (Nat.le_refl w.heap.size) hB1 _ _ _
      have hGf := Lib.hid (hwf ▸ tri_grown (w := w1) (g := w.heap.size) (⟨#[]⟩) (.slice none 0 0) (0))
      clear hwf
      refine bodyPost_ret (by simp [results, Tryd.results43, go_sem, t0, t1, t2]; try rfl) rfl ?_
      exact ⟨_, by rw [hV.out.1, hV.out.2.2, hK.out], hBf, by rw [hV.out.2.1]; exact Rs.nil _ _ _ _⟩
    · have h4' : ¬ ((S.length : Int) < 4) := by omega
      have h14 : (14 : Int) < (S.length : Int) := by omega
      go_enter Tryd.func43, Tryd.ntmps43
      go_wp2_with fail
      refine (impl_Words2 s hs _ (hE'.out.on (by go_grown))).mono ?_
      rintro e w1 ⟨A, cc, rfl, hA, hcc, hb1⟩
      rw [hL, hS'.out]
      have hB1 := bnext (w := w) (by go_grown) hb1
      have hZ1 := (Zc.new w 71).on hb1
      clear hA hb1
      have hV := Lib.hid (cr_no hK.out)
      obtain ⟨zl, ⟨z0, z1, z2⟩, y0, y1, y2⟩ := id hZ1
      go_wp2
      all_goals try (exfalso; omega)
      refine end_at ?_
      intro wf hwf
      obtain ⟨t0, t1, t2⟩ : wf.cell? ⟨w.heap.size, 0, none⟩ = some (.string (⟨#[]⟩)) ∧ wf.cell? ⟨w.heap.size, 1, none⟩ = some (.slice none 0 0) ∧ wf.cell? ⟨w.heap.size, 2, none⟩ = some (.int .i64 (0)) := by rw [hwf]; exact zc_read hZ1 _ _ _
      have hBf : Below w.heap.size w wf := by rw [hwf]; exact tri_below (Nat.le_refl w.heap.size) hB1 _ _ _
      have hGf := Lib.hid (hwf ▸ tri_grown (w := w1) (g := w.heap.size) (⟨#[]⟩) (.slice none 0 0) (0))
      clear hwf
      refine bodyPost_ret (by simp [results, Tryd.results43, go_sem, t0, t1, t2]; try rfl) rfl ?_
      exact ⟨_, by rw [hV.out.1, hV.out.2.2, hK.out], hBf, by rw [hV.out.2.1]; exact Rs.nil _ _ _ _⟩
  obtain ⟨a, b, R, hSe⟩ := two_of (S := S) (by omega)
  have hlen : S.length = R.length + 2 := by rw [hSe]; rfl
  have hSe' := Lib.hid hSe
  have hpp : ∀ (k : Nat) (hk : k < R.length), (partsV S)[2 + k]? = some (.string (ba R[k])) := fun k hk => by rw [hSe, Nat.add_comm]; simp [partsV, hk]
  have hp0 : (partsV S)[0]? = some (.string (ba a)) := by rw [hSe]; rfl
  have hp1 : (partsV S)[1]? = some (.string (ba b)) := by rw [hSe]; rfl
  have hla : a.length ≤ 1048576 := by have := hpl a (by rw [hSe]; simp); omega
  have hlb : b.length ≤ 1048576 := by have := hpl b (by rw [hSe]; simp); omega
  have hlr : ∀ p ∈ R, p.length ≤ 1048576 := fun p hp => by have := hpl p (by rw [hSe]; simp [hp]); omega
  have hpp' := Lib.hid hpp
  have hlr' := Lib.hid hlr
  obtain ⟨i0, hi, ie0, ie1, ie2⟩ := info_parts infoPt
  have hR2 : 2 ≤ R.length := by omega
  have hR12 : R.length ≤ 12 := by omega
  have hRl : R.length ≤ 1048576 := by omega
  rw [hL]
  clear hS hpl hSe hpp hlr h4
  go_enter Tryd.func43, Tryd.ntmps43
  go_wp2_with fail
  refine (impl_Words2 s hs _ (hE'.out.on (by go_grown))).mono ?_
  rintro e w1 ⟨A, cc, rfl, hA, hcp, hb1⟩
  rw [hL, hS'.out] at hA ⊢
  rw [hL, hS'.out] at hcp
  rw [hlen] at hcp ⊢
  have hB1 := bnext (w := w) (by go_grown) hb1
  have hZ1 := (Zc.new w 71).on hb1
  obtain ⟨g, o, rfl, hg, hcc⟩ := hA (by intro e; rw [e] at hp0; simp at hp0)
  have d0 : w1.cell? ⟨g, o, none⟩ = some (.string (ba a)) := by have := hcc 0 _ hp0; simpa using this
  have d1 : w1.cell? ⟨g, o + 1, none⟩ = some (.string (ba b)) := hcc 1 _ hp1
  have hcc' := Lib.hid hcc
  have hwz : w.heap.size < w1.heap.size := hZ1.1
  have hx4 : ¬ ((R.length : Int) + 2 < 4) := by omega
  have hx14 : ¬ ((14 : Int) < (R.length : Int) + 2) := by omega
  have hx2 : (2 : Int) ≤ (R.length : Int) + 2 := by omega
  have hc2 : ¬ (cc = 2) := by omega
  clear hcc hA hb1
  go_wp2_with fail
  refine (impl_NumL b hlb _ (hE'.out.on hB1)).mono ?_
  rintro e w3 ⟨rfl, hb3⟩
  have hB3 := bnext hB1 hb3
  have hZ3 := hZ1.on hb3
  have e0 := cell_on hb3 d0
  have hcc3 := Lib.hid (fun j u hu => cell_on hb3 (hcc'.out j u hu))
  have hg3 : g < w3.heap.size := Nat.lt_of_lt_of_le hg hb3.size
  have hwz3 : w.heap.size < w3.heap.size := hZ3.1
  clear hB1 hZ1 hcc' d0 d1 hg hwz hb3
  go_wp2_with fail
  obtain ⟨n, hn⟩ : ∃ n, w3.heap.size = n := ⟨_, rfl⟩
  have hQ0 := Cq.new w3 (ba a) (rdV (ba b)) 71
  have hB0 := hB3.alloc hB3.size (.cells #[.string (ba a), .slice none 0 0, .int .i64 (rdV (ba b))] 71)
  have hZ0 := hZ3.on ((Below.refl _ _).alloc (Nat.le_refl _) (.cells #[.string (ba a), .slice none 0 0, .int .i64 (rdV (ba b))] 71))
  have hC0 : Hid (∀ j u, (partsV S)[j]? = some u → (w3.alloc (.cells #[.string (ba a), .slice none 0 0, .int .i64 (rdV (ba b))] 71)).cell? ⟨g, o + j, none⟩ = some u) := Lib.hid (fun j u hu => cell_al (hcc3.out j u hu))
  have hO0 : (w3.alloc (.cells #[.string (ba a), .slice none 0 0, .int .i64 (rdV (ba b))] 71)).ownsRow (n + 1) 38 2 (.slice none 0 0) 0 (flat RPoint.cells (rowR R 0)) := ⟨rfl, .inl ⟨rfl, rfl⟩⟩
  rw [hn] at hQ0 hg3 hwz3 ⊢
  have hg := hg3
  have hwz := hwz3
  go_loopw [6, 38] (fun q i wr => ∃ (k : Nat) (A1 : Option Addr) (c1 : Nat), q = .bool (numOk b && okR R k) ∧ i = .int .i64 k ∧ k ≤ R.length ∧ Below w.heap.size w wr ∧ Zc wr w.heap.size ∧ Cq wr n (ba a) (.slice A1 k c1) (rdV (ba b)) ∧ wr.ownsRow (n + 1) 38 2 (.slice A1 k c1) k (flat RPoint.cells (rowR R k)) ∧ Hid (∀ j u, (partsV S)[j]? = some u → wr.cell? ⟨g, o + j, none⟩ = some u)) (fun _ i _ => R.length - (intOf i).toNat)
  case atStart => exact ⟨0, none, 0, by unfold okR; simp, rfl, Nat.zero_le _, hB0, hZ0, hQ0, hO0, hC0⟩
  case round =>
    clear hB0 hZ0 hQ0 hO0 hC0 hcc3 hB3 hZ3 e0
    obtain ⟨k, A1, c1, rfl, rfl, hk, hBr, hZ, hQ, hown, hC⟩ := hrel
    have hSr := hBr.size
    have hnw : n < wr.heap.size := hQ.1
    by_cases hlt : k < R.length
    · have d0 : wr.cell? ⟨g, o + 2 + k, none⟩ = some (.string (ba R[k])) := by have e := hC.out _ _ (hpp'.out k hlt); rw [← Nat.add_assoc] at e; exact e
      have hps := hlr'.out _ (List.getElem_mem hlt)
      have hst := Lib.hid (rowR_step hlt rfl)
      have hok := Lib.hid (okR_step hlt rfl)
      obtain ⟨p, hp⟩ : ∃ p, R[k] = p := ⟨_, rfl⟩
      rw [hp] at d0 hps hst hok
      have hgr : g < wr.heap.size := by omega
      have hji : (k : Int) < (R.length : Int) := by omega
      clear hp
      obtain ⟨qb, hqb⟩ : ∃ qb, (numOk b && okR R k) = qb := ⟨_, rfl⟩
      have hq2 : Hid ((numOk b && okR R (k + 1)) = (qb && rpOk p)) := Lib.hid (by rw [hok.out, ← Bool.and_assoc, hqb])
      rw [hqb]
      go_wp2_with fail
      refine (impl_RPtL p hps _ (hE'.out.on hBr)).mono ?_
      rintro e w2 ⟨rfl, hb2⟩
      obtain ⟨ql0, ⟨q00, q10, q20⟩, qf0⟩ := id (hQ.on hb2)
      cases qb
      · go_wp2_with (at_builtin; refine wpList_append_own _ rfl _ _ 48 rfl (n + 1) 38 i0 (.agg #[.int .i64 0, .int .i64 0]) 2 16 Tryd.underlying48 hi ie0 ie1 ie2 rfl (by decide) _ _ _ rfl (((owns_below hown hb2).alloc _).alloc _) ⟨w2.heap.size + 1, 0, none⟩ 1 1 [.int .i64 (rpX p), .int .i64 (rpY p)] rfl rfl ?c1 ?c2 ?c3 ?c4 ?c5 ?_)
        case c1 => first | (intro j u hj; match j, hj with | 0, hj => (simp at hj; subst hj; simp [Addr.add]) | 1, hj => (simp at hj; subst hj; simp [Addr.add])) | skip
        case c2 => first | (intro u hu; simp at hu; rcases hu with rfl | rfl <;> rfl) | simp | trivial
        case c3 => unfold maxLen; omega
        case c4 => omega
        case c5 => first | omega | (simp; omega)
        intro v' wn hown' hgrow _
        have hz2 := hb2.size
        have hgz := hgrow.size
        simp only [World.size_alloc] at hgz
        have hBn0 := (bnext hBr hb2)
        have hAl : Below w2.heap.size w2 ((w2.alloc (.cells #[.int .i64 (rpX p), .int .i64 (rpY p)] 38)).alloc (.cells #[.int .i64 (rpX p), .int .i64 (rpY p)] 38)) := by go_grown
        have hBn := (bnext hBn0 hAl).grown hgrow (by simp; omega) (fun q e => by have := (hown.lt q e).1; omega)
        have hnr : (Value.slice A1 k c1).ownBlock ≠ some n := fun e => by have := (hown.lt n e).1; omega
        have hnw : (Value.slice A1 k c1).ownBlock ≠ some w.heap.size := fun e => by have := (hown.lt w.heap.size e).1; omega
        have hng : (Value.slice A1 k c1).ownBlock ≠ some g := fun e => by have := (hown.lt g e).1; omega
        have hQn := ((hQ.on hb2).on hAl).far hgrow hnr
        have hZn := ((hZ.on hb2).on hAl).far hgrow hnw
        have hCn : ∀ j u, (partsV S)[j]? = some u → wn.cell? ⟨g, o + j, none⟩ = some u := fun j u hu => hgrow.cell (cell_on hAl (cell_on hb2 (hC.out j u hu))) (fun e => hng e.symm)
        obtain ⟨A3, c3, rfl⟩ := owns_slice hown'
        have hBm := hBn.setCell (show w.heap.size ≤ n by omega) (p := ⟨n, 1, none⟩) (.slice A3 (k + 1) c3)
        have hQm := hQn.set (.slice A3 (k + 1) c3)
        have hsg : wn.grownBy (wn.setCell ⟨n, 1, none⟩ (.slice A3 (k + 1) c3)) (some n) := Go.Lib.grownBy_setB (World.grownBy.refl _ _) 1 _
        have hZm := hZn.far hsg (by simp; omega)
        have hOm : (wn.setCell ⟨n, 1, none⟩ (.slice A3 (k + 1) c3)).ownsRow (n + 1) 38 2 (.slice A3 (k + 1) c3) (k + 1) (flat RPoint.cells (rowR R (k + 1))) := by
          rw [hst.out]
          refine World.ownsRow.kept hown' hsg (.inr (fun e => ?_))
          have := (hown'.lt n e).1
          omega
        have hCm : Hid (∀ j u, (partsV S)[j]? = some u → (wn.setCell ⟨n, 1, none⟩ (.slice A3 (k + 1) c3)).cell? ⟨g, o + j, none⟩ = some u) := Lib.hid (fun j u hu => hsg.cell (hCn j u hu) (by simp; omega))
        obtain ⟨ql, ⟨q0, q1, q2⟩, qf⟩ := id hQn
        clear hown' hgrow hown hQn hZn hCn hBn hAl hBn0 hsg hgz hnr hnw hng
        go_wp2
        go_roundw
        case rel => exact ⟨k + 1, A3, c3, by rw [hq2.out]; rfl, by go_num, by omega, hBm, hZm, hQm, hOm, hCm⟩
        case measure => simp [intOf]; omega
      · go_wp2_with (at_builtin; refine wpList_append_own _ rfl _ _ 48 rfl (n + 1) 38 i0 (.agg #[.int .i64 0, .int .i64 0]) 2 16 Tryd.underlying48 hi ie0 ie1 ie2 rfl (by decide) _ _ _ rfl (((owns_below hown hb2).alloc _).alloc _) ⟨w2.heap.size + 1, 0, none⟩ 1 1 [.int .i64 (rpX p), .int .i64 (rpY p)] rfl rfl ?c1 ?c2 ?c3 ?c4 ?c5 ?_)
        case c1 => first | (intro j u hj; match j, hj with | 0, hj => (simp at hj; subst hj; simp [Addr.add]) | 1, hj => (simp at hj; subst hj; simp [Addr.add])) | skip
        case c2 => first | (intro u hu; simp at hu; rcases hu with rfl | rfl <;> rfl) | simp | trivial
        case c3 => unfold maxLen; omega
        case c4 => omega
        case c5 => first | omega | (simp; omega)
        intro v' wn hown' hgrow _
        have hz2 := hb2.size
        have hgz := hgrow.size
        simp only [World.size_alloc] at hgz
        have hBn0 := (bnext hBr hb2)
        have hAl : Below w2.heap.size w2 ((w2.alloc (.cells #[.int .i64 (rpX p), .int .i64 (rpY p)] 38)).alloc (.cells #[.int .i64 (rpX p), .int .i64 (rpY p)] 38)) := by go_grown
        have hBn := (bnext hBn0 hAl).grown hgrow (by simp; omega) (fun q e => by have := (hown.lt q e).1; omega)
        have hnr : (Value.slice A1 k c1).ownBlock ≠ some n := fun e => by have := (hown.lt n e).1; omega
        have hnw : (Value.slice A1 k c1).ownBlock ≠ some w.heap.size := fun e => by have := (hown.lt w.heap.size e).1; omega
        have hng : (Value.slice A1 k c1).ownBlock ≠ some g := fun e => by have := (hown.lt g e).1; omega
        have hQn := ((hQ.on hb2).on hAl).far hgrow hnr
        have hZn := ((hZ.on hb2).on hAl).far hgrow hnw
        have hCn : ∀ j u, (partsV S)[j]? = some u → wn.cell? ⟨g, o + j, none⟩ = some u := fun j u hu => hgrow.cell (cell_on hAl (cell_on hb2 (hC.out j u hu))) (fun e => hng e.symm)
        obtain ⟨A3, c3, rfl⟩ := owns_slice hown'
        have hBm := hBn.setCell (show w.heap.size ≤ n by omega) (p := ⟨n, 1, none⟩) (.slice A3 (k + 1) c3)
        have hQm := hQn.set (.slice A3 (k + 1) c3)
        have hsg : wn.grownBy (wn.setCell ⟨n, 1, none⟩ (.slice A3 (k + 1) c3)) (some n) := Go.Lib.grownBy_setB (World.grownBy.refl _ _) 1 _
        have hZm := hZn.far hsg (by simp; omega)
        have hOm : (wn.setCell ⟨n, 1, none⟩ (.slice A3 (k + 1) c3)).ownsRow (n + 1) 38 2 (.slice A3 (k + 1) c3) (k + 1) (flat RPoint.cells (rowR R (k + 1))) := by
          rw [hst.out]
          refine World.ownsRow.kept hown' hsg (.inr (fun e => ?_))
          have := (hown'.lt n e).1
          omega
        have hCm : Hid (∀ j u, (partsV S)[j]? = some u → (wn.setCell ⟨n, 1, none⟩ (.slice A3 (k + 1) c3)).cell? ⟨g, o + j, none⟩ = some u) := Lib.hid (fun j u hu => hsg.cell (hCn j u hu) (by simp; omega))
        obtain ⟨ql, ⟨q0, q1, q2⟩, qf⟩ := id hQn
        clear hown' hgrow hown hQn hZn hCn hBn hAl hBn0 hsg hgz hnr hnw hng
        go_wp2
        go_roundw
        case rel => exact ⟨k + 1, A3, c3, by rw [hq2.out]; simp, by go_num, by omega, hBm, hZm, hQm, hOm, hCm⟩
        case measure => simp [intOf]; omega
    · obtain rfl : k = R.length := by omega
      have hji : ¬ (R.length : Int) < (R.length : Int) := by omega
      rw [rowR_all] at hown
      rw [okR_all]
      have hbad : Hid (∀ a' b' R', splitL 32 L = a' :: b' :: R' → crOk L = true → a' = a ∧ b' = b ∧ R' = R) := Lib.hid (fun a' b' R' h1 h2 => by
        have hw := (hcw.out h2).1
        rw [h1, hS'.out, hSe'.out] at hw
        injection hw with x1 hw
        injection hw with x2 x3
        exact ⟨x1.symm, x2.symm, x3.symm⟩)
      cases hq : (numOk b && R.all rpOk)
      · have hK : Hid (crOk L = false) := by
          apply Lib.hid
          rw [← Bool.not_eq_true]
          intro h
          obtain ⟨_, a', b', R', hS2, _, h2, h3, _⟩ := hcw.out h
          obtain ⟨rfl, rfl, rfl⟩ := hbad.out a' b' R' hS2 h
          rw [h2, List.all_eq_true.2 h3] at hq
          cases hq
        obtain ⟨ql, ⟨q0, q1, q2⟩, qf⟩ := id hQ
        have hV := Lib.hid (cr_no hK.out)
        obtain ⟨zl, ⟨z0, z1, z2⟩, y0, y1, y2⟩ := id hZ
        go_wp2
        all_goals try (exfalso; omega)
        refine end_at ?_
        intro wf hwf
        obtain ⟨t0, t1, t2⟩ : wf.cell? ⟨w.heap.size, 0, none⟩ = some (.string (⟨#[]⟩)) ∧ wf.cell? ⟨w.heap.size, 1, none⟩ = some (.slice none 0 0) ∧ wf.cell? ⟨w.heap.size, 2, none⟩ = some (.int .i64 (0)) := by rw [hwf]; exact zc_read hZ _ _ _
        have hBf : Below w.heap.size w wf := by rw [hwf]; exact tri_below (Nat.le_refl w.heap.size) hBr _ _ _
        have hGf := Lib.hid (hwf ▸ tri_grown (w := wr) (g := w.heap.size) (⟨#[]⟩) (.slice none 0 0) (0))
        clear hwf
        refine bodyPost_ret (by simp [results, Tryd.results43, go_sem, t0, t1, t2]; try rfl) rfl ?_
        exact ⟨_, by rw [hV.out.1, hV.out.2.2, hK.out], hBf, by rw [hV.out.2.1]; exact Rs.nil _ _ _ _⟩
      have hln : (R.map rpP).length = R.length := List.length_map ..
      have hsl := owns_row hown
      have hok : Calls Tryd.prog 44 #[.agg #[.string (ba a), .slice A1 R.length c1, .int .i64 (rdV (ba b))]] wr fun e w' => e = .returned (.string (chanX (ba a) (R.map rpP) (rdV (ba b)))) ∧ Below wr.heap.size wr w' := by
        have h := impl_ChanText (ba a) (by rw [ba_size]; exact hla) (R.map rpP) A1 c1 wr.heap.size (rdV (ba b)) wr hsl (Nat.le_refl _) (by rw [hln]; exact hRl) (hE'.out.on hBr).tab
        rw [hln] at h
        exact h
      obtain ⟨ql, ⟨q0, q1, q2⟩, qf⟩ := id hQ
      go_wp2_with fail
      refine hok.mono ?_
      rintro e w4 ⟨rfl, hb4⟩
      have hB4 := bnext hBr hb4
      have hZ4 := hZ.on hb4
      have hQ4 := hQ.on hb4
      have hO4 := owns_below hown hb4
      rw [Bool.and_eq_true] at hq
      have hq1 := hq.1
      have hq3 := List.all_eq_true.1 hq.2
      clear hb4 hsl hok ql q0 q1 q2 qf hq
      by_cases hT : chanX (ba a) (R.map rpP) (rdV (ba b)) = s
      · cases hv : vChan (ba a) (R.map rpP) (rdV (ba b))
        · exfalso
          unfold chanX at hT
          rw [hv] at hT
          have hL0 : L = [] := by rw [← hL, ← hT]; rfl
          have h := hS'.out
          rw [hL0, hSe'.out] at h
          cases h
        · have hT2 : (ctTo (ba a) (rdV (ba b)) (R.map rpP) R.length).data.toList = L := by
            rw [← hL, ← hT]
            unfold chanX
            rw [hv, hln]; rfl
          obtain ⟨hsp, hkk⟩ := cr_good hR2 hq1 hq3 hv hT2
          have hK := Lib.hid hkk
          have hV := Lib.hid (cr_yes hkk hsp)
          have hcmp := bytes_eq hT
          clear hT hT2 hkk hsp hq3
          generalize chanX (ba a) (R.map rpP) (rdV (ba b)) = T at hcmp ⊢
          obtain ⟨zl, ⟨z0, z1, z2⟩, y0, y1, y2⟩ := id hZ4
          obtain ⟨ql, ⟨q0, q1, q2⟩, qf⟩ := id hQ4
          go_wp2
          refine end_at ?_
          intro wf hwf
          obtain ⟨t0, t1, t2⟩ : wf.cell? ⟨w.heap.size, 0, none⟩ = some (.string (ba a)) ∧ wf.cell? ⟨w.heap.size, 1, none⟩ = some (.slice A1 R.length c1) ∧ wf.cell? ⟨w.heap.size, 2, none⟩ = some (.int .i64 (rdV (ba b))) := by rw [hwf]; exact zc_read hZ4 _ _ _
          have hBf : Below w.heap.size w wf := by rw [hwf]; exact tri_below (Nat.le_refl w.heap.size) hB4 _ _ _
          have hGf := Lib.hid (hwf ▸ tri_grown (w := w4) (g := w.heap.size) (ba a) (.slice A1 R.length c1) (rdV (ba b)))
          clear hwf
          refine bodyPost_ret (by simp [results, Tryd.results43, go_sem, t0, t1, t2]; try rfl) rfl ?_
          refine ⟨_, by rw [hV.out.1, hV.out.2.2, hK.out], hBf, ?_⟩
          rw [hV.out.2.1]
          have hln : (R.map rpP).length = R.length := List.length_map ..
          rw [hln]
          exact ((Rs.of_owns hO4).more (show w.heap.size ≤ n + 1 by omega)).far hGf.out (fun q e => by have e' := Option.some.inj e; intro e3; have := (hO4.lt q e3).1; omega)
      · have hK : Hid (crOk L = false) := by
          apply Lib.hid
          rw [← Bool.not_eq_true]
          intro h
          obtain ⟨_, a', b', R', hS2, _, _, _, h5, h6⟩ := hcw.out h
          obtain ⟨rfl, rfl, rfl⟩ := hbad.out a' b' R' hS2 h
          apply hT
          unfold chanX
          rw [h5, if_pos rfl, hln]
          exact (ba_ext h6).trans (ba_ext hL).symm
        have hcmp := bytes_ne hT
        obtain ⟨ql, ⟨q0, q1, q2⟩, qf⟩ := id hQ4
        generalize chanX (ba a) (R.map rpP) (rdV (ba b)) = T at hcmp hT ⊢
        clear hT hq3
        have hV := Lib.hid (cr_no hK.out)
        obtain ⟨zl, ⟨z0, z1, z2⟩, y0, y1, y2⟩ := id hZ4
        go_wp2
        all_goals try (exfalso; omega)
        refine end_at ?_
        intro wf hwf
        obtain ⟨t0, t1, t2⟩ : wf.cell? ⟨w.heap.size, 0, none⟩ = some (.string (⟨#[]⟩)) ∧ wf.cell? ⟨w.heap.size, 1, none⟩ = some (.slice none 0 0) ∧ wf.cell? ⟨w.heap.size, 2, none⟩ = some (.int .i64 (0)) := by rw [hwf]; exact zc_read hZ4 _ _ _
        have hBf : Below w.heap.size w wf := by rw [hwf]; exact tri_below (Nat.le_refl w.heap.size) hB4 _ _ _
        have hGf := Lib.hid (hwf ▸ tri_grown (w := w4) (g := w.heap.size) (⟨#[]⟩) (.slice none 0 0) (0))
        clear hwf
        refine bodyPost_ret (by simp [results, Tryd.results43, go_sem, t0, t1, t2]; try rfl) rfl ?_
        exact ⟨_, by rw [hV.out.1, hV.out.2.2, hK.out], hBf, by rw [hV.out.2.1]; exact Rs.nil _ _ _ _⟩
end Go.Proofs.YtbikppndhidbpaaDoor
