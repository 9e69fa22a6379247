/-
  Contract of the channel that a law's bytes choose, from the bytes on. Under the conditions that it states.
-/
import Derived.Test.YtlflefnjoeappaaR8D
import Derived.Test.YtlflefnjoeappaaR8
set_option linter.unusedVariables false
set_option linter.unnecessarySimpa false
set_option maxRecDepth 100000
set_option linter.unusedSimpArgs false
namespace Go.Proofs.Ytlflefnjoeappaa
open Go.RowKit BigFrame

theorem r8_channel (L : List Int) (A : Option Addr) (c B : Nat) (w : World) (hs : Sl w B A (bytesL L)) (hB : B ≤ w.heap.size) (hu : ∀ z ∈ L, IntKind.u8.has z) (hl : L.length ≤ 1048576) :
    Calls Try.prog 31 #[.slice A L.length c] w fun e w' => ∃ nm v P wd, e = .returned (.agg #[.string nm, v, .int .i64 wd]) ∧ Below w.heap.size w w' ∧ Rs w' w.heap.size 52 2 v P.length (flat RPoint.cells P) ∧ GoodC nm P wd := by
  have hE0 := Lib.hid (En.new w #[.string ⟨#[]⟩, .slice none 0 0, .int .i64 0] 49)
  have hE0l : w.heap.size < (w.alloc (.cells #[.string ⟨#[]⟩, .slice none 0 0, .int .i64 0] 49)).heap.size := by simp
  go_enter Try.func31, Try.ntmps31
  go_wp2_with fail
  refine (src_from L _ _ B _ (hs.below (by go_grown)) (by simp; omega) hu hl).mono ?_
  rintro e w1 ⟨rfl, hb1, hs1⟩
  have hz1 := hb1.size
  simp only [World.size_alloc] at hz1
  have hB1 : Below w.heap.size w w1 := bnext (by go_grown) hb1
  have hE1 := hE0.out.on hb1
  simp only [World.size_alloc] at hs1
  clear hE0 hE0l hb1
  go_wp2_with fail
  refine (src_chan B (w.heap.size + 1) w1 hs1 (by omega)).mono ?_
  rintro e w2 ⟨nm, v, P, wd, rfl, hg2, hR2, hgood⟩
  have hE2 := hE1.far hg2 (fun e => by have := Option.some.inj e; omega)
  have hB2 : Below w.heap.size w w2 := hB1.grown hg2 (by omega) (fun k e => by have := Option.some.inj e; omega)
  have e0 := hE2.at (k := 0) (by simp)
  have e1 := hE2.at (k := 1) (by simp)
  have e2 := hE2.at (k := 2) (by simp)
  obtain ⟨⟨u0, e0⟩, f0⟩ := e0
  obtain ⟨⟨u1, e1⟩, f1⟩ := e1
  obtain ⟨⟨u2, e2⟩, f2⟩ := e2
  obtain ⟨A2, c2, rfl, _⟩ := hR2.sl
  clear hB1 hE1 hg2 hs1 hs
  go_wp2
  refine end_atA ?_
  intro wf hwf
  have ht := hE2.read (vs := [.string nm, .slice A2 P.length c2, .int .i64 wd]) (wf := wf) hwf
  have t0 : wf.cell? ⟨w.heap.size, 0, none⟩ = some (.string nm) := ht 0 _ rfl
  have t1 : wf.cell? ⟨w.heap.size, 1, none⟩ = some (.slice A2 P.length c2) := ht 1 _ rfl
  have t2 : wf.cell? ⟨w.heap.size, 2, none⟩ = some (.int .i64 wd) := ht 2 _ rfl
  have hgf : w2.grownBy wf (some w.heap.size) := by rw [hwf]; exact Go.Lib.grownBy_setB (Go.Lib.grownBy_setB (Go.Lib.grownBy_setB (World.grownBy.refl w2 (some w.heap.size)) 0 _) 1 _) 2 _
  have hBf := hB2.grown hgf hB2.size (fun k e => by have := Option.some.inj e; omega)
  have hRf := hR2.far hgf (fun k e h => by have h1 := (hR2.block k h).1; have := Option.some.inj e; omega)
  clear hwf ht
  refine bodyPost_ret (by simp [results, Try.results31, go_sem, t0, t1, t2]; try rfl) rfl ?_
  exact ⟨nm, _, P, wd, rfl, hBf, hRf.more (by omega), hgood⟩
end Go.Proofs.Ytlflefnjoeappaa
