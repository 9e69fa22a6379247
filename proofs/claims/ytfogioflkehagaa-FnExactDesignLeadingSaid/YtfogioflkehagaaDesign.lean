/-
  Contracts of designed leading lines: the program's and the reference's; the law DesignLeading. Each under the conditions that it states.
-/
import Derived.Test.YtfogioflkehagaaMove
set_option linter.unusedVariables false
set_option linter.unnecessarySimpa false
set_option maxRecDepth 100000
set_option linter.unusedSimpArgs false
namespace Go.Proofs.Ytfogioflkehagaa
open Go.RowKit BigFrame

def dlR (b d lo hi : Int) : Bool := inB b 0 359 && (inB d 1 100000 && (inB lo 0 3000 && (inB hi 0 3000 && decide (lo < hi))))
def dlX (x b d : Int) : Int := x + stepM d (sinM b)
def dlY (y b d : Int) : Int := y + stepM d (cosM b)
def dlC (x y b d lo hi : Int) : Int := if vPoint x y then (if dlR b d lo hi then (if vLead x y (dlX x b d) (dlY y b d) lo hi then 0 else 6) else 2) else 1
/-- The six numbers that come back. -/
def dlV (x y b d lo hi : Int) (n : Int) : Int := if dlC x y b d lo hi = 0 then n else 0

/-! ### Six numbers stored in a variable -/
theorem some_set {w : World} {p q : Addr} {v : Value} (h : (w.cell? q).isSome = true) : ((w.setCell p v).cell? q).isSome = true := by
  by_cases e : p = q
  · subst e
    obtain ⟨u, hu⟩ := Option.isSome_iff_exists.1 h
    rw [World.cell?_setCell_same _ _ _ hu]; rfl
  · rw [World.cell?_setCell_other _ _ _ _ e]; exact h
def setFrom (w : World) (g o : Nat) : List Value → World
  | [] => w
  | v :: vs => setFrom (w.setCell ⟨g, o, none⟩ v) g (o + 1) vs
theorem setFrom_ahead (g : Nat) : ∀ (vs : List Value) (w : World) (o q : Nat), q < o → (setFrom w g o vs).cell? ⟨g, q, none⟩ = w.cell? ⟨g, q, none⟩
  | [], w, o, q, h => rfl
  | v :: vs, w, o, q, h => by
    have ih := setFrom_ahead g vs (w.setCell ⟨g, o, none⟩ v) (o + 1) q (by omega)
    show (setFrom (w.setCell ⟨g, o, none⟩ v) g (o + 1) vs).cell? ⟨g, q, none⟩ = _
    rw [ih, World.cell?_setCell_other _ _ _ _ (fun e => by have := congrArg Addr.off e; simp at this; omega)]
theorem setFrom_read (g : Nat) : ∀ (vs : List Value) (w : World) (o : Nat), (∀ k, k < vs.length → (w.cell? ⟨g, o + k, none⟩).isSome = true) → ∀ (k : Nat) (u : Value), vs[k]? = some u → (setFrom w g o vs).cell? ⟨g, o + k, none⟩ = some u
  | [], w, o, h, k, u, hu => by simp at hu
  | v :: vs, w, o, h, 0, u, hu => by
    obtain ⟨x, hx⟩ := Option.isSome_iff_exists.1 (h 0 (by simp))
    simp at hu
    subst hu
    show (setFrom (w.setCell ⟨g, o, none⟩ v) g (o + 1) vs).cell? ⟨g, o + 0, none⟩ = _
    rw [setFrom_ahead g vs _ _ _ (by omega)]
    exact World.cell?_setCell_same _ _ _ hx
  | v :: vs, w, o, h, k + 1, u, hu => by
    have ih := setFrom_read g vs (w.setCell ⟨g, o, none⟩ v) (o + 1) (fun j hj => some_set (by have := h (j + 1) (by simp; omega); rwa [Nat.add_assoc, Nat.add_comm 1 j])) k u (by simpa using hu)
    rw [Nat.add_assoc, Nat.add_comm 1 k] at ih
    exact ih
theorem setFrom_below {B g : Nat} (hg : B ≤ g) : ∀ (vs : List Value) {a w : World} (o : Nat), Below B a w → Below B a (setFrom w g o vs)
  | [], _, _, _, h => h
  | v :: vs, _, _, o, h => setFrom_below hg vs (o + 1) (h.setCell hg v)
theorem six_read {w : World} {g : Nat} (h : ∀ k, k < 6 → (w.cell? ⟨g, k, none⟩).isSome = true) (a b c d e f : Int) :
    (World.setCell (World.setCell (World.setCell (World.setCell (World.setCell (World.setCell w ⟨g, 0, none⟩ (.int .i64 (a))) ⟨g, 1, none⟩ (.int .i64 (b))) ⟨g, 2, none⟩ (.int .i64 (c))) ⟨g, 3, none⟩ (.int .i64 (d))) ⟨g, 4, none⟩ (.int .i64 (e))) ⟨g, 5, none⟩ (.int .i64 (f))).cell? ⟨g, 0, none⟩ = some (.int .i64 a) ∧ (World.setCell (World.setCell (World.setCell (World.setCell (World.setCell (World.setCell w ⟨g, 0, none⟩ (.int .i64 (a))) ⟨g, 1, none⟩ (.int .i64 (b))) ⟨g, 2, none⟩ (.int .i64 (c))) ⟨g, 3, none⟩ (.int .i64 (d))) ⟨g, 4, none⟩ (.int .i64 (e))) ⟨g, 5, none⟩ (.int .i64 (f))).cell? ⟨g, 1, none⟩ = some (.int .i64 b) ∧ (World.setCell (World.setCell (World.setCell (World.setCell (World.setCell (World.setCell w ⟨g, 0, none⟩ (.int .i64 (a))) ⟨g, 1, none⟩ (.int .i64 (b))) ⟨g, 2, none⟩ (.int .i64 (c))) ⟨g, 3, none⟩ (.int .i64 (d))) ⟨g, 4, none⟩ (.int .i64 (e))) ⟨g, 5, none⟩ (.int .i64 (f))).cell? ⟨g, 2, none⟩ = some (.int .i64 c) ∧ (World.setCell (World.setCell (World.setCell (World.setCell (World.setCell (World.setCell w ⟨g, 0, none⟩ (.int .i64 (a))) ⟨g, 1, none⟩ (.int .i64 (b))) ⟨g, 2, none⟩ (.int .i64 (c))) ⟨g, 3, none⟩ (.int .i64 (d))) ⟨g, 4, none⟩ (.int .i64 (e))) ⟨g, 5, none⟩ (.int .i64 (f))).cell? ⟨g, 3, none⟩ = some (.int .i64 d) ∧ (World.setCell (World.setCell (World.setCell (World.setCell (World.setCell (World.setCell w ⟨g, 0, none⟩ (.int .i64 (a))) ⟨g, 1, none⟩ (.int .i64 (b))) ⟨g, 2, none⟩ (.int .i64 (c))) ⟨g, 3, none⟩ (.int .i64 (d))) ⟨g, 4, none⟩ (.int .i64 (e))) ⟨g, 5, none⟩ (.int .i64 (f))).cell? ⟨g, 4, none⟩ = some (.int .i64 e) ∧ (World.setCell (World.setCell (World.setCell (World.setCell (World.setCell (World.setCell w ⟨g, 0, none⟩ (.int .i64 (a))) ⟨g, 1, none⟩ (.int .i64 (b))) ⟨g, 2, none⟩ (.int .i64 (c))) ⟨g, 3, none⟩ (.int .i64 (d))) ⟨g, 4, none⟩ (.int .i64 (e))) ⟨g, 5, none⟩ (.int .i64 (f))).cell? ⟨g, 5, none⟩ = some (.int .i64 f) := by
  have r := setFrom_read g [.int .i64 a, .int .i64 b, .int .i64 c, .int .i64 d, .int .i64 e, .int .i64 f] w 0 (fun k hk => by rw [Nat.zero_add]; exact h k (by simpa using hk))
  exact ⟨r 0 _ rfl, r 1 _ rfl, r 2 _ rfl, r 3 _ rfl, r 4 _ rfl, r 5 _ rfl⟩
theorem six_below {B g : Nat} {a w : World} (hg : B ≤ g) (h : Below B a w) (x y z u v t : Int) : Below B a (World.setCell (World.setCell (World.setCell (World.setCell (World.setCell (World.setCell w ⟨g, 0, none⟩ (.int .i64 (x))) ⟨g, 1, none⟩ (.int .i64 (y))) ⟨g, 2, none⟩ (.int .i64 (z))) ⟨g, 3, none⟩ (.int .i64 (u))) ⟨g, 4, none⟩ (.int .i64 (v))) ⟨g, 5, none⟩ (.int .i64 (t))) :=
  setFrom_below hg [.int .i64 x, .int .i64 y, .int .i64 z, .int .i64 u, .int .i64 v, .int .i64 t] 0 h
theorem all6 {p : Nat → Prop} (h0 : p 0) (h1 : p 1) (h2 : p 2) (h3 : p 3) (h4 : p 4) (h5 : p 5) : ∀ k, k < 6 → p k := fun k hk => by
  match k, hk with
  | 0, _ => exact h0
  | 1, _ => exact h1
  | 2, _ => exact h2
  | 3, _ => exact h3
  | 4, _ => exact h4
  | 5, _ => exact h5
/-- The end: six numbers are stored in the result's variable, in a world of which all is known that is asked. -/

theorem impl_isBearing (n : Int) (w : World) : Calls Try.prog 96 #[.int .i64 n] w fun e w' => e = .returned (.bool (inB n 0 359)) ∧ w = w' := by
  go_enter Try.func96, Try.ntmps96
  go_wp2_with (go_at_call 104; refine (within_any _ _ _ _).mono ?_; rintro e w' ⟨rfl, rfl⟩)
  go_ret
  exact ⟨rfl, rfl⟩

/-- Behind the region: where the point lies, what is known of the result's variable. -/
def DlIn (w : World) (x y : Int) (w' : World) : Prop := Below w.heap.size w w' ∧ Pt w' w.heap.size x y ∧ w.heap.size + 1 < w'.heap.size ∧ (∀ k, k < 6 → (w'.cell? ⟨w.heap.size + 1, k, none⟩).isSome = true ∧ w'.frozen? ⟨w.heap.size + 1, k, none⟩ = false)
theorem DlIn.on {w w1 w2 : World} {x y : Int} (h : DlIn w x y w1) (hb : Below w1.heap.size w1 w2) : DlIn w x y w2 := by
  obtain ⟨h1, h2, h3, h4⟩ := h
  exact ⟨bnext h1 hb, h2.on hb, Nat.lt_of_lt_of_le h3 hb.size, fun k hk => ⟨by rw [hb.cell (p := ⟨_, k, none⟩) h3]; exact (h4 k hk).1, ((bcell hb).2 _ _ h3).trans (h4 k hk).2⟩⟩
theorem DlIn.set {w w1 : World} {x y : Int} {g k : Nat} {v : Value} (h : DlIn w x y w1) (hg : w.heap.size + 1 < g) : DlIn w x y (w1.setCell ⟨g, k, none⟩ v) := by
  obtain ⟨h1, ⟨h2, h2', h2''⟩, h3, h4⟩ := h
  have hne : ∀ b o, b ≤ w.heap.size + 1 → (⟨g, k, none⟩ : Addr) ≠ ⟨b, o, none⟩ := fun b o hb e => by have := congrArg Addr.block e; simp at this; omega
  refine ⟨h1.setCell (by simp; omega) _, ⟨by simpa using h2, ?_, ?_⟩, by simpa using h3, fun j hj => ⟨?_, ?_⟩⟩
  · rw [World.cell?_setCell_other _ _ _ _ (hne _ 0 (by omega))]; exact h2'
  · rw [World.cell?_setCell_other _ _ _ _ (hne _ 1 (by omega))]; exact h2''
  · rw [World.cell?_setCell_other _ _ _ _ (hne _ j (by omega))]; exact (h4 j hj).1
  · simpa [go_sem] using (h4 j hj).2
theorem DlIn.s {w w1 : World} {x y : Int} (h : DlIn w x y w1) : DlIn w x y w1 ∧ (w1).cell? ⟨w.heap.size, 0, none⟩ = some (.int .i64 x) ∧ (w1).cell? ⟨w.heap.size, 1, none⟩ = some (.int .i64 y) := ⟨h, h.2.1.2.1, h.2.1.2.2⟩
theorem dlS_on {w w1 w2 : World} {x y : Int} (h : DlIn w x y w1 ∧ (w1).cell? ⟨w.heap.size, 0, none⟩ = some (.int .i64 x) ∧ (w1).cell? ⟨w.heap.size, 1, none⟩ = some (.int .i64 y)) (hb : Below w1.heap.size w1 w2) : DlIn w x y w2 := h.1.on hb
theorem DlIn.drew {w w1 : World} {x y : Int} (h : DlIn w x y w1) : DlIn w x y w1.drew := h.on ((Below.refl _ _).drew)
theorem DlIn.alloc {w w1 : World} {x y : Int} (o : Obj) (h : DlIn w x y w1) : DlIn w x y (w1.alloc o) := h.on ((Below.refl _ _).alloc (Nat.le_refl _) o)
theorem then_at {K : Act → World → Prop} {Q : Exit → Act → World → Prop} {a : Act} {W : World} (h : ∀ wf, wf = W → Exit.then K Q .normal a wf) : Exit.then K Q .normal a W := h W rfl
set_option maxHeartbeats 1600000 in
theorem impl_DesignLeading (x y b d lo hi : Int) (w : World) :
    Calls Try.prog 27 #[.agg #[.int .i64 x, .int .i64 y], .int .i64 b, .int .i64 d, .int .i64 lo, .int .i64 hi] w fun e w' => e = .returned (.tuple #[.agg #[.int .i64 (dlV x y b d lo hi x), .int .i64 (dlV x y b d lo hi y), .int .i64 (dlV x y b d lo hi (dlX x b d)), .int .i64 (dlV x y b d lo hi (dlY y b d)), .int .i64 (dlV x y b d lo hi lo), .int .i64 (dlV x y b d lo hi hi)], .int .i64 (dlC x y b d lo hi)]) ∧ Below w.heap.size w w' := by
  cases hp : vPoint x y
  · have hC : dlC x y b d lo hi = 1 := by unfold dlC; rw [hp]; rfl
    have hV : ∀ n, dlV x y b d lo hi n = 0 := fun n => by unfold dlV; rw [hC]; rfl
    rw [hV, hV, hV, hV, hV, hV, hC]
    clear hV hC
    go_enter Try.func27, Try.ntmps27
    go_wp2_with (first | (go_at_call 78; refine (impl_ValidPoint _ _ _).mono ?_; rintro e w1 ⟨rfl, hb1⟩; have hB1 := bnext (w := w) (by go_grown) hb1; have hS1 := hB1.size; ((have hz1 : w.heap.size < w1.heap.size := by have := hb1.size; (try simp only [World.size_alloc, World.size_setCell, World.size_drew] at this); omega); (have hy1 : w.heap.size + 1 < w1.heap.size := by have := hb1.size; (try simp only [World.size_alloc, World.size_setCell, World.size_drew] at this); omega)); obtain ⟨hc1, hf1⟩ := bcell hb1; clear hb1))
    have h6 := all6 (p := fun k => (w1.cell? ⟨w.heap.size + 1, k, none⟩).isSome = true) (by rw [hc1 _ _ (by simp)]; simp [go_sem]) (by rw [hc1 _ _ (by simp)]; simp [go_sem]) (by rw [hc1 _ _ (by simp)]; simp [go_sem]) (by rw [hc1 _ _ (by simp)]; simp [go_sem]) (by rw [hc1 _ _ (by simp)]; simp [go_sem]) (by rw [hc1 _ _ (by simp)]; simp [go_sem])
    have hB := hB1
    obtain ⟨t0, t1, t2, t3, t4, t5⟩ := six_read (w := w1) (g := w.heap.size + 1) h6 (0) (0) (0) (0) (0) (0)
    have hBf := six_below (g := w.heap.size + 1) (by omega) hB (0) (0) (0) (0) (0) (0)
    generalize (World.setCell (World.setCell (World.setCell (World.setCell (World.setCell (World.setCell w1 ⟨w.heap.size + 1, 0, none⟩ (.int .i64 (0))) ⟨w.heap.size + 1, 1, none⟩ (.int .i64 (0))) ⟨w.heap.size + 1, 2, none⟩ (.int .i64 (0))) ⟨w.heap.size + 1, 3, none⟩ (.int .i64 (0))) ⟨w.heap.size + 1, 4, none⟩ (.int .i64 (0))) ⟨w.heap.size + 1, 5, none⟩ (.int .i64 (0))) = wf at t0 t1 t2 t3 t4 t5 hBf ⊢
    refine bodyPost_ret (by simp [results, Try.results27, go_sem, t0, t1, t2, t3, t4, t5]; try rfl) rfl ?_
    exact ⟨rfl, hBf⟩
  cases h1 : inB b 0 359
  · have hC : dlC x y b d lo hi = 2 := by unfold dlC dlR; rw [hp, h1]; simp
    have hV : ∀ n, dlV x y b d lo hi n = 0 := fun n => by unfold dlV; rw [hC]; rfl
    rw [hV, hV, hV, hV, hV, hV, hC]
    clear hV hC
    go_enter Try.func27, Try.ntmps27
    go_wp2_with (first | (go_at_call 78; refine (impl_ValidPoint _ _ _).mono ?_; rintro e w1 ⟨rfl, hb1⟩; have hB1 := bnext (w := w) (by go_grown) hb1; have hS1 := hB1.size; ((have hz1 : w.heap.size < w1.heap.size := by have := hb1.size; (try simp only [World.size_alloc, World.size_setCell, World.size_drew] at this); omega); (have hy1 : w.heap.size + 1 < w1.heap.size := by have := hb1.size; (try simp only [World.size_alloc, World.size_setCell, World.size_drew] at this); omega)); obtain ⟨hc1, hf1⟩ := bcell hb1; clear hb1) | (go_at_call 96; refine (impl_isBearing _ _).mono ?_; rintro e w' ⟨rfl, rfl⟩) | (go_at_call 85; refine (impl_isRange _ _).mono ?_; rintro e w' ⟨rfl, rfl⟩) | (go_at_call 88; refine (impl_isHeight _ _).mono ?_; rintro e w' ⟨rfl, rfl⟩))
    have h6 := all6 (p := fun k => (w1.cell? ⟨w.heap.size + 1, k, none⟩).isSome = true) (by rw [hc1 _ _ (by simp)]; simp [go_sem]) (by rw [hc1 _ _ (by simp)]; simp [go_sem]) (by rw [hc1 _ _ (by simp)]; simp [go_sem]) (by rw [hc1 _ _ (by simp)]; simp [go_sem]) (by rw [hc1 _ _ (by simp)]; simp [go_sem]) (by rw [hc1 _ _ (by simp)]; simp [go_sem])
    have hB := hB1
    obtain ⟨t0, t1, t2, t3, t4, t5⟩ := six_read (w := w1) (g := w.heap.size + 1) h6 (0) (0) (0) (0) (0) (0)
    have hBf := six_below (g := w.heap.size + 1) (by omega) hB (0) (0) (0) (0) (0) (0)
    generalize (World.setCell (World.setCell (World.setCell (World.setCell (World.setCell (World.setCell w1 ⟨w.heap.size + 1, 0, none⟩ (.int .i64 (0))) ⟨w.heap.size + 1, 1, none⟩ (.int .i64 (0))) ⟨w.heap.size + 1, 2, none⟩ (.int .i64 (0))) ⟨w.heap.size + 1, 3, none⟩ (.int .i64 (0))) ⟨w.heap.size + 1, 4, none⟩ (.int .i64 (0))) ⟨w.heap.size + 1, 5, none⟩ (.int .i64 (0))) = wf at t0 t1 t2 t3 t4 t5 hBf ⊢
    refine bodyPost_ret (by simp [results, Try.results27, go_sem, t0, t1, t2, t3, t4, t5]; try rfl) rfl ?_
    exact ⟨rfl, hBf⟩
  cases h2 : inB d 1 100000
  · have hC : dlC x y b d lo hi = 2 := by unfold dlC dlR; rw [hp, h2]; simp
    have hV : ∀ n, dlV x y b d lo hi n = 0 := fun n => by unfold dlV; rw [hC]; rfl
    rw [hV, hV, hV, hV, hV, hV, hC]
    clear hV hC
    go_enter Try.func27, Try.ntmps27
    go_wp2_with (first | (go_at_call 78; refine (impl_ValidPoint _ _ _).mono ?_; rintro e w1 ⟨rfl, hb1⟩; have hB1 := bnext (w := w) (by go_grown) hb1; have hS1 := hB1.size; ((have hz1 : w.heap.size < w1.heap.size := by have := hb1.size; (try simp only [World.size_alloc, World.size_setCell, World.size_drew] at this); omega); (have hy1 : w.heap.size + 1 < w1.heap.size := by have := hb1.size; (try simp only [World.size_alloc, World.size_setCell, World.size_drew] at this); omega)); obtain ⟨hc1, hf1⟩ := bcell hb1; clear hb1) | (go_at_call 96; refine (impl_isBearing _ _).mono ?_; rintro e w' ⟨rfl, rfl⟩) | (go_at_call 85; refine (impl_isRange _ _).mono ?_; rintro e w' ⟨rfl, rfl⟩) | (go_at_call 88; refine (impl_isHeight _ _).mono ?_; rintro e w' ⟨rfl, rfl⟩))
    have h6 := all6 (p := fun k => (w1.cell? ⟨w.heap.size + 1, k, none⟩).isSome = true) (by rw [hc1 _ _ (by simp)]; simp [go_sem]) (by rw [hc1 _ _ (by simp)]; simp [go_sem]) (by rw [hc1 _ _ (by simp)]; simp [go_sem]) (by rw [hc1 _ _ (by simp)]; simp [go_sem]) (by rw [hc1 _ _ (by simp)]; simp [go_sem]) (by rw [hc1 _ _ (by simp)]; simp [go_sem])
    have hB := hB1
    obtain ⟨t0, t1, t2, t3, t4, t5⟩ := six_read (w := w1) (g := w.heap.size + 1) h6 (0) (0) (0) (0) (0) (0)
    have hBf := six_below (g := w.heap.size + 1) (by omega) hB (0) (0) (0) (0) (0) (0)
    generalize (World.setCell (World.setCell (World.setCell (World.setCell (World.setCell (World.setCell w1 ⟨w.heap.size + 1, 0, none⟩ (.int .i64 (0))) ⟨w.heap.size + 1, 1, none⟩ (.int .i64 (0))) ⟨w.heap.size + 1, 2, none⟩ (.int .i64 (0))) ⟨w.heap.size + 1, 3, none⟩ (.int .i64 (0))) ⟨w.heap.size + 1, 4, none⟩ (.int .i64 (0))) ⟨w.heap.size + 1, 5, none⟩ (.int .i64 (0))) = wf at t0 t1 t2 t3 t4 t5 hBf ⊢
    refine bodyPost_ret (by simp [results, Try.results27, go_sem, t0, t1, t2, t3, t4, t5]; try rfl) rfl ?_
    exact ⟨rfl, hBf⟩
  cases h3 : inB lo 0 3000
  · have hC : dlC x y b d lo hi = 2 := by unfold dlC dlR; rw [hp, h3]; simp
    have hV : ∀ n, dlV x y b d lo hi n = 0 := fun n => by unfold dlV; rw [hC]; rfl
    rw [hV, hV, hV, hV, hV, hV, hC]
    clear hV hC
    go_enter Try.func27, Try.ntmps27
    go_wp2_with (first | (go_at_call 78; refine (impl_ValidPoint _ _ _).mono ?_; rintro e w1 ⟨rfl, hb1⟩; have hB1 := bnext (w := w) (by go_grown) hb1; have hS1 := hB1.size; ((have hz1 : w.heap.size < w1.heap.size := by have := hb1.size; (try simp only [World.size_alloc, World.size_setCell, World.size_drew] at this); omega); (have hy1 : w.heap.size + 1 < w1.heap.size := by have := hb1.size; (try simp only [World.size_alloc, World.size_setCell, World.size_drew] at this); omega)); obtain ⟨hc1, hf1⟩ := bcell hb1; clear hb1) | (go_at_call 96; refine (impl_isBearing _ _).mono ?_; rintro e w' ⟨rfl, rfl⟩) | (go_at_call 85; refine (impl_isRange _ _).mono ?_; rintro e w' ⟨rfl, rfl⟩) | (go_at_call 88; refine (impl_isHeight _ _).mono ?_; rintro e w' ⟨rfl, rfl⟩))
    have h6 := all6 (p := fun k => (w1.cell? ⟨w.heap.size + 1, k, none⟩).isSome = true) (by rw [hc1 _ _ (by simp)]; simp [go_sem]) (by rw [hc1 _ _ (by simp)]; simp [go_sem]) (by rw [hc1 _ _ (by simp)]; simp [go_sem]) (by rw [hc1 _ _ (by simp)]; simp [go_sem]) (by rw [hc1 _ _ (by simp)]; simp [go_sem]) (by rw [hc1 _ _ (by simp)]; simp [go_sem])
    have hB := hB1
    obtain ⟨t0, t1, t2, t3, t4, t5⟩ := six_read (w := w1) (g := w.heap.size + 1) h6 (0) (0) (0) (0) (0) (0)
    have hBf := six_below (g := w.heap.size + 1) (by omega) hB (0) (0) (0) (0) (0) (0)
    generalize (World.setCell (World.setCell (World.setCell (World.setCell (World.setCell (World.setCell w1 ⟨w.heap.size + 1, 0, none⟩ (.int .i64 (0))) ⟨w.heap.size + 1, 1, none⟩ (.int .i64 (0))) ⟨w.heap.size + 1, 2, none⟩ (.int .i64 (0))) ⟨w.heap.size + 1, 3, none⟩ (.int .i64 (0))) ⟨w.heap.size + 1, 4, none⟩ (.int .i64 (0))) ⟨w.heap.size + 1, 5, none⟩ (.int .i64 (0))) = wf at t0 t1 t2 t3 t4 t5 hBf ⊢
    refine bodyPost_ret (by simp [results, Try.results27, go_sem, t0, t1, t2, t3, t4, t5]; try rfl) rfl ?_
    exact ⟨rfl, hBf⟩
  cases h4 : inB hi 0 3000
  · have hC : dlC x y b d lo hi = 2 := by unfold dlC dlR; rw [hp, h4]; simp
    have hV : ∀ n, dlV x y b d lo hi n = 0 := fun n => by unfold dlV; rw [hC]; rfl
    rw [hV, hV, hV, hV, hV, hV, hC]
    clear hV hC
    go_enter Try.func27, Try.ntmps27
    go_wp2_with (first | (go_at_call 78; refine (impl_ValidPoint _ _ _).mono ?_; rintro e w1 ⟨rfl, hb1⟩; have hB1 := bnext (w := w) (by go_grown) hb1; have hS1 := hB1.size; ((have hz1 : w.heap.size < w1.heap.size := by have := hb1.size; (try simp only [World.size_alloc, World.size_setCell, World.size_drew] at this); omega); (have hy1 : w.heap.size + 1 < w1.heap.size := by have := hb1.size; (try simp only [World.size_alloc, World.size_setCell, World.size_drew] at this); omega)); obtain ⟨hc1, hf1⟩ := bcell hb1; clear hb1) | (go_at_call 96; refine (impl_isBearing _ _).mono ?_; rintro e w' ⟨rfl, rfl⟩) | (go_at_call 85; refine (impl_isRange _ _).mono ?_; rintro e w' ⟨rfl, rfl⟩) | (go_at_call 88; refine (impl_isHeight _ _).mono ?_; rintro e w' ⟨rfl, rfl⟩))
    have h6 := all6 (p := fun k => (w1.cell? ⟨w.heap.size + 1, k, none⟩).isSome = true) (by rw [hc1 _ _ (by simp)]; simp [go_sem]) (by rw [hc1 _ _ (by simp)]; simp [go_sem]) (by rw [hc1 _ _ (by simp)]; simp [go_sem]) (by rw [hc1 _ _ (by simp)]; simp [go_sem]) (by rw [hc1 _ _ (by simp)]; simp [go_sem]) (by rw [hc1 _ _ (by simp)]; simp [go_sem])
    have hB := hB1
    obtain ⟨t0, t1, t2, t3, t4, t5⟩ := six_read (w := w1) (g := w.heap.size + 1) h6 (0) (0) (0) (0) (0) (0)
    have hBf := six_below (g := w.heap.size + 1) (by omega) hB (0) (0) (0) (0) (0) (0)
    generalize (World.setCell (World.setCell (World.setCell (World.setCell (World.setCell (World.setCell w1 ⟨w.heap.size + 1, 0, none⟩ (.int .i64 (0))) ⟨w.heap.size + 1, 1, none⟩ (.int .i64 (0))) ⟨w.heap.size + 1, 2, none⟩ (.int .i64 (0))) ⟨w.heap.size + 1, 3, none⟩ (.int .i64 (0))) ⟨w.heap.size + 1, 4, none⟩ (.int .i64 (0))) ⟨w.heap.size + 1, 5, none⟩ (.int .i64 (0))) = wf at t0 t1 t2 t3 t4 t5 hBf ⊢
    refine bodyPost_ret (by simp [results, Try.results27, go_sem, t0, t1, t2, t3, t4, t5]; try rfl) rfl ?_
    exact ⟨rfl, hBf⟩
  cases h5 : decide (lo < hi)
  · have g5 : decide (hi ≤ lo) = true := decide_eq_true (by have := of_decide_eq_false h5; omega)
    have hC : dlC x y b d lo hi = 2 := by unfold dlC dlR; rw [hp, h5]; simp
    have hV : ∀ n, dlV x y b d lo hi n = 0 := fun n => by unfold dlV; rw [hC]; rfl
    rw [hV, hV, hV, hV, hV, hV, hC]
    clear hV hC
    go_enter Try.func27, Try.ntmps27
    go_wp2_with (first | (go_at_call 78; refine (impl_ValidPoint _ _ _).mono ?_; rintro e w1 ⟨rfl, hb1⟩; have hB1 := bnext (w := w) (by go_grown) hb1; have hS1 := hB1.size; ((have hz1 : w.heap.size < w1.heap.size := by have := hb1.size; (try simp only [World.size_alloc, World.size_setCell, World.size_drew] at this); omega); (have hy1 : w.heap.size + 1 < w1.heap.size := by have := hb1.size; (try simp only [World.size_alloc, World.size_setCell, World.size_drew] at this); omega)); obtain ⟨hc1, hf1⟩ := bcell hb1; clear hb1) | (go_at_call 96; refine (impl_isBearing _ _).mono ?_; rintro e w' ⟨rfl, rfl⟩) | (go_at_call 85; refine (impl_isRange _ _).mono ?_; rintro e w' ⟨rfl, rfl⟩) | (go_at_call 88; refine (impl_isHeight _ _).mono ?_; rintro e w' ⟨rfl, rfl⟩))
    have h6 := all6 (p := fun k => (w1.cell? ⟨w.heap.size + 1, k, none⟩).isSome = true) (by rw [hc1 _ _ (by simp)]; simp [go_sem]) (by rw [hc1 _ _ (by simp)]; simp [go_sem]) (by rw [hc1 _ _ (by simp)]; simp [go_sem]) (by rw [hc1 _ _ (by simp)]; simp [go_sem]) (by rw [hc1 _ _ (by simp)]; simp [go_sem]) (by rw [hc1 _ _ (by simp)]; simp [go_sem])
    have hB := hB1
    obtain ⟨t0, t1, t2, t3, t4, t5⟩ := six_read (w := w1) (g := w.heap.size + 1) h6 (0) (0) (0) (0) (0) (0)
    have hBf := six_below (g := w.heap.size + 1) (by omega) hB (0) (0) (0) (0) (0) (0)
    generalize (World.setCell (World.setCell (World.setCell (World.setCell (World.setCell (World.setCell w1 ⟨w.heap.size + 1, 0, none⟩ (.int .i64 (0))) ⟨w.heap.size + 1, 1, none⟩ (.int .i64 (0))) ⟨w.heap.size + 1, 2, none⟩ (.int .i64 (0))) ⟨w.heap.size + 1, 3, none⟩ (.int .i64 (0))) ⟨w.heap.size + 1, 4, none⟩ (.int .i64 (0))) ⟨w.heap.size + 1, 5, none⟩ (.int .i64 (0))) = wf at t0 t1 t2 t3 t4 t5 hBf ⊢
    refine bodyPost_ret (by simp [results, Try.results27, go_sem, t0, t1, t2, t3, t4, t5]; try rfl) rfl ?_
    exact ⟨rfl, hBf⟩
  have g5 : decide (hi ≤ lo) = false := decide_eq_false (by have := of_decide_eq_true h5; omega)
  have hR : dlR b d lo hi = true := by unfold dlR; rw [h1, h2, h3, h4, h5]; rfl
  obtain ⟨b1, b2⟩ := vPoint_yes hp
  have b3 := inB_yes.1 h2
  go_enter Try.func27, Try.ntmps27
  go_wp2_with (first | (go_at_call 78; refine (impl_ValidPoint _ _ _).mono ?_; rintro e w1 ⟨rfl, hb1⟩; have hB1 := bnext (w := w) (by go_grown) hb1; have hS1 := hB1.size; ((have hz1 : w.heap.size < w1.heap.size := by have := hb1.size; (try simp only [World.size_alloc, World.size_setCell, World.size_drew] at this); omega); (have hy1 : w.heap.size + 1 < w1.heap.size := by have := hb1.size; (try simp only [World.size_alloc, World.size_setCell, World.size_drew] at this); omega)); obtain ⟨hc1, hf1⟩ := bcell hb1; clear hb1) | (go_at_call 96; refine (impl_isBearing _ _).mono ?_; rintro e w' ⟨rfl, rfl⟩) | (go_at_call 85; refine (impl_isRange _ _).mono ?_; rintro e w' ⟨rfl, rfl⟩) | (go_at_call 88; refine (impl_isHeight _ _).mono ?_; rintro e w' ⟨rfl, rfl⟩))
  have hD : DlIn w x y w1 := ⟨hB1, ⟨hz1, by rw [hc1 _ _ (by simp; omega)]; simp [go_sem], by rw [hc1 _ _ (by simp; omega)]; simp [go_sem]⟩, hy1, all6 (p := fun k => (w1.cell? ⟨w.heap.size + 1, k, none⟩).isSome = true ∧ w1.frozen? ⟨w.heap.size + 1, k, none⟩ = false) ⟨by rw [hc1 _ _ (by simp)]; simp [go_sem], by rw [hf1 _ _ (by simp)]; simp [go_sem]⟩ ⟨by rw [hc1 _ _ (by simp)]; simp [go_sem], by rw [hf1 _ _ (by simp)]; simp [go_sem]⟩ ⟨by rw [hc1 _ _ (by simp)]; simp [go_sem], by rw [hf1 _ _ (by simp)]; simp [go_sem]⟩ ⟨by rw [hc1 _ _ (by simp)]; simp [go_sem], by rw [hf1 _ _ (by simp)]; simp [go_sem]⟩ ⟨by rw [hc1 _ _ (by simp)]; simp [go_sem], by rw [hf1 _ _ (by simp)]; simp [go_sem]⟩ ⟨by rw [hc1 _ _ (by simp)]; simp [go_sem], by rw [hf1 _ _ (by simp)]; simp [go_sem]⟩⟩
  clear hc1 hf1 hB1
  obtain ⟨_, q0, q1⟩ := hD.s
  obtain ⟨X, hX⟩ : ∃ X, dlX x b d = X := ⟨_, rfl⟩
  obtain ⟨Y, hY⟩ : ∃ Y, dlY y b d = Y := ⟨_, rfl⟩
  have HX := Lib.hid hX
  have HY := Lib.hid hY
  have hmv : ∀ w, Calls Try.prog 97 #[.agg #[.int .i64 x, .int .i64 y], .int .i64 b, .int .i64 d] w fun e w' => e = .returned (.agg #[.int .i64 X, .int .i64 Y]) ∧ Below w.heap.size w w' := fun w => by rw [← hX, ← hY]; exact impl_moved x y b d w (by omega) (by omega) (by omega)
  clear hX hY
  have HR := Lib.hid hR
  have HP := Lib.hid hp
  clear b1 b2 b3 hS1 h1 h2 h3 h4 h5 g5 hR hp hz1
  go_region_held3 (fun w' => DlIn w x y w' ∧ (w').cell? ⟨w.heap.size, 0, none⟩ = some (.int .i64 x) ∧ (w').cell? ⟨w.heap.size, 1, none⟩ = some (.int .i64 y)) (first | assumption | (with_reducible refine DlIn.s ?_; assumption) | (with_reducible exact DlIn.s (DlIn.drew hD)) | (with_reducible exact DlIn.s (DlIn.alloc _ hD)) | (with_reducible exact DlIn.s (DlIn.alloc _ (DlIn.drew hD))) | (with_reducible exact DlIn.s (DlIn.alloc _ hm1)) | (with_reducible exact DlIn.s (DlIn.set (DlIn.set (DlIn.set (DlIn.set (DlIn.set (DlIn.set hm1 hy1) hy1) hy1) hy1) hy1) hy1)) | (with_reducible exact DlIn.s (DlIn.drew (DlIn.alloc _ hD)))) (first | (go_at_call 97; refine (hmv _).mono ?_; rintro e w2 ⟨rfl, hb2⟩; (have hm1 := dlS_on (by assumption) hb2); (obtain ⟨hc2, hf2⟩ := bcell hb2)))
  · refine then_at ?_
    intro wf hwf
    have hF : DlIn w x y wf := by rw [hwf]; exact DlIn.alloc _ hm1
    have hE : wf.cell? ⟨w2.heap.size, 0, none⟩ = some (.int .i64 x) ∧ wf.cell? ⟨w2.heap.size, 1, none⟩ = some (.int .i64 y) ∧ wf.cell? ⟨w2.heap.size, 2, none⟩ = some (.int .i64 X) ∧ wf.cell? ⟨w2.heap.size, 3, none⟩ = some (.int .i64 Y) ∧ wf.cell? ⟨w2.heap.size, 4, none⟩ = some (.int .i64 lo) ∧ wf.cell? ⟨w2.heap.size, 5, none⟩ = some (.int .i64 hi) := by rw [hwf]; exact ⟨by simp [go_sem], by simp [go_sem], by simp [go_sem], by simp [go_sem], by simp [go_sem], by simp [go_sem]⟩
    have hgz : w2.heap.size < wf.heap.size := by rw [hwf]; exact (by simp)
    obtain ⟨e0, e1, e2, e3, e4, e5⟩ := hE
    clear hwf hb2 hc2 hf2 hm1
    try clear hq
    have hrz := hF.2.2.1
    have n0 := heldAt_is (hF.2.2.2 0 (by omega)).1
    have n1 := heldAt_is (hF.2.2.2 1 (by omega)).1
    have n2 := heldAt_is (hF.2.2.2 2 (by omega)).1
    have n3 := heldAt_is (hF.2.2.2 3 (by omega)).1
    have n4 := heldAt_is (hF.2.2.2 4 (by omega)).1
    have n5 := heldAt_is (hF.2.2.2 5 (by omega)).1
    have r0 := (hF.2.2.2 0 (by omega)).2
    have r1 := (hF.2.2.2 1 (by omega)).2
    have r2 := (hF.2.2.2 2 (by omega)).2
    have r3 := (hF.2.2.2 3 (by omega)).2
    have r4 := (hF.2.2.2 4 (by omega)).2
    have r5 := (hF.2.2.2 5 (by omega)).2
    cases hl : vLead x y X Y lo hi
    · have hC : Hid (dlC x y b d lo hi = 6) := by apply Lib.hid; unfold dlC; rw [HP.out, HR.out, HX.out, HY.out, hl]; rfl
      have hV : Hid (∀ n, dlV x y b d lo hi n = 0) := Lib.hid fun n => by unfold dlV; rw [hC.out]; rfl
      go_wp2_with (go_at_call 77; refine (impl_ValidLeading _ _ _ _ _ _ _).mono ?_; rintro e w3 ⟨rfl, hb3⟩; (have hG := hF.on hb3); (obtain ⟨hc3, hf3⟩ := bcell hb3))
      have hB := hG.1
      obtain ⟨t0, t1, t2, t3, t4, t5⟩ := six_read (w := w3) (g := w.heap.size + 1) (fun k hk => (hG.2.2.2 k hk).1) (0) (0) (0) (0) (0) (0)
      have hBf := six_below (g := w.heap.size + 1) (by omega) hB (0) (0) (0) (0) (0) (0)
      generalize (World.setCell (World.setCell (World.setCell (World.setCell (World.setCell (World.setCell w3 ⟨w.heap.size + 1, 0, none⟩ (.int .i64 (0))) ⟨w.heap.size + 1, 1, none⟩ (.int .i64 (0))) ⟨w.heap.size + 1, 2, none⟩ (.int .i64 (0))) ⟨w.heap.size + 1, 3, none⟩ (.int .i64 (0))) ⟨w.heap.size + 1, 4, none⟩ (.int .i64 (0))) ⟨w.heap.size + 1, 5, none⟩ (.int .i64 (0))) = wf at t0 t1 t2 t3 t4 t5 hBf ⊢
      refine bodyPost_ret (by simp [results, Try.results27, go_sem, t0, t1, t2, t3, t4, t5]; try rfl) rfl ?_
      exact ⟨by rw [hV.out, hV.out, hV.out, hV.out, hV.out, hV.out, hC.out], hBf⟩
    · have hC : Hid (dlC x y b d lo hi = 0) := by apply Lib.hid; unfold dlC; rw [HP.out, HR.out, HX.out, HY.out, hl]; rfl
      have hV : Hid (∀ n, dlV x y b d lo hi n = n) := Lib.hid fun n => by unfold dlV; rw [hC.out]; rfl
      go_wp2_with (go_at_call 77; refine (impl_ValidLeading _ _ _ _ _ _ _).mono ?_; rintro e w3 ⟨rfl, hb3⟩; (have hG := hF.on hb3); (obtain ⟨hc3, hf3⟩ := bcell hb3))
      have hB := hG.1
      obtain ⟨t0, t1, t2, t3, t4, t5⟩ := six_read (w := w3) (g := w.heap.size + 1) (fun k hk => (hG.2.2.2 k hk).1) (x) (y) (X) (Y) (lo) (hi)
      have hBf := six_below (g := w.heap.size + 1) (by omega) hB (x) (y) (X) (Y) (lo) (hi)
      generalize (World.setCell (World.setCell (World.setCell (World.setCell (World.setCell (World.setCell w3 ⟨w.heap.size + 1, 0, none⟩ (.int .i64 (x))) ⟨w.heap.size + 1, 1, none⟩ (.int .i64 (y))) ⟨w.heap.size + 1, 2, none⟩ (.int .i64 (X))) ⟨w.heap.size + 1, 3, none⟩ (.int .i64 (Y))) ⟨w.heap.size + 1, 4, none⟩ (.int .i64 (lo))) ⟨w.heap.size + 1, 5, none⟩ (.int .i64 (hi))) = wf at t0 t1 t2 t3 t4 t5 hBf ⊢
      refine bodyPost_ret (by simp [results, Try.results27, go_sem, t0, t1, t2, t3, t4, t5]; try rfl) rfl ?_
      exact ⟨by rw [hV.out, hV.out, hV.out, hV.out, hV.out, hV.out, hC.out, HX.out, HY.out], hBf⟩
  · have hq := hb2.size
    refine then_at ?_
    intro wf hwf
    have hF : DlIn w x y wf := by rw [hwf]; exact DlIn.set (DlIn.set (DlIn.set (DlIn.set (DlIn.set (DlIn.set hm1 hy1) hy1) hy1) hy1) hy1) hy1
    have hE : wf.cell? ⟨w1.heap.size, 0, none⟩ = some (.int .i64 x) ∧ wf.cell? ⟨w1.heap.size, 1, none⟩ = some (.int .i64 y) ∧ wf.cell? ⟨w1.heap.size, 2, none⟩ = some (.int .i64 X) ∧ wf.cell? ⟨w1.heap.size, 3, none⟩ = some (.int .i64 Y) ∧ wf.cell? ⟨w1.heap.size, 4, none⟩ = some (.int .i64 lo) ∧ wf.cell? ⟨w1.heap.size, 5, none⟩ = some (.int .i64 hi) := by rw [hwf]; exact six_read (all6 (p := fun k => (w2.cell? ⟨w1.heap.size, k, none⟩).isSome = true) (by rw [hc2 _ _ (by simp)]; simp [go_sem]) (by rw [hc2 _ _ (by simp)]; simp [go_sem]) (by rw [hc2 _ _ (by simp)]; simp [go_sem]) (by rw [hc2 _ _ (by simp)]; simp [go_sem]) (by rw [hc2 _ _ (by simp)]; simp [go_sem]) (by rw [hc2 _ _ (by simp)]; simp [go_sem])) _ _ _ _ _ _
    have hgz : w1.heap.size < wf.heap.size := by rw [hwf]; exact (by simp at hq ⊢; omega)
    obtain ⟨e0, e1, e2, e3, e4, e5⟩ := hE
    clear hwf hb2 hc2 hf2 hm1
    try clear hq
    have hrz := hF.2.2.1
    have n0 := heldAt_is (hF.2.2.2 0 (by omega)).1
    have n1 := heldAt_is (hF.2.2.2 1 (by omega)).1
    have n2 := heldAt_is (hF.2.2.2 2 (by omega)).1
    have n3 := heldAt_is (hF.2.2.2 3 (by omega)).1
    have n4 := heldAt_is (hF.2.2.2 4 (by omega)).1
    have n5 := heldAt_is (hF.2.2.2 5 (by omega)).1
    have r0 := (hF.2.2.2 0 (by omega)).2
    have r1 := (hF.2.2.2 1 (by omega)).2
    have r2 := (hF.2.2.2 2 (by omega)).2
    have r3 := (hF.2.2.2 3 (by omega)).2
    have r4 := (hF.2.2.2 4 (by omega)).2
    have r5 := (hF.2.2.2 5 (by omega)).2
    cases hl : vLead x y X Y lo hi
    · have hC : Hid (dlC x y b d lo hi = 6) := by apply Lib.hid; unfold dlC; rw [HP.out, HR.out, HX.out, HY.out, hl]; rfl
      have hV : Hid (∀ n, dlV x y b d lo hi n = 0) := Lib.hid fun n => by unfold dlV; rw [hC.out]; rfl
      go_wp2_with (go_at_call 77; refine (impl_ValidLeading _ _ _ _ _ _ _).mono ?_; rintro e w3 ⟨rfl, hb3⟩; (have hG := hF.on hb3); (obtain ⟨hc3, hf3⟩ := bcell hb3))
      have hB := hG.1
      obtain ⟨t0, t1, t2, t3, t4, t5⟩ := six_read (w := w3) (g := w.heap.size + 1) (fun k hk => (hG.2.2.2 k hk).1) (0) (0) (0) (0) (0) (0)
      have hBf := six_below (g := w.heap.size + 1) (by omega) hB (0) (0) (0) (0) (0) (0)
      generalize (World.setCell (World.setCell (World.setCell (World.setCell (World.setCell (World.setCell w3 ⟨w.heap.size + 1, 0, none⟩ (.int .i64 (0))) ⟨w.heap.size + 1, 1, none⟩ (.int .i64 (0))) ⟨w.heap.size + 1, 2, none⟩ (.int .i64 (0))) ⟨w.heap.size + 1, 3, none⟩ (.int .i64 (0))) ⟨w.heap.size + 1, 4, none⟩ (.int .i64 (0))) ⟨w.heap.size + 1, 5, none⟩ (.int .i64 (0))) = wf at t0 t1 t2 t3 t4 t5 hBf ⊢
      refine bodyPost_ret (by simp [results, Try.results27, go_sem, t0, t1, t2, t3, t4, t5]; try rfl) rfl ?_
      exact ⟨by rw [hV.out, hV.out, hV.out, hV.out, hV.out, hV.out, hC.out], hBf⟩
    · have hC : Hid (dlC x y b d lo hi = 0) := by apply Lib.hid; unfold dlC; rw [HP.out, HR.out, HX.out, HY.out, hl]; rfl
      have hV : Hid (∀ n, dlV x y b d lo hi n = n) := Lib.hid fun n => by unfold dlV; rw [hC.out]; rfl
      go_wp2_with (go_at_call 77; refine (impl_ValidLeading _ _ _ _ _ _ _).mono ?_; rintro e w3 ⟨rfl, hb3⟩; (have hG := hF.on hb3); (obtain ⟨hc3, hf3⟩ := bcell hb3))
      have hB := hG.1
      obtain ⟨t0, t1, t2, t3, t4, t5⟩ := six_read (w := w3) (g := w.heap.size + 1) (fun k hk => (hG.2.2.2 k hk).1) (x) (y) (X) (Y) (lo) (hi)
      have hBf := six_below (g := w.heap.size + 1) (by omega) hB (x) (y) (X) (Y) (lo) (hi)
      generalize (World.setCell (World.setCell (World.setCell (World.setCell (World.setCell (World.setCell w3 ⟨w.heap.size + 1, 0, none⟩ (.int .i64 (x))) ⟨w.heap.size + 1, 1, none⟩ (.int .i64 (y))) ⟨w.heap.size + 1, 2, none⟩ (.int .i64 (X))) ⟨w.heap.size + 1, 3, none⟩ (.int .i64 (Y))) ⟨w.heap.size + 1, 4, none⟩ (.int .i64 (lo))) ⟨w.heap.size + 1, 5, none⟩ (.int .i64 (hi))) = wf at t0 t1 t2 t3 t4 t5 hBf ⊢
      refine bodyPost_ret (by simp [results, Try.results27, go_sem, t0, t1, t2, t3, t4, t5]; try rfl) rfl ?_
      exact ⟨by rw [hV.out, hV.out, hV.out, hV.out, hV.out, hV.out, hC.out, HX.out, HY.out], hBf⟩
set_option maxHeartbeats 1600000 in
theorem spec_DesignLeading (x y b d lo hi : Int) (w : World) :
    Calls Try.prog 25 #[.agg #[.int .i64 x, .int .i64 y], .int .i64 b, .int .i64 d, .int .i64 lo, .int .i64 hi] w fun e w' => e = .returned (.tuple #[.agg #[.int .i64 (dlV x y b d lo hi x), .int .i64 (dlV x y b d lo hi y), .int .i64 (dlV x y b d lo hi (dlX x b d)), .int .i64 (dlV x y b d lo hi (dlY y b d)), .int .i64 (dlV x y b d lo hi lo), .int .i64 (dlV x y b d lo hi hi)], .int .i64 (dlC x y b d lo hi)]) ∧ Below w.heap.size w w' := by
  cases hp : vPoint x y
  · have hC : dlC x y b d lo hi = 1 := by unfold dlC; rw [hp]; rfl
    have hV : ∀ n, dlV x y b d lo hi n = 0 := fun n => by unfold dlV; rw [hC]; rfl
    rw [hV, hV, hV, hV, hV, hV, hC]
    clear hV hC
    go_enter Try.func25, Try.ntmps25
    go_wp2_with (first | (go_at_call 90; refine (spec_l02Ok _ _ _).mono ?_; rintro e w1 ⟨rfl, hb1⟩; have hB1 := bnext (w := w) (by go_grown) hb1; have hS1 := hB1.size; ((have hz1 : w.heap.size < w1.heap.size := by have := hb1.size; (try simp only [World.size_alloc, World.size_setCell, World.size_drew] at this); omega); (have hy1 : w.heap.size + 1 < w1.heap.size := by have := hb1.size; (try simp only [World.size_alloc, World.size_setCell, World.size_drew] at this); omega)); obtain ⟨hc1, hf1⟩ := bcell hb1; clear hb1))
    have h6 := all6 (p := fun k => (w1.cell? ⟨w.heap.size + 1, k, none⟩).isSome = true) (by rw [hc1 _ _ (by simp)]; simp [go_sem]) (by rw [hc1 _ _ (by simp)]; simp [go_sem]) (by rw [hc1 _ _ (by simp)]; simp [go_sem]) (by rw [hc1 _ _ (by simp)]; simp [go_sem]) (by rw [hc1 _ _ (by simp)]; simp [go_sem]) (by rw [hc1 _ _ (by simp)]; simp [go_sem])
    have hB := hB1
    obtain ⟨t0, t1, t2, t3, t4, t5⟩ := six_read (w := w1) (g := w.heap.size + 1) h6 (0) (0) (0) (0) (0) (0)
    have hBf := six_below (g := w.heap.size + 1) (by omega) hB (0) (0) (0) (0) (0) (0)
    generalize (World.setCell (World.setCell (World.setCell (World.setCell (World.setCell (World.setCell w1 ⟨w.heap.size + 1, 0, none⟩ (.int .i64 (0))) ⟨w.heap.size + 1, 1, none⟩ (.int .i64 (0))) ⟨w.heap.size + 1, 2, none⟩ (.int .i64 (0))) ⟨w.heap.size + 1, 3, none⟩ (.int .i64 (0))) ⟨w.heap.size + 1, 4, none⟩ (.int .i64 (0))) ⟨w.heap.size + 1, 5, none⟩ (.int .i64 (0))) = wf at t0 t1 t2 t3 t4 t5 hBf ⊢
    refine bodyPost_ret (by simp [results, Try.results25, go_sem, t0, t1, t2, t3, t4, t5]; try rfl) rfl ?_
    exact ⟨rfl, hBf⟩
  cases h1 : inB b 0 359
  · have hC : dlC x y b d lo hi = 2 := by unfold dlC dlR; rw [hp, h1]; simp
    have hV : ∀ n, dlV x y b d lo hi n = 0 := fun n => by unfold dlV; rw [hC]; rfl
    rw [hV, hV, hV, hV, hV, hV, hC]
    clear hV hC
    go_enter Try.func25, Try.ntmps25
    go_wp2_with (first | (go_at_call 90; refine (spec_l02Ok _ _ _).mono ?_; rintro e w1 ⟨rfl, hb1⟩; have hB1 := bnext (w := w) (by go_grown) hb1; have hS1 := hB1.size; ((have hz1 : w.heap.size < w1.heap.size := by have := hb1.size; (try simp only [World.size_alloc, World.size_setCell, World.size_drew] at this); omega); (have hy1 : w.heap.size + 1 < w1.heap.size := by have := hb1.size; (try simp only [World.size_alloc, World.size_setCell, World.size_drew] at this); omega)); obtain ⟨hc1, hf1⟩ := bcell hb1; clear hb1) | (go_at_call 91; refine (in_any _ _ _ _).mono ?_; rintro e w' ⟨rfl, rfl⟩) | (go_at_call 92; refine (spec_Range _ _).mono ?_; rintro e w' ⟨rfl, rfl⟩) | (go_at_call 93; refine (spec_Height _ _).mono ?_; rintro e w' ⟨rfl, rfl⟩))
    have h6 := all6 (p := fun k => (w1.cell? ⟨w.heap.size + 1, k, none⟩).isSome = true) (by rw [hc1 _ _ (by simp)]; simp [go_sem]) (by rw [hc1 _ _ (by simp)]; simp [go_sem]) (by rw [hc1 _ _ (by simp)]; simp [go_sem]) (by rw [hc1 _ _ (by simp)]; simp [go_sem]) (by rw [hc1 _ _ (by simp)]; simp [go_sem]) (by rw [hc1 _ _ (by simp)]; simp [go_sem])
    have hB := hB1
    obtain ⟨t0, t1, t2, t3, t4, t5⟩ := six_read (w := w1) (g := w.heap.size + 1) h6 (0) (0) (0) (0) (0) (0)
    have hBf := six_below (g := w.heap.size + 1) (by omega) hB (0) (0) (0) (0) (0) (0)
    generalize (World.setCell (World.setCell (World.setCell (World.setCell (World.setCell (World.setCell w1 ⟨w.heap.size + 1, 0, none⟩ (.int .i64 (0))) ⟨w.heap.size + 1, 1, none⟩ (.int .i64 (0))) ⟨w.heap.size + 1, 2, none⟩ (.int .i64 (0))) ⟨w.heap.size + 1, 3, none⟩ (.int .i64 (0))) ⟨w.heap.size + 1, 4, none⟩ (.int .i64 (0))) ⟨w.heap.size + 1, 5, none⟩ (.int .i64 (0))) = wf at t0 t1 t2 t3 t4 t5 hBf ⊢
    refine bodyPost_ret (by simp [results, Try.results25, go_sem, t0, t1, t2, t3, t4, t5]; try rfl) rfl ?_
    exact ⟨rfl, hBf⟩
  cases h2 : inB d 1 100000
  · have hC : dlC x y b d lo hi = 2 := by unfold dlC dlR; rw [hp, h2]; simp
    have hV : ∀ n, dlV x y b d lo hi n = 0 := fun n => by unfold dlV; rw [hC]; rfl
    rw [hV, hV, hV, hV, hV, hV, hC]
    clear hV hC
    go_enter Try.func25, Try.ntmps25
    go_wp2_with (first | (go_at_call 90; refine (spec_l02Ok _ _ _).mono ?_; rintro e w1 ⟨rfl, hb1⟩; have hB1 := bnext (w := w) (by go_grown) hb1; have hS1 := hB1.size; ((have hz1 : w.heap.size < w1.heap.size := by have := hb1.size; (try simp only [World.size_alloc, World.size_setCell, World.size_drew] at this); omega); (have hy1 : w.heap.size + 1 < w1.heap.size := by have := hb1.size; (try simp only [World.size_alloc, World.size_setCell, World.size_drew] at this); omega)); obtain ⟨hc1, hf1⟩ := bcell hb1; clear hb1) | (go_at_call 91; refine (in_any _ _ _ _).mono ?_; rintro e w' ⟨rfl, rfl⟩) | (go_at_call 92; refine (spec_Range _ _).mono ?_; rintro e w' ⟨rfl, rfl⟩) | (go_at_call 93; refine (spec_Height _ _).mono ?_; rintro e w' ⟨rfl, rfl⟩))
    have h6 := all6 (p := fun k => (w1.cell? ⟨w.heap.size + 1, k, none⟩).isSome = true) (by rw [hc1 _ _ (by simp)]; simp [go_sem]) (by rw [hc1 _ _ (by simp)]; simp [go_sem]) (by rw [hc1 _ _ (by simp)]; simp [go_sem]) (by rw [hc1 _ _ (by simp)]; simp [go_sem]) (by rw [hc1 _ _ (by simp)]; simp [go_sem]) (by rw [hc1 _ _ (by simp)]; simp [go_sem])
    have hB := hB1
    obtain ⟨t0, t1, t2, t3, t4, t5⟩ := six_read (w := w1) (g := w.heap.size + 1) h6 (0) (0) (0) (0) (0) (0)
    have hBf := six_below (g := w.heap.size + 1) (by omega) hB (0) (0) (0) (0) (0) (0)
    generalize (World.setCell (World.setCell (World.setCell (World.setCell (World.setCell (World.setCell w1 ⟨w.heap.size + 1, 0, none⟩ (.int .i64 (0))) ⟨w.heap.size + 1, 1, none⟩ (.int .i64 (0))) ⟨w.heap.size + 1, 2, none⟩ (.int .i64 (0))) ⟨w.heap.size + 1, 3, none⟩ (.int .i64 (0))) ⟨w.heap.size + 1, 4, none⟩ (.int .i64 (0))) ⟨w.heap.size + 1, 5, none⟩ (.int .i64 (0))) = wf at t0 t1 t2 t3 t4 t5 hBf ⊢
    refine bodyPost_ret (by simp [results, Try.results25, go_sem, t0, t1, t2, t3, t4, t5]; try rfl) rfl ?_
    exact ⟨rfl, hBf⟩
  cases h3 : inB lo 0 3000
  · have hC : dlC x y b d lo hi = 2 := by unfold dlC dlR; rw [hp, h3]; simp
    have hV : ∀ n, dlV x y b d lo hi n = 0 := fun n => by unfold dlV; rw [hC]; rfl
    rw [hV, hV, hV, hV, hV, hV, hC]
    clear hV hC
    go_enter Try.func25, Try.ntmps25
    go_wp2_with (first | (go_at_call 90; refine (spec_l02Ok _ _ _).mono ?_; rintro e w1 ⟨rfl, hb1⟩; have hB1 := bnext (w := w) (by go_grown) hb1; have hS1 := hB1.size; ((have hz1 : w.heap.size < w1.heap.size := by have := hb1.size; (try simp only [World.size_alloc, World.size_setCell, World.size_drew] at this); omega); (have hy1 : w.heap.size + 1 < w1.heap.size := by have := hb1.size; (try simp only [World.size_alloc, World.size_setCell, World.size_drew] at this); omega)); obtain ⟨hc1, hf1⟩ := bcell hb1; clear hb1) | (go_at_call 91; refine (in_any _ _ _ _).mono ?_; rintro e w' ⟨rfl, rfl⟩) | (go_at_call 92; refine (spec_Range _ _).mono ?_; rintro e w' ⟨rfl, rfl⟩) | (go_at_call 93; refine (spec_Height _ _).mono ?_; rintro e w' ⟨rfl, rfl⟩))
    have h6 := all6 (p := fun k => (w1.cell? ⟨w.heap.size + 1, k, none⟩).isSome = true) (by rw [hc1 _ _ (by simp)]; simp [go_sem]) (by rw [hc1 _ _ (by simp)]; simp [go_sem]) (by rw [hc1 _ _ (by simp)]; simp [go_sem]) (by rw [hc1 _ _ (by simp)]; simp [go_sem]) (by rw [hc1 _ _ (by simp)]; simp [go_sem]) (by rw [hc1 _ _ (by simp)]; simp [go_sem])
    have hB := hB1
    obtain ⟨t0, t1, t2, t3, t4, t5⟩ := six_read (w := w1) (g := w.heap.size + 1) h6 (0) (0) (0) (0) (0) (0)
    have hBf := six_below (g := w.heap.size + 1) (by omega) hB (0) (0) (0) (0) (0) (0)
    generalize (World.setCell (World.setCell (World.setCell (World.setCell (World.setCell (World.setCell w1 ⟨w.heap.size + 1, 0, none⟩ (.int .i64 (0))) ⟨w.heap.size + 1, 1, none⟩ (.int .i64 (0))) ⟨w.heap.size + 1, 2, none⟩ (.int .i64 (0))) ⟨w.heap.size + 1, 3, none⟩ (.int .i64 (0))) ⟨w.heap.size + 1, 4, none⟩ (.int .i64 (0))) ⟨w.heap.size + 1, 5, none⟩ (.int .i64 (0))) = wf at t0 t1 t2 t3 t4 t5 hBf ⊢
    refine bodyPost_ret (by simp [results, Try.results25, go_sem, t0, t1, t2, t3, t4, t5]; try rfl) rfl ?_
    exact ⟨rfl, hBf⟩
  cases h4 : inB hi 0 3000
  · have hC : dlC x y b d lo hi = 2 := by unfold dlC dlR; rw [hp, h4]; simp
    have hV : ∀ n, dlV x y b d lo hi n = 0 := fun n => by unfold dlV; rw [hC]; rfl
    rw [hV, hV, hV, hV, hV, hV, hC]
    clear hV hC
    go_enter Try.func25, Try.ntmps25
    go_wp2_with (first | (go_at_call 90; refine (spec_l02Ok _ _ _).mono ?_; rintro e w1 ⟨rfl, hb1⟩; have hB1 := bnext (w := w) (by go_grown) hb1; have hS1 := hB1.size; ((have hz1 : w.heap.size < w1.heap.size := by have := hb1.size; (try simp only [World.size_alloc, World.size_setCell, World.size_drew] at this); omega); (have hy1 : w.heap.size + 1 < w1.heap.size := by have := hb1.size; (try simp only [World.size_alloc, World.size_setCell, World.size_drew] at this); omega)); obtain ⟨hc1, hf1⟩ := bcell hb1; clear hb1) | (go_at_call 91; refine (in_any _ _ _ _).mono ?_; rintro e w' ⟨rfl, rfl⟩) | (go_at_call 92; refine (spec_Range _ _).mono ?_; rintro e w' ⟨rfl, rfl⟩) | (go_at_call 93; refine (spec_Height _ _).mono ?_; rintro e w' ⟨rfl, rfl⟩))
    have h6 := all6 (p := fun k => (w1.cell? ⟨w.heap.size + 1, k, none⟩).isSome = true) (by rw [hc1 _ _ (by simp)]; simp [go_sem]) (by rw [hc1 _ _ (by simp)]; simp [go_sem]) (by rw [hc1 _ _ (by simp)]; simp [go_sem]) (by rw [hc1 _ _ (by simp)]; simp [go_sem]) (by rw [hc1 _ _ (by simp)]; simp [go_sem]) (by rw [hc1 _ _ (by simp)]; simp [go_sem])
    have hB := hB1
    obtain ⟨t0, t1, t2, t3, t4, t5⟩ := six_read (w := w1) (g := w.heap.size + 1) h6 (0) (0) (0) (0) (0) (0)
    have hBf := six_below (g := w.heap.size + 1) (by omega) hB (0) (0) (0) (0) (0) (0)
    generalize (World.setCell (World.setCell (World.setCell (World.setCell (World.setCell (World.setCell w1 ⟨w.heap.size + 1, 0, none⟩ (.int .i64 (0))) ⟨w.heap.size + 1, 1, none⟩ (.int .i64 (0))) ⟨w.heap.size + 1, 2, none⟩ (.int .i64 (0))) ⟨w.heap.size + 1, 3, none⟩ (.int .i64 (0))) ⟨w.heap.size + 1, 4, none⟩ (.int .i64 (0))) ⟨w.heap.size + 1, 5, none⟩ (.int .i64 (0))) = wf at t0 t1 t2 t3 t4 t5 hBf ⊢
    refine bodyPost_ret (by simp [results, Try.results25, go_sem, t0, t1, t2, t3, t4, t5]; try rfl) rfl ?_
    exact ⟨rfl, hBf⟩
  cases h5 : decide (lo < hi)
  · have g5 : decide (hi ≤ lo) = true := decide_eq_true (by have := of_decide_eq_false h5; omega)
    have hC : dlC x y b d lo hi = 2 := by unfold dlC dlR; rw [hp, h5]; simp
    have hV : ∀ n, dlV x y b d lo hi n = 0 := fun n => by unfold dlV; rw [hC]; rfl
    rw [hV, hV, hV, hV, hV, hV, hC]
    clear hV hC
    go_enter Try.func25, Try.ntmps25
    go_wp2_with (first | (go_at_call 90; refine (spec_l02Ok _ _ _).mono ?_; rintro e w1 ⟨rfl, hb1⟩; have hB1 := bnext (w := w) (by go_grown) hb1; have hS1 := hB1.size; ((have hz1 : w.heap.size < w1.heap.size := by have := hb1.size; (try simp only [World.size_alloc, World.size_setCell, World.size_drew] at this); omega); (have hy1 : w.heap.size + 1 < w1.heap.size := by have := hb1.size; (try simp only [World.size_alloc, World.size_setCell, World.size_drew] at this); omega)); obtain ⟨hc1, hf1⟩ := bcell hb1; clear hb1) | (go_at_call 91; refine (in_any _ _ _ _).mono ?_; rintro e w' ⟨rfl, rfl⟩) | (go_at_call 92; refine (spec_Range _ _).mono ?_; rintro e w' ⟨rfl, rfl⟩) | (go_at_call 93; refine (spec_Height _ _).mono ?_; rintro e w' ⟨rfl, rfl⟩))
    have h6 := all6 (p := fun k => (w1.cell? ⟨w.heap.size + 1, k, none⟩).isSome = true) (by rw [hc1 _ _ (by simp)]; simp [go_sem]) (by rw [hc1 _ _ (by simp)]; simp [go_sem]) (by rw [hc1 _ _ (by simp)]; simp [go_sem]) (by rw [hc1 _ _ (by simp)]; simp [go_sem]) (by rw [hc1 _ _ (by simp)]; simp [go_sem]) (by rw [hc1 _ _ (by simp)]; simp [go_sem])
    have hB := hB1
    obtain ⟨t0, t1, t2, t3, t4, t5⟩ := six_read (w := w1) (g := w.heap.size + 1) h6 (0) (0) (0) (0) (0) (0)
    have hBf := six_below (g := w.heap.size + 1) (by omega) hB (0) (0) (0) (0) (0) (0)
    generalize (World.setCell (World.setCell (World.setCell (World.setCell (World.setCell (World.setCell w1 ⟨w.heap.size + 1, 0, none⟩ (.int .i64 (0))) ⟨w.heap.size + 1, 1, none⟩ (.int .i64 (0))) ⟨w.heap.size + 1, 2, none⟩ (.int .i64 (0))) ⟨w.heap.size + 1, 3, none⟩ (.int .i64 (0))) ⟨w.heap.size + 1, 4, none⟩ (.int .i64 (0))) ⟨w.heap.size + 1, 5, none⟩ (.int .i64 (0))) = wf at t0 t1 t2 t3 t4 t5 hBf ⊢
    refine bodyPost_ret (by simp [results, Try.results25, go_sem, t0, t1, t2, t3, t4, t5]; try rfl) rfl ?_
    exact ⟨rfl, hBf⟩
  have g5 : decide (hi ≤ lo) = false := decide_eq_false (by have := of_decide_eq_true h5; omega)
  have hR : dlR b d lo hi = true := by unfold dlR; rw [h1, h2, h3, h4, h5]; rfl
  obtain ⟨b1, b2⟩ := vPoint_yes hp
  have b3 := inB_yes.1 h2
  go_enter Try.func25, Try.ntmps25
  go_wp2_with (first | (go_at_call 90; refine (spec_l02Ok _ _ _).mono ?_; rintro e w1 ⟨rfl, hb1⟩; have hB1 := bnext (w := w) (by go_grown) hb1; have hS1 := hB1.size; ((have hz1 : w.heap.size < w1.heap.size := by have := hb1.size; (try simp only [World.size_alloc, World.size_setCell, World.size_drew] at this); omega); (have hy1 : w.heap.size + 1 < w1.heap.size := by have := hb1.size; (try simp only [World.size_alloc, World.size_setCell, World.size_drew] at this); omega)); obtain ⟨hc1, hf1⟩ := bcell hb1; clear hb1) | (go_at_call 91; refine (in_any _ _ _ _).mono ?_; rintro e w' ⟨rfl, rfl⟩) | (go_at_call 92; refine (spec_Range _ _).mono ?_; rintro e w' ⟨rfl, rfl⟩) | (go_at_call 93; refine (spec_Height _ _).mono ?_; rintro e w' ⟨rfl, rfl⟩))
  have hD : DlIn w x y w1 := ⟨hB1, ⟨hz1, by rw [hc1 _ _ (by simp; omega)]; simp [go_sem], by rw [hc1 _ _ (by simp; omega)]; simp [go_sem]⟩, hy1, all6 (p := fun k => (w1.cell? ⟨w.heap.size + 1, k, none⟩).isSome = true ∧ w1.frozen? ⟨w.heap.size + 1, k, none⟩ = false) ⟨by rw [hc1 _ _ (by simp)]; simp [go_sem], by rw [hf1 _ _ (by simp)]; simp [go_sem]⟩ ⟨by rw [hc1 _ _ (by simp)]; simp [go_sem], by rw [hf1 _ _ (by simp)]; simp [go_sem]⟩ ⟨by rw [hc1 _ _ (by simp)]; simp [go_sem], by rw [hf1 _ _ (by simp)]; simp [go_sem]⟩ ⟨by rw [hc1 _ _ (by simp)]; simp [go_sem], by rw [hf1 _ _ (by simp)]; simp [go_sem]⟩ ⟨by rw [hc1 _ _ (by simp)]; simp [go_sem], by rw [hf1 _ _ (by simp)]; simp [go_sem]⟩ ⟨by rw [hc1 _ _ (by simp)]; simp [go_sem], by rw [hf1 _ _ (by simp)]; simp [go_sem]⟩⟩
  clear hc1 hf1 hB1
  obtain ⟨_, q0, q1⟩ := hD.s
  obtain ⟨X, hX⟩ : ∃ X, dlX x b d = X := ⟨_, rfl⟩
  obtain ⟨Y, hY⟩ : ∃ Y, dlY y b d = Y := ⟨_, rfl⟩
  have HX := Lib.hid hX
  have HY := Lib.hid hY
  have hmv : ∀ w, Calls Try.prog 94 #[.agg #[.int .i64 x, .int .i64 y], .int .i64 b, .int .i64 d] w fun e w' => e = .returned (.agg #[.int .i64 X, .int .i64 Y]) ∧ Below w.heap.size w w' := fun w => by rw [← hX, ← hY]; exact spec_Move x y b d w (by omega) (by omega) (by omega)
  clear hX hY
  have HR := Lib.hid hR
  have HP := Lib.hid hp
  clear b1 b2 b3 hS1 h1 h2 h3 h4 h5 g5 hR hp hz1
  go_region_held3 (fun w' => DlIn w x y w' ∧ (w').cell? ⟨w.heap.size, 0, none⟩ = some (.int .i64 x) ∧ (w').cell? ⟨w.heap.size, 1, none⟩ = some (.int .i64 y)) (first | assumption | (with_reducible refine DlIn.s ?_; assumption) | (with_reducible exact DlIn.s (DlIn.drew hD)) | (with_reducible exact DlIn.s (DlIn.alloc _ hD)) | (with_reducible exact DlIn.s (DlIn.alloc _ (DlIn.drew hD))) | (with_reducible exact DlIn.s (DlIn.alloc _ hm1)) | (with_reducible exact DlIn.s (DlIn.set (DlIn.set (DlIn.set (DlIn.set (DlIn.set (DlIn.set hm1 hy1) hy1) hy1) hy1) hy1) hy1)) | (with_reducible exact DlIn.s (DlIn.drew (DlIn.alloc _ hD)))) (first | (go_at_call 94; refine (hmv _).mono ?_; rintro e w2 ⟨rfl, hb2⟩; (have hm1 := dlS_on (by assumption) hb2); (obtain ⟨hc2, hf2⟩ := bcell hb2)))
  · refine then_at ?_
    intro wf hwf
    have hF : DlIn w x y wf := by rw [hwf]; exact DlIn.alloc _ hm1
    have hE : wf.cell? ⟨w2.heap.size, 0, none⟩ = some (.int .i64 x) ∧ wf.cell? ⟨w2.heap.size, 1, none⟩ = some (.int .i64 y) ∧ wf.cell? ⟨w2.heap.size, 2, none⟩ = some (.int .i64 X) ∧ wf.cell? ⟨w2.heap.size, 3, none⟩ = some (.int .i64 Y) ∧ wf.cell? ⟨w2.heap.size, 4, none⟩ = some (.int .i64 lo) ∧ wf.cell? ⟨w2.heap.size, 5, none⟩ = some (.int .i64 hi) := by rw [hwf]; exact ⟨by simp [go_sem], by simp [go_sem], by simp [go_sem], by simp [go_sem], by simp [go_sem], by simp [go_sem]⟩
    have hgz : w2.heap.size < wf.heap.size := by rw [hwf]; exact (by simp)
    obtain ⟨e0, e1, e2, e3, e4, e5⟩ := hE
    clear hwf hb2 hc2 hf2 hm1
    try clear hq
    have hrz := hF.2.2.1
    have n0 := heldAt_is (hF.2.2.2 0 (by omega)).1
    have n1 := heldAt_is (hF.2.2.2 1 (by omega)).1
    have n2 := heldAt_is (hF.2.2.2 2 (by omega)).1
    have n3 := heldAt_is (hF.2.2.2 3 (by omega)).1
    have n4 := heldAt_is (hF.2.2.2 4 (by omega)).1
    have n5 := heldAt_is (hF.2.2.2 5 (by omega)).1
    have r0 := (hF.2.2.2 0 (by omega)).2
    have r1 := (hF.2.2.2 1 (by omega)).2
    have r2 := (hF.2.2.2 2 (by omega)).2
    have r3 := (hF.2.2.2 3 (by omega)).2
    have r4 := (hF.2.2.2 4 (by omega)).2
    have r5 := (hF.2.2.2 5 (by omega)).2
    cases hl : vLead x y X Y lo hi
    · have hC : Hid (dlC x y b d lo hi = 6) := by apply Lib.hid; unfold dlC; rw [HP.out, HR.out, HX.out, HY.out, hl]; rfl
      have hV : Hid (∀ n, dlV x y b d lo hi n = 0) := Lib.hid fun n => by unfold dlV; rw [hC.out]; rfl
      go_wp2_with (go_at_call 95; refine (spec_l15Ok x y X Y lo hi _ _ hgz e0 e1 e2 e3 e4 e5).mono ?_; rintro e w3 ⟨rfl, hb3⟩; (have hG := hF.on hb3); (obtain ⟨hc3, hf3⟩ := bcell hb3))
      have hB := hG.1
      obtain ⟨t0, t1, t2, t3, t4, t5⟩ := six_read (w := w3) (g := w.heap.size + 1) (fun k hk => (hG.2.2.2 k hk).1) (0) (0) (0) (0) (0) (0)
      have hBf := six_below (g := w.heap.size + 1) (by omega) hB (0) (0) (0) (0) (0) (0)
      generalize (World.setCell (World.setCell (World.setCell (World.setCell (World.setCell (World.setCell w3 ⟨w.heap.size + 1, 0, none⟩ (.int .i64 (0))) ⟨w.heap.size + 1, 1, none⟩ (.int .i64 (0))) ⟨w.heap.size + 1, 2, none⟩ (.int .i64 (0))) ⟨w.heap.size + 1, 3, none⟩ (.int .i64 (0))) ⟨w.heap.size + 1, 4, none⟩ (.int .i64 (0))) ⟨w.heap.size + 1, 5, none⟩ (.int .i64 (0))) = wf at t0 t1 t2 t3 t4 t5 hBf ⊢
      refine bodyPost_ret (by simp [results, Try.results25, go_sem, t0, t1, t2, t3, t4, t5]; try rfl) rfl ?_
      exact ⟨by rw [hV.out, hV.out, hV.out, hV.out, hV.out, hV.out, hC.out], hBf⟩
    · have hC : Hid (dlC x y b d lo hi = 0) := by apply Lib.hid; unfold dlC; rw [HP.out, HR.out, HX.out, HY.out, hl]; rfl
      have hV : Hid (∀ n, dlV x y b d lo hi n = n) := Lib.hid fun n => by unfold dlV; rw [hC.out]; rfl
      go_wp2_with (go_at_call 95; refine (spec_l15Ok x y X Y lo hi _ _ hgz e0 e1 e2 e3 e4 e5).mono ?_; rintro e w3 ⟨rfl, hb3⟩; (have hG := hF.on hb3); (obtain ⟨hc3, hf3⟩ := bcell hb3))
      have hB := hG.1
      obtain ⟨t0, t1, t2, t3, t4, t5⟩ := six_read (w := w3) (g := w.heap.size + 1) (fun k hk => (hG.2.2.2 k hk).1) (x) (y) (X) (Y) (lo) (hi)
      have hBf := six_below (g := w.heap.size + 1) (by omega) hB (x) (y) (X) (Y) (lo) (hi)
      generalize (World.setCell (World.setCell (World.setCell (World.setCell (World.setCell (World.setCell w3 ⟨w.heap.size + 1, 0, none⟩ (.int .i64 (x))) ⟨w.heap.size + 1, 1, none⟩ (.int .i64 (y))) ⟨w.heap.size + 1, 2, none⟩ (.int .i64 (X))) ⟨w.heap.size + 1, 3, none⟩ (.int .i64 (Y))) ⟨w.heap.size + 1, 4, none⟩ (.int .i64 (lo))) ⟨w.heap.size + 1, 5, none⟩ (.int .i64 (hi))) = wf at t0 t1 t2 t3 t4 t5 hBf ⊢
      refine bodyPost_ret (by simp [results, Try.results25, go_sem, t0, t1, t2, t3, t4, t5]; try rfl) rfl ?_
      exact ⟨by rw [hV.out, hV.out, hV.out, hV.out, hV.out, hV.out, hC.out, HX.out, HY.out], hBf⟩
  · have hq := hb2.size
    refine then_at ?_
    intro wf hwf
    have hF : DlIn w x y wf := by rw [hwf]; exact DlIn.set (DlIn.set (DlIn.set (DlIn.set (DlIn.set (DlIn.set hm1 hy1) hy1) hy1) hy1) hy1) hy1
    have hE : wf.cell? ⟨w1.heap.size, 0, none⟩ = some (.int .i64 x) ∧ wf.cell? ⟨w1.heap.size, 1, none⟩ = some (.int .i64 y) ∧ wf.cell? ⟨w1.heap.size, 2, none⟩ = some (.int .i64 X) ∧ wf.cell? ⟨w1.heap.size, 3, none⟩ = some (.int .i64 Y) ∧ wf.cell? ⟨w1.heap.size, 4, none⟩ = some (.int .i64 lo) ∧ wf.cell? ⟨w1.heap.size, 5, none⟩ = some (.int .i64 hi) := by rw [hwf]; exact six_read (all6 (p := fun k => (w2.cell? ⟨w1.heap.size, k, none⟩).isSome = true) (by rw [hc2 _ _ (by simp)]; simp [go_sem]) (by rw [hc2 _ _ (by simp)]; simp [go_sem]) (by rw [hc2 _ _ (by simp)]; simp [go_sem]) (by rw [hc2 _ _ (by simp)]; simp [go_sem]) (by rw [hc2 _ _ (by simp)]; simp [go_sem]) (by rw [hc2 _ _ (by simp)]; simp [go_sem])) _ _ _ _ _ _
    have hgz : w1.heap.size < wf.heap.size := by rw [hwf]; exact (by simp at hq ⊢; omega)
    obtain ⟨e0, e1, e2, e3, e4, e5⟩ := hE
    clear hwf hb2 hc2 hf2 hm1
    try clear hq
    have hrz := hF.2.2.1
    have n0 := heldAt_is (hF.2.2.2 0 (by omega)).1
    have n1 := heldAt_is (hF.2.2.2 1 (by omega)).1
    have n2 := heldAt_is (hF.2.2.2 2 (by omega)).1
    have n3 := heldAt_is (hF.2.2.2 3 (by omega)).1
    have n4 := heldAt_is (hF.2.2.2 4 (by omega)).1
    have n5 := heldAt_is (hF.2.2.2 5 (by omega)).1
    have r0 := (hF.2.2.2 0 (by omega)).2
    have r1 := (hF.2.2.2 1 (by omega)).2
    have r2 := (hF.2.2.2 2 (by omega)).2
    have r3 := (hF.2.2.2 3 (by omega)).2
    have r4 := (hF.2.2.2 4 (by omega)).2
    have r5 := (hF.2.2.2 5 (by omega)).2
    cases hl : vLead x y X Y lo hi
    · have hC : Hid (dlC x y b d lo hi = 6) := by apply Lib.hid; unfold dlC; rw [HP.out, HR.out, HX.out, HY.out, hl]; rfl
      have hV : Hid (∀ n, dlV x y b d lo hi n = 0) := Lib.hid fun n => by unfold dlV; rw [hC.out]; rfl
      go_wp2_with (go_at_call 95; refine (spec_l15Ok x y X Y lo hi _ _ hgz e0 e1 e2 e3 e4 e5).mono ?_; rintro e w3 ⟨rfl, hb3⟩; (have hG := hF.on hb3); (obtain ⟨hc3, hf3⟩ := bcell hb3))
      have hB := hG.1
      obtain ⟨t0, t1, t2, t3, t4, t5⟩ := six_read (w := w3) (g := w.heap.size + 1) (fun k hk => (hG.2.2.2 k hk).1) (0) (0) (0) (0) (0) (0)
      have hBf := six_below (g := w.heap.size + 1) (by omega) hB (0) (0) (0) (0) (0) (0)
      generalize (World.setCell (World.setCell (World.setCell (World.setCell (World.setCell (World.setCell w3 ⟨w.heap.size + 1, 0, none⟩ (.int .i64 (0))) ⟨w.heap.size + 1, 1, none⟩ (.int .i64 (0))) ⟨w.heap.size + 1, 2, none⟩ (.int .i64 (0))) ⟨w.heap.size + 1, 3, none⟩ (.int .i64 (0))) ⟨w.heap.size + 1, 4, none⟩ (.int .i64 (0))) ⟨w.heap.size + 1, 5, none⟩ (.int .i64 (0))) = wf at t0 t1 t2 t3 t4 t5 hBf ⊢
      refine bodyPost_ret (by simp [results, Try.results25, go_sem, t0, t1, t2, t3, t4, t5]; try rfl) rfl ?_
      exact ⟨by rw [hV.out, hV.out, hV.out, hV.out, hV.out, hV.out, hC.out], hBf⟩
    · have hC : Hid (dlC x y b d lo hi = 0) := by apply Lib.hid; unfold dlC; rw [HP.out, HR.out, HX.out, HY.out, hl]; rfl
      have hV : Hid (∀ n, dlV x y b d lo hi n = n) := Lib.hid fun n => by unfold dlV; rw [hC.out]; rfl
      go_wp2_with (go_at_call 95; refine (spec_l15Ok x y X Y lo hi _ _ hgz e0 e1 e2 e3 e4 e5).mono ?_; rintro e w3 ⟨rfl, hb3⟩; (have hG := hF.on hb3); (obtain ⟨hc3, hf3⟩ := bcell hb3))
      have hB := hG.1
      obtain ⟨t0, t1, t2, t3, t4, t5⟩ := six_read (w := w3) (g := w.heap.size + 1) (fun k hk => (hG.2.2.2 k hk).1) (x) (y) (X) (Y) (lo) (hi)
      have hBf := six_below (g := w.heap.size + 1) (by omega) hB (x) (y) (X) (Y) (lo) (hi)
      generalize (World.setCell (World.setCell (World.setCell (World.setCell (World.setCell (World.setCell w3 ⟨w.heap.size + 1, 0, none⟩ (.int .i64 (x))) ⟨w.heap.size + 1, 1, none⟩ (.int .i64 (y))) ⟨w.heap.size + 1, 2, none⟩ (.int .i64 (X))) ⟨w.heap.size + 1, 3, none⟩ (.int .i64 (Y))) ⟨w.heap.size + 1, 4, none⟩ (.int .i64 (lo))) ⟨w.heap.size + 1, 5, none⟩ (.int .i64 (hi))) = wf at t0 t1 t2 t3 t4 t5 hBf ⊢
      refine bodyPost_ret (by simp [results, Try.results25, go_sem, t0, t1, t2, t3, t4, t5]; try rfl) rfl ?_
      exact ⟨by rw [hV.out, hV.out, hV.out, hV.out, hV.out, hV.out, hC.out, HX.out, HY.out], hBf⟩
theorem eqPoint_same (x y : Int) (w : World) : Calls Try.prog 41 #[.agg #[.int .i64 x, .int .i64 y], .agg #[.int .i64 x, .int .i64 y]] w fun e w' => e = .returned (.bool true) ∧ Below w.heap.size w w' := by
  have h := eqPoint_any x y x y w
  simpa using h
theorem eqLeading_same (a b c d e f : Int) (w : World) : Calls Try.prog 28 #[.agg #[.int .i64 a, .int .i64 b, .int .i64 c, .int .i64 d, .int .i64 e, .int .i64 f], .agg #[.int .i64 a, .int .i64 b, .int .i64 c, .int .i64 d, .int .i64 e, .int .i64 f]] w fun e w' => e = .returned (.bool true) ∧ Below w.heap.size w w' := by
  go_enter Try.func28, Try.ntmps28
  go_wp2_with (first | (go_at_call 41; refine (eqPoint_same _ _ _).mono ?_; rintro e w1 ⟨rfl, hb1⟩; have hB1 := bnext (w := w) (by go_grown) hb1; have hS1 := hB1.size; ((have hz1 : w.heap.size < w1.heap.size := by have := hb1.size; (try simp only [World.size_alloc, World.size_setCell, World.size_drew] at this); omega); (have hy1 : w.heap.size + 1 < w1.heap.size := by have := hb1.size; (try simp only [World.size_alloc, World.size_setCell, World.size_drew] at this); omega)); obtain ⟨hc1, hf1⟩ := bcell hb1; clear hb1))
  all_goals (go_ret; exact ⟨rfl, by go_grown⟩)

theorem own : ownKnob Try.prog.godebug = none := by kernel_rfl
theorem laidOut : laidOutB Try.prog = true := by kernel_rfl
namespace fnExactDesignLeading
open Go.ChangeShapes Go.WideShapes Go.ChangeAt Go.RowKit
set_option linter.unusedVariables false
theorem walk (W : World) (a0_0 : Int) (wa0_0 : IntKind.i64.has a0_0) (a0_1 : Int) (wa0_1 : IntKind.i64.has a0_1) (a1 : Int) (wa1 : IntKind.i64.has a1) (a2 : Int) (wa2 : IntKind.i64.has a2) (a3 : Int) (wa3 : IntKind.i64.has a3) (a4 : Int) (wa4 : IntKind.i64.has a4) :
    Calls Try.prog 4 #[.agg #[.int .i64 a0_0, .int .i64 a0_1], .int .i64 a1, .int .i64 a2, .int .i64 a3, .int .i64 a4] W fun e w' => e = .returned (.bool true) ∧ Below W.heap.size W w' := by
  revert W
  intro w
  go_enter Try.func4, Try.ntmps4
  go_wp2_with (first | (go_at_call 26; refine (toPoint_any _ _ _).mono ?_; rintro e w1 ⟨rfl, hb1⟩; have hB1 := bnext (w := w) (by go_grown) hb1; have hS1 := hB1.size; ((have hz1 : w.heap.size < w1.heap.size := by have := hb1.size; (try simp only [World.size_alloc, World.size_setCell, World.size_drew] at this); omega); (try have hs1 : wS.heap.size < w1.heap.size := by have := hb1.size; (try simp only [World.size_alloc, World.size_setCell, World.size_drew] at this); omega)); obtain ⟨hc1, hf1⟩ := bcell hb1; clear hb1) | (go_at_call 25; refine (spec_DesignLeading _ _ _ _ _ _ _).mono ?_; rintro e wS ⟨rfl, hbS⟩; have hB1 := bnext (w := w) (by go_grown) hbS; (have hzS : w.heap.size < wS.heap.size := by have := hbS.size; (try simp only [World.size_alloc, World.size_setCell, World.size_drew] at this); omega); obtain ⟨hcS, hfS⟩ := bcell hbS; clear hbS) | (go_at_call 27; refine (impl_DesignLeading _ _ _ _ _ _ _).mono ?_; rintro e w1 ⟨rfl, hb1⟩; have hB1 := bnext (w := w) (by go_grown) hb1; have hS1 := hB1.size; ((have hz1 : w.heap.size < w1.heap.size := by have := hb1.size; (try simp only [World.size_alloc, World.size_setCell, World.size_drew] at this); omega); (try have hs1 : wS.heap.size < w1.heap.size := by have := hb1.size; (try simp only [World.size_alloc, World.size_setCell, World.size_drew] at this); omega)); obtain ⟨hc1, hf1⟩ := bcell hb1; clear hb1) | (go_at_call 28; refine (eqLeading_same _ _ _ _ _ _ _).mono ?_; rintro e w1 ⟨rfl, hb1⟩; have hB1 := bnext (w := w) (by go_grown) hb1; have hS1 := hB1.size; ((have hz1 : w.heap.size < w1.heap.size := by have := hb1.size; (try simp only [World.size_alloc, World.size_setCell, World.size_drew] at this); omega); (try have hs1 : wS.heap.size < w1.heap.size := by have := hb1.size; (try simp only [World.size_alloc, World.size_setCell, World.size_drew] at this); omega)); obtain ⟨hc1, hf1⟩ := bcell hb1; clear hb1))
  go_ret
  exact ⟨rfl, by go_grown⟩

theorem lifted (os : Os) (started : os.Started) (H : Type) (enc : TypeId × Value → H) :
    ReturnsInHanded {} Try.checked os 4 .any (Rows.fnExactDesignLeadingSpec.pre6 enc Try.prog Try.f4 Rows.fnExactDesignLeadingRow.domain false) (Rows.fnExactDesignLeadingSpec.post enc Try.prog Try.f4 false true false false) := by
  refine returnsInHanded_of_change (C := Try.checked) own started (by kernel_rfl) Try.func4
    (ChangeSpec.witness6 (enc := enc) (C := Try.checked) false ⟨#[], #[.agg #[.int .i64 0, .int .i64 0], .int .i64 0, .int .i64 0, .int .i64 0, .int .i64 0], []⟩ 8 (by kernel_rfl) (by kernel_rfl) (by kernel_rfl) (by kernel_rfl)) ?_
  intro W base args ds gs before hval0 hW hcnd _
  have hval : ∀ (j : Nat) t v, Try.f4.params[j]? = some t → args[j]? = some v → Value.okWide Try.prog W .any base t v := hval0
  have hW' := hW
  obtain ⟨p, q, hA0, hV, rfl, hfz, hnd⟩ := hW
  have hA : DataW.TrodAll enc Try.prog W 0 (fun _ => true) true Try.f4.params.toList args.toList ds p := hA0
  rw [Try.params4] at hA hval
  obtain ⟨v0, vs0, d0, ds0, p0, q0, hargs, rfl, rfl, h0, r0⟩ := trodAll_cons hA
  obtain ⟨v1, vs1, d1, ds1, p1, q1, rfl, rfl, rfl, h1, r1⟩ := trodAll_cons r0
  obtain ⟨v2, vs2, d2, ds2, p2, q2, rfl, rfl, rfl, h2, r2⟩ := trodAll_cons r1
  obtain ⟨v3, vs3, d3, ds3, p3, q3, rfl, rfl, rfl, h3, r3⟩ := trodAll_cons r2
  obtain ⟨v4, vs4, d4, ds4, p4, q4, rfl, rfl, rfl, h4, r4⟩ := trodAll_cons r3
  obtain ⟨rfl, rfl, rfl⟩ := trodAll_nil r4
  obtain rfl : args = #[v0, v1, v2, v3, v4] := by cases args; simp_all
  have g0 := h0
  have g1 := h1
  have g2 := h2
  have g3 := h3
  have g4 := h4
  obtain ⟨rfl, rfl⟩ := trodVars_none hV
  clear hA0 hval0
  simp only [List.append_nil] at hW'
  have hlt : ∀ x ∈ p0 ++ (p1 ++ (p2 ++ (p3 ++ (p4)))), x.block < W.heap.size := fun x hx => by simpa using hW'.lt x (by simpa using hx)
  obtain ⟨cs0, rfl, k0_0⟩ := open_struct Try.underlying37 (ts := [2, 2]) (by kernel_rfl) (hval 0 37 _ rfl rfl)
  obtain ⟨c0_0, cs0_0, rfl, q0_0, k0_1⟩ := okCells_cons k0_0
  obtain ⟨c0_1, cs0_1, rfl, q0_1, k0_2⟩ := okCells_cons k0_1
  obtain rfl := okCells_nil k0_2
  obtain ⟨a0_0, rfl, wa0_0⟩ := cell_int Try.underlying2 q0_0
  obtain ⟨a0_1, rfl, wa0_1⟩ := cell_int Try.underlying2 q0_1
  obtain ⟨a1, rfl, wa1⟩ := value_int Try.underlying2 (hval 1 2 _ rfl rfl)
  obtain ⟨a2, rfl, wa2⟩ := value_int Try.underlying2 (hval 2 2 _ rfl rfl)
  obtain ⟨a3, rfl, wa3⟩ := value_int Try.underlying2 (hval 3 2 _ rfl rfl)
  obtain ⟨a4, rfl, wa4⟩ := value_int Try.underlying2 (hval 4 2 _ rfl rfl)
  refine (walk W a0_0 wa0_0 a0_1 wa0_1 a1 wa1 a2 wa2 a3 wa3 a4 wa4).mono fun e W' ⟨he, hg⟩ => ?_
  subst he
  exact ⟨_, rfl, post_below (pa := _) hW' (trodAll_cons_mk (shut_bool Try.underlying4 _) trodAll_mk0) (trodAll_cons_mk (Below.trod laidOut (by kernel_rfl) (of_decide_eq_true (by kernel_rfl)) g0 hg (fun x hx => hlt x (by simp [hx]))) (trodAll_cons_mk (Below.trod laidOut (by kernel_rfl) (of_decide_eq_true (by kernel_rfl)) g1 hg (fun x hx => hlt x (by simp [hx]))) (trodAll_cons_mk (Below.trod laidOut (by kernel_rfl) (of_decide_eq_true (by kernel_rfl)) g2 hg (fun x hx => hlt x (by simp [hx]))) (trodAll_cons_mk (Below.trod laidOut (by kernel_rfl) (of_decide_eq_true (by kernel_rfl)) g3 hg (fun x hx => hlt x (by simp [hx]))) (trodAll_cons_mk (Below.trod laidOut (by kernel_rfl) (of_decide_eq_true (by kernel_rfl)) g4 hg (fun x hx => hlt x (by simp [hx]))) trodAll_mk0))))) rfl (by simp) hg⟩

theorem over : Rows.fnExactDesignLeadingRow.holds Try.pinned (OpenSpec.ofChange Rows.fnExactDesignLeadingSpec) :=
  OpenClaim.holds_of_wide 4 Try.f4 rfl rfl rfl rfl rfl rfl rfl ⟨rfl, rfl, rfl, rfl, rfl⟩ rfl rfl rfl rfl rfl (by kernel_rfl) Try.func4 (by kernel_rfl)
    (of_decide_eq_true (by kernel_rfl)) (by unfold Func.isWrapper; first | (rw [if_pos (by decide +kernel)]; kernel_rfl) | (rw [if_neg (by decide +kernel)]; exact ⟨rfl, rfl⟩))
    (fun os started H enc _ => lifted os started H enc)

theorem proved : Rows.FnExactDesignLeadingSaid := over
#print axioms proved
end fnExactDesignLeading

end Go.Proofs.Ytfogioflkehagaa
