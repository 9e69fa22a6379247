/-
  Contracts of fixes by two bearings: the program's and the reference's; the law FixBy. Each under the conditions that it states.
-/
import Derived.Test.YtnikdafbnkedkaaLead2
import Derived.Test.YtnikdafbnkedkaaBear
import Derived.Deep.RegionHeld3
import Derived.IntWalk
set_option linter.unusedVariables false
set_option linter.unnecessarySimpa false
set_option maxRecDepth 100000
set_option linter.unusedSimpArgs false
namespace Go.Proofs.Ytnikdafbnkedkaa
open Go.RowKit BigFrame

theorem then_at2 {K : Act → World → Prop} {Q : Exit → Act → World → Prop} {a : Act} {W : World} (h : ∀ wf, wf = W → Exit.then K Q .normal a wf) : Exit.then K Q .normal a W := h W rfl
theorem some_is {w : World} {b o : Nat} (h : (w.cell? ⟨b, o, none⟩).isSome = true) : ∃ u, w.cell? ⟨b, o, none⟩ = some u := Option.isSome_iff_exists.1 h
/-- Two numbers stored in a variable. -/
theorem end_at {P : Program} {f : Func} {post : Ending → World → Prop} {e : Exit} {a : Act} {W : World} (h : ∀ wf, wf = W → bodyPost P f post e a wf) : bodyPost P f post e a W := h W rfl
theorem two_read {w : World} {g : Nat} {u v : Value} (h0 : w.cell? ⟨g, 0, none⟩ = some u) (h1 : w.cell? ⟨g, 1, none⟩ = some v) (a b : Int) :
    (World.setCell (World.setCell w ⟨g, 0, none⟩ (.int .i64 (a))) ⟨g, 1, none⟩ (.int .i64 (b))).cell? ⟨g, 0, none⟩ = some (.int .i64 a) ∧ (World.setCell (World.setCell w ⟨g, 0, none⟩ (.int .i64 (a))) ⟨g, 1, none⟩ (.int .i64 (b))).cell? ⟨g, 1, none⟩ = some (.int .i64 b) := by
  constructor
  · rw [World.cell?_setCell_other _ _ _ _ (fun e => by simp at e), World.cell?_setCell_same _ _ _ h0]
  · rw [World.cell?_setCell_same _ _ _ (by rw [World.cell?_setCell_other _ _ _ _ (fun e => by simp at e)]; exact h1)]
theorem two_below {B g : Nat} {a w : World} (hg : B ≤ g) (h : Below B a w) (x y : Int) : Below B a (World.setCell (World.setCell w ⟨g, 0, none⟩ (.int .i64 (x))) ⟨g, 1, none⟩ (.int .i64 (y))) := (h.setCell hg _).setCell hg _
theorem two_read_a {w : World} {g : Nat} {u v : Value} (hg : g < w.heap.size) (h0 : w.cell? ⟨g, 0, none⟩ = some u) (h1 : w.cell? ⟨g, 1, none⟩ = some v) (o : Obj) (a b : Int) :
    (World.alloc (World.setCell (World.setCell w ⟨g, 0, none⟩ (.int .i64 (a))) ⟨g, 1, none⟩ (.int .i64 (b))) o).cell? ⟨g, 0, none⟩ = some (.int .i64 a) ∧ (World.alloc (World.setCell (World.setCell w ⟨g, 0, none⟩ (.int .i64 (a))) ⟨g, 1, none⟩ (.int .i64 (b))) o).cell? ⟨g, 1, none⟩ = some (.int .i64 b) := by
  have B := (Below.refl (World.setCell (World.setCell w ⟨g, 0, none⟩ (.int .i64 (a))) ⟨g, 1, none⟩ (.int .i64 (b))).heap.size (World.setCell (World.setCell w ⟨g, 0, none⟩ (.int .i64 (a))) ⟨g, 1, none⟩ (.int .i64 (b)))).alloc (Nat.le_refl _) o
  have t := two_read h0 h1 a b
  exact ⟨(B.cell (p := ⟨g, 0, none⟩) (by simpa using hg)).trans t.1, (B.cell (p := ⟨g, 1, none⟩) (by simpa using hg)).trans t.2⟩
theorem keep2 {w1 w' : World} {g : Nat} {u v : Value} (hg : g < w1.heap.size) (q0 : w1.cell? ⟨g, 0, none⟩ = some u) (q1 : w1.cell? ⟨g, 1, none⟩ = some v) (hB : Below w1.heap.size w1 w') :
    Below w1.heap.size w1 w' ∧ w'.cell? ⟨g, 0, none⟩ = some u ∧ w'.cell? ⟨g, 1, none⟩ = some v := ⟨hB, (hB.cell (p := ⟨g, 0, none⟩) hg).trans q0, (hB.cell (p := ⟨g, 1, none⟩) hg).trans q1⟩

theorem divR_opp (a b : Int) (hb : b < 0) : divR (-a) (-b) = divR a b := by
  unfold divR
  rw [if_neg (show ¬ -b < 0 by omega), if_pos hb]
theorem divR_bd2 {a b A : Int} (hb : b ≠ 0) (h1 : -A ≤ a) (h2 : a ≤ A) : -A - 1 ≤ divR a b ∧ divR a b ≤ A + 1 := by
  rcases (by omega : b < 0 ∨ 0 < b) with h | h
  · rw [← divR_opp a b h]; exact divR_bd (by omega) (by omega) (by omega)
  · exact divR_bd (by omega) h1 h2

def sgnM (a b : Int) : Bool := decide (0 < a) && decide (0 < b) || decide (a < 0) && decide (b < 0)
theorem sgnM_yes {a b : Int} (h : sgnM a b = true) : (0 < a ∧ 0 < b) ∨ (a < 0 ∧ b < 0) := by simpa [sgnM] using h
def fixD (x y : Int) : Int := sinM x * cosM y - cosM x * sinM y
def fixN (ax ay bx by_ y : Int) : Int := (ax - bx) * cosM y - (ay - by_) * sinM y
def fixM (ax ay bx by_ x : Int) : Int := (ax - bx) * cosM x - (ay - by_) * sinM x
def fixOn (ax ay x bx by_ y : Int) : Bool := sgnM (fixN ax ay bx by_ y) (fixD x y) && sgnM (fixM ax ay bx by_ x) (fixD x y)
def fixX (ax ay x bx by_ y : Int) : Int := ax - divR (fixN ax ay bx by_ y * sinM x) (fixD x y)
def fixY (ax ay x bx by_ y : Int) : Int := ay - divR (fixN ax ay bx by_ y * cosM x) (fixD x y)
def fixC (ax ay x bx by_ y : Int) : Int := if vPoint2 ax ay bx by_ then (if fixOn ax ay x bx by_ y && vPoint (fixX ax ay x bx by_ y) (fixY ax ay x bx by_ y) then 0 else 6) else 1
def fixV (ax ay x bx by_ y n : Int) : Int := if fixC ax ay x bx by_ y = 0 then n else 0

theorem impl_sameSign (a b : Int) (w : World) : Calls Try.prog 156 #[.int .i64 a, .int .i64 b] w fun e w' => e = .returned (.bool (sgnM a b)) ∧ w = w' := by
  unfold sgnM
  go_enter Try.func156, Try.ntmps156
  go_wp2
  all_goals (go_ret; exact ⟨ret_bool (by simp [*]; try omega), rfl⟩)

set_option maxHeartbeats 1600000 in
theorem impl_FixBy (ax ay x bx by_ y : Int) (w : World) :
    Calls Try.prog 116 #[.agg #[.int .i64 ax, .int .i64 ay], .int .i64 x, .agg #[.int .i64 bx, .int .i64 by_], .int .i64 y] w fun e w' => e = .returned (.tuple #[.agg #[.int .i64 (fixV ax ay x bx by_ y (fixX ax ay x bx by_ y)), .int .i64 (fixV ax ay x bx by_ y (fixY ax ay x bx by_ y))], .int .i64 (fixC ax ay x bx by_ y)]) ∧ Below w.heap.size w w' := by
  cases hp : vPoint2 ax ay bx by_
  · have hC : Hid (fixC ax ay x bx by_ y = 1) := by apply Lib.hid; unfold fixC; rw [hp]; rfl
    have hV : Hid (∀ n, fixV ax ay x bx by_ y n = 0) := Lib.hid fun n => by unfold fixV; rw [hC.out]; rfl
    go_enter Try.func116, Try.ntmps116
    go_wp2_with (first | (go_at_call 74; refine (arePoints_two ax ay bx by_ _ _ (by simp) (by simp [go_sem]) (by simp [go_sem]) (by simp [go_sem]) (by simp [go_sem])).mono ?_; rintro e w1 ⟨rfl, hb1⟩; have hB1 := bnext (w := w) (by go_grown) hb1; have hS1 := hB1.size; ((have hz1 : w.heap.size < w1.heap.size := by have := hb1.size; (try simp only [World.size_alloc, World.size_setCell, World.size_drew] at this); omega); (have hy1 : w.heap.size + 1 < w1.heap.size := by have := hb1.size; (try simp only [World.size_alloc, World.size_setCell, World.size_drew] at this); omega); (have hx1 : w.heap.size + 2 < w1.heap.size := by have := hb1.size; (try simp only [World.size_alloc, World.size_setCell, World.size_drew] at this); omega)); obtain ⟨hc1, hf1⟩ := bcell hb1; clear hb1))
    have g0 : w1.cell? ⟨w.heap.size + 2, 0, none⟩ = some (.int .i64 0) := by rw [hc1 _ _ (by simp)]; simp [go_sem]
    have g1 : w1.cell? ⟨w.heap.size + 2, 1, none⟩ = some (.int .i64 0) := by rw [hc1 _ _ (by simp)]; simp [go_sem]
    obtain ⟨t0, t1⟩ := two_read g0 g1 0 0
    have hBf := two_below (g := w.heap.size + 2) (by omega) hB1 0 0
    generalize (World.setCell (World.setCell w1 ⟨w.heap.size + 2, 0, none⟩ (.int .i64 (0))) ⟨w.heap.size + 2, 1, none⟩ (.int .i64 (0))) = wf at t0 t1 hBf ⊢
    refine bodyPost_ret (by simp [results, Try.results116, go_sem, t0, t1]; try rfl) rfl ?_
    exact ⟨by rw [hV.out, hV.out, hC.out], hBf⟩
  have hp' := hp
  unfold vPoint2 at hp'
  rw [Bool.and_eq_true] at hp'
  obtain ⟨b1, b2⟩ := vPoint_yes hp'.1
  obtain ⟨b3, b4⟩ := vPoint_yes hp'.2
  obtain ⟨s, hs⟩ : ∃ s, sinM x = s := ⟨_, rfl⟩
  obtain ⟨c, hc⟩ : ∃ s, cosM x = s := ⟨_, rfl⟩
  obtain ⟨t, ht⟩ : ∃ s, sinM y = s := ⟨_, rfl⟩
  obtain ⟨d, hd⟩ : ∃ s, cosM y = s := ⟨_, rfl⟩
  have v1 := sinM_bd x
  have v2 := cosM_bd x
  have v3 := sinM_bd y
  have v4 := cosM_bd y
  rw [hs] at v1
  rw [hc] at v2
  rw [ht] at v3
  rw [hd] at v4
  have hs1 : ∀ w, Calls Try.prog 20 #[.int .i64 x] w fun e w' => e = .returned (.int .i64 s) ∧ w = w' := fun w => by rw [← hs]; exact impl_Sine x w
  have hs2 : ∀ w, Calls Try.prog 20 #[.int .i64 y] w fun e w' => e = .returned (.int .i64 t) ∧ w = w' := fun w => by rw [← ht]; exact impl_Sine y w
  have hk1 : ∀ w, Calls Try.prog 21 #[.int .i64 x] w fun e w' => e = .returned (.int .i64 c) ∧ w = w' := fun w => by rw [← hc]; exact impl_Cosine x w
  have hk2 : ∀ w, Calls Try.prog 21 #[.int .i64 y] w fun e w' => e = .returned (.int .i64 d) ∧ w = w' := fun w => by rw [← hd]; exact impl_Cosine y w
  obtain ⟨D, hD⟩ : ∃ D, s * d - c * t = D := ⟨_, rfl⟩
  obtain ⟨N, hN⟩ : ∃ N, (ax - bx) * d - (ay - by_) * t = N := ⟨_, rfl⟩
  obtain ⟨K, hK⟩ : ∃ K, (ax - bx) * c - (ay - by_) * s = K := ⟨_, rfl⟩
  have hCC : Hid (fixC ax ay x bx by_ y = if (sgnM N D && sgnM K D) && vPoint (ax - divR (N * s) D) (ay - divR (N * c) D) then 0 else 6) := by
    apply Lib.hid; unfold fixC fixOn fixX fixY fixN fixM fixD; rw [hp, hs, hc, ht, hd, hN, hK, hD]; rfl
  have hXX : Hid (fixX ax ay x bx by_ y = ax - divR (N * s) D) := by apply Lib.hid; unfold fixX fixN fixD; rw [hs, hc, ht, hd, hN, hD]
  have hYY : Hid (fixY ax ay x bx by_ y = ay - divR (N * c) D) := by apply Lib.hid; unfold fixY fixN fixD; rw [hs, hc, ht, hd, hN, hD]
  have u1 := mul_bd (x := s) (y := d) (B := 1000000) (C := 1000000) (by omega) (by omega) (by omega) (by omega)
  have u2 := mul_bd (x := c) (y := t) (B := 1000000) (C := 1000000) (by omega) (by omega) (by omega) (by omega)
  have u3 := mul_bd (x := ax - bx) (y := d) (B := 200000) (C := 1000000) (by omega) (by omega) (by omega) (by omega)
  have u4 := mul_bd (x := ay - by_) (y := t) (B := 200000) (C := 1000000) (by omega) (by omega) (by omega) (by omega)
  have u5 := mul_bd (x := ax - bx) (y := c) (B := 200000) (C := 1000000) (by omega) (by omega) (by omega) (by omega)
  have u6 := mul_bd (x := ay - by_) (y := s) (B := 200000) (C := 1000000) (by omega) (by omega) (by omega) (by omega)
  have w1' := mul_bd (x := N) (y := s) (B := 400000000000) (C := 1000000) (by omega) (by omega) (by omega) (by omega)
  have w2' := mul_bd (x := N) (y := c) (B := 400000000000) (C := 1000000) (by omega) (by omega) (by omega) (by omega)
  have dB : -2000000000000 ≤ D ∧ D ≤ 2000000000000 := by omega
  clear hs hc ht hd v1 v2 v3 v4 hp'
  cases h1 : sgnM N D
  · have hC : Hid (fixC ax ay x bx by_ y = 6) := by apply Lib.hid; rw [hCC.out, h1]; rfl
    have hV : Hid (∀ n, fixV ax ay x bx by_ y n = 0) := Lib.hid fun n => by unfold fixV; rw [hC.out]; rfl
    go_enter Try.func116, Try.ntmps116
    go_wp2_with (first | (go_at_call 74; refine (arePoints_two ax ay bx by_ _ _ (by simp) (by simp [go_sem]) (by simp [go_sem]) (by simp [go_sem]) (by simp [go_sem])).mono ?_; rintro e w1 ⟨rfl, hb1⟩; have hB1 := bnext (w := w) (by go_grown) hb1; have hS1 := hB1.size; ((have hz1 : w.heap.size < w1.heap.size := by have := hb1.size; (try simp only [World.size_alloc, World.size_setCell, World.size_drew] at this); omega); (have hy1 : w.heap.size + 1 < w1.heap.size := by have := hb1.size; (try simp only [World.size_alloc, World.size_setCell, World.size_drew] at this); omega); (have hx1 : w.heap.size + 2 < w1.heap.size := by have := hb1.size; (try simp only [World.size_alloc, World.size_setCell, World.size_drew] at this); omega)); obtain ⟨hc1, hf1⟩ := bcell hb1; clear hb1) | (go_at_call 20; first | (with_reducible refine (hs1 _).mono ?_; rintro e w' ⟨rfl, rfl⟩) | (with_reducible refine (hs2 _).mono ?_; rintro e w' ⟨rfl, rfl⟩)) | (go_at_call 21; first | (with_reducible refine (hk1 _).mono ?_; rintro e w' ⟨rfl, rfl⟩) | (with_reducible refine (hk2 _).mono ?_; rintro e w' ⟨rfl, rfl⟩)) | (go_at_call 156; refine (impl_sameSign _ _ _).mono ?_; rintro e w' ⟨rfl, rfl⟩))
    have g0 : w1.cell? ⟨w.heap.size + 2, 0, none⟩ = some (.int .i64 0) := by rw [hc1 _ _ (by simp)]; simp [go_sem]
    have g1 : w1.cell? ⟨w.heap.size + 2, 1, none⟩ = some (.int .i64 0) := by rw [hc1 _ _ (by simp)]; simp [go_sem]
    obtain ⟨t0, t1⟩ := two_read g0 g1 0 0
    have hBf := two_below (g := w.heap.size + 2) (by omega) hB1 0 0
    generalize (World.setCell (World.setCell w1 ⟨w.heap.size + 2, 0, none⟩ (.int .i64 (0))) ⟨w.heap.size + 2, 1, none⟩ (.int .i64 (0))) = wf at t0 t1 hBf ⊢
    refine bodyPost_ret (by simp [results, Try.results116, go_sem, t0, t1]; try rfl) rfl ?_
    exact ⟨by rw [hV.out, hV.out, hC.out], hBf⟩
  cases h2 : sgnM K D
  · have hC : Hid (fixC ax ay x bx by_ y = 6) := by apply Lib.hid; rw [hCC.out, h2, Bool.and_false]; rfl
    have hV : Hid (∀ n, fixV ax ay x bx by_ y n = 0) := Lib.hid fun n => by unfold fixV; rw [hC.out]; rfl
    go_enter Try.func116, Try.ntmps116
    go_wp2_with (first | (go_at_call 74; refine (arePoints_two ax ay bx by_ _ _ (by simp) (by simp [go_sem]) (by simp [go_sem]) (by simp [go_sem]) (by simp [go_sem])).mono ?_; rintro e w1 ⟨rfl, hb1⟩; have hB1 := bnext (w := w) (by go_grown) hb1; have hS1 := hB1.size; ((have hz1 : w.heap.size < w1.heap.size := by have := hb1.size; (try simp only [World.size_alloc, World.size_setCell, World.size_drew] at this); omega); (have hy1 : w.heap.size + 1 < w1.heap.size := by have := hb1.size; (try simp only [World.size_alloc, World.size_setCell, World.size_drew] at this); omega); (have hx1 : w.heap.size + 2 < w1.heap.size := by have := hb1.size; (try simp only [World.size_alloc, World.size_setCell, World.size_drew] at this); omega)); obtain ⟨hc1, hf1⟩ := bcell hb1; clear hb1) | (go_at_call 20; first | (with_reducible refine (hs1 _).mono ?_; rintro e w' ⟨rfl, rfl⟩) | (with_reducible refine (hs2 _).mono ?_; rintro e w' ⟨rfl, rfl⟩)) | (go_at_call 21; first | (with_reducible refine (hk1 _).mono ?_; rintro e w' ⟨rfl, rfl⟩) | (with_reducible refine (hk2 _).mono ?_; rintro e w' ⟨rfl, rfl⟩)) | (go_at_call 156; refine (impl_sameSign _ _ _).mono ?_; rintro e w' ⟨rfl, rfl⟩))
    have g0 : w1.cell? ⟨w.heap.size + 2, 0, none⟩ = some (.int .i64 0) := by rw [hc1 _ _ (by simp)]; simp [go_sem]
    have g1 : w1.cell? ⟨w.heap.size + 2, 1, none⟩ = some (.int .i64 0) := by rw [hc1 _ _ (by simp)]; simp [go_sem]
    obtain ⟨t0, t1⟩ := two_read g0 g1 0 0
    have hBf := two_below (g := w.heap.size + 2) (by omega) hB1 0 0
    generalize (World.setCell (World.setCell w1 ⟨w.heap.size + 2, 0, none⟩ (.int .i64 (0))) ⟨w.heap.size + 2, 1, none⟩ (.int .i64 (0))) = wf at t0 t1 hBf ⊢
    refine bodyPost_ret (by simp [results, Try.results116, go_sem, t0, t1]; try rfl) rfl ?_
    exact ⟨by rw [hV.out, hV.out, hC.out], hBf⟩
  have hD0 : D ≠ 0 := by have := sgnM_yes h1; omega
  obtain ⟨U, hU⟩ : ∃ U, divR (N * s) D = U := ⟨_, rfl⟩
  obtain ⟨V, hV'⟩ : ∃ U, divR (N * c) D = U := ⟨_, rfl⟩
  have x1 := divR_bd2 (A := 400000000000000000) hD0 w1'.1 w1'.2
  have x2 := divR_bd2 (A := 400000000000000000) hD0 w2'.1 w2'.2
  have hd1 : ∀ w, Calls Try.prog 126 #[.int .i64 (N * s), .int .i64 D] w fun e w' => e = .returned (.int .i64 U) ∧ w = w' := fun w => by rw [← hU]; exact impl_divRound _ _ _ hD0 (by omega) (by omega) (by omega) (by omega)
  have hd2 : ∀ w, Calls Try.prog 126 #[.int .i64 (N * c), .int .i64 D] w fun e w' => e = .returned (.int .i64 V) ∧ w = w' := fun w => by rw [← hV']; exact impl_divRound _ _ _ hD0 (by omega) (by omega) (by omega) (by omega)
  have hCC2 : Hid (fixC ax ay x bx by_ y = if vPoint (ax - U) (ay - V) then 0 else 6) := by apply Lib.hid; rw [hCC.out, h1, h2, hU, hV']; rfl
  have hXX2 : Hid (fixX ax ay x bx by_ y = ax - U) := by apply Lib.hid; rw [hXX.out, hU]
  have hYY2 : Hid (fixY ax ay x bx by_ y = ay - V) := by apply Lib.hid; rw [hYY.out, hV']
  rw [hU] at x1
  rw [hV'] at x2
  have q1 : IntKind.i64.wrap (N * s) = N * s := IntWalk.i64_in _ (by omega)
  have q2 : IntKind.i64.wrap (N * c) = N * c := IntWalk.i64_in _ (by omega)
  have q3 : IntKind.i64.wrap (ax - U) = ax - U := IntWalk.i64_in _ (by omega)
  have q4 : IntKind.i64.wrap (ay - V) = ay - V := IntWalk.i64_in _ (by omega)
  clear hU hV' hCC hXX hYY x1 x2
  go_enter Try.func116, Try.ntmps116
  go_wp2_with (first | (go_at_call 74; refine (arePoints_two ax ay bx by_ _ _ (by simp) (by simp [go_sem]) (by simp [go_sem]) (by simp [go_sem]) (by simp [go_sem])).mono ?_; rintro e w1 ⟨rfl, hb1⟩; have hB1 := bnext (w := w) (by go_grown) hb1; have hS1 := hB1.size; ((have hz1 : w.heap.size < w1.heap.size := by have := hb1.size; (try simp only [World.size_alloc, World.size_setCell, World.size_drew] at this); omega); (have hy1 : w.heap.size + 1 < w1.heap.size := by have := hb1.size; (try simp only [World.size_alloc, World.size_setCell, World.size_drew] at this); omega); (have hx1 : w.heap.size + 2 < w1.heap.size := by have := hb1.size; (try simp only [World.size_alloc, World.size_setCell, World.size_drew] at this); omega)); obtain ⟨hc1, hf1⟩ := bcell hb1; clear hb1) | (go_at_call 20; first | (with_reducible refine (hs1 _).mono ?_; rintro e w' ⟨rfl, rfl⟩) | (with_reducible refine (hs2 _).mono ?_; rintro e w' ⟨rfl, rfl⟩)) | (go_at_call 21; first | (with_reducible refine (hk1 _).mono ?_; rintro e w' ⟨rfl, rfl⟩) | (with_reducible refine (hk2 _).mono ?_; rintro e w' ⟨rfl, rfl⟩)) | (go_at_call 156; refine (impl_sameSign _ _ _).mono ?_; rintro e w' ⟨rfl, rfl⟩))
  have q5 : w1.cell? ⟨w.heap.size, 0, none⟩ = some (.int .i64 ax) := by rw [hc1 _ _ (by simp; omega)]; simp [go_sem]
  have q6 : w1.cell? ⟨w.heap.size, 1, none⟩ = some (.int .i64 ay) := by rw [hc1 _ _ (by simp; omega)]; simp [go_sem]
  have n0 : w1.cell? ⟨w.heap.size + 2, 0, none⟩ = some (.int .i64 0) := by rw [hc1 _ _ (by simp)]; simp [go_sem]
  have n1 : w1.cell? ⟨w.heap.size + 2, 1, none⟩ = some (.int .i64 0) := by rw [hc1 _ _ (by simp)]; simp [go_sem]
  have r0 : w1.frozen? ⟨w.heap.size + 2, 0, none⟩ = false := by rw [hf1 _ _ (by simp)]; simp [go_sem]
  have r1 : w1.frozen? ⟨w.heap.size + 2, 1, none⟩ = false := by rw [hf1 _ _ (by simp)]; simp [go_sem]
  have H1 := Lib.hid h1
  have H2 := Lib.hid h2
  clear u1 u2 u3 u4 u5 u6 w1' w2' dB hc1 hf1 hs1 hs2 hk1 hk2 h1 h2 hN hD hK b1 b2 b3 b4 hp
  go_region_held3 (fun w' => Below w1.heap.size w1 w' ∧ w'.cell? ⟨w.heap.size, 0, none⟩ = some (.int .i64 ax) ∧ w'.cell? ⟨w.heap.size, 1, none⟩ = some (.int .i64 ay)) (first | assumption | exact keep2 hz1 q5 q6 (by go_grown)) (first | (go_at_call 126; with_reducible refine (hd1 _).mono ?_; rintro e w' ⟨rfl, rfl⟩) | (go_at_call 126; with_reducible refine (hd2 _).mono ?_; rintro e w' ⟨rfl, rfl⟩))
  all_goals
    refine then_at2 ?_
    intro wf hwf
    have hF : Below w1.heap.size w1 wf := by rw [hwf]; go_grown
    have e0 : wf.cell? ⟨w1.heap.size, 0, none⟩ = some (.int .i64 (ax - U)) := by rw [hwf]; simp [go_sem]
    have e1 : wf.cell? ⟨w1.heap.size, 1, none⟩ = some (.int .i64 (ay - V)) := by rw [hwf]; simp [go_sem]
    have hgz : w1.heap.size < wf.heap.size := by rw [hwf]; simp
    have hrz : w.heap.size + 2 < wf.heap.size := by have := hF.size; omega
    have m0 := (hF.cell (p := ⟨w.heap.size + 2, 0, none⟩) hx1).trans n0
    have m1 := (hF.cell (p := ⟨w.heap.size + 2, 1, none⟩) hx1).trans n1
    have r2 := ((bcell hF).2 (w.heap.size + 2) 0 hx1).trans r0
    have r3 := ((bcell hF).2 (w.heap.size + 2) 1 hx1).trans r1
    clear hwf n0 n1 r0 r1 q5 q6 q1 q2 q3 q4
    cases hl : vPoint (ax - U) (ay - V)
    · have hC : Hid (fixC ax ay x bx by_ y = 6) := by apply Lib.hid; rw [hCC2.out, hl]; rfl
      have hV : Hid (∀ n, fixV ax ay x bx by_ y n = 0) := Lib.hid fun n => by unfold fixV; rw [hC.out]; rfl
      go_wp2_with (go_at_call 79; refine (impl_ValidPoint _ _ _).mono ?_; rintro e w3 ⟨rfl, hb3⟩; (obtain ⟨hc3, hf3⟩ := bcell hb3); (have g0 := (hb3.cell (p := ⟨_, 0, none⟩) hrz).trans m0); (have g1 := (hb3.cell (p := ⟨_, 1, none⟩) hrz).trans m1))
      obtain ⟨t0, t1⟩ := two_read g0 g1 (0) (0)
      have hBf := two_below (g := w.heap.size + 2) (by omega) (bnext (bnext hB1 hF) hb3) (0) (0)
      generalize (World.setCell (World.setCell w3 ⟨w.heap.size + 2, 0, none⟩ (.int .i64 (0))) ⟨w.heap.size + 2, 1, none⟩ (.int .i64 (0))) = wg at t0 t1 hBf ⊢
      refine bodyPost_ret (by simp [results, Try.results116, go_sem, t0, t1]; try rfl) rfl ?_
      exact ⟨by rw [hV.out, hV.out, hC.out], hBf⟩
    · have hC : Hid (fixC ax ay x bx by_ y = 0) := by apply Lib.hid; rw [hCC2.out, hl]; rfl
      have hV : Hid (∀ n, fixV ax ay x bx by_ y n = n) := Lib.hid fun n => by unfold fixV; rw [hC.out]; rfl
      go_wp2_with (go_at_call 79; refine (impl_ValidPoint _ _ _).mono ?_; rintro e w3 ⟨rfl, hb3⟩; (obtain ⟨hc3, hf3⟩ := bcell hb3); (have g0 := (hb3.cell (p := ⟨_, 0, none⟩) hrz).trans m0); (have g1 := (hb3.cell (p := ⟨_, 1, none⟩) hrz).trans m1))
      obtain ⟨t0, t1⟩ := two_read g0 g1 (ax - U) (ay - V)
      have hBf := two_below (g := w.heap.size + 2) (by omega) (bnext (bnext hB1 hF) hb3) (ax - U) (ay - V)
      generalize (World.setCell (World.setCell w3 ⟨w.heap.size + 2, 0, none⟩ (.int .i64 (ax - U))) ⟨w.heap.size + 2, 1, none⟩ (.int .i64 (ay - V))) = wg at t0 t1 hBf ⊢
      refine bodyPost_ret (by simp [results, Try.results116, go_sem, t0, t1]; try rfl) rfl ?_
      exact ⟨by rw [hV.out, hV.out, hC.out, hXX2.out, hYY2.out], hBf⟩
/-- The two points and the result's variable, in a world that has grown. -/
def Fx (w : World) (ax ay bx by_ : Int) (w' : World) : Prop := Below w.heap.size w w' ∧ w.heap.size + 2 < w'.heap.size ∧ w'.cell? ⟨w.heap.size, 0, none⟩ = some (.int .i64 ax) ∧ w'.cell? ⟨w.heap.size, 1, none⟩ = some (.int .i64 ay) ∧ w'.cell? ⟨w.heap.size + 1, 0, none⟩ = some (.int .i64 bx) ∧ w'.cell? ⟨w.heap.size + 1, 1, none⟩ = some (.int .i64 by_) ∧ w'.cell? ⟨w.heap.size + 2, 0, none⟩ = some (.int .i64 0) ∧ w'.cell? ⟨w.heap.size + 2, 1, none⟩ = some (.int .i64 0) ∧ w'.frozen? ⟨w.heap.size + 2, 0, none⟩ = false ∧ w'.frozen? ⟨w.heap.size + 2, 1, none⟩ = false
theorem Fx.on {w w1 w2 : World} {ax ay bx by_ : Int} (h : Fx w ax ay bx by_ w1) (hb : Below w1.heap.size w1 w2) : Fx w ax ay bx by_ w2 := by
  obtain ⟨h1, h2, c0, c1, c2, c3, c4, c5, f0, f1⟩ := h
  obtain ⟨hc, hf⟩ := bcell hb
  exact ⟨bnext h1 hb, Nat.lt_of_lt_of_le h2 hb.size, (hc _ _ (by omega)).trans c0, (hc _ _ (by omega)).trans c1, (hc _ _ (by omega)).trans c2, (hc _ _ (by omega)).trans c3, (hc _ _ (by omega)).trans c4, (hc _ _ (by omega)).trans c5, (hf _ _ (by omega)).trans f0, (hf _ _ (by omega)).trans f1⟩
theorem Fx.new (w : World) (ax ay bx by_ : Int) (t : TypeId) : Fx w ax ay bx by_ (((w.alloc (.cells #[.int .i64 ax, .int .i64 ay] t)).alloc (.cells #[.int .i64 bx, .int .i64 by_] t)).alloc (.cells #[.int .i64 0, .int .i64 0] t)) :=
  ⟨by go_grown, by simp, by simp [go_sem], by simp [go_sem], by simp [go_sem], by simp [go_sem], by simp [go_sem], by simp [go_sem], by simp [go_sem], by simp [go_sem]⟩
theorem Pt.setne {w : World} {g r k : Nat} {a b : Int} {v : Value} (h : Pt w g a b) (hne : r ≠ g) : Pt (w.setCell ⟨r, k, none⟩ v) g a b := by
  obtain ⟨h1, h2, h3⟩ := h
  have hn : ∀ o, (⟨r, k, none⟩ : Addr) ≠ ⟨g, o, none⟩ := fun o e => hne (congrArg Addr.block e)
  exact ⟨by simpa using h1, by rw [World.cell?_setCell_other _ _ _ _ (hn 0)]; exact h2, by rw [World.cell?_setCell_other _ _ _ _ (hn 1)]; exact h3⟩
theorem Pt.drew {w : World} {g : Nat} {a b : Int} (h : Pt w g a b) : Pt w.drew g a b := h.on ((Below.refl _ _).drew)
theorem Pt.s {w : World} {g : Nat} {a b : Int} (h : Pt w g a b) : Pt w g a b ∧ w.cell? ⟨g, 0, none⟩ = some (.int .i64 a) ∧ w.cell? ⟨g, 1, none⟩ = some (.int .i64 b) := ⟨h, h.2⟩
/-- What the reference's fix gives: 0, 0 where the bearings do not cross ahead of both. -/
def fxV (ax ay x bx by_ y n : Int) : Int := if fixOn ax ay x bx by_ y then n else 0
def fxB (ax ay x bx by_ y : Int) : Bool := fixOn ax ay x bx by_ y && vPoint (fixX ax ay x bx by_ y) (fixY ax ay x bx by_ y)
set_option maxHeartbeats 1600000 in
theorem spec_l16Fix (ax ay x bx by_ y : Int) (w : World) (b1 : 0 ≤ ax ∧ ax ≤ 200000) (b2 : 0 ≤ ay ∧ ay ≤ 200000) (b3 : 0 ≤ bx ∧ bx ≤ 200000) (b4 : 0 ≤ by_ ∧ by_ ≤ 200000) :
    Calls Try.prog 114 #[.agg #[.int .i64 ax, .int .i64 ay], .int .i64 x, .agg #[.int .i64 bx, .int .i64 by_], .int .i64 y] w fun e w' => e = .returned (.tuple #[.agg #[.int .i64 (fxV ax ay x bx by_ y (fixX ax ay x bx by_ y)), .int .i64 (fxV ax ay x bx by_ y (fixY ax ay x bx by_ y))], .bool (fxB ax ay x bx by_ y)]) ∧ Below w.heap.size w w' := by
  obtain ⟨s, hs⟩ : ∃ s, sinM x = s := ⟨_, rfl⟩
  obtain ⟨c, hc⟩ : ∃ s, cosM x = s := ⟨_, rfl⟩
  obtain ⟨t, ht⟩ : ∃ s, sinM y = s := ⟨_, rfl⟩
  obtain ⟨d, hd⟩ : ∃ s, cosM y = s := ⟨_, rfl⟩
  have v1 := sinM_bd x
  have v2 := cosM_bd x
  have v3 := sinM_bd y
  have v4 := cosM_bd y
  rw [hs] at v1
  rw [hc] at v2
  rw [ht] at v3
  rw [hd] at v4
  have hs1 : ∀ w, Calls Try.prog 153 #[.int .i64 x] w fun e w' => e = .returned (.int .i64 s) ∧ Below w.heap.size w w' := fun w => by rw [← hs]; exact spec_Sine x w
  have hs2 : ∀ w, Calls Try.prog 153 #[.int .i64 y] w fun e w' => e = .returned (.int .i64 t) ∧ Below w.heap.size w w' := fun w => by rw [← ht]; exact spec_Sine y w
  have hk1 : ∀ w, Calls Try.prog 154 #[.int .i64 x] w fun e w' => e = .returned (.int .i64 c) ∧ Below w.heap.size w w' := fun w => by rw [← hc]; exact spec_Cosine x w
  have hk2 : ∀ w, Calls Try.prog 154 #[.int .i64 y] w fun e w' => e = .returned (.int .i64 d) ∧ Below w.heap.size w w' := fun w => by rw [← hd]; exact spec_Cosine y w
  obtain ⟨D, hD⟩ : ∃ D, s * d - c * t = D := ⟨_, rfl⟩
  obtain ⟨N, hN⟩ : ∃ N, (ax - bx) * d - (ay - by_) * t = N := ⟨_, rfl⟩
  obtain ⟨K, hK⟩ : ∃ K, (ax - bx) * c - (ay - by_) * s = K := ⟨_, rfl⟩
  have hOO : Hid (fixOn ax ay x bx by_ y = (sgnM N D && sgnM K D)) := by
    apply Lib.hid; unfold fixOn fixN fixM fixD; rw [hs, hc, ht, hd, hN, hK, hD]
  have hXX : Hid (fixX ax ay x bx by_ y = ax - divR (N * s) D) := by apply Lib.hid; unfold fixX fixN fixD; rw [hs, hc, ht, hd, hN, hD]
  have hYY : Hid (fixY ax ay x bx by_ y = ay - divR (N * c) D) := by apply Lib.hid; unfold fixY fixN fixD; rw [hs, hc, ht, hd, hN, hD]
  have u1 := mul_bd (x := s) (y := d) (B := 1000000) (C := 1000000) (by omega) (by omega) (by omega) (by omega)
  have u2 := mul_bd (x := c) (y := t) (B := 1000000) (C := 1000000) (by omega) (by omega) (by omega) (by omega)
  have u3 := mul_bd (x := ax - bx) (y := d) (B := 200000) (C := 1000000) (by omega) (by omega) (by omega) (by omega)
  have u4 := mul_bd (x := ay - by_) (y := t) (B := 200000) (C := 1000000) (by omega) (by omega) (by omega) (by omega)
  have u5 := mul_bd (x := ax - bx) (y := c) (B := 200000) (C := 1000000) (by omega) (by omega) (by omega) (by omega)
  have u6 := mul_bd (x := ay - by_) (y := s) (B := 200000) (C := 1000000) (by omega) (by omega) (by omega) (by omega)
  have w1' := mul_bd (x := N) (y := s) (B := 400000000000) (C := 1000000) (by omega) (by omega) (by omega) (by omega)
  have w2' := mul_bd (x := N) (y := c) (B := 400000000000) (C := 1000000) (by omega) (by omega) (by omega) (by omega)
  have dB : -2000000000000 ≤ D ∧ D ≤ 2000000000000 := by omega
  have nB : -400000000000 ≤ N ∧ N ≤ 400000000000 := by omega
  have kB : -400000000000 ≤ K ∧ K ≤ 400000000000 := by omega
  clear hs hc ht hd v1 v2 v3 v4
  rcases (by omega : D = 0 ∨ (D < 0 ∧ 0 ≤ N) ∨ (D < 0 ∧ N < 0 ∧ 0 ≤ K) ∨ (D < 0 ∧ N < 0 ∧ K < 0) ∨ (0 < D ∧ N ≤ 0) ∨ (0 < D ∧ 0 < N ∧ K ≤ 0) ∨ (0 < D ∧ 0 < N ∧ 0 < K)) with h0 | ⟨h0, h1⟩ | ⟨h0, h1, h2⟩ | ⟨h0, h1, h2⟩ | ⟨h0, h1⟩ | ⟨h0, h1, h2⟩ | ⟨h0, h1, h2⟩
  · have hO : Hid (fixOn ax ay x bx by_ y = false) := by apply Lib.hid; rw [hOO.out]; simp [sgnM]; omega
    have hV : Hid (∀ n, fxV ax ay x bx by_ y n = 0) := Lib.hid fun n => by unfold fxV; rw [hO.out]; rfl
    have hC : Hid (fxB ax ay x bx by_ y = false) := by apply Lib.hid; unfold fxB; rw [hO.out]; rfl
    go_enter Try.func114, Try.ntmps114
    go_wp2_with (first | (go_at_call 153; (first | (with_reducible refine (hs1 _).mono ?_; rintro e w1 ⟨rfl, hb1⟩) | (with_reducible refine (hs2 _).mono ?_; rintro e w1 ⟨rfl, hb1⟩)); (have hF := Fx.on (by first | assumption | exact Fx.new _ _ _ _ _ _) hb1); (obtain ⟨hB1, hx1, p0, p1, p2, p3, n0, n1, r0, r1⟩ := id hF); clear hb1) | (go_at_call 154; (first | (with_reducible refine (hk1 _).mono ?_; rintro e w1 ⟨rfl, hb1⟩) | (with_reducible refine (hk2 _).mono ?_; rintro e w1 ⟨rfl, hb1⟩)); (have hF := Fx.on (by first | assumption | exact Fx.new _ _ _ _ _ _) hb1); (obtain ⟨hB1, hx1, p0, p1, p2, p3, n0, n1, r0, r1⟩ := id hF); clear hb1))
    obtain ⟨t0, t1⟩ := two_read n0 n1 0 0
    have hBf := two_below (g := w.heap.size + 2) (by omega) hB1 0 0
    generalize (World.setCell (World.setCell w1 ⟨w.heap.size + 2, 0, none⟩ (.int .i64 (0))) ⟨w.heap.size + 2, 1, none⟩ (.int .i64 (0))) = wf at t0 t1 hBf ⊢
    refine bodyPost_ret (by simp [results, Try.results114, go_sem, t0, t1]; try rfl) rfl ?_
    exact ⟨by rw [hV.out, hV.out, hC.out], hBf⟩
  · have hO : Hid (fixOn ax ay x bx by_ y = false) := by apply Lib.hid; rw [hOO.out]; simp [sgnM]; omega
    have hV : Hid (∀ n, fxV ax ay x bx by_ y n = 0) := Lib.hid fun n => by unfold fxV; rw [hO.out]; rfl
    have hC : Hid (fxB ax ay x bx by_ y = false) := by apply Lib.hid; unfold fxB; rw [hO.out]; rfl
    go_enter Try.func114, Try.ntmps114
    go_wp2_with (first | (go_at_call 153; (first | (with_reducible refine (hs1 _).mono ?_; rintro e w1 ⟨rfl, hb1⟩) | (with_reducible refine (hs2 _).mono ?_; rintro e w1 ⟨rfl, hb1⟩)); (have hF := Fx.on (by first | assumption | exact Fx.new _ _ _ _ _ _) hb1); (obtain ⟨hB1, hx1, p0, p1, p2, p3, n0, n1, r0, r1⟩ := id hF); clear hb1) | (go_at_call 154; (first | (with_reducible refine (hk1 _).mono ?_; rintro e w1 ⟨rfl, hb1⟩) | (with_reducible refine (hk2 _).mono ?_; rintro e w1 ⟨rfl, hb1⟩)); (have hF := Fx.on (by first | assumption | exact Fx.new _ _ _ _ _ _) hb1); (obtain ⟨hB1, hx1, p0, p1, p2, p3, n0, n1, r0, r1⟩ := id hF); clear hb1))
    obtain ⟨t0, t1⟩ := two_read n0 n1 0 0
    have hBf := two_below (g := w.heap.size + 2) (by omega) hB1 0 0
    generalize (World.setCell (World.setCell w1 ⟨w.heap.size + 2, 0, none⟩ (.int .i64 (0))) ⟨w.heap.size + 2, 1, none⟩ (.int .i64 (0))) = wf at t0 t1 hBf ⊢
    refine bodyPost_ret (by simp [results, Try.results114, go_sem, t0, t1]; try rfl) rfl ?_
    exact ⟨by rw [hV.out, hV.out, hC.out], hBf⟩
  · have hO : Hid (fixOn ax ay x bx by_ y = false) := by apply Lib.hid; rw [hOO.out]; simp [sgnM]; omega
    have hV : Hid (∀ n, fxV ax ay x bx by_ y n = 0) := Lib.hid fun n => by unfold fxV; rw [hO.out]; rfl
    have hC : Hid (fxB ax ay x bx by_ y = false) := by apply Lib.hid; unfold fxB; rw [hO.out]; rfl
    go_enter Try.func114, Try.ntmps114
    go_wp2_with (first | (go_at_call 153; (first | (with_reducible refine (hs1 _).mono ?_; rintro e w1 ⟨rfl, hb1⟩) | (with_reducible refine (hs2 _).mono ?_; rintro e w1 ⟨rfl, hb1⟩)); (have hF := Fx.on (by first | assumption | exact Fx.new _ _ _ _ _ _) hb1); (obtain ⟨hB1, hx1, p0, p1, p2, p3, n0, n1, r0, r1⟩ := id hF); clear hb1) | (go_at_call 154; (first | (with_reducible refine (hk1 _).mono ?_; rintro e w1 ⟨rfl, hb1⟩) | (with_reducible refine (hk2 _).mono ?_; rintro e w1 ⟨rfl, hb1⟩)); (have hF := Fx.on (by first | assumption | exact Fx.new _ _ _ _ _ _) hb1); (obtain ⟨hB1, hx1, p0, p1, p2, p3, n0, n1, r0, r1⟩ := id hF); clear hb1))
    obtain ⟨t0, t1⟩ := two_read n0 n1 0 0
    have hBf := two_below (g := w.heap.size + 2) (by omega) hB1 0 0
    generalize (World.setCell (World.setCell w1 ⟨w.heap.size + 2, 0, none⟩ (.int .i64 (0))) ⟨w.heap.size + 2, 1, none⟩ (.int .i64 (0))) = wf at t0 t1 hBf ⊢
    refine bodyPost_ret (by simp [results, Try.results114, go_sem, t0, t1]; try rfl) rfl ?_
    exact ⟨by rw [hV.out, hV.out, hC.out], hBf⟩
  · have hO : Hid (fixOn ax ay x bx by_ y = true) := by apply Lib.hid; rw [hOO.out]; (simp [sgnM]; omega)
    have hV : Hid (∀ n, fxV ax ay x bx by_ y n = n) := Lib.hid fun n => by unfold fxV; rw [hO.out]; rfl
    have hD0 : D ≠ 0 := by omega
    obtain ⟨U, hU⟩ : ∃ U, divR (N * s) D = U := ⟨_, rfl⟩
    obtain ⟨V, hV'⟩ : ∃ U, divR (N * c) D = U := ⟨_, rfl⟩
    have x1 := divR_bd2 (A := 400000000000000000) hD0 w1'.1 w1'.2
    have x2 := divR_bd2 (A := 400000000000000000) hD0 w2'.1 w2'.2
    have hd1 : ∀ w, Calls Try.prog 155 #[.int .i64 (-N * s), .int .i64 (-D)] w fun e w' => e = .returned (.int .i64 U) ∧ w = w' := fun w => by rw [← hU]; rw [Int.neg_mul, ← divR_opp _ _ h0]; exact spec_Div _ _ _ (by omega) (by omega) (by omega) (by omega) (by omega)
    have hd2 : ∀ w, Calls Try.prog 155 #[.int .i64 (-N * c), .int .i64 (-D)] w fun e w' => e = .returned (.int .i64 V) ∧ w = w' := fun w => by rw [← hV']; rw [Int.neg_mul, ← divR_opp _ _ h0]; exact spec_Div _ _ _ (by omega) (by omega) (by omega) (by omega) (by omega)
    have hC : Hid (fxB ax ay x bx by_ y = vPoint (ax - U) (ay - V)) := by apply Lib.hid; unfold fxB; rw [hO.out, hXX.out, hYY.out, hU, hV']; rfl
    have hXX2 : Hid (fixX ax ay x bx by_ y = ax - U) := by apply Lib.hid; rw [hXX.out, hU]
    have hYY2 : Hid (fixY ax ay x bx by_ y = ay - V) := by apply Lib.hid; rw [hYY.out, hV']
    rw [hU] at x1
    rw [hV'] at x2
    have q1 : IntKind.i64.wrap (-N * s) = -N * s := IntWalk.i64_in _ (by rw [Int.neg_mul]; omega)
    have q2 : IntKind.i64.wrap (-N * c) = -N * c := IntWalk.i64_in _ (by rw [Int.neg_mul]; omega)
    have q3 : IntKind.i64.wrap (ax - U) = ax - U := IntWalk.i64_in _ (by omega)
    have q4 : IntKind.i64.wrap (ay - V) = ay - V := IntWalk.i64_in _ (by omega)
    clear hU hV' hOO hXX hYY x1 x2
    go_enter Try.func114, Try.ntmps114
    go_wp2_with (first | (go_at_call 153; (first | (with_reducible refine (hs1 _).mono ?_; rintro e w1 ⟨rfl, hb1⟩) | (with_reducible refine (hs2 _).mono ?_; rintro e w1 ⟨rfl, hb1⟩)); (have hF := Fx.on (by first | assumption | exact Fx.new _ _ _ _ _ _) hb1); (obtain ⟨hB1, hx1, p0, p1, p2, p3, n0, n1, r0, r1⟩ := id hF); clear hb1) | (go_at_call 154; (first | (with_reducible refine (hk1 _).mono ?_; rintro e w1 ⟨rfl, hb1⟩) | (with_reducible refine (hk2 _).mono ?_; rintro e w1 ⟨rfl, hb1⟩)); (have hF := Fx.on (by first | assumption | exact Fx.new _ _ _ _ _ _) hb1); (obtain ⟨hB1, hx1, p0, p1, p2, p3, n0, n1, r0, r1⟩ := id hF); clear hb1))
    have hz1 : w.heap.size < w1.heap.size := by omega
    have HK := Lib.hid h2
    clear u1 u2 u3 u4 u5 u6 w1' w2' dB nB kB hs1 hs2 hk1 hk2 h0 h1 h2 hN hD hK b1 b2 b3 b4
    go_region_held3 (fun w' => Below w1.heap.size w1 w' ∧ w'.cell? ⟨w.heap.size, 0, none⟩ = some (.int .i64 ax) ∧ w'.cell? ⟨w.heap.size, 1, none⟩ = some (.int .i64 ay)) (first | assumption | exact keep2 hz1 p0 p1 (by go_grown)) (first | (go_at_call 155; with_reducible refine (hd1 _).mono ?_; rintro e w' ⟨rfl, rfl⟩) | (go_at_call 155; with_reducible refine (hd2 _).mono ?_; rintro e w' ⟨rfl, rfl⟩))
    all_goals
      refine then_at2 ?_
      intro wf hwf
      have hG : Fx w ax ay bx by_ wf := by rw [hwf]; exact hF.on (by go_grown)
      have hP : Pt wf w1.heap.size (ax - U) (ay - V) := by rw [hwf]; exact ⟨by simp, by simp [go_sem], by simp [go_sem]⟩
      clear hwf n0 n1 r0 r1 p0 p1 p2 p3 q1 q2 q3 q4 hd1 hd2
      obtain ⟨_, hrz, _, _, _, _, n0, n1, r0, r1⟩ := id hG
      obtain ⟨hP0, e0, e1⟩ := id hP
      have hne : w.heap.size + 2 ≠ w1.heap.size := by omega
      go_wp2_with fail
      go_region_held3 (fun w' => Pt w' w1.heap.size (ax - U) (ay - V) ∧ w'.cell? ⟨w1.heap.size, 0, none⟩ = some (.int .i64 (ax - U)) ∧ w'.cell? ⟨w1.heap.size, 1, none⟩ = some (.int .i64 (ay - V))) (first | assumption | with_reducible exact Pt.s hP | with_reducible exact Pt.s hP3 | with_reducible exact Pt.s (Pt.setne (Pt.setne hP3 hne) hne) | with_reducible exact Pt.s (Pt.drew hP) | with_reducible exact Pt.s (Pt.drew hP3) | with_reducible exact Pt.s (Pt.drew (Pt.setne (Pt.setne hP3 hne) hne))) (first | (go_at_call 76; refine (spec_l02Ok _ _ _).mono ?_; rintro e w3 ⟨rfl, hb3⟩; (have hb4 := bnext (w := wf) (by first | exact Below.refl _ _ | exact (Below.refl _ _).drew) hb3); (have hP3 := hP.on hb4); (have hG3 := hG.on hb4); (obtain ⟨hB3, _, _, _, _, _, m0, m1, s0, s1⟩ := id hG3)))
      obtain ⟨t0, t1⟩ := two_read m0 m1 (ax - U) (ay - V)
      have hBf := two_below (g := w.heap.size + 2) (by omega) hB3 (ax - U) (ay - V)
      generalize (World.setCell (World.setCell w3 ⟨w.heap.size + 2, 0, none⟩ (.int .i64 (ax - U))) ⟨w.heap.size + 2, 1, none⟩ (.int .i64 (ay - V))) = wg at t0 t1 hBf ⊢
      go_wp2
      refine bodyPost_ret (by simp [results, Try.results114, go_sem, t0, t1]; try rfl) rfl ?_
      exact ⟨by rw [hV.out, hV.out, hC.out, hXX2.out, hYY2.out], by first | exact hBf | exact hBf.drew⟩
  · have z0 : (D == 0) = false := beq_eq_false_iff_ne.2 (by omega)
    have hO : Hid (fixOn ax ay x bx by_ y = false) := by apply Lib.hid; rw [hOO.out]; simp [sgnM]; omega
    have hV : Hid (∀ n, fxV ax ay x bx by_ y n = 0) := Lib.hid fun n => by unfold fxV; rw [hO.out]; rfl
    have hC : Hid (fxB ax ay x bx by_ y = false) := by apply Lib.hid; unfold fxB; rw [hO.out]; rfl
    go_enter Try.func114, Try.ntmps114
    go_wp2_with (first | (go_at_call 153; (first | (with_reducible refine (hs1 _).mono ?_; rintro e w1 ⟨rfl, hb1⟩) | (with_reducible refine (hs2 _).mono ?_; rintro e w1 ⟨rfl, hb1⟩)); (have hF := Fx.on (by first | assumption | exact Fx.new _ _ _ _ _ _) hb1); (obtain ⟨hB1, hx1, p0, p1, p2, p3, n0, n1, r0, r1⟩ := id hF); clear hb1) | (go_at_call 154; (first | (with_reducible refine (hk1 _).mono ?_; rintro e w1 ⟨rfl, hb1⟩) | (with_reducible refine (hk2 _).mono ?_; rintro e w1 ⟨rfl, hb1⟩)); (have hF := Fx.on (by first | assumption | exact Fx.new _ _ _ _ _ _) hb1); (obtain ⟨hB1, hx1, p0, p1, p2, p3, n0, n1, r0, r1⟩ := id hF); clear hb1))
    obtain ⟨t0, t1⟩ := two_read n0 n1 0 0
    have hBf := two_below (g := w.heap.size + 2) (by omega) hB1 0 0
    generalize (World.setCell (World.setCell w1 ⟨w.heap.size + 2, 0, none⟩ (.int .i64 (0))) ⟨w.heap.size + 2, 1, none⟩ (.int .i64 (0))) = wf at t0 t1 hBf ⊢
    refine bodyPost_ret (by simp [results, Try.results114, go_sem, t0, t1]; try rfl) rfl ?_
    exact ⟨by rw [hV.out, hV.out, hC.out], hBf⟩
  · have z0 : (D == 0) = false := beq_eq_false_iff_ne.2 (by omega)
    have hO : Hid (fixOn ax ay x bx by_ y = false) := by apply Lib.hid; rw [hOO.out]; simp [sgnM]; omega
    have hV : Hid (∀ n, fxV ax ay x bx by_ y n = 0) := Lib.hid fun n => by unfold fxV; rw [hO.out]; rfl
    have hC : Hid (fxB ax ay x bx by_ y = false) := by apply Lib.hid; unfold fxB; rw [hO.out]; rfl
    go_enter Try.func114, Try.ntmps114
    go_wp2_with (first | (go_at_call 153; (first | (with_reducible refine (hs1 _).mono ?_; rintro e w1 ⟨rfl, hb1⟩) | (with_reducible refine (hs2 _).mono ?_; rintro e w1 ⟨rfl, hb1⟩)); (have hF := Fx.on (by first | assumption | exact Fx.new _ _ _ _ _ _) hb1); (obtain ⟨hB1, hx1, p0, p1, p2, p3, n0, n1, r0, r1⟩ := id hF); clear hb1) | (go_at_call 154; (first | (with_reducible refine (hk1 _).mono ?_; rintro e w1 ⟨rfl, hb1⟩) | (with_reducible refine (hk2 _).mono ?_; rintro e w1 ⟨rfl, hb1⟩)); (have hF := Fx.on (by first | assumption | exact Fx.new _ _ _ _ _ _) hb1); (obtain ⟨hB1, hx1, p0, p1, p2, p3, n0, n1, r0, r1⟩ := id hF); clear hb1))
    obtain ⟨t0, t1⟩ := two_read n0 n1 0 0
    have hBf := two_below (g := w.heap.size + 2) (by omega) hB1 0 0
    generalize (World.setCell (World.setCell w1 ⟨w.heap.size + 2, 0, none⟩ (.int .i64 (0))) ⟨w.heap.size + 2, 1, none⟩ (.int .i64 (0))) = wf at t0 t1 hBf ⊢
    refine bodyPost_ret (by simp [results, Try.results114, go_sem, t0, t1]; try rfl) rfl ?_
    exact ⟨by rw [hV.out, hV.out, hC.out], hBf⟩
  · have z0 : (D == 0) = false := beq_eq_false_iff_ne.2 (by omega)
    have hO : Hid (fixOn ax ay x bx by_ y = true) := by apply Lib.hid; rw [hOO.out]; (simp [sgnM]; omega)
    have hV : Hid (∀ n, fxV ax ay x bx by_ y n = n) := Lib.hid fun n => by unfold fxV; rw [hO.out]; rfl
    have hD0 : D ≠ 0 := by omega
    obtain ⟨U, hU⟩ : ∃ U, divR (N * s) D = U := ⟨_, rfl⟩
    obtain ⟨V, hV'⟩ : ∃ U, divR (N * c) D = U := ⟨_, rfl⟩
    have x1 := divR_bd2 (A := 400000000000000000) hD0 w1'.1 w1'.2
    have x2 := divR_bd2 (A := 400000000000000000) hD0 w2'.1 w2'.2
    have hd1 : ∀ w, Calls Try.prog 155 #[.int .i64 (N * s), .int .i64 (D)] w fun e w' => e = .returned (.int .i64 U) ∧ w = w' := fun w => by rw [← hU]; skip; exact spec_Div _ _ _ (by omega) (by omega) (by omega) (by omega) (by omega)
    have hd2 : ∀ w, Calls Try.prog 155 #[.int .i64 (N * c), .int .i64 (D)] w fun e w' => e = .returned (.int .i64 V) ∧ w = w' := fun w => by rw [← hV']; skip; exact spec_Div _ _ _ (by omega) (by omega) (by omega) (by omega) (by omega)
    have hC : Hid (fxB ax ay x bx by_ y = vPoint (ax - U) (ay - V)) := by apply Lib.hid; unfold fxB; rw [hO.out, hXX.out, hYY.out, hU, hV']; rfl
    have hXX2 : Hid (fixX ax ay x bx by_ y = ax - U) := by apply Lib.hid; rw [hXX.out, hU]
    have hYY2 : Hid (fixY ax ay x bx by_ y = ay - V) := by apply Lib.hid; rw [hYY.out, hV']
    rw [hU] at x1
    rw [hV'] at x2
    have q1 : IntKind.i64.wrap (N * s) = N * s := IntWalk.i64_in _ (by skip; omega)
    have q2 : IntKind.i64.wrap (N * c) = N * c := IntWalk.i64_in _ (by skip; omega)
    have q3 : IntKind.i64.wrap (ax - U) = ax - U := IntWalk.i64_in _ (by omega)
    have q4 : IntKind.i64.wrap (ay - V) = ay - V := IntWalk.i64_in _ (by omega)
    clear hU hV' hOO hXX hYY x1 x2
    go_enter Try.func114, Try.ntmps114
    go_wp2_with (first | (go_at_call 153; (first | (with_reducible refine (hs1 _).mono ?_; rintro e w1 ⟨rfl, hb1⟩) | (with_reducible refine (hs2 _).mono ?_; rintro e w1 ⟨rfl, hb1⟩)); (have hF := Fx.on (by first | assumption | exact Fx.new _ _ _ _ _ _) hb1); (obtain ⟨hB1, hx1, p0, p1, p2, p3, n0, n1, r0, r1⟩ := id hF); clear hb1) | (go_at_call 154; (first | (with_reducible refine (hk1 _).mono ?_; rintro e w1 ⟨rfl, hb1⟩) | (with_reducible refine (hk2 _).mono ?_; rintro e w1 ⟨rfl, hb1⟩)); (have hF := Fx.on (by first | assumption | exact Fx.new _ _ _ _ _ _) hb1); (obtain ⟨hB1, hx1, p0, p1, p2, p3, n0, n1, r0, r1⟩ := id hF); clear hb1))
    have hz1 : w.heap.size < w1.heap.size := by omega
    have HK := Lib.hid h2
    clear u1 u2 u3 u4 u5 u6 w1' w2' dB nB kB hs1 hs2 hk1 hk2 h0 h1 h2 hN hD hK b1 b2 b3 b4
    go_region_held3 (fun w' => Below w1.heap.size w1 w' ∧ w'.cell? ⟨w.heap.size, 0, none⟩ = some (.int .i64 ax) ∧ w'.cell? ⟨w.heap.size, 1, none⟩ = some (.int .i64 ay)) (first | assumption | exact keep2 hz1 p0 p1 (by go_grown)) (first | (go_at_call 155; with_reducible refine (hd1 _).mono ?_; rintro e w' ⟨rfl, rfl⟩) | (go_at_call 155; with_reducible refine (hd2 _).mono ?_; rintro e w' ⟨rfl, rfl⟩))
    all_goals
      refine then_at2 ?_
      intro wf hwf
      have hG : Fx w ax ay bx by_ wf := by rw [hwf]; exact hF.on (by go_grown)
      have hP : Pt wf w1.heap.size (ax - U) (ay - V) := by rw [hwf]; exact ⟨by simp, by simp [go_sem], by simp [go_sem]⟩
      clear hwf n0 n1 r0 r1 p0 p1 p2 p3 q1 q2 q3 q4 hd1 hd2
      obtain ⟨_, hrz, _, _, _, _, n0, n1, r0, r1⟩ := id hG
      obtain ⟨hP0, e0, e1⟩ := id hP
      have hne : w.heap.size + 2 ≠ w1.heap.size := by omega
      go_wp2_with fail
      go_region_held3 (fun w' => Pt w' w1.heap.size (ax - U) (ay - V) ∧ w'.cell? ⟨w1.heap.size, 0, none⟩ = some (.int .i64 (ax - U)) ∧ w'.cell? ⟨w1.heap.size, 1, none⟩ = some (.int .i64 (ay - V))) (first | assumption | with_reducible exact Pt.s hP | with_reducible exact Pt.s hP3 | with_reducible exact Pt.s (Pt.setne (Pt.setne hP3 hne) hne) | with_reducible exact Pt.s (Pt.drew hP) | with_reducible exact Pt.s (Pt.drew hP3) | with_reducible exact Pt.s (Pt.drew (Pt.setne (Pt.setne hP3 hne) hne))) (first | (go_at_call 76; refine (spec_l02Ok _ _ _).mono ?_; rintro e w3 ⟨rfl, hb3⟩; (have hb4 := bnext (w := wf) (by first | exact Below.refl _ _ | exact (Below.refl _ _).drew) hb3); (have hP3 := hP.on hb4); (have hG3 := hG.on hb4); (obtain ⟨hB3, _, _, _, _, _, m0, m1, s0, s1⟩ := id hG3)))
      obtain ⟨t0, t1⟩ := two_read m0 m1 (ax - U) (ay - V)
      have hBf := two_below (g := w.heap.size + 2) (by omega) hB3 (ax - U) (ay - V)
      generalize (World.setCell (World.setCell w3 ⟨w.heap.size + 2, 0, none⟩ (.int .i64 (ax - U))) ⟨w.heap.size + 2, 1, none⟩ (.int .i64 (ay - V))) = wg at t0 t1 hBf ⊢
      go_wp2
      refine bodyPost_ret (by simp [results, Try.results114, go_sem, t0, t1]; try rfl) rfl ?_
      exact ⟨by rw [hV.out, hV.out, hC.out, hXX2.out, hYY2.out], by first | exact hBf | exact hBf.drew⟩
end Go.Proofs.Ytnikdafbnkedkaa
