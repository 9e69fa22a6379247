/-
  Plain words for the contracts of this seat: a test on a range, the end of a walk that only makes new blocks. Under no condition.
-/
import Derived.WalkKit
import Derived.ProofKit
import Derived.OpenShut
import Derived.WalkSpells
import Derived.Handy
import Derived.BigGuardPart
import Derived.Lib.Hide
import Derived.Deep.Slices
import Derived.Carry
import Derived.Deep.QuietTactic
import Derived.BigQuiet
import Derived.StillTailTactics
import Derived.Deep.DeepCutAuto
import Derived.Deep.LoopGhost
set_option linter.unusedVariables false
set_option maxRecDepth 100000
set_option linter.unusedSimpArgs false
namespace Go.Proofs.YtpnffdkkmibchaaGreatDoor
open Go.RowKit BigFrame

/-- low <= n <= high, as a test. -/
def inB (n lo hi : Int) : Bool := decide (lo ≤ n) && decide (n ≤ hi)
theorem inB_yes {n lo hi : Int} : inB n lo hi = true ↔ lo ≤ n ∧ n ≤ hi := by simp [inB]
theorem inB_no {n lo hi : Int} : inB n lo hi = false ↔ ¬ (lo ≤ n ∧ n ≤ hi) := by
  rw [← inB_yes]; simp
theorem inB_mk {n lo hi : Int} (h1 : lo ≤ n) (h2 : n ≤ hi) : inB n lo hi = true := inB_yes.2 ⟨h1, h2⟩
theorem inB_un {n lo hi : Int} (h : ¬ (lo ≤ n ∧ n ≤ hi)) : inB n lo hi = false := inB_no.2 h
theorem i64_bounds {n : Int} (h : (Lit.int .i64 n).wf = true) : -9223372036854775808 ≤ n ∧ n ≤ 9223372036854775807 := by
  simpa [Lit.wf, IntKind.min, IntKind.max, IntKind.signed, IntKind.bits] using h

theorem bcell {W w1 : World} (hb : Below W.heap.size W w1) : (∀ b o, b < W.heap.size → w1.cell? ⟨b, o, none⟩ = W.cell? ⟨b, o, none⟩) ∧ (∀ b o, b < W.heap.size → w1.frozen? ⟨b, o, none⟩ = W.frozen? ⟨b, o, none⟩) :=
  ⟨fun b o h => hb.cell (p := ⟨b, o, none⟩) h, fun b o h => hb.frozen (p := ⟨b, o, none⟩) h⟩
/-- Two calls, one behind the other. -/
theorem bthen {w w1 w2 : World} (h : Below w.heap.size w w1) (k : Below w1.heap.size w1 w2) : Below w.heap.size w w2 := h.trans (k.mono h.size)
/-- A further call. -/
theorem below_drewN {B : Nat} {a w : World} (h : Below B a w) (n : Nat) : Below B a (w.drewN n) := h.trans ⟨rfl, rfl, rfl, Nat.le_refl _, fun _ _ => rfl⟩
theorem bnext {w a b : World} (h : Below w.heap.size w a) (k : Below a.heap.size a b) : Below w.heap.size w b := h.trans (k.mono h.size)
theorem ret_int {k : IntKind} {a b : Int} (h : a = b) : Ending.returned (.int k a) = .returned (.int k b) := by rw [h]
theorem ret_ii {a b c d : Int} (h : a = c) (h' : b = d) : Ending.returned (.tuple #[.int .i64 a, .int .i64 b]) = .returned (.tuple #[.int .i64 c, .int .i64 d]) := by rw [h, h']
theorem ret_bi {a c : Bool} {b d : Int} (h : a = c) (h' : b = d) : Ending.returned (.tuple #[.bool a, .int .i64 b]) = .returned (.tuple #[.bool c, .int .i64 d]) := by rw [h, h']
theorem ret_bool {a b : Bool} (h : a = b) : Ending.returned (.bool a) = .returned (.bool b) := by rw [h]

theorem ret_str {a b : ByteArray} (h : a = b) : Ending.returned (.string a) = .returned (.string b) := by rw [h]
/-- The cells xs lie at the slice's address (asked for only if there are any), in a block below B. -/
def Sl (w : World) (B : Nat) (A : Option Addr) (xs : List Value) : Prop :=
  xs ≠ [] → ∃ b o : Nat, A = some ⟨b, o, none⟩ ∧ b < B ∧ ∀ (j : Nat) (u : Value), xs[j]? = some u → w.cell? ⟨b, o + j, none⟩ = some u
theorem Sl.keep {w w' : World} {B : Nat} {A : Option Addr} {xs : List Value} (h : Sl w B A xs) (hk : ∀ b o, b < B → w'.cell? ⟨b, o, none⟩ = w.cell? ⟨b, o, none⟩) : Sl w' B A xs := fun hn => by
  obtain ⟨b, o, e, hb, hc⟩ := h hn
  exact ⟨b, o, e, hb, fun j u hu => (hk b _ hb).trans (hc j u hu)⟩
theorem Sl.more {w : World} {B B' : Nat} {A : Option Addr} {xs : List Value} (h : Sl w B A xs) (hB : B ≤ B') : Sl w B' A xs := fun hn => by
  obtain ⟨b, o, e, hb, hc⟩ := h hn
  exact ⟨b, o, e, by omega, hc⟩
theorem Sl.below {w w' : World} {B : Nat} {A : Option Addr} {xs : List Value} (h : Sl w B A xs) (hb : Below B w w') : Sl w' B A xs := h.keep fun b o hlt => hb.cell (p := ⟨b, o, none⟩) hlt
/-- A block that a literal has just laid. -/
theorem Sl.new (w : World) (cs : Array Value) (t : TypeId) : Sl (w.alloc (.cells cs t)) (w.heap.size + 1) (some ⟨w.heap.size, 0, none⟩) cs.toList := fun _ =>
  ⟨w.heap.size, 0, rfl, by omega, fun j u hu => by
    have : (w.alloc (.cells cs t)).heap[w.heap.size]? = some (.cells cs t) := heap_alloc_new w _
    simp only [World.cell?, this, Nat.zero_add]
    simpa using hu⟩

/-- An element of an array of one-cell elements. -/
theorem run_index_arr {P : Program} {w : World} {t e : TypeId} {n : Nat} {cs : Array Value} {v : Value} (ht : P.underlying t = some (.array n e)) (hu : P.underlying e = some (.int .i64)) (he : ((P.info? e).map fun i => i.size) = some 1) (k : Nat) (hk : k < n) (hc : cs[k]? = some v) :
    (Instr.index t (.agg cs) (.int .i64 (k : Int))).run P w = .ok v w := by
  obtain ⟨i, hi, hs⟩ := Option.map_eq_some_iff.1 he
  simp [Instr.index, run_underlying ht, asIntOf, sizeOf, typeInfo, hi, hs, hk, part, hc, isAgg, run_underlying hu]

/-- A great literal, by one equation for the kernel: an array's value; a slice in a new block. -/
theorem wpList_lit {P : Program} {w : World} {ops : Array Oper} {rest : List Oper} {o : Oper} {a : Act} {Q : Exit → Act → World → Prop} (t : TypeId) {parts : Array (Nat × Operand)} (ho : o.op = Op.build t parts) (hg : o.guard = none) (v : Value)
    (hrun : (execOp a.eval o).run P w = .ok (.value v) w) (h : wpList P ops Q rest (a.put o.dst v) w) : wpList P ops Q (o :: rest) a w := by
  refine wpList_plain hg fun K hK => ?_
  unfold Oper.wp
  rw [hrun]
  exact hK _ _ h
theorem wpList_slit {P : Program} {w : World} {ops : Array Oper} {rest : List Oper} {o : Oper} {a : Act} {Q : Exit → Act → World → Prop} (t : TypeId) {n : Nat} {parts : Array (Nat × Operand)} (ho : o.op = Op.buildSlice t n parts) (hg : o.guard = none) (v : Value) (w' : World)
    (hrun : (execOp a.eval o).run P w = .ok (.value v) w') (h : wpList P ops Q rest (a.put o.dst v) w') : wpList P ops Q (o :: rest) a w := by
  refine wpList_plain hg fun K hK => ?_
  unfold Oper.wp
  rw [hrun]
  exact hK _ _ h

/-! ### A region that draws its order, whose operations only read, whose callees only make new blocks: one walk, in the order of the text -/
structure Grew (w : World) where
  world : World
  below : Below w.heap.size w world
instance grewSome (w : World) : Nonempty (Grew w) := ⟨⟨w, Below.refl _ _⟩⟩
theorem Grew.cell {w : World} (p : Grew w) (b o : Nat) (h : b < w.heap.size) : p.world.cell? ⟨b, o, none⟩ = w.cell? ⟨b, o, none⟩ := p.below.cell (p := ⟨b, o, none⟩) h
attribute [go_sem] Grew.cell
theorem wp_region_grew {P : Program} {id : Nat} {Q : Exit → Act → World → Prop} {a : Act} {w : World} {l : List Oper} (hm : P.follows .mixedOrders = true) (hB : Region.lexB .any l.toArray = true)
    (h : wpQuiet P l.toArray (fun w' => ∃ p : Grew w, w' = p.world) (fun a' => ∀ w', (∃ p : Grew w, w' = p.world) → Q .normal a' w') l a) : (Code.region id l.toArray true).wp P Q a w :=
  wp_region_quiet (C := fun w' => ∃ p : Grew w, w' = p.world) hm hB ⟨⟨{ w with drawn := w.drawn + 1 }, ⟨rfl, rfl, rfl, Nat.le_refl _, fun _ _ => rfl⟩⟩, rfl⟩ (by simpa using h)
theorem grew_of {P : Program} {f : FuncId} {args : Array Value} {w : World} {p : Grew w} {v : Value} (h : Calls P f args p.world fun e w' => e = .returned v ∧ Below p.world.heap.size p.world w') :
    Calls P f args p.world fun e w' => e = .returned v ∧ ∃ q : Grew w, w' = q.world :=
  h.mono fun _ w' ⟨he, hb⟩ => ⟨he, ⟨w', p.below.trans (hb.mono p.below.size)⟩, rfl⟩
theorem grew_same {P : Program} {f : FuncId} {args : Array Value} {w : World} {p : Grew w} {v : Value} (h : Calls P f args p.world fun e w' => e = .returned v ∧ p.world = w') :
    Calls P f args p.world fun e w' => e = .returned v ∧ ∃ q : Grew w, w' = q.world :=
  h.mono fun _ _ ⟨he, hb⟩ => ⟨he, p, hb.symm⟩

/-! ### The row's frame: arguments opened to their cells, read again behind the call -/
section
open Go.ChangeShapes Go.WideShapes Go.ChangeAt Go.Deep
def okCells (Q : TypeId → Value → Prop) : List TypeId → List Value → Prop
  | [], [] => True
  | t :: ts, v :: vs => Q t v ∧ okCells Q ts vs
  | _, _ => False
theorem okCells_nil {Q : TypeId → Value → Prop} {cs : List Value} (h : okCells Q [] cs) : cs = [] := by
  cases cs with
  | nil => rfl
  | cons c cs => exact h.elim
theorem okCells_cons {Q : TypeId → Value → Prop} {t : TypeId} {ts : List TypeId} {cs : List Value} (h : okCells Q (t :: ts) cs) : ∃ c cs', cs = c :: cs' ∧ Q t c ∧ okCells Q ts cs' := by
  cases cs with
  | nil => exact h.elim
  | cons c cs => exact ⟨c, cs, rfl, h.1, h.2⟩
theorem okCells_of {Q : TypeId → Value → Prop} : ∀ (ts : List TypeId) (cs : List Value), cs.length = ts.length → (∀ (i : Nat) (v : Value) (u : TypeId), cs[i]? = some v → ts[i]? = some u → Q u v) → okCells Q ts cs
  | [], [], _, _ => trivial
  | t :: ts, v :: vs, hl, h => ⟨h 0 v t rfl rfl, okCells_of ts vs (by simpa using hl) fun i v' u h1 h2 => h (i + 1) v' u h1 h2⟩
  | [], _ :: _, hl, _ => by simp at hl
  | _ :: _, [], hl, _ => by simp at hl

variable {P : Program} {w : World} {r : Reach} {b0 : Nat} {t : TypeId} {v : Value}
theorem open_struct {fs : Array Field} (ht : P.underlying t = some (.struct fs)) {ts : List TypeId} (hts : (P.cellTypes P.depth t == some ts && P.cellsOf t == ts.length) = true) (hv : Value.okWide P w r b0 t v) :
    ∃ cs : List Value, v = .agg cs.toArray ∧ okCells (Cell.okWide P w r b0) ts cs := by
  simp only [Bool.and_eq_true, beq_iff_eq] at hts
  simp only [Value.okWide, ht] at hv
  obtain ⟨cs, rfl, hsz, ts', hts', _, hall⟩ := hv
  rw [hts.1] at hts'
  obtain rfl := Option.some.inj hts'
  refine ⟨cs.toList, by simp, okCells_of _ _ (by simpa using hsz.trans hts.2) fun i v u h1 h2 => ?_⟩
  have hi : i < ts.length := (List.getElem?_eq_some_iff.1 h2).1
  obtain ⟨u', hu', hc⟩ := hall i v (by simpa using h1)
  rw [Nat.mod_eq_of_lt hi, h2] at hu'
  obtain rfl := Option.some.inj hu'
  exact hc
theorem cell_int {k : IntKind} (ht : P.underlying t = some (.int k)) (h : Cell.okWide P w r b0 t v) : ∃ n, v = .int k n ∧ k.has n := by
  simp only [Cell.okWide, ht] at h
  cases v <;> simp_all [Cell.ok]
theorem cell_string (ht : P.underlying t = some .string) (h : Cell.okWide P w r b0 t v) : ∃ s, v = .string s ∧ s.size ≤ maxLen := by
  simp only [Cell.okWide, ht] at h
  cases v <;> simp_all [Cell.ok, maxLen, IntKind.max, IntKind.bits, IntKind.signed]
  omega
theorem value_int {k : IntKind} (ht : P.underlying t = some (.int k)) (h : Value.okWide P w r b0 t v) : ∃ n, v = .int k n ∧ k.has n :=
  cell_int ht (by simpa only [Value.okWide, ht] using h)
theorem value_string (ht : P.underlying t = some .string) (h : Value.okWide P w r b0 t v) : ∃ s, v = .string s ∧ s.size ≤ maxLen :=
  cell_string ht (by simpa only [Value.okWide, ht] using h)
theorem has_i64 {n : Int} (h : IntKind.i64.has n) : -9223372036854775808 ≤ n ∧ n ≤ 9223372036854775807 := by
  simpa [IntKind.has, IntKind.min, IntKind.max, IntKind.signed, IntKind.bits] using h
theorem has_u8 {n : Int} (h : IntKind.u8.has n) : 0 ≤ n ∧ n ≤ 255 := by
  simpa [IntKind.has, IntKind.min, IntKind.max, IntKind.signed, IntKind.bits] using h

variable {H : Type} {enc : TypeId × Value → H}
/-- The row's end where the call has made new blocks and turned nothing that was there. -/
theorem post_below {f : Func} {s : ChangeSpec} {apart fresh handsOn : Bool} {W W' : World} {args : Array Value} {ds gs : List (DataW H)} {before pa : List MemPlace} {v : Value}
    (hW : DataW.Whole enc P f.params.toList s.vars apart W args.toList ds gs before)
    (hres : DataW.TrodAll enc P W' (match fresh with | true => W.heap.size | false => 0) (fun _ => false) handsOn f.resultTypes.toList (v.resultList f.resultTypes.size) (s.fn H (ds ++ gs)).results [])
    (hargs : DataW.TrodAll enc P W' 0 (fun b => decide (b < W.heap.size)) true f.params.toList args.toList (s.fn H (ds ++ gs)).args pa)
    (hvars : DataW.TrodVars enc P W' (fun b => decide (b < W.heap.size)) s.vars (s.fn H (ds ++ gs)).vars [])
    (hps : before = pa) (hb : Below W.heap.size W W') :
    s.post enc P f apart fresh handsOn false W args v W' :=
  ⟨ds, gs, before, [], pa, [], hW, hres, hargs, hvars, World.keptBut_mono (fun p hp => ⟨hp, .inr (.inl (hps ▸ hp))⟩) (hb.frame (· ∈ before)), fun h => by cases h⟩
end

/-- The text with a number, or the empty one. -/
def pickS (n : Int) (ss : List ByteArray) : ByteArray := if 0 ≤ n ∧ n < ss.length then ss.getD n.toNat ⟨#[]⟩ else ⟨#[]⟩
end Go.Proofs.YtpnffdkkmibchaaGreatDoor
