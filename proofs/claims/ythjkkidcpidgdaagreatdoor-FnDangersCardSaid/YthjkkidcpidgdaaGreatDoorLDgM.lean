/-
  FnDangers: the names of the dangers on a path are those whose clearance is less than the margin, the text of a danger is read back, and a danger is where its path is. Under no condition; the library's variables read as their texts lay them (the card ties them).
-/
import Derived.Test.YthjkkidcpidgdaaGreatDoorRdL
import Derived.Test.YthjkkidcpidgdaaGreatDoorRdD
import Derived.Test.YthjkkidcpidgdaaGreatDoorTexts
import Derived.Test.YthjkkidcpidgdaaGreatDoorRead
import Derived.Test.YthjkkidcpidgdaaGreatDoorTie
import Derived.Test.YthjkkidcpidgdaaGreatDoorCards
import Derived.HandedShaped
import Derived.LaidMore
import Derived.Lay
import Derived.SevenTiedAt
import Derived.Stop.LaidErr
import Derived.MakeChecks
import Derived.Shelf.Vars
import Derived.Test.YthjkkidcpidgdaaGreatDoorBase
import Derived.Test.YthjkkidcpidgdaaGreatDoorFlat
import Derived.Test.YthjkkidcpidgdaaGreatDoorPlD
import Derived.Test.YthjkkidcpidgdaaGreatDoorDangs
import Derived.Test.YthjkkidcpidgdaaGreatDoorMove
import Derived.Test.YthjkkidcpidgdaaGreatDoorRowOps
import Derived.Test.YthjkkidcpidgdaaGreatDoorDangL
import Derived.Lib.AppendZerosOnto
import Derived.Laws.CopyRow
import Derived.Lib.JoinLaws
import Derived.Shelf.Spec.SlicesInsert
import Derived.Deep.RegionHeld3
import Derived.Deep.RegionLaw
import Derived.Shelf.RegionOpenPlain
import Derived.Test.YthjkkidcpidgdaaGreatDoorFix
import Derived.Test.YthjkkidcpidgdaaGreatDoorPoints
import Derived.Test.YthjkkidcpidgdaaGreatDoorMark
import Derived.Test.YthjkkidcpidgdaaGreatDoorText1
import Derived.Test.YthjkkidcpidgdaaGreatDoorRow
import Derived.Test.YthjkkidcpidgdaaGreatDoorDraw3
import Derived.Test.YthjkkidcpidgdaaGreatDoorGap
import Derived.Test.YthjkkidcpidgdaaGreatDoorDanger
import Derived.IntWalk
import Derived.Test.YthjkkidcpidgdaaGreatDoorDAt
/-
  Plain words: the numeral of a number is read back; parts that are joined are parted again. Under the conditions that each states.
-/
set_option linter.unusedVariables false
set_option maxRecDepth 100000
set_option linter.unusedSimpArgs false
namespace Go.Proofs.YthjkkidcpidgdaaGreatDoor
open Go.RowKit BigFrame

theorem dig_len : ∀ (n u : Nat), u < 10 ^ n → (Lib.decDigits u).length ≤ n + 1
  | 0, u, h => by
    have : u = 0 := by simpa using h
    subst this
    rw [Lib.decDigits]; simp
  | n + 1, u, h => by
    rw [Lib.decDigits]
    split
    · simp
    · rw [List.length_append, List.length_singleton]
      have h2 : u / 10 < 10 ^ n := by rw [Nat.pow_succ] at h; omega
      have := dig_len n (u / 10) h2
      omega
theorem itoa_len {v : Int} (h1 : -100000000000000000 < v) (h2 : v < 100000000000000000) : (trimL (Lib.itoa v)).length ≤ 18 := by
  unfold Lib.itoa
  by_cases hv : v < 0
  · rw [if_pos hv]
    have ht : trimL (45 :: Lib.decDigits v.natAbs) = Lib.decDigits v.natAbs := rfl
    rw [ht]
    have := dig_len 17 v.natAbs (by have : (10 : Nat) ^ 17 = 100000000000000000 := rfl; omega)
    omega
  · rw [if_neg hv]
    have ht : trimL (Lib.decDigits v.toNat) = Lib.decDigits v.toNat := by unfold trimL; rw [if_neg (dig_no45 _)]
    rw [ht]
    have := dig_len 17 v.toNat (by have : (10 : Nat) ^ 17 = 100000000000000000 := rfl; omega)
    omega
theorem num_back {v : Int} (h1 : -100000000000000000 < v) (h2 : v < 100000000000000000) : numOk (Lib.itoa v) = true ∧ numV (Lib.itoa v) = v := itoa_num (itoa_len h1 h2)
theorem dec_back {v : Int} (h1 : -100000000000000000 < v) (h2 : v < 100000000000000000) : rdOk (decT v) = true ∧ rdV (decT v) = v := by
  obtain ⟨n1, n2⟩ := num_back h1 h2
  have e : (decT v).data.toList = Lib.itoa v := rfl
  have hk : rdOk (decT v) = true := by
    show numOk (decT v).data.toList = true
    rw [e]; exact n1
  refine ⟨hk, ?_⟩
  unfold rdV
  rw [e, n1]
  exact n2
theorem split_parts (c : UInt8) : ∀ (P : List (List UInt8)), P ≠ [] → (∀ p ∈ P, c ∉ p) → splitL c (Lib.join P [c]) = P
  | [], h, _ => absurd rfl h
  | [p], _, h => by
    rw [Lib.join_one, split_free (h p (by simp))]
  | p :: q :: P, _, h => by
    have ih := split_parts c (q :: P) (by simp) (fun x hx => h x (by simp at hx ⊢; right; exact hx))
    have e : Lib.join (p :: q :: P) [c] = p ++ c :: Lib.join (q :: P) [c] := by
      rw [Lib.join_cons, Lib.join_cons]
      simp [Lib.joinTail]
    rw [e, split_app _ (h p (by simp)), ih]
theorem owns_below {w w' : World} {B : Nat} {e : TypeId} {sz : Nat} {v : Value} {n : Nat} {xs : List Value} (h : w.ownsRow B e sz v n xs) (hb : Below w.heap.size w w') : w'.ownsRow B e sz v n xs := by
  refine World.ownsRow.kept (row := none) h ⟨hb.os, hb.tape, hb.output, hb.size, fun k hk _ => hb.block k hk⟩ ?_
  cases v.ownBlock
  · exact .inl rfl
  · exact .inr (by simp)
end Go.Proofs.YthjkkidcpidgdaaGreatDoor

/-
  Plain words: the texts of points and dangers are read back as what they are texts of. Under the conditions that each states.
-/
set_option linter.unusedVariables false
set_option maxRecDepth 100000
set_option linter.unusedSimpArgs false
namespace Go.Proofs.YthjkkidcpidgdaaGreatDoor
open Go.RowKit BigFrame

theorem dec_list (v : Int) : (decT v).data.toList = Lib.itoa v := rfl
theorem dec_bk {v : Int} (h1 : -100000000000000000 < v) (h2 : v < 100000000000000000) : numOk (decT v).data.toList = true ∧ numV (decT v).data.toList = v ∧ rdV (ba (decT v).data.toList) = v := by
  rw [dec_list]
  obtain ⟨a, b⟩ := num_back h1 h2
  refine ⟨a, b, ?_⟩
  unfold rdV
  rw [ba_list, a, b]
  rfl
theorem pt_list (x y : Int) : (ptT x y).data.toList = (decT x).data.toList ++ 44 :: (decT y).data.toList := by
  unfold ptT
  simp [ByteArray.data_append]
theorem pt_back {x y : Int} (h : vPoint x y = true) : rpOk (ptT x y).data.toList = true ∧ rpX (ptT x y).data.toList = x ∧ rpY (ptT x y).data.toList = y := by
  have hv := vPoint_yes h
  obtain ⟨a1, a2, _⟩ := dec_bk (v := x) (by omega) (by omega)
  obtain ⟨b1, b2, _⟩ := dec_bk (v := y) (by omega) (by omega)
  have hs : splitL 44 (ptT x y).data.toList = [(decT x).data.toList, (decT y).data.toList] := by
    rw [pt_list, split_app _ (num_free a1 44 (by decide) (by decide)), split_free (num_free b1 44 (by decide) (by decide))]
  obtain ⟨e1, e2⟩ := rp_two hs
  have hk : rpOk (ptT x y).data.toList = true := by
    unfold rpOk
    rw [e1, e2, a1, b1, a2, b2, h]
    rfl
  refine ⟨hk, ?_, ?_⟩
  · unfold rpX; rw [hk, e1, a2]; rfl
  · unfold rpY; rw [hk, e2, b2]; rfl
theorem dang_back {s : ByteArray} {x y r : Int} (h : vDanger s x y r = true) (hp : vPoint x y = true) (h1 : -100000000000000000 < r) (h2 : r < 100000000000000000) : dgOk (dangT s x y r).data.toList = true ∧ dgS (dangT s x y r).data.toList (ba (rlA (dangT s x y r).data.toList 0)) = s ∧ dg (dangT s x y r).data.toList (rpX (rlA (dangT s x y r).data.toList 1)) = x ∧ dg (dangT s x y r).data.toList (rpY (rlA (dangT s x y r).data.toList 1)) = y ∧ dg (dangT s x y r).data.toList (rdV (ba (rlA (dangT s x y r).data.toList 2))) = r := by
  obtain ⟨p1, p2, p3⟩ := pt_back hp
  obtain ⟨q1, q2, q3⟩ := dec_bk h1 h2
  obtain ⟨g1, g2, g3, g4⟩ := dg_good (L := (dangT s x y r).data.toList) (a := s.data.toList) (b := (ptT x y).data.toList) (c := (decT r).data.toList) p1 q1 (by rw [p2, p3, q3, ← ba_data]; exact h) (by rw [p2, p3, q3, ← ba_data])
  obtain ⟨d1, d2⟩ := dg_yes g1
  refine ⟨g1, by rw [d2, g2, ← ba_data], by rw [d1, g3, p2], by rw [d1, g3, p3], by rw [d1, g4, q3]⟩
end Go.Proofs.YthjkkidcpidgdaaGreatDoor

/-
  What the readers ask of the library's variables, out of a row's cells 'laid' and the shape of the world at the start. Under no condition.
-/
set_option linter.unusedVariables false
set_option linter.unnecessarySimpa false
set_option maxRecDepth 100000
set_option linter.unusedSimpArgs false
namespace Go.Proofs.YthjkkidcpidgdaaGreatDoor
open Go.RowKit BigFrame

theorem change_sh {H : Type} {enc : TypeId × Value → H} {a : Assume} {C : Checked} {os : Os} {f : FuncId} {fn : Func} {s : ChangeSpec} {conds : List PathCond} {apart fresh handsOn again : Bool} {X : World → Array Value → Prop}
    (hX : ∀ (w w' : World) (args : Array Value), w.heap = w'.heap → X w args → X w' args)
    (own : ownKnob C.prog.godebug = none) (started : os.Started) (noInit : C.prog.inits.idxOf? f = none) (hfn : C.prog.funcs[f]? = some fn)
    (witness : ∃ (w : World) (tape : Tape) (i : Input), w.os = os ∧ (w.forCall tape i).Shaped C.prog ∧ i.vars = [] ∧ Input.okWide C.prog (w.forCall tape i) .any w.heap.size f i ∧
      ((s.pre enc C.prog fn conds apart (w.forCall tape i).memory i.args ∧ X (w.forCall tape i).memory i.args) ∧ sizedMet enc C.prog fn (OpenSpec.ofChange s) apart (w.forCall tape i).memory i.args) ∧ a.holds C.prog (lone (Frame.enter C.prog f i.args .normal) [] (w.forCall tape i)))
    (contract : ∀ (W : World) (base : Nat) (args : Array Value) (ds gs : List (DataW H)) (before : List MemPlace),
      (∀ (j : Nat) t v, fn.params[j]? = some t → args[j]? = some v → Value.okWide C.prog W .any base t v) →
      DataW.Whole enc C.prog fn.params.toList s.vars apart W args.toList ds gs before →
      conds.all (PathCond.test C.prog ⟨fn.params.toList, ds, s.plain.varTypes C.prog, gs⟩) = true →
      (DataW.weightsEach C.prog (fn.params.toList ++ s.plain.varTypes C.prog) (ds ++ gs)).all (· ≤ reachBytes) = true → W.ShapedOpen C.prog → X W args →
      a.holds C.prog (lone (Frame.enter C.prog f args .normal) [] W) →
      Calls C.prog f args W fun e W' => ∃ v, e = .returned v ∧ s.post enc C.prog fn apart fresh handsOn again W args v W') :
    ReturnsInHanded a C os f .any (fun w args => (s.pre enc C.prog fn conds apart w args ∧ X w args) ∧ sizedMet enc C.prog fn (OpenSpec.ofChange s) apart w args) (s.post enc C.prog fn apart fresh handsOn again) := by
  refine returnsInHanded_of_calls own started noInit witness ?_
  intro w tape i _ hsh _ hok hpre hholds
  obtain ⟨_, _, _, fn', hfn', _, _, _, _, hval⟩ := hok
  have e : fn' = fn := Option.some.inj (hfn'.symm.trans hfn)
  subst e
  obtain ⟨⟨⟨ds, gs, before, hw, hc⟩, hx⟩, hz⟩ := hpre
  have hw' := DataW.Whole.of_heap (w' := w.forCall tape i) (by rfl) hw
  refine (contract (w.forCall tape i) w.heap.size i.args ds gs before hval hw' hc (hz.weights hw) hsh (hX _ _ _ (by rfl) hx) hholds).mono fun e W' ⟨v, he, hp⟩ => ?_
  subst he
  exact ChangeSpec.post_blind hp
theorem own : ownKnob Tryz.prog.godebug = none := by kernel_rfl
theorem laidOut : laidOutB Tryz.prog = true := by kernel_rfl
theorem star : "*" ++ "errors.errorString" = "*errors.errorString" := by decide
theorem rowErr (u : TypeId) (h : Tryz.prog.typeName? 3 u = some "*errors.errorString") : u = 189 :=
  typeName_ptr_named (nm := "errors.errorString") (by rw [star]; kernel_rfl) (by kernel_rfl) (by decide) u (by rw [star]; exact h)
end Go.Proofs.YthjkkidcpidgdaaGreatDoor

/-
  Contracts of the laws' own helpers that choose numbers by bytes. Under the conditions that each states.
-/
set_option linter.unusedVariables false
set_option linter.unnecessarySimpa false
set_option maxRecDepth 100000
set_option linter.unusedSimpArgs false
namespace Go.Proofs.YthjkkidcpidgdaaGreatDoor
open Go.RowKit BigFrame

theorem b10Long_any (n c : Nat) (A : Option Addr) (w : World) (hn : n ≤ maxLen) : Calls Tryz.prog 5 #[.slice A n c] w fun e w' => e = .returned (.bool (decide (1048576 < n))) ∧ w = w' := by
  have hn2 : n ≤ 9223372036854775807 := by simpa [maxLen, IntKind.max, IntKind.bits, IntKind.signed] using hn
  by_cases h : 1048576 < n
  · go_enter Tryz.func5, Tryz.ntmps5
    go_wp2
    go_ret
    exact ⟨ret_bool (by simp; omega), rfl⟩
  · go_enter Tryz.func5, Tryz.ntmps5
    go_wp2
    go_ret
    exact ⟨ret_bool (by simp; omega), rfl⟩
theorem b10At_any (L : List Int) (A : Option Addr) (c B k : Nat) (n : Int) (w : World) (hs : Sl w B A (L.map (Value.int .u8))) (hu : ∀ z ∈ L, IntKind.u8.has z) (hl : L.length ≤ 1048576) (hk : k ≤ 1000000) (hn : 2 ≤ n) (hn2 : n ≤ 1000000) :
    Calls Tryz.prog 67 #[.slice A L.length c, .int .i64 k, .int .i64 n] w fun e w' => ∃ r : Int, (0 ≤ r ∧ r < n) ∧ e = .returned (.int .i64 r) ∧ w = w' := by
  by_cases hlt : k < L.length
  · obtain ⟨b, o, rfl, hb, hc⟩ := hs (by intro e; rw [List.map_eq_nil_iff] at e; subst e; simp at hlt)
    have d0 : w.cell? ⟨b, o + k, none⟩ = some (.int .u8 L[k]) := hc k _ (by rw [List.getElem?_map, List.getElem?_eq_getElem hlt]; rfl)
    have hz := has_u8 (hu _ (List.getElem_mem hlt))
    obtain ⟨z, hz2⟩ : ∃ z, L[k] = z := ⟨_, rfl⟩
    rw [hz2] at d0 hz
    have hm : 0 ≤ z % n ∧ z % n < n := ⟨Int.emod_nonneg _ (by omega), Int.emod_lt_of_pos _ (by omega)⟩
    clear hc hs hu hz2
    go_enter Tryz.func67, Tryz.ntmps67
    go_wp2
    go_ret
    exact ⟨_, hm, rfl, rfl⟩
  · clear hs hu
    have hm : 0 ≤ ((k : Int) * 37 + 11) % n ∧ ((k : Int) * 37 + 11) % n < n := ⟨Int.emod_nonneg _ (by omega), Int.emod_lt_of_pos _ (by omega)⟩
    go_enter Tryz.func67, Tryz.ntmps67
    go_wp2
    go_ret
    exact ⟨_, hm, rfl, rfl⟩
theorem b10Wide_any (L : List Int) (A : Option Addr) (c B k : Nat) (n : Int) (w : World) (hs : Sl w B A (L.map (Value.int .u8))) (hu : ∀ z ∈ L, IntKind.u8.has z) (hl : L.length ≤ 1048576) (hk : k ≤ 1000) (hn : 1 ≤ n) (hn2 : n ≤ 1000000000000) :
    Calls Tryz.prog 23 #[.slice A L.length c, .int .i64 k, .int .i64 n] w fun e w' => ∃ r : Int, (0 ≤ r ∧ r < n) ∧ e = .returned (.int .i64 r) ∧ w = w' := by
  have hs' := Lib.hid hs
  have hu' := Lib.hid hu
  clear hs hu
  go_enter Tryz.func23, Tryz.ntmps23
  go_wp2_with fail
  refine (b10At_any L A c B k 256 _ hs'.out hu'.out hl (by omega) (by omega) (by omega)).mono ?_
  rintro e w1 ⟨r, hr, rfl, rfl⟩
  go_wp2_with fail
  refine (b10At_any L A c B (k + 1) 256 _ hs'.out hu'.out hl (by omega) (by omega) (by omega)).mono ?_
  rintro e w1 ⟨q, hq, rfl, rfl⟩
  have hm : 0 ≤ (256 * r + q) % n ∧ (256 * r + q) % n < n := ⟨Int.emod_nonneg _ (by omega), Int.emod_lt_of_pos _ (by omega)⟩
  go_wp2
  go_ret
  exact ⟨_, hm, rfl, rfl⟩
end Go.Proofs.YthjkkidcpidgdaaGreatDoor

/-
  Rows of bytes that came in. Under the conditions that each states.
-/
set_option linter.unusedVariables false
set_option linter.unnecessarySimpa false
set_option maxRecDepth 100000
set_option linter.unusedSimpArgs false
namespace Go.Proofs.YthjkkidcpidgdaaGreatDoor
open Go.RowKit BigFrame Go.Deep

def bytesL (L : List Int) : List Value := L.map (Value.int .u8)
section
variable {H : Type} {enc : TypeId × Value → H} {P : Program} {w : World} {spare : Nat → Bool} {held : Bool}
theorem trod_one_u8 {i : TypeId} (hi : P.underlying i = some (.int .u8)) {m : Nat} {c : List Value} {y : DataW H × List MemPlace} {b : Nat} (h : DataW.trod enc P w b spare held m i c = some y) : ∃ a : Int, c = [.int .u8 a] ∧ IntKind.u8.has a := by
  have h' := h
  obtain ⟨z, e, _, q⟩ := DataW.trod_int hi h'
  exact ⟨z, e, by simpa [Lit.wf, IntKind.has] using q⟩
theorem flat_u8 (L : List Int) : flat (fun a : Int => [Value.int .u8 a]) L = bytesL L := by
  induction L with
  | nil => rfl
  | cons a L ih => rw [flat_cons, ih]; rfl
theorem open_row8 {t i : TypeId} {fuel : Nat} {cs : List Value} {x : DataW H × List MemPlace} (ht : P.underlying t = some (.slice i)) (hi : P.underlying i = some (.int .u8)) (hC : P.cellsOf i = 1) (h : DataW.trod enc P w 0 spare held fuel t cs = some x) :
    ∃ (A : Option Addr) (c : Nat) (L : List Int), cs = [.slice A L.length c] ∧ Sl w w.heap.size A (bytesL L) ∧ (∀ a ∈ L, IntKind.u8.has a) ∧ L.length ≤ maxLen := by
  obtain ⟨A, c, L, e, hs, hb, hl⟩ := open_flat (fun a : Int => [Value.int .u8 a]) IntKind.u8.has (fun _ => rfl) (by decide) ht hC (fun _ _ _ h => trod_one_u8 hi h) h
  exact ⟨A, c, L, e, by rw [← flat_u8]; exact hs, hb, hl⟩
end
end Go.Proofs.YthjkkidcpidgdaaGreatDoor

/-
  Contracts of dangers that are drawn. Each under the conditions that it states.
-/
set_option linter.unusedVariables false
set_option linter.unnecessarySimpa false
set_option maxRecDepth 100000
set_option linter.unusedSimpArgs false
namespace Go.Proofs.YthjkkidcpidgdaaGreatDoor
open Go.RowKit BigFrame

/-- A danger in a variable that may be written. -/
def Dw (w : World) (g : Nat) (s : ByteArray) (x y r : Int) : Prop := En w g 4 ∧ (w.cell? ⟨g, 0, none⟩ = some (.string s) ∧ w.cell? ⟨g, 1, none⟩ = some (.int .i64 x) ∧ w.cell? ⟨g, 2, none⟩ = some (.int .i64 y) ∧ w.cell? ⟨g, 3, none⟩ = some (.int .i64 r))
theorem Dw.on {w w1 : World} {g : Nat} {s : ByteArray} {x y r : Int} (h : Dw w g s x y r) (hb : Below w.heap.size w w1) : Dw w1 g s x y r := by
  obtain ⟨e, h0, h1, h2, h3⟩ := h
  obtain ⟨hc, _⟩ := bcell hb
  exact ⟨e.on hb, (hc _ _ e.1).trans h0, (hc _ _ e.1).trans h1, (hc _ _ e.1).trans h2, (hc _ _ e.1).trans h3⟩
theorem Dw.far {w w' : World} {row : Option Nat} {g : Nat} {s : ByteArray} {x y r : Int} (h : Dw w g s x y r) (hg : w.grownBy w' row) (hne : row ≠ some g) : Dw w' g s x y r := by
  obtain ⟨e, h0, h1, h2, h3⟩ := h
  exact ⟨e.far hg hne, far_cell h0 hg hne, far_cell h1 hg hne, far_cell h2 hg hne, far_cell h3 hg hne⟩
theorem Dw.new (w : World) (s : ByteArray) (x y r : Int) (t : TypeId) : Dw (w.alloc (.cells #[.string s, .int .i64 x, .int .i64 y, .int .i64 r] t)) w.heap.size s x y r := ⟨En.new w _ t, by simp, by simp, by simp, by simp⟩
theorem En.setd {w : World} {g n c k : Nat} {v : Value} (h : En w g n) : En (w.setCell ⟨c, k, none⟩ v) g n := by
  refine ⟨by simpa using h.1, fun q hq => ⟨somes_set (h.2 q hq).1, by simpa [go_sem] using (h.2 q hq).2⟩⟩
theorem Dw.ne {w : World} {g i j : Nat} {u v : Value} (hij : i ≠ j) (h : w.cell? ⟨g, j, none⟩ = some u) : (w.setCell ⟨g, i, none⟩ v).cell? ⟨g, j, none⟩ = some u := by
  rw [World.cell?_setCell_other _ _ _ _ (fun e => by injection e with _ e2; exact hij e2)]; exact h
theorem Dw.s0 {w : World} {g : Nat} {s : ByteArray} {x y r : Int} (h : Dw w g s x y r) (z : ByteArray) : Dw (w.setCell ⟨g, 0, none⟩ (.string z)) g z x y r :=
  ⟨h.1.setd, World.cell?_setCell_same _ _ _ h.2.1, Dw.ne (by decide) h.2.2.1, Dw.ne (by decide) h.2.2.2.1, Dw.ne (by decide) h.2.2.2.2⟩
theorem Dw.s1 {w : World} {g : Nat} {s : ByteArray} {x y r : Int} (h : Dw w g s x y r) (z : Int) : Dw (w.setCell ⟨g, 1, none⟩ (.int .i64 z)) g s z y r :=
  ⟨h.1.setd, Dw.ne (by decide) h.2.1, World.cell?_setCell_same _ _ _ h.2.2.1, Dw.ne (by decide) h.2.2.2.1, Dw.ne (by decide) h.2.2.2.2⟩
theorem Dw.s2 {w : World} {g : Nat} {s : ByteArray} {x y r : Int} (h : Dw w g s x y r) (z : Int) : Dw (w.setCell ⟨g, 2, none⟩ (.int .i64 z)) g s x z r :=
  ⟨h.1.setd, Dw.ne (by decide) h.2.1, Dw.ne (by decide) h.2.2.1, World.cell?_setCell_same _ _ _ h.2.2.2.1, Dw.ne (by decide) h.2.2.2.2⟩
theorem Dw.s3 {w : World} {g : Nat} {s : ByteArray} {x y r : Int} (h : Dw w g s x y r) (z : Int) : Dw (w.setCell ⟨g, 3, none⟩ (.int .i64 z)) g s x y z :=
  ⟨h.1.setd, Dw.ne (by decide) h.2.1, Dw.ne (by decide) h.2.2.1, Dw.ne (by decide) h.2.2.2.1, World.cell?_setCell_same _ _ _ h.2.2.2.2⟩
theorem four_D {w wf : World} {g : Nat} {s : ByteArray} {x y r : Int} (h : En w g 4) (hw : wf = (((w.setCell ⟨g, 0, none⟩ (.string s)).setCell ⟨g, 1, none⟩ (.int .i64 x)).setCell ⟨g, 2, none⟩ (.int .i64 y)).setCell ⟨g, 3, none⟩ (.int .i64 r)) : Dw wf g s x y r ∧ w.grownBy wf (some g) := by
  subst hw
  have ht := h.read (vs := [.string s, .int .i64 x, .int .i64 y, .int .i64 r]) (wf := (((w.setCell ⟨g, 0, none⟩ (.string s)).setCell ⟨g, 1, none⟩ (.int .i64 x)).setCell ⟨g, 2, none⟩ (.int .i64 y)).setCell ⟨g, 3, none⟩ (.int .i64 r)) rfl
  exact ⟨⟨h.setd.setd.setd.setd, ht 0 _ rfl, ht 1 _ rfl, ht 2 _ rfl, ht 3 _ rfl⟩, Go.Lib.grownBy_setB (Go.Lib.grownBy_setB (Go.Lib.grownBy_setB (Go.Lib.grownBy_setB (World.grownBy.refl w (some g)) 0 _) 1 _) 2 _) 3 _⟩
def names5 : List ByteArray := [⟨#[114, 101, 101, 102]⟩, ⟨#[119, 114, 101, 99, 107]⟩, ⟨#[115, 104, 111, 97, 108]⟩, ⟨#[98, 97, 110, 107]⟩, ⟨#[114, 111, 99, 107]⟩]
theorem names5_ok : ∀ nm ∈ names5, nm.size ≤ 8 := by decide
def names2 : List ByteArray := [⟨#[]⟩, ⟨#[82, 101, 101, 102]⟩]
theorem names2_ok : ∀ nm ∈ names2, nm.size ≤ 8 := by decide
/-- What a drawn danger holds. -/
def gd (s : ByteArray) (x y r : Int) : Prop := s.size ≤ 8 ∧ c1B x ∧ c1B y ∧ (0 ≤ r ∧ r ≤ 20001)
set_option maxHeartbeats 1600000 in
theorem src_dang (B g K : Nat) (w : World) (hs : SrcAt w B g K) (hBw : B ≤ w.heap.size) (hK : K + 18 ≤ 1000000000) :
    Calls Tryz.prog 42 #[.pointer (some ⟨g, 0, none⟩)] w fun e w' => ∃ (s : ByteArray) (x y r : Int), gd s x y r ∧ e = .returned (.agg #[.string s, .int .i64 x, .int .i64 y, .int .i64 r]) ∧ w.grownBy w' (some g) ∧ SrcAt w' B g (K + 18) := by
  have hgl := hs.2.1
  have hBg := hs.1
  obtain ⟨wa, hwa⟩ : ∃ wa, wa = w.alloc (.cells #[.string ⟨#[]⟩, .int .i64 0, .int .i64 0, .int .i64 0] 36) := ⟨_, rfl⟩
  have hba : Below w.heap.size w wa := by rw [hwa]; go_grown
  have hE0 : En wa w.heap.size 4 := by rw [hwa]; exact En.new w #[.string ⟨#[]⟩, .int .i64 0, .int .i64 0, .int .i64 0] 36
  have hza : wa.heap.size = w.heap.size + 1 := by rw [hwa]; simp
  have hG0 := grown_none' hba (some g)
  go_enter Tryz.func42, Tryz.ntmps42
  go_wp2_with fail
  rw [← hwa]
  have hal : Below wa.heap.size wa (wa.alloc (.cells #[.string ⟨#[114, 101, 101, 102]⟩, .string ⟨#[119, 114, 101, 99, 107]⟩, .string ⟨#[115, 104, 111, 97, 108]⟩, .string ⟨#[98, 97, 110, 107]⟩, .string ⟨#[114, 111, 99, 107]⟩] 9)) := by go_grown
  rw [show w.heap.size + 1 = wa.heap.size from hza.symm]
  refine (src_text B g K wa.heap.size 0 5 names5 _ (by decide) (by decide) ((hs.on hba).on hal) (by omega) (by simp) (by omega) (fun j u hu => by rw [Nat.zero_add, World.cell?_alloc_new]; simpa [names5] using hu)).mono ?_
  rintro e w1 ⟨nm, hmem, rfl, hgn, hs1⟩
  have hnm := names5_ok nm hmem
  have hG1 := grown_go (grown_on hG0 hal) hgn
  have hz1 := hgn.size
  simp only [World.size_alloc] at hz1
  replace hE0 := (hE0.on hal).far hgn (fun e => by have := Option.some.inj e; omega)
  clear hgn hG0 hba hal hmem hwa
  have hF0 := Dw.new w1 nm 0 0 0 36
  have hal : Below w1.heap.size w1 (w1.alloc (.cells #[.string nm, .int .i64 0, .int .i64 0, .int .i64 0] 36)) := by go_grown
  obtain ⟨h, hh⟩ : ∃ h, w1.heap.size = h := ⟨_, rfl⟩
  go_wp2_with fail
  refine (src_draw B g (K + 2) _ (hs1.on hal) (by simp; omega) (by omega)).mono ?_
  rintro e w2 ⟨x, y, hx, hy, rfl, hgn, hs2⟩
  have hG2 := grown_go (grown_on hG1 hal) hgn
  have hz2 := hgn.size
  simp only [World.size_alloc] at hz2
  replace hE0 := (hE0.on hal).far hgn (fun e => by have := Option.some.inj e; omega)
  have hF := hF0.far hgn (fun e => by have := Option.some.inj e; omega)
  rw [hh] at hF
  clear hgn hG1 hal hF0 hs1
  obtain ⟨hel, f0, f1, f2, f3⟩ := id hF
  obtain ⟨_, z0⟩ := hel.at (k := 0) (by omega)
  obtain ⟨_, z1⟩ := hel.at (k := 1) (by omega)
  obtain ⟨_, z2⟩ := hel.at (k := 2) (by omega)
  obtain ⟨_, z3⟩ := hel.at (k := 3) (by omega)
  have hll := hel.1
  go_upto_region 3 with fail
  refine wp_atB ?_
  intro w3 hw3
  have hG3 : w.grownBy w3 (some g) := by rw [hw3]; exact grown_setP (grown_setP hG2 (by omega)) (by omega)
  have hF3 : Dw w3 h nm x y 0 := by rw [hw3]; exact (hF.s1 _).s2 _
  have hs3 : SrcAt w3 B g (K + 2 + 14) := by rw [hw3]; exact (hs2.setne (by omega) (by omega)).setne (by omega) (by omega)
  have hE3 : En w3 w.heap.size 4 := by rw [hw3]; exact hE0.setd.setd
  have hz3 : w2.heap.size ≤ w3.heap.size := by rw [hw3]; simp
  clear hel f0 f1 f2 f3 z0 z1 z2 z3 hll
  clear hw3 hG2 hs2 hF hE0
  go_wp2_with fail
  have hal : Below w3.heap.size w3 (w3.alloc (.cells #[.int .i64 100, .int .i64 500, .int .i64 2000, .int .i64 1, .int .i64 5000] 2)) := by go_grown
  refine (src_among B g (K + 2 + 14) w3.heap.size 0 5 [100, 500, 2000, 1, 5000] _ (by simp) (by simp) (hs3.on hal) (by omega) (by simp) (by have := hs3.2.1; omega) (fun j u hu => by rw [Nat.zero_add, World.cell?_alloc_new]; simpa using hu)).mono ?_
  rintro e w4 ⟨z, hmem, rfl, hgn, hs4⟩
  have hz : 0 ≤ z ∧ z ≤ 5000 := by simp at hmem; omega
  have hG4 := grown_go (grown_on hG3 hal) hgn
  have hz4 := hgn.size
  simp only [World.size_alloc] at hz4
  replace hE3 := (hE3.on hal).far hgn (fun e => by have := Option.some.inj e; omega)
  have hF := (hF3.on hal).far hgn (fun e => by have := Option.some.inj e; omega)
  clear hgn hG3 hs3 hF3 hal hmem
  obtain ⟨hel, f0, f1, f2, f3⟩ := id hF
  obtain ⟨_, z0⟩ := hel.at (k := 0) (by omega)
  obtain ⟨_, z1⟩ := hel.at (k := 1) (by omega)
  obtain ⟨_, z2⟩ := hel.at (k := 2) (by omega)
  obtain ⟨_, z3⟩ := hel.at (k := 3) (by omega)
  have hll := hel.1
  go_upto_region 4 with fail
  refine wp_atB ?_
  intro w8 hw8
  have hG8 : w.grownBy w8 (some g) := by rw [hw8]; exact grown_setP hG4 (by omega)
  have hF8 : Dw w8 h nm x y z := by rw [hw8]; exact hF.s3 _
  have hs8 : SrcAt w8 B g (K + 2 + 14 + 2) := by rw [hw8]; exact hs4.setne (by omega) (by omega)
  have hE8 : En w8 w.heap.size 4 := by rw [hw8]; exact hE3.setd
  clear hel f0 f1 f2 f3 z0 z1 z2 z3 hll
  clear hw8 hG4 hs4 hF hE3
  obtain ⟨_, f0, f1, f2, f3⟩ := id hF8
  obtain ⟨⟨r0, y0⟩, y1⟩ := hE8.at (k := 0) (by omega)
  obtain ⟨⟨r1, y2⟩, y3⟩ := hE8.at (k := 1) (by omega)
  obtain ⟨⟨r2, y4⟩, y5⟩ := hE8.at (k := 2) (by omega)
  obtain ⟨⟨r3, y6⟩, y7⟩ := hE8.at (k := 3) (by omega)
  go_wp2_with fail
  refine end_atA ?_
  intro wf hwf
  obtain ⟨⟨_, t0, t1, t2, t3⟩, hgw⟩ := four_D hE8 hwf
  have hGf := grown_row hG8 hgw (fun k e => by have := Option.some.inj e; omega)
  have hSf := hs8.far (by have := hG8.size; omega) hgw (fun k e => by have := Option.some.inj e; omega)
  clear hwf hgw y0 y1 y2 y3 y4 y5 y6 y7
  refine bodyPost_ret (by simp [results, Tryz.results42, go_sem, t0, t1, t2, t3]; try rfl) rfl ?_
  exact ⟨nm, x, y, z, ⟨hnm, ⟨by omega, by omega⟩, ⟨by omega, by omega⟩, ⟨by omega, by omega⟩⟩, rfl, hGf, hSf.le (by omega) (by omega)⟩
set_option maxHeartbeats 1600000 in
theorem src_bend14 (B g K : Nat) (s : ByteArray) (x y r : Int) (w : World) (hd : gd s x y r) (hs : SrcAt w B g K) (hBw : B ≤ w.heap.size) (hK : K + 4 ≤ 1000000000) :
    Calls Tryz.prog 41 #[.pointer (some ⟨g, 0, none⟩), .agg #[.string s, .int .i64 x, .int .i64 y, .int .i64 r]] w fun e w' => ∃ (s : ByteArray) (x y r : Int), gd s x y r ∧ e = .returned (.agg #[.string s, .int .i64 x, .int .i64 y, .int .i64 r]) ∧ w.grownBy w' (some g) ∧ SrcAt w' B g (K + 4) := by
  have hgl := hs.2.1
  have hBg := hs.1
  obtain ⟨d1, d2, d3, d4⟩ := hd
  obtain ⟨wa, hwa⟩ : ∃ wa, wa = (w.alloc (.cells #[.string s, .int .i64 x, .int .i64 y, .int .i64 r] 36)).alloc (.cells #[.string ⟨#[]⟩, .int .i64 0, .int .i64 0, .int .i64 0] 36) := ⟨_, rfl⟩
  have hba : Below w.heap.size w wa := by rw [hwa]; go_grown
  have hF0 : Dw wa w.heap.size s x y r := by rw [hwa]; exact (Dw.new w s x y r 36).on (by go_grown)
  have hE0 : En wa (w.heap.size + 1) 4 := by rw [hwa]; have := En.new (w.alloc (.cells #[.string s, .int .i64 x, .int .i64 y, .int .i64 r] 36)) #[.string ⟨#[]⟩, .int .i64 0, .int .i64 0, .int .i64 0] 36; simpa using this
  have hza : wa.heap.size = w.heap.size + 2 := by rw [hwa]; simp
  have hG0 := grown_none' hba (some g)
  go_enter Tryz.func41, Tryz.ntmps41
  go_wp2_with fail
  rw [← hwa]
  refine (src_pick B g K 20 _ (by omega) (by omega) (hs.on hba) (by omega)).mono ?_
  rintro e w2 ⟨n, hn, rfl, hgn, hs2⟩
  have hG2 := grown_go hG0 hgn
  have hz2 := hgn.size
  replace hE0 := hE0.far hgn (fun e => by have := Option.some.inj e; omega)
  have hF := hF0.far hgn (fun e => by have := Option.some.inj e; omega)
  clear hgn hG0 hba hF0 hwa hs
  obtain ⟨hel, f0, f1, f2, f3⟩ := id hF
  obtain ⟨_, z0⟩ := hel.at (k := 0) (by omega)
  obtain ⟨_, z1⟩ := hel.at (k := 1) (by omega)
  obtain ⟨_, z2⟩ := hel.at (k := 2) (by omega)
  obtain ⟨_, z3⟩ := hel.at (k := 3) (by omega)
  have hll := hel.1
  rcases (by omega : n = 0 ∨ n = 1 ∨ n = 2 ∨ 3 ≤ n) with rfl | rfl | rfl | h3
  · have hal : Below w2.heap.size w2 (w2.alloc (.cells #[.string ⟨#[]⟩, .string ⟨#[82, 101, 101, 102]⟩] 9)) := by go_grown
    go_wp2_with fail
    refine (src_text B g (K + 2) w2.heap.size 0 2 names2 _ (by decide) (by decide) (hs2.on hal) (by omega) (by simp) (by have := hs2.2.1; omega) (fun j u hu => by rw [Nat.zero_add, World.cell?_alloc_new]; simpa [names2] using hu)).mono ?_
    rintro e w3 ⟨z, hmem, rfl, hgn, hs3⟩
    have hz := names2_ok z hmem
    have hG3 := grown_go (grown_on hG2 hal) hgn
    have hz3 := hgn.size
    simp only [World.size_alloc] at hz3
    replace hE0 := (hE0.on hal).far hgn (fun e => by have := Option.some.inj e; omega)
    replace hF := (hF.on hal).far hgn (fun e => by have := Option.some.inj e; omega)
    clear hgn hG2 hs2 hal hmem
    clear hel f0 f1 f2 f3 z0 z1 z2 z3 hll
    obtain ⟨hel, f0, f1, f2, f3⟩ := id hF
    obtain ⟨_, z0⟩ := hel.at (k := 0) (by omega)
    obtain ⟨_, z1⟩ := hel.at (k := 1) (by omega)
    obtain ⟨_, z2⟩ := hel.at (k := 2) (by omega)
    obtain ⟨_, z3⟩ := hel.at (k := 3) (by omega)
    have hll := hel.1
    go_upto_region 8 with fail
    refine wp_atB ?_
    intro w4 hw4
    have hG4 : w.grownBy w4 (some g) := by rw [hw4]; exact grown_setP hG3 (by omega)
    have hF4 := (show Dw w4 w.heap.size z x y r by rw [hw4]; exact hF.s0 _)
    have hs4 : SrcAt w4 B g (K + 2 + 2) := by rw [hw4]; exact hs3.setne (by omega) (by omega)
    have hE4 : En w4 (w.heap.size + 1) 4 := by rw [hw4]; exact hE0.setd
    clear hel f0 f1 f2 f3 z0 z1 z2 z3 hll
    clear hw4 hG3 hs3 hF hE0
    obtain ⟨_, f0, f1, f2, f3⟩ := id hF4
    obtain ⟨⟨r0, y0⟩, y1⟩ := hE4.at (k := 0) (by omega)
    obtain ⟨⟨r1, y2⟩, y3⟩ := hE4.at (k := 1) (by omega)
    obtain ⟨⟨r2, y4⟩, y5⟩ := hE4.at (k := 2) (by omega)
    obtain ⟨⟨r3, y6⟩, y7⟩ := hE4.at (k := 3) (by omega)
    go_wp2_with fail
    refine end_atA ?_
    intro wf hwf
    obtain ⟨⟨_, t0, t1, t2, t3⟩, hgw⟩ := four_D hE4 hwf
    have hGf := grown_row hG4 hgw (fun k e => by have := Option.some.inj e; omega)
    have hSf := hs4.far (by have := hG4.size; omega) hgw (fun k e => by have := Option.some.inj e; omega)
    clear hwf hgw y0 y1 y2 y3 y4 y5 y6 y7
    refine bodyPost_ret (by simp [results, Tryz.results41, go_sem, t0, t1, t2, t3]; try rfl) rfl ?_
    exact ⟨z, x, y, r, ⟨hz, d2, d3, d4⟩, rfl, hGf, hSf.le (by omega) (by omega)⟩
  · have hal : Below w2.heap.size w2 (w2.alloc (.cells #[.int .i64 (-1), .int .i64 0, .int .i64 200000, .int .i64 200001] 2)) := by go_grown
    go_wp2_with fail
    refine (src_among B g (K + 2) w2.heap.size 0 4 [-1, 0, 200000, 200001] _ (by simp) (by simp) (hs2.on hal) (by omega) (by simp) (by have := hs2.2.1; omega) (fun j u hu => by rw [Nat.zero_add, World.cell?_alloc_new]; simpa using hu)).mono ?_
    rintro e w3 ⟨z, hmem, rfl, hgn, hs3⟩
    have hz : c1B z := by simp at hmem; unfold c1B; omega
    have hG3 := grown_go (grown_on hG2 hal) hgn
    have hz3 := hgn.size
    simp only [World.size_alloc] at hz3
    replace hE0 := (hE0.on hal).far hgn (fun e => by have := Option.some.inj e; omega)
    replace hF := (hF.on hal).far hgn (fun e => by have := Option.some.inj e; omega)
    clear hgn hG2 hs2 hal hmem
    clear hel f0 f1 f2 f3 z0 z1 z2 z3 hll
    obtain ⟨hel, f0, f1, f2, f3⟩ := id hF
    obtain ⟨_, z0⟩ := hel.at (k := 0) (by omega)
    obtain ⟨_, z1⟩ := hel.at (k := 1) (by omega)
    obtain ⟨_, z2⟩ := hel.at (k := 2) (by omega)
    obtain ⟨_, z3⟩ := hel.at (k := 3) (by omega)
    have hll := hel.1
    go_upto_region 8 with fail
    refine wp_atB ?_
    intro w4 hw4
    have hG4 : w.grownBy w4 (some g) := by rw [hw4]; exact grown_setP hG3 (by omega)
    have hF4 := (show Dw w4 w.heap.size s x z r by rw [hw4]; exact hF.s2 _)
    have hs4 : SrcAt w4 B g (K + 2 + 2) := by rw [hw4]; exact hs3.setne (by omega) (by omega)
    have hE4 : En w4 (w.heap.size + 1) 4 := by rw [hw4]; exact hE0.setd
    clear hel f0 f1 f2 f3 z0 z1 z2 z3 hll
    clear hw4 hG3 hs3 hF hE0
    obtain ⟨_, f0, f1, f2, f3⟩ := id hF4
    obtain ⟨⟨r0, y0⟩, y1⟩ := hE4.at (k := 0) (by omega)
    obtain ⟨⟨r1, y2⟩, y3⟩ := hE4.at (k := 1) (by omega)
    obtain ⟨⟨r2, y4⟩, y5⟩ := hE4.at (k := 2) (by omega)
    obtain ⟨⟨r3, y6⟩, y7⟩ := hE4.at (k := 3) (by omega)
    go_wp2_with fail
    refine end_atA ?_
    intro wf hwf
    obtain ⟨⟨_, t0, t1, t2, t3⟩, hgw⟩ := four_D hE4 hwf
    have hGf := grown_row hG4 hgw (fun k e => by have := Option.some.inj e; omega)
    have hSf := hs4.far (by have := hG4.size; omega) hgw (fun k e => by have := Option.some.inj e; omega)
    clear hwf hgw y0 y1 y2 y3 y4 y5 y6 y7
    refine bodyPost_ret (by simp [results, Tryz.results41, go_sem, t0, t1, t2, t3]; try rfl) rfl ?_
    exact ⟨s, x, z, r, ⟨d1, d2, hz, d4⟩, rfl, hGf, hSf.le (by omega) (by omega)⟩
  · have hal : Below w2.heap.size w2 (w2.alloc (.cells #[.int .i64 0, .int .i64 20000, .int .i64 20001] 2)) := by go_grown
    go_wp2_with fail
    refine (src_among B g (K + 2) w2.heap.size 0 3 [0, 20000, 20001] _ (by simp) (by simp) (hs2.on hal) (by omega) (by simp) (by have := hs2.2.1; omega) (fun j u hu => by rw [Nat.zero_add, World.cell?_alloc_new]; simpa using hu)).mono ?_
    rintro e w3 ⟨z, hmem, rfl, hgn, hs3⟩
    have hz : 0 ≤ z ∧ z ≤ 20001 := by simp at hmem; omega
    have hG3 := grown_go (grown_on hG2 hal) hgn
    have hz3 := hgn.size
    simp only [World.size_alloc] at hz3
    replace hE0 := (hE0.on hal).far hgn (fun e => by have := Option.some.inj e; omega)
    replace hF := (hF.on hal).far hgn (fun e => by have := Option.some.inj e; omega)
    clear hgn hG2 hs2 hal hmem
    clear hel f0 f1 f2 f3 z0 z1 z2 z3 hll
    obtain ⟨hel, f0, f1, f2, f3⟩ := id hF
    obtain ⟨_, z0⟩ := hel.at (k := 0) (by omega)
    obtain ⟨_, z1⟩ := hel.at (k := 1) (by omega)
    obtain ⟨_, z2⟩ := hel.at (k := 2) (by omega)
    obtain ⟨_, z3⟩ := hel.at (k := 3) (by omega)
    have hll := hel.1
    go_upto_region 8 with fail
    refine wp_atB ?_
    intro w4 hw4
    have hG4 : w.grownBy w4 (some g) := by rw [hw4]; exact grown_setP hG3 (by omega)
    have hF4 := (show Dw w4 w.heap.size s x y z by rw [hw4]; exact hF.s3 _)
    have hs4 : SrcAt w4 B g (K + 2 + 2) := by rw [hw4]; exact hs3.setne (by omega) (by omega)
    have hE4 : En w4 (w.heap.size + 1) 4 := by rw [hw4]; exact hE0.setd
    clear hel f0 f1 f2 f3 z0 z1 z2 z3 hll
    clear hw4 hG3 hs3 hF hE0
    obtain ⟨_, f0, f1, f2, f3⟩ := id hF4
    obtain ⟨⟨r0, y0⟩, y1⟩ := hE4.at (k := 0) (by omega)
    obtain ⟨⟨r1, y2⟩, y3⟩ := hE4.at (k := 1) (by omega)
    obtain ⟨⟨r2, y4⟩, y5⟩ := hE4.at (k := 2) (by omega)
    obtain ⟨⟨r3, y6⟩, y7⟩ := hE4.at (k := 3) (by omega)
    go_wp2_with fail
    refine end_atA ?_
    intro wf hwf
    obtain ⟨⟨_, t0, t1, t2, t3⟩, hgw⟩ := four_D hE4 hwf
    have hGf := grown_row hG4 hgw (fun k e => by have := Option.some.inj e; omega)
    have hSf := hs4.far (by have := hG4.size; omega) hgw (fun k e => by have := Option.some.inj e; omega)
    clear hwf hgw y0 y1 y2 y3 y4 y5 y6 y7
    refine bodyPost_ret (by simp [results, Tryz.results41, go_sem, t0, t1, t2, t3]; try rfl) rfl ?_
    exact ⟨s, x, y, z, ⟨d1, d2, d3, hz⟩, rfl, hGf, hSf.le (by omega) (by omega)⟩
  · have t1 : (n == 0) = false := beq_eq_false_iff_ne.2 (by omega)
    have t2 : (n == 1) = false := beq_eq_false_iff_ne.2 (by omega)
    have t3 : (n == 2) = false := beq_eq_false_iff_ne.2 (by omega)
    obtain ⟨⟨r0, y0⟩, y1⟩ := hE0.at (k := 0) (by omega)
    obtain ⟨⟨r1, y2⟩, y3⟩ := hE0.at (k := 1) (by omega)
    obtain ⟨⟨r2, y4⟩, y5⟩ := hE0.at (k := 2) (by omega)
    obtain ⟨⟨r3, y6⟩, y7⟩ := hE0.at (k := 3) (by omega)
    go_wp2_with fail
    refine end_atA ?_
    intro wf hwf
    obtain ⟨⟨_, t0, t1, t2, t3⟩, hgw⟩ := four_D hE0 hwf
    have hGf := grown_row hG2 hgw (fun k e => by have := Option.some.inj e; omega)
    have hSf := hs2.far (by have := hG2.size; omega) hgw (fun k e => by have := Option.some.inj e; omega)
    clear hwf hgw y0 y1 y2 y3 y4 y5 y6 y7
    refine bodyPost_ret (by simp [results, Tryz.results41, go_sem, t0, t1, t2, t3]; try rfl) rfl ?_
    exact ⟨s, x, y, r, ⟨d1, d2, d3, d4⟩, rfl, hGf, hSf.le (by omega) (by omega)⟩
end Go.Proofs.YthjkkidcpidgdaaGreatDoor

/-
  Contracts of points, paths and places near a danger that are drawn. Each under the conditions that it states.
-/
set_option linter.unusedVariables false
set_option linter.unnecessarySimpa false
set_option maxRecDepth 100000
set_option linter.unusedSimpArgs false
namespace Go.Proofs.YthjkkidcpidgdaaGreatDoor
open Go.RowKit BigFrame

/-- A danger's numbers. -/
def D3 (w : World) (p : Nat) (x y r : Int) : Prop := p < w.heap.size ∧ w.cell? ⟨p, 1, none⟩ = some (.int .i64 x) ∧ w.cell? ⟨p, 2, none⟩ = some (.int .i64 y) ∧ w.cell? ⟨p, 3, none⟩ = some (.int .i64 r)
theorem D3.on {w w' : World} {p : Nat} {x y r : Int} (h : D3 w p x y r) (hb : Below w.heap.size w w') : D3 w' p x y r := by
  obtain ⟨hl, h1, h2, h3⟩ := h
  obtain ⟨hc, _⟩ := bcell hb
  exact ⟨Nat.lt_of_lt_of_le hl hb.size, (hc _ _ hl).trans h1, (hc _ _ hl).trans h2, (hc _ _ hl).trans h3⟩
theorem D3.far {w w' : World} {row : Option Nat} {p : Nat} {x y r : Int} (h : D3 w p x y r) (hg : w.grownBy w' row) (hne : row ≠ some p) : D3 w' p x y r := by
  obtain ⟨hl, h1, h2, h3⟩ := h
  exact ⟨Nat.lt_of_lt_of_le hl hg.size, far_cell h1 hg hne, far_cell h2 hg hne, far_cell h3 hg hne⟩
theorem cell_off {w : World} {b o : Nat} {u : Value} (h : w.cell? ⟨b, o, none⟩ = some u) {c : Nat} (hne : c ≠ b) (k : Nat) (v : Value) : (w.setCell ⟨c, k, none⟩ v).cell? ⟨b, o, none⟩ = some u := by
  rw [World.cell?_setCell_other _ _ _ _ (fun e => hne (congrArg Addr.block e))]; exact h
theorem c3_two {w : World} {b c : Nat} {p q r u v : Value} (m : c ≠ b) (h1 : w.cell? ⟨b, 1, none⟩ = some p) (h2 : w.cell? ⟨b, 2, none⟩ = some q) (h3 : w.cell? ⟨b, 3, none⟩ = some r) : ((w.setCell ⟨c, 0, none⟩ u).setCell ⟨c, 1, none⟩ v).cell? ⟨b, 1, none⟩ = some p ∧ ((w.setCell ⟨c, 0, none⟩ u).setCell ⟨c, 1, none⟩ v).cell? ⟨b, 2, none⟩ = some q ∧ ((w.setCell ⟨c, 0, none⟩ u).setCell ⟨c, 1, none⟩ v).cell? ⟨b, 3, none⟩ = some r :=
  ⟨cell_off (cell_off h1 m _ _) m _ _, cell_off (cell_off h2 m _ _) m _ _, cell_off (cell_off h3 m _ _) m _ _⟩
set_option maxHeartbeats 1600000 in
theorem src_near14 (B g K p : Nat) (x y r : Int) (w : World) (hx : c1B x) (hy : c1B y) (hr : 0 ≤ r ∧ r ≤ 20001) (hD : D3 w p x y r) (hpg : p ≠ g) (hs : SrcAt w B g K) (hBw : B ≤ w.heap.size) (hK : K + 20 ≤ 1000000000) :
    Calls Tryz.prog 43 #[.pointer (some ⟨g, 0, none⟩), .pointer (some ⟨p, 0, none⟩)] w fun e w' => ∃ px py : Int, e = .returned (.agg #[.int .i64 px, .int .i64 py]) ∧ w.grownBy w' (some g) ∧ SrcAt w' B g (K + 20) := by
  have hgl := hs.2.1
  have hBg := hs.1
  have hpl := hD.1
  obtain ⟨wa, hwa⟩ : ∃ wa, wa = w.alloc (.cells #[.int .i64 0, .int .i64 0] 34) := ⟨_, rfl⟩
  have hba : Below w.heap.size w wa := by rw [hwa]; go_grown
  have hE0 : Ey wa w.heap.size := by rw [hwa]; exact Ey.new w 0 0 _
  have hza : wa.heap.size = w.heap.size + 1 := by rw [hwa]; simp
  have hG0 := grown_none' hba (some g)
  go_enter Tryz.func43, Tryz.ntmps43
  go_wp2_with fail
  rw [← hwa]
  refine (src_one B g K 2 _ (by omega) (by omega) (hs.on hba) (by omega)).mono ?_
  rintro e w1 ⟨b, rfl, hgn, hs1⟩
  have hG1 := grown_go hG0 hgn
  have hz1 := hgn.size
  replace hE0 := hE0.far hgn (fun e => by have := Option.some.inj e; omega)
  replace hD := (hD.on hba).far hgn (fun e => by have := Option.some.inj e; omega)
  clear hgn hG0 hba hwa hs
  cases b
  · go_wp2_with fail
    refine (src_pick B g (K + 2) 360 _ (by omega) (by omega) hs1 (by omega)).mono ?_
    rintro e w2 ⟨n, hn, rfl, hgn, hs2⟩
    have hG2 := grown_go hG1 hgn
    have hz2 := hgn.size
    replace hE0 := hE0.far hgn (fun e => by have := Option.some.inj e; omega)
    replace hD := hD.far hgn (fun e => by have := Option.some.inj e; omega)
    clear hgn hG1 hs1
    obtain ⟨lp, q1, q2, q3⟩ := id hD
    have k1 : w2.drew.cell? ⟨p, 1, none⟩ = some (.int .i64 x) := q1
    have k2 : w2.drew.cell? ⟨p, 2, none⟩ = some (.int .i64 y) := q2
    have k3 : w2.drew.cell? ⟨p, 3, none⟩ = some (.int .i64 r) := q3
    clear q1 q2 q3
    have n1 : (some g : Option Nat) ≠ some p := fun e => hpg (Option.some.inj e).symm
    have n2 : (some g : Option Nat) ≠ some w.heap.size := fun e => by have := Option.some.inj e; omega
    have m1 : w.heap.size ≠ p := by omega
    have hK0 : K + 2 + 2 + 2 ≤ 1000000000 := by omega
    have HG := Lib.hid hG2
    have HX := Lib.hid (And.intro hx hy)
    unfold c1B at hx hy
    clear hG2
    go_wp2_with fail
    go_region_held3 (fun w' => w'.cell? ⟨p, 1, none⟩ = some (.int .i64 x) ∧ w'.cell? ⟨p, 2, none⟩ = some (.int .i64 y) ∧ w'.cell? ⟨p, 3, none⟩ = some (.int .i64 r)) (first | (with_reducible exact ⟨k1, k2, k3⟩) | (with_reducible exact ⟨q1, q2, q3⟩) | (with_reducible exact ⟨v1, v2, v3⟩) | (with_reducible exact c3_two m1 v1 v2 v3)) (first | (go_at_call 31; (with_reducible refine (src_pick B g (K + 2 + 2) 300 _ (by omega) (by omega) (hs2.on (by go_grown)) hK0).mono ?_); rintro e w9 ⟨t, ht, rfl, hg9, hs9⟩; have hq := (hD.on (by go_grown)).far hg9 n1; have hqE := (hE0.on (by go_grown)).far hg9 n2; obtain ⟨l3, q1, q2, q3⟩ := id hq) | (go_at_call 80; have y1 : IntKind.i64.wrap (r + t) = r + t := IntWalk.i64_in _ (by omega); have y2 : IntKind.i64.wrap (r + t - 50) = r + t - 50 := IntWalk.i64_in _ (by omega); rw [y1, y2]; (with_reducible refine (spec_Move x y n (r + t - 50) _ (by omega) (by omega) (by omega)).mono ?_); rintro e w10 ⟨rfl, hb10⟩; have hv := hq.on hb10; have hvE := hqE.on hb10; obtain ⟨_, ⟨b0, b1⟩, f0, f1⟩ := id hvE; have b0 := heldB_is b0; have b1 := heldB_is b1; obtain ⟨l5, v1, v2, v3⟩ := id hv))
    have hdw : Below w2.heap.size w2 w2.drew := (Below.refl _ _).drew
    have hg9' := grown_go (grown_none' hdw (some g)) hg9
    have hGx := grown_on (grown_go HG.out hg9') hb10
    have hsx := hs9.on hb10
    clear k1 k2 k3 q1 q2 q3 v1 v2 v3 hg9 hg9' hb10 hs9 hqE hq hv
    go_wp2_with fail
    refine end_atA ?_
    intro wf hwf
    obtain ⟨t0, t1⟩ : wf.cell? ⟨w.heap.size, 0, none⟩ = some (.int .i64 (x + stepM (r + t - 50) (sinM n))) ∧ wf.cell? ⟨w.heap.size, 1, none⟩ = some (.int .i64 (y + stepM (r + t - 50) (cosM n))) := by rw [hwf]; exact hvE.read _ _
    have hGf : w.grownBy wf (some g) := by rw [hwf]; exact grown_setP (grown_setP hGx (Nat.le_refl _)) (Nat.le_refl _)
    have hSf : SrcAt wf B g (K + 20) := by rw [hwf]; exact (src_two hsx (by omega) (by omega)).le (by omega) (by omega)
    clear hwf
    refine bodyPost_ret (by simp [results, Tryz.results43, go_sem, t0, t1]; try rfl) rfl ?_
    exact ⟨_, _, rfl, hGf, hSf⟩
  · go_wp2_with fail
    refine (src_bent B g (K + 2) _ hs1 (by omega) (by omega)).mono ?_
    rintro e w2 ⟨px, py, hpx, hpy, rfl, hgn, hs2⟩
    have hG2 := grown_go hG1 hgn
    have hz2 := hgn.size
    replace hE0 := hE0.far hgn (fun e => by have := Option.some.inj e; omega)
    clear hgn hG1 hs1
    obtain ⟨_, ⟨b0, b1⟩, f0, f1⟩ := id hE0
    have b0 := heldB_is b0
    have b1 := heldB_is b1
    go_wp2_with fail
    refine end_atA ?_
    intro wf hwf
    obtain ⟨t0, t1⟩ : wf.cell? ⟨w.heap.size, 0, none⟩ = some (.int .i64 (px)) ∧ wf.cell? ⟨w.heap.size, 1, none⟩ = some (.int .i64 (py)) := by rw [hwf]; exact hE0.read _ _
    have hGf : w.grownBy wf (some g) := by rw [hwf]; exact grown_setP (grown_setP hG2 (Nat.le_refl _)) (Nat.le_refl _)
    have hSf : SrcAt wf B g (K + 20) := by rw [hwf]; exact (src_two hs2 (by omega) (by omega)).le (by omega) (by omega)
    clear hwf
    refine bodyPost_ret (by simp [results, Tryz.results43, go_sem, t0, t1]; try rfl) rfl ?_
    exact ⟨_, _, rfl, hGf, hSf⟩
set_option maxHeartbeats 3200000 in
theorem src_path14 (B g K : Nat) (w : World) (hs : SrcAt w B g K) (hBw : B ≤ w.heap.size) (hK : K + 62 ≤ 1000000000) :
    Calls Tryz.prog 30 #[.pointer (some ⟨g, 0, none⟩)] w fun e w' => ∃ (P : List RPoint) (v : Value), P.length ≤ 65 ∧ e = .returned v ∧ w.grownBy w' (some g) ∧ SrcAt w' B g (K + 62) ∧ Rs w' w.heap.size 34 2 v P.length (flat RPoint.cells P) := by
  obtain ⟨j0, hj, je0, je1, je2⟩ := info_parts infoPtN
  have hmk : ∀ (n : Nat) (w : World), n ≤ 1000 → (Instr.makeSlice 25 (.int .i64 (n : Int)) (.int .i64 (n : Int))).run Tryz.prog w = .ok (.slice (some ⟨w.heap.size, 0, none⟩) n n) (w.alloc (.cells (madeCells z2 (n * 2)) 34)) := fun n w hn => by
    have := run_make w 25 34 j0 _ Tryz.underlying25 hj je0 .i64 .i64 n n (by omega) (by omega) (by rw [je2]; omega) (by omega)
    have ec : (Value.agg #[.int .i64 0, .int .i64 0]).cells = z2 := rfl
    rw [je1, ec] at this
    simpa using this
  have hgl := hs.2.1
  have hBg := hs.1
  have hal : Below w.heap.size w (w.alloc (.cells #[] 34)) := by go_grown
  have hO := (show (w.alloc (.cells #[] 34)).ownsRow w.heap.size 34 2 (.slice (some ⟨w.heap.size, 0, none⟩) 0 0) 0 [] from World.ownsRow_made w #[] 0 (Nat.le_refl _) (Nat.zero_le _) rfl)
  go_enter Tryz.func30, Tryz.ntmps30
  go_wp2_with fail
  refine (src_pick B g K 5 _ (by omega) (by omega) (hs.on hal) (by omega)).mono ?_
  rintro e w2 ⟨k0, hk0, rfl, hgn, hs2⟩
  have hG2 := grown_go (grown_none' hal (some g)) hgn
  have hO2 := owns_far hO hgn (fun k e => by have := Option.some.inj e; omega)
  clear hgn hal hO hs
  go_wp2_with fail
  go_loopw [3, 4] (fun lv kv wr => ∃ (n : Nat) (m : Int) (P : List RPoint) (A : Option Addr) (c : Nat), lv = .slice A n c ∧ kv = .int .i64 m ∧ 0 ≤ m ∧ P.length = n ∧ (n : Int) + m ≤ 4 ∧ w.grownBy wr (some g) ∧ SrcAt wr B g (K + 2 + 14 * n) ∧ wr.ownsRow w.heap.size 34 2 (.slice A n c) n (flat RPoint.cells P)) (fun _ kv _ => (intOf kv).toNat)
  case atStart => exact ⟨0, k0, [], _, 0, rfl, rfl, hk0.1, rfl, by omega, hG2, hs2, hO2⟩
  case round =>
    clear hO2 hG2 hs2
    obtain ⟨n, m, P, A1, c1, rfl, rfl, hm, hPl, hnm, hGr, hS, hO⟩ := hrel
    have hSz := hGr.size
    by_cases hmp : 0 < m
    · go_wp2_with fail
      refine (src_draw B g (K + 2 + 14 * n) _ hS (by omega) (by omega)).mono ?_
      rintro e w4 ⟨x, y, hx, hy, rfl, hgn, hs4⟩
      have hG4 := grown_go hGr hgn
      have hO4 := owns_far hO hgn (fun k e => by have := Option.some.inj e; omega)
      have hz4 := hgn.size
      clear hgn hGr hO hS
      have hlg : n + 1 ≤ 1000 := by omega
      go_wp2_with (at_builtin; refine wpList_append_own _ rfl _ _ 25 rfl (w.heap.size) 34 j0 (.agg #[.int .i64 0, .int .i64 0]) 2 16 Tryz.underlying25 hj je0 je1 je2 rfl (by decide) _ _ _ rfl (hO4.alloc _) ⟨w4.heap.size, 0, none⟩ 1 1 [.int .i64 (x), .int .i64 (y)] rfl rfl ?ac1 ?ac2 ?ac3 ?ac4 ?ac5 ?_)
      try (case ac1 =>
          intro j u hj
          match j, hj with
          | 0, hj => simp at hj; subst hj; simp [Addr.add, *]
          | 1, hj => simp at hj; subst hj; simp [Addr.add, *])
      try (case ac2 => first | (intro u hu; simp at hu; rcases hu with rfl | rfl <;> rfl) | rfl | simp)
      case ac3 => unfold maxLen; omega
      case ac4 => omega
      case ac5 => first | omega | (simp; omega)
      intro v' w5 hO5 hg5 _
      have hg5' : (w4.alloc (.cells #[.int .i64 x, .int .i64 y] 34)).grownBy w5 (Value.slice A1 n c1).ownBlock := hg5
      have ha4 : Below w4.heap.size w4 (w4.alloc (.cells #[.int .i64 x, .int .i64 y] 34)) := by go_grown
      obtain ⟨A2, c2, rfl, _⟩ := (Rs.of_owns hO5).sl
      have hAq : ∀ k, (Value.slice A1 n c1).ownBlock = some k → w.heap.size ≤ k := fun k e => (hO4.lt k e).1
      have hG5 := grown_row (grown_on hG4 ha4) hg5' hAq
      have hS5 := (hs4.on ha4).far (by simp; omega) hg5' (fun k e => ⟨by have := hAq k e; omega, by have := hAq k e; omega⟩)
      clear hg5 hg5' hAq hG4 hs4 hO4 ha4
      go_wp2_with fail
      go_roundw
      case rel => exact ⟨n + 1, m - 1, P ++ [⟨x, y⟩], A2, c2, by go_num, by go_num, by omega, by rw [List.length_append, hPl]; rfl, by omega, hG5, hS5.le (by omega) (by omega), by rw [flat_snoc]; exact hO5⟩
      case measure => simp [intOf]; omega
    · go_wp2_with fail
      refine (src_pick B g (K + 2 + 14 * n) 20 _ (by omega) (by omega) hS (by omega)).mono ?_
      rintro e w4 ⟨t, ht, rfl, hgn, hs4⟩
      have hG4 := grown_go hGr hgn
      have hO4 := owns_far hO hgn (fun k e => by have := Option.some.inj e; omega)
      have hz4 := hgn.size
      clear hgn hGr hO hS
      rcases (by omega : t = 0 ∨ t = 1 ∨ 2 ≤ t) with rfl | rfl | h2
      · go_wp2_with fail
        have hal : Below w4.heap.size w4 (w4.alloc (.cells #[.int .i64 64, .int .i64 65] 2)) := by go_grown
        refine (src_among B g (K + 2 + 14 * n + 2) w4.heap.size 0 2 [64, 65] _ (by simp) (by simp) (hs4.on hal) (by omega) (by simp) (by have := hs4.2.1; omega) (fun j u hu => by rw [Nat.zero_add, World.cell?_alloc_new]; simpa using hu)).mono ?_
        rintro e w6 ⟨z, hmem, rfl, hgn, hs7⟩
        have hG6 := grown_go (grown_on hG4 hal) hgn
        have hz6 := hG6.size
        clear hgn hal hs4 hG4 hO4
        obtain ⟨q, hq, hq2⟩ : ∃ q : Nat, z = (q : Int) ∧ q ≤ 65 := by simp at hmem; rcases hmem with rfl | rfl; exact ⟨64, rfl, by omega⟩; exact ⟨65, rfl, by omega⟩
        subst hq
        have hmq := fun w => hmk q w (by omega)
        have hRm := rs_made w6 q 34
        have ham : Below w6.heap.size w6 (w6.alloc (.cells (madeCells z2 (q * 2)) 34)) := by go_grown
        clear hmk
        go_wp2_with fail
        go_ret
        refine ⟨List.replicate q ⟨0, 0⟩, _, by rw [List.length_replicate]; omega, rfl, grown_on hG6 ham, (hs7.on ham).le (by omega) (by omega), ?_⟩
        rw [List.length_replicate]; exact hRm.more (by omega)
      · have hlg : n + 1 ≤ 1000 := by omega
        go_wp2_with (at_builtin; refine wpList_append_own _ rfl _ _ 25 rfl (w.heap.size) 34 j0 (.agg #[.int .i64 0, .int .i64 0]) 2 16 Tryz.underlying25 hj je0 je1 je2 rfl (by decide) _ _ _ rfl (hO4.alloc _) ⟨w4.heap.size, 0, none⟩ 1 1 [.int .i64 (-1), .int .i64 (0)] rfl rfl ?ac1 ?ac2 ?ac3 ?ac4 ?ac5 ?_)
        try (case ac1 =>
            intro j u hj
            match j, hj with
            | 0, hj => simp at hj; subst hj; simp [Addr.add, *]
            | 1, hj => simp at hj; subst hj; simp [Addr.add, *])
        try (case ac2 => first | (intro u hu; simp at hu; rcases hu with rfl | rfl <;> rfl) | rfl | simp)
        case ac3 => unfold maxLen; omega
        case ac4 => omega
        case ac5 => first | omega | (simp; omega)
        intro v' w5 hO5 hg5 _
        have hg5' : (w4.alloc (.cells #[.int .i64 (-1), .int .i64 0] 34)).grownBy w5 (Value.slice A1 n c1).ownBlock := hg5
        have ha4 : Below w4.heap.size w4 (w4.alloc (.cells #[.int .i64 (-1), .int .i64 0] 34)) := by go_grown
        have hAq : ∀ k, (Value.slice A1 n c1).ownBlock = some k → w.heap.size ≤ k := fun k e => (hO4.lt k e).1
        have hG5 := grown_row (grown_on hG4 ha4) hg5' hAq
        have hS5 := (hs4.on ha4).far (by simp; omega) hg5' (fun k e => ⟨by have := hAq k e; omega, by have := hAq k e; omega⟩)
        clear hg5 hg5' hAq hG4 hs4 hO4 ha4
        go_wp2_with fail
        go_ret
        have hl1 : (P ++ [(⟨-1, 0⟩ : RPoint)]).length = n + 1 := by rw [List.length_append, hPl]; rfl
        exact ⟨P ++ [⟨-1, 0⟩], _, by omega, rfl, hG5, hS5.le (by omega) (by omega), by rw [hl1, flat_snoc]; exact Rs.of_owns hO5⟩
      · have t1 : (t == 0) = false := beq_eq_false_iff_ne.2 (by omega)
        have t2 : (t == 1) = false := beq_eq_false_iff_ne.2 (by omega)
        go_wp2_with fail
        go_ret
        exact ⟨P, _, by omega, rfl, hG4, hs4.le (by omega) (by omega), by rw [hPl]; exact Rs.of_owns hO4⟩
theorem cell_drew {w : World} {a : Addr} {u : Value} (h : w.cell? a = some u) : w.drew.cell? a = some u := h
theorem dp_out {w wf : World} {r0 r1 : Nat} {s : ByteArray} {x y r p q : Int} (e0 : En w r0 4) (e1 : Ey w r1) (h01 : r1 ≠ r0) (hw : wf = ((((((w.setCell ⟨r0, 0, none⟩ (.string s)).setCell ⟨r0, 1, none⟩ (.int .i64 x)).setCell ⟨r0, 2, none⟩ (.int .i64 y)).setCell ⟨r0, 3, none⟩ (.int .i64 r)).setCell ⟨r1, 0, none⟩ (.int .i64 p)).setCell ⟨r1, 1, none⟩ (.int .i64 q))) : (wf.cell? ⟨r0, 0, none⟩ = some (.string s) ∧ wf.cell? ⟨r0, 1, none⟩ = some (.int .i64 x) ∧ wf.cell? ⟨r0, 2, none⟩ = some (.int .i64 y) ∧ wf.cell? ⟨r0, 3, none⟩ = some (.int .i64 r)) ∧ (wf.cell? ⟨r1, 0, none⟩ = some (.int .i64 p) ∧ wf.cell? ⟨r1, 1, none⟩ = some (.int .i64 q)) := by
  obtain ⟨_, t0, t1, t2, t3⟩ := (four_D e0 (s := s) (x := x) (y := y) (r := r) rfl).1
  subst hw
  exact ⟨⟨cell_off (cell_off t0 h01 _ _) h01 _ _, cell_off (cell_off t1 h01 _ _) h01 _ _, cell_off (cell_off t2 h01 _ _) h01 _ _, cell_off (cell_off t3 h01 _ _) h01 _ _⟩, e1.set.set.set.set.read _ _⟩
theorem below_six {B : Nat} {a w wf : World} {r0 r1 : Nat} {v0 v1 v2 v3 v4 v5 : Value} (h : Below B a w) (h0 : B ≤ r0) (h1 : B ≤ r1) (hw : wf = ((((((w.setCell ⟨r0, 0, none⟩ v0).setCell ⟨r0, 1, none⟩ v1).setCell ⟨r0, 2, none⟩ v2).setCell ⟨r0, 3, none⟩ v3).setCell ⟨r1, 0, none⟩ v4).setCell ⟨r1, 1, none⟩ v5)) : Below B a wf := by
  subst hw
  exact (((((h.setCell h0 _).setCell h0 _).setCell h0 _).setCell h0 _).setCell h1 _).setCell h1 _
set_option maxHeartbeats 3200000 in
theorem draw_card (L : List Int) (A : Option Addr) (c B : Nat) (w : World) (hs : Sl w B A (L.map (Value.int .u8))) (hB : B ≤ w.heap.size) (hu : ∀ z ∈ L, IntKind.u8.has z) (hl : L.length ≤ 1048576) :
    Calls Tryz.prog 9 #[.slice A L.length c] w fun e w' => ∃ (s : ByteArray) (x y r px py : Int), gd s x y r ∧ e = .returned (.tuple #[.agg #[.string s, .int .i64 x, .int .i64 y, .int .i64 r], .agg #[.int .i64 px, .int .i64 py]]) ∧ Below w.heap.size w w' := by
  obtain ⟨wa, hwa⟩ : ∃ wa, wa = (w.alloc (.cells #[.string ⟨#[]⟩, .int .i64 0, .int .i64 0, .int .i64 0] 36)).alloc (.cells #[.int .i64 0, .int .i64 0] 34) := ⟨_, rfl⟩
  have hba : Below w.heap.size w wa := by rw [hwa]; go_grown
  have hE0 : En wa w.heap.size 4 := by rw [hwa]; exact (En.new w #[.string ⟨#[]⟩, .int .i64 0, .int .i64 0, .int .i64 0] 36).on (by go_grown)
  have hE1 : Ey wa (w.heap.size + 1) := by rw [hwa]; have := Ey.new (w.alloc (.cells #[.string ⟨#[]⟩, .int .i64 0, .int .i64 0, .int .i64 0] 36)) 0 0 34; simpa using this
  have hza : wa.heap.size = w.heap.size + 2 := by rw [hwa]; simp
  go_enter Tryz.func9, Tryz.ntmps9
  go_wp2_with fail
  rw [← hwa]
  refine (src_from L _ _ B _ (hs.below (hba.mono hB)) (by omega) hu hl).mono ?_
  rintro e w1 ⟨rfl, hb1, hs1⟩
  have hB1 := bnext hba hb1
  have hz1 := hb1.size
  replace hE0 := hE0.on hb1
  replace hE1 := hE1.on hb1
  obtain ⟨g, hg⟩ : ∃ g, wa.heap.size = g := ⟨_, rfl⟩
  rw [hg] at hs1 hza hz1 ⊢
  replace hza : w.heap.size + 2 ≤ g ∧ g ≤ w.heap.size + 2 := by omega
  have hgl := hs1.2.1
  clear hb1 hwa hs hba hg
  go_wp2_with fail
  refine (src_dang B g 0 _ hs1 (by omega) (by omega)).mono ?_
  rintro e w2 ⟨sa, xa, ya, ra, hda, rfl, hgn, hs2⟩
  have hB2 := hB1.grown hgn (by omega) (fun k e => by have := Option.some.inj e; omega)
  have hz2 := hgn.size
  replace hE0 := hE0.far hgn (fun e => by have := Option.some.inj e; omega)
  replace hE1 := hE1.far hgn (fun e => by have := Option.some.inj e; omega)
  clear hgn hB1 hs1
  go_wp2_with fail
  refine (src_bend14 B g (0 + 18) sa xa ya ra _ hda hs2 (by omega) (by omega)).mono ?_
  rintro e w3 ⟨s, x, y, r, hd, rfl, hgn, hs3⟩
  have hB3 := hB2.grown hgn (by omega) (fun k e => by have := Option.some.inj e; omega)
  have hz3 := hgn.size
  replace hE0 := hE0.far hgn (fun e => by have := Option.some.inj e; omega)
  replace hE1 := hE1.far hgn (fun e => by have := Option.some.inj e; omega)
  clear hgn hB2 hs2
  have hF0 := Dw.new w3 s x y r 36
  have hal : Below w3.heap.size w3 (w3.alloc (.cells #[.string s, .int .i64 x, .int .i64 y, .int .i64 r] 36)) := by go_grown
  obtain ⟨h, hh⟩ : ∃ h, w3.heap.size = h := ⟨_, rfl⟩
  go_wp2_with fail
  refine (src_one B g (0 + 18 + 4) 12 _ (by omega) (by omega) (hs3.on hal) (by omega)).mono ?_
  rintro e w4 ⟨b, rfl, hgn, hs4⟩
  have hB4 := (bnext hB3 hal).grown hgn (by simp; omega) (fun k e => by have := Option.some.inj e; omega)
  have hz4 := hgn.size
  simp only [World.size_alloc] at hz4
  replace hE0 := (hE0.on hal).far hgn (fun e => by have := Option.some.inj e; omega)
  replace hE1 := (hE1.on hal).far hgn (fun e => by have := Option.some.inj e; omega)
  have hF := hF0.far hgn (fun e => by have := Option.some.inj e; omega)
  rw [hh] at hF
  clear hgn hB3 hs3 hF0 hal
  cases b
  · obtain ⟨hfe, q0, q1, q2, q3⟩ := id hF
    have k0 : w4.drew.cell? ⟨h, 0, none⟩ = some (.string s) := q0
    have k1 : w4.drew.cell? ⟨h, 1, none⟩ = some (.int .i64 x) := q1
    have k2 : w4.drew.cell? ⟨h, 2, none⟩ = some (.int .i64 y) := q2
    have k3 : w4.drew.cell? ⟨h, 3, none⟩ = some (.int .i64 r) := q3
    have hD3 : D3 w4 h x y r := ⟨hfe.1, q1, q2, q3⟩
    have HD := Lib.hid hd
    obtain ⟨_, g1, g2, g3⟩ := id hd
    clear q0 q1 q2 q3 hfe hd
    have n0 : (some g : Option Nat) ≠ some h := fun e => by have := Option.some.inj e; omega
    have n1 : (some g : Option Nat) ≠ some w.heap.size := fun e => by have := Option.some.inj e; omega
    have n2 : (some g : Option Nat) ≠ some (w.heap.size + 1) := fun e => by have := Option.some.inj e; omega
    have m0 : w.heap.size ≠ h := by omega
    have m1 : w.heap.size + 1 ≠ h := by omega
    have m2 : h ≠ g := by omega
    have HB := Lib.hid hB4
    clear hB4
    go_wp2_with fail
    go_region_held3 (fun w' => w'.cell? ⟨h, 0, none⟩ = some (.string s) ∧ w'.cell? ⟨h, 1, none⟩ = some (.int .i64 x) ∧ w'.cell? ⟨h, 2, none⟩ = some (.int .i64 y) ∧ w'.cell? ⟨h, 3, none⟩ = some (.int .i64 r)) (first | (with_reducible exact ⟨k0, k1, k2, k3⟩) | (with_reducible exact ⟨q0, q1, q2, q3⟩) | (refine ⟨?_, ?_, ?_, ?_⟩ <;> (repeat (with_reducible refine cell_off ?_ (by assumption) _ _)) <;> (with_reducible assumption))) (first | (go_at_call 43; (with_reducible refine (src_near14 B g (0 + 18 + 4 + 2) h x y r _ g1 g2 g3 (hD3.on (by go_grown)) m2 (hs4.on (by go_grown)) (by first | (simp; omega) | omega) (by omega)).mono ?_); rintro e w9 ⟨px, py, rfl, hg9, hs9⟩; have hq := (hF.on (by go_grown)).far hg9 n0; have hqE := (hE0.on (by go_grown)).far hg9 n1; have hqY := (hE1.on (by go_grown)).far hg9 n2; obtain ⟨_, q0, q1, q2, q3⟩ := id hq; (obtain ⟨⟨r0, y0⟩, y1⟩ := hqE.at (k := 0) (by omega)); (obtain ⟨⟨r1, y2⟩, y3⟩ := hqE.at (k := 1) (by omega)); (obtain ⟨⟨r2, y4⟩, y5⟩ := hqE.at (k := 2) (by omega)); (obtain ⟨⟨r3, y6⟩, y7⟩ := hqE.at (k := 3) (by omega)); (obtain ⟨_, ⟨i0, i1⟩, i2, i3⟩ := id hqY); have i0 := heldB_is i0; have i1 := heldB_is i1))
    have hdw : Below w4.heap.size w4 w4.drew := (Below.refl _ _).drew
    have hg9' := grown_go (grown_none' hdw (some g)) hg9
    have hB9 := HB.out.grown hg9' (by omega) (fun k e => by have := Option.some.inj e; omega)
    clear k0 k1 k2 k3 q0 q1 q2 q3 y0 y1 y2 y3 y4 y5 y6 y7 i0 i1 i2 i3
    go_wp2_with fail
    refine end_atA ?_
    intro wf hwf
    obtain ⟨⟨t0, t1, t2, t3⟩, t4, t5⟩ := dp_out hqE hqY (by omega) hwf
    have hBf := below_six hB9 (Nat.le_refl _) (by omega) hwf
    clear hwf
    refine bodyPost_ret (by simp [results, Tryz.results9, go_sem, t0, t1, t2, t3, t4, t5]; try rfl) rfl ?_
    exact ⟨s, x, y, r, px, py, HD.out, rfl, hBf⟩
  · obtain ⟨_, q0, q1, q2, q3⟩ := id hF
    obtain ⟨⟨r0, y0⟩, y1⟩ := hE0.at (k := 0) (by omega)
    obtain ⟨⟨r1, y2⟩, y3⟩ := hE0.at (k := 1) (by omega)
    obtain ⟨⟨r2, y4⟩, y5⟩ := hE0.at (k := 2) (by omega)
    obtain ⟨⟨r3, y6⟩, y7⟩ := hE0.at (k := 3) (by omega)
    obtain ⟨_, ⟨i0, i1⟩, i2, i3⟩ := id hE1
    have i0 := heldB_is i0
    have i1 := heldB_is i1
    go_wp2_with fail
    go_region
    refine then_at2 ?_
    intro wf hwf
    have hz6 : w.heap.size + 1 ≠ w.heap.size := by omega
    obtain ⟨⟨t0, t1, t2, t3⟩, t4, t5⟩ := dp_out (s := s) (x := x) (y := y) (r := r) (p := x) (q := y) hE0 hE1 hz6 rfl
    have hq : (wf.cell? ⟨w.heap.size, 0, none⟩ = some (.string s) ∧ wf.cell? ⟨w.heap.size, 1, none⟩ = some (.int .i64 x) ∧ wf.cell? ⟨w.heap.size, 2, none⟩ = some (.int .i64 y) ∧ wf.cell? ⟨w.heap.size, 3, none⟩ = some (.int .i64 r)) ∧ (wf.cell? ⟨w.heap.size + 1, 0, none⟩ = some (.int .i64 x) ∧ wf.cell? ⟨w.heap.size + 1, 1, none⟩ = some (.int .i64 y)) := by rw [hwf]; exact ⟨⟨cell_drew t0, cell_drew t1, cell_drew t2, cell_drew t3⟩, cell_drew t4, cell_drew t5⟩
    have hBf : Below w.heap.size w wf := by rw [hwf]; exact (below_six hB4 (Nat.le_refl _) (by omega) rfl).drew
    clear hwf t0 t1 t2 t3 t4 t5 q0 q1 q2 q3 y0 y1 y2 y3 y4 y5 y6 y7 i0 i1 i2 i3
    obtain ⟨⟨t0, t1, t2, t3⟩, t4, t5⟩ := hq
    go_wp2_with fail
    refine bodyPost_ret (by simp [results, Tryz.results9, go_sem, t0, t1, t2, t3, t4, t5]; try rfl) rfl ?_
    exact ⟨s, x, y, r, x, y, hd, rfl, hBf⟩
end Go.Proofs.YthjkkidcpidgdaaGreatDoor

/-
  Contracts of a danger added to a list: the program's and the reference's. Each under the conditions that it states.
-/
set_option linter.unusedVariables false
set_option linter.unnecessarySimpa false
set_option maxRecDepth 100000
set_option linter.unusedSimpArgs false
namespace Go.Proofs.YthjkkidcpidgdaaGreatDoor
open Go.RowKit BigFrame

theorem RDanger.one (a : RDanger) : ∀ u ∈ a.cells, u.oneCell' = true := by
  intro u hu
  simp [RDanger.cells] at hu
  rcases hu with rfl | rfl | rfl | rfl <;> rfl

/-- Whether a danger's name is ahead of a text. -/
def lessD (s : ByteArray) (a : RDanger) : Bool := ltS a.f0 s
/-- The number of the first that is not ahead of it. -/
def addAt (s : ByteArray) (L : List RDanger) : Nat := (L.takeWhile (lessD s)).length
theorem addAt_le (s : ByteArray) (L : List RDanger) : addAt s L ≤ L.length := by
  unfold addAt
  exact (List.takeWhile_sublist _).length_le
theorem addAt_stop (s : ByteArray) : ∀ (L : List RDanger) (h : addAt s L < L.length), lessD s L[addAt s L] = false
  | [], h => by simp at h
  | a :: L, h => by
    cases ha : lessD s a
    · have e : addAt s (a :: L) = 0 := by simp [addAt, List.takeWhile_cons, ha]
      simp only [e, List.getElem_cons_zero]
      exact ha
    · have e : addAt s (a :: L) = addAt s L + 1 := by simp [addAt, List.takeWhile_cons, ha]
      simp only [e, List.getElem_cons_succ]
      exact addAt_stop s L (by rw [e] at h; simpa using h)
theorem addAt_go (s : ByteArray) : ∀ (L : List RDanger) (k : Nat) (hk : k < L.length), k < addAt s L → lessD s L[k] = true
  | [], k, hk, _ => by simp at hk
  | a :: L, k, hk, h => by
    cases ha : lessD s a
    · have e : addAt s (a :: L) = 0 := by simp [addAt, List.takeWhile_cons, ha]
      omega
    · have e : addAt s (a :: L) = addAt s L + 1 := by simp [addAt, List.takeWhile_cons, ha]
      cases k with
      | zero => exact ha
      | succ k => exact addAt_go s L k (by simpa using hk) (by omega)
theorem addAt_step {s : ByteArray} {L : List RDanger} {k : Nat} {a : RDanger} (hk : k < L.length) (ha : L[k] = a) (h : k ≤ addAt s L) (hl : ltS a.f0 s = true) : k + 1 ≤ addAt s L := by
  rcases Nat.lt_or_ge k (addAt s L) with h1 | h1
  · exact h1
  · exfalso
    have e : addAt s L = k := by omega
    have := addAt_stop s L (by omega)
    simp only [e, ha] at this
    unfold lessD at this
    rw [hl] at this; cases this
theorem addAt_at {s : ByteArray} {L : List RDanger} {k : Nat} {a : RDanger} (hk : k < L.length) (ha : L[k] = a) (h : k ≤ addAt s L) (hl : ltS a.f0 s = false) : addAt s L = k := by
  rcases Nat.lt_or_ge k (addAt s L) with h1 | h1
  · have := addAt_go s L k hk h1
    rw [ha] at this
    unfold lessD at this
    rw [hl] at this; cases this
  · omega
/-- The code of adding, and the list that comes of it. -/
def addC (L : List RDanger) (d : RDanger) : Int :=
  if (vDangsM L && d.v) = false then 1 else if decide (addAt d.f0 L < L.length) && decide ((L.getD (addAt d.f0 L) default).f0 = d.f0) then 4 else if L.length = 24 then 5 else 0
def addL (L : List RDanger) (d : RDanger) : List RDanger := if addC L d = 0 then L.take (addAt d.f0 L) ++ d :: L.drop (addAt d.f0 L) else []
theorem addC_bad {L : List RDanger} {d : RDanger} (h : (vDangsM L && d.v) = false) : addC L d = 1 ∧ addL L d = [] := by
  have e : addC L d = 1 := by unfold addC; rw [if_pos h]
  exact ⟨e, by unfold addL; rw [e]; rfl⟩
theorem addC_is {L : List RDanger} {d a : RDanger} {k : Nat} (h : vDangsM L = true) (hd : d.v = true) (hk : k < L.length) (ha : L[k] = a) (hat : addAt d.f0 L = k) (he : a.f0 = d.f0) : addC L d = 4 ∧ addL L d = [] := by
  have e : addC L d = 4 := by
    unfold addC
    rw [h, hd, if_neg (by simp), hat, getD_at hk, ha, decide_eq_true hk, decide_eq_true he]; rfl
  exact ⟨e, by unfold addL; rw [e]; rfl⟩
theorem addC_go {L : List RDanger} {d : RDanger} {k : Nat} (h : vDangsM L = true) (hd : d.v = true) (hat : addAt d.f0 L = k) (hno : ∀ hk : k < L.length, ¬ L[k].f0 = d.f0) : addC L d = (if L.length = 24 then 5 else 0) := by
  unfold addC
  rw [h, hd, if_neg (by simp), hat]
  by_cases hk : k < L.length
  · rw [getD_at hk, decide_eq_false (hno hk), Bool.and_false, if_neg (by simp)]
  · rw [decide_eq_false hk, Bool.false_and, if_neg (by simp)]
theorem addC_full {L : List RDanger} {d : RDanger} {k : Nat} (h : vDangsM L = true) (hd : d.v = true) (hat : addAt d.f0 L = k) (hno : ∀ hk : k < L.length, ¬ L[k].f0 = d.f0) (h24 : L.length = 24) : addC L d = 5 ∧ addL L d = [] := by
  have e : addC L d = 5 := by rw [addC_go h hd hat hno, if_pos h24]
  exact ⟨e, by unfold addL; rw [e]; rfl⟩
theorem addC_ok {L : List RDanger} {d : RDanger} {k : Nat} (h : vDangsM L = true) (hd : d.v = true) (hat : addAt d.f0 L = k) (hno : ∀ hk : k < L.length, ¬ L[k].f0 = d.f0) (h24 : ¬ L.length = 24) : addC L d = 0 ∧ addL L d = L.take k ++ d :: L.drop k := by
  have e : addC L d = 0 := by rw [addC_go h hd hat hno, if_neg h24]
  exact ⟨e, by unfold addL; rw [if_pos e, hat]⟩
theorem addL_le (L : List RDanger) (d : RDanger) : (addL L d).length ≤ L.length + 1 := by
  unfold addL
  split
  · simp; omega
  · simp
theorem addL_max (L : List RDanger) (d : RDanger) : (addL L d).length ≤ 25 := by
  by_cases h : addC L d = 0
  · have hv : vDangsM L = true := by
      cases hv : vDangsM L
      · unfold addC at h
        rw [hv, Bool.false_and, if_pos rfl] at h
        omega
      · rfl
    unfold vDangsM at hv
    rw [Bool.and_eq_true] at hv
    have h24 := of_decide_eq_true hv.2
    have := addL_le L d
    omega
  · unfold addL; rw [if_neg h]; simp
/-- What adding leaves. -/
def AddPost (L : List RDanger) (d : RDanger) (w : World) (e : Ending) (w' : World) : Prop := ∃ v, e = .returned (.tuple #[v, .int .i64 (addC L d)]) ∧ Below w.heap.size w w' ∧ Rs w' w.heap.size 36 4 v (addL L d).length (flat RDanger.cells (addL L d))
theorem AddPost.nil {L : List RDanger} {d : RDanger} {w w' : World} {c : Int} (h : addC L d = c ∧ addL L d = []) (hb : Below w.heap.size w w') : AddPost L d w (.returned (.tuple #[.slice none 0 0, .int .i64 c])) w' :=
  ⟨_, by rw [h.1], hb, by rw [h.2]; exact Rs.nil _ _ _ _⟩

/-- What adding leaves: a row of its own. -/
def AddPostC (L : List RDanger) (d : RDanger) (w : World) (e : Ending) (w' : World) : Prop := ∃ v, e = .returned (.tuple #[v, .int .i64 (addC L d)]) ∧ Below w.heap.size w w' ∧ w'.ownsRow w.heap.size 36 4 v (addL L d).length (flat RDanger.cells (addL L d))
theorem AddPostC.nil {L : List RDanger} {d : RDanger} {w w' : World} {c : Int} (h : addC L d = c ∧ addL L d = []) (hb : Below w.heap.size w w') : AddPostC L d w (.returned (.tuple #[.slice none 0 0, .int .i64 c])) w' :=
  ⟨_, by rw [h.1], hb, by rw [h.2]; exact ⟨by simp [flat], .inl ⟨rfl, rfl⟩⟩⟩
theorem AddPost.of {L : List RDanger} {d : RDanger} {w w' : World} {e : Ending} (h : AddPostC L d w e w') : AddPost L d w e w' := by
  obtain ⟨v, h1, h2, h3⟩ := h
  exact ⟨v, h1, h2, Rs.of_owns h3⟩

/-- A record's cells in a block of its own. -/
def Dz (w : World) (g : Nat) (d : RDanger) : Prop := g < w.heap.size ∧ w.cell? ⟨g, 0, none⟩ = some (.string d.f0) ∧ w.cell? ⟨g, 1, none⟩ = some (.int .i64 d.f1) ∧ w.cell? ⟨g, 2, none⟩ = some (.int .i64 d.f2) ∧ w.cell? ⟨g, 3, none⟩ = some (.int .i64 d.f3)
theorem Dz.on {w w' : World} {g : Nat} {d : RDanger} (h : Dz w g d) (hb : Below w.heap.size w w') : Dz w' g d := by
  obtain ⟨hg, c0, c1, c2, c3⟩ := h
  obtain ⟨hc, _⟩ := bcell hb
  exact ⟨Nat.lt_of_lt_of_le hg hb.size, (hc _ _ hg).trans c0, (hc _ _ hg).trans c1, (hc _ _ hg).trans c2, (hc _ _ hg).trans c3⟩
theorem Dz.far {w w' : World} {g : Nat} {d : RDanger} {row : Option Nat} (h : Dz w g d) (hg : w.grownBy w' row) (hne : ∀ k, row = some k → g ≠ k) : Dz w' g d := by
  have hb : w'.heap[g]? = w.heap[g]? := hg.block g h.1 (fun e => hne g e.symm rfl)
  obtain ⟨hl, c0, c1, c2, c3⟩ := h
  exact ⟨Nat.lt_of_lt_of_le hl hg.size, by rw [World.cell?_of_block (a := ⟨g, 0, none⟩) hb]; exact c0, by rw [World.cell?_of_block (a := ⟨g, 1, none⟩) hb]; exact c1, by rw [World.cell?_of_block (a := ⟨g, 2, none⟩) hb]; exact c2, by rw [World.cell?_of_block (a := ⟨g, 3, none⟩) hb]; exact c3⟩

theorem infoDang : (Tryz.prog.info? 36).map (fun i => (i.zero, i.size, i.bytes)) = some (some (.agg #[.string ⟨#[]⟩, .int .i64 0, .int .i64 0, .int .i64 0]), 4, 40) := by kernel_rfl
theorem spec_Add_badC (L : List RDanger) (A : Option Addr) (c B : Nat) (d : RDanger) (w : World) (hs : Sl w B A (flat RDanger.cells L)) (hB : B ≤ w.heap.size) (hok : ∀ a ∈ L, a.ok) (hl : L.length ≤ 1048576) (hds : d.f0.size ≤ maxLen) (hv : (vDangsM L && d.v) = false) :
    Calls Tryz.prog 71 #[.slice A L.length c, .agg #[.string d.f0, .int .i64 d.f1, .int .i64 d.f2, .int .i64 d.f3]] w (AddPostC L d w) := by
  have hs' := Lib.hid hs
  have hok' := Lib.hid hok
  have H := Lib.hid (addC_bad hv)
  have hz : Hid (Dz ((w.alloc (.cells #[.string d.f0, .int .i64 d.f1, .int .i64 d.f2, .int .i64 d.f3] 36))) w.heap.size d) := Lib.hid ⟨by simp, by simp [go_sem], by simp [go_sem], by simp [go_sem], by simp [go_sem]⟩
  clear hs hok
  rcases (by
    cases h1 : vDangsM L
    · exact Or.inl rfl
    · rw [h1] at hv; exact Or.inr ⟨rfl, hv⟩ : vDangsM L = false ∨ (vDangsM L = true ∧ d.v = false)) with h | ⟨h, h2⟩
  · clear hv
    go_enter Tryz.func71, Tryz.ntmps71
    go_wp2_with ((go_at_call 100; refine (spec_l14Ok L _ _ B _ (hs'.out.below ((show Below w.heap.size w _ by go_grown).mono hB)) (by simp; omega) hok'.out hl).mono ?_; rintro e w1 ⟨rfl, hb1⟩; have hB1 := bnext (w := w) (by go_grown) hb1; have hS1 := hB1.size; ((have hz1 : w.heap.size < w1.heap.size := by have := hb1.size; (try simp only [World.size_alloc, World.size_setCell, World.size_drew] at this); omega)); obtain ⟨hc1, hf1⟩ := bcell hb1; clear hb1))
    go_ret2
    exact AddPostC.nil H.out (by go_grown)
  · have h2 : vDanger d.f0 d.f1 d.f2 d.f3 = false := h2
    clear hv
    go_enter Tryz.func71, Tryz.ntmps71
    go_wp2_with fail
    refine (spec_l14Ok L _ _ B _ (hs'.out.below ((show Below w.heap.size w _ by go_grown).mono hB)) (by simp; omega) hok'.out hl).mono ?_
    rintro e w1 ⟨rfl, hb1⟩
    have hB1 := bnext (show Below w.heap.size w ((w.alloc (.cells #[.string d.f0, .int .i64 d.f1, .int .i64 d.f2, .int .i64 d.f3] 36))) by go_grown) hb1
    have hD := hz.out.on hb1
    obtain ⟨hzl, z0, z1, z2, z3⟩ := hD
    clear hb1
    go_wp2_with fail
    refine (spec_l14One d.f0 hds d.f1 d.f2 d.f3 w.heap.size 0 _ ⟨hzl, z0, z1, z2, z3⟩).mono ?_
    rintro e w2 ⟨rfl, hb2⟩
    have hB2 := bnext hB1 hb2
    go_wp2
    go_ret2
    exact AddPostC.nil H.out hB2
theorem spec_Add_bad (L : List RDanger) (A : Option Addr) (c B : Nat) (d : RDanger) (w : World) (hs : Sl w B A (flat RDanger.cells L)) (hB : B ≤ w.heap.size) (hok : ∀ a ∈ L, a.ok) (hl : L.length ≤ 1048576) (hds : d.f0.size ≤ maxLen) (hv : (vDangsM L && d.v) = false) :
    Calls Tryz.prog 71 #[.slice A L.length c, .agg #[.string d.f0, .int .i64 d.f1, .int .i64 d.f2, .int .i64 d.f3]] w (AddPost L d w) := (spec_Add_badC L A c B d w hs hB hok hl hds hv).mono fun e w' h => AddPost.of h
end Go.Proofs.YthjkkidcpidgdaaGreatDoor

/-
  Contracts of a danger added to a list, second part: the library's Insert at dangers, the program's and the reference's adding. Each under the conditions that it states.
-/
set_option linter.unusedVariables false
set_option linter.unnecessarySimpa false
set_option maxRecDepth 100000
set_option linter.unusedSimpArgs false
namespace Go.Proofs.YthjkkidcpidgdaaGreatDoor
open Go.RowKit BigFrame Go.Deep

theorem owns_of_own {w : World} {n sz g : Nat} {e : TypeId} {xs : List Value} (h : Own w g e (n * sz) xs) (hx : xs.length = n * sz) (hn : n ≤ maxLen) : w.ownsRow g e sz (.slice (some ⟨g, 0, none⟩) n n) n xs := by
  obtain ⟨cur, hh, hs, hl, hc⟩ := h
  refine ⟨hx, .inr ⟨g, n, cur, rfl, Nat.le_refl _, hh, Nat.le_refl _, hn, hs, ?_⟩⟩
  apply List.ext_getElem?
  intro k
  rw [List.getElem?_take]
  split
  · rename_i hk
    rw [List.getElem?_eq_getElem (show k < xs.length by omega)]
    have := hc k _ (List.getElem?_eq_getElem (show k < xs.length by omega))
    simpa using this
  · rw [List.getElem?_eq_none (by omega)]
theorem ins_len (L : List RDanger) (i : Nat) (d : RDanger) (hi : i ≤ L.length) : (L.take i ++ d :: L.drop i).length = L.length + 1 := by
  rw [List.length_append, List.length_take, List.length_cons, List.length_drop]; omega
theorem new_cells (w : World) (cs : List Value) (t : TypeId) : ∀ j u, cs[j]? = some u → (w.alloc (.cells cs.toArray t)).cell? ((⟨w.heap.size, 0, none⟩ : Addr).add j) = some u :=
  Sl.cells (Sl.new w cs.toArray t)
theorem Own.whole (w : World) (cur : Array Value) (t : TypeId) : Own (w.alloc (.cells cur t)) w.heap.size t cur.size cur.toList :=
  ⟨cur, heap_alloc_new w _, rfl, by simp, fun j u hu => by simpa using hu⟩

theorem beq_bytes {a b : ByteArray} (h : a = b) : (a.toList == b.toList) = true := by rw [h]; exact beq_self_eq_true _
theorem Dz.drew {w : World} {g : Nat} {d : RDanger} (h : Dz w g d) : Dz w.drew g d := h
theorem Dz.al {w : World} {g : Nat} {d : RDanger} (h : Dz w g d) (o : Obj) : Dz (w.alloc o) g d := h.on ((Below.refl _ _).alloc (Nat.le_refl _) _)
theorem add_flat (L : List RDanger) (d : RDanger) (k : Nat) : flat RDanger.cells (L.take k ++ d :: L.drop k) = [] ++ flat RDanger.cells (L.take k) ++ [.string d.f0, .int .i64 d.f1, .int .i64 d.f2, .int .i64 d.f3] ++ flat RDanger.cells (L.drop k) := by
  rw [flat_append, flat_cons, List.nil_append, List.append_assoc]; rfl
set_option maxHeartbeats 3200000 in
theorem spec_Add_goc (L : List RDanger) (g B c : Nat) (hcap : L.length ≤ c) (d : RDanger) (w : World) (hs : Sl w B (some ⟨g, 0, none⟩) (flat RDanger.cells L)) (hgB : g < B) (hB : B ≤ w.heap.size) (hok : ∀ a ∈ L, a.ok) (hl : L.length ≤ 1048576) (hds : d.f0.size ≤ maxLen) (hv : vDangsM L = true) (hd : d.v = true) :
    Calls Tryz.prog 71 #[.slice (some ⟨g, 0, none⟩) L.length c, .agg #[.string d.f0, .int .i64 d.f1, .int .i64 d.f2, .int .i64 d.f3]] w (AddPostC L d w) := by
  obtain ⟨i0, hi, ie0, ie1, ie2⟩ := info_parts infoDang
  have hs' := Lib.hid hs
  have hok' := Lib.hid hok
  have hv' := Lib.hid hv
  have hd' := Lib.hid hd
  have hz : Hid (Dz ((w.alloc (.cells #[.string d.f0, .int .i64 d.f1, .int .i64 d.f2, .int .i64 d.f3] 36))) w.heap.size d) := Lib.hid ⟨by simp, by simp [go_sem], by simp [go_sem], by simp [go_sem], by simp [go_sem]⟩
  have hd2 : vDanger d.f0 d.f1 d.f2 d.f3 = true := hd
  clear hs hok hd
  go_enter Tryz.func71, Tryz.ntmps71
  go_wp2_with fail
  refine (spec_l14Ok L _ _ B _ (hs'.out.below ((show Below w.heap.size w _ by go_grown).mono hB)) (by simp; omega) hok'.out hl).mono ?_
  rintro e w1 ⟨rfl, hb1⟩
  rw [hv]
  have hB1 := bnext (show Below w.heap.size w ((w.alloc (.cells #[.string d.f0, .int .i64 d.f1, .int .i64 d.f2, .int .i64 d.f3] 36))) by go_grown) hb1
  have hD := hz.out.on hb1
  obtain ⟨hzl, z0, z1, z2, z3⟩ := id hD
  clear hb1 hv hz
  go_wp2_with fail
  refine (spec_l14One d.f0 hds d.f1 d.f2 d.f3 w.heap.size 0 _ ⟨hzl, z0, z1, z2, z3⟩).mono ?_
  rintro e w2 ⟨rfl, hb2⟩
  rw [hd2]
  have hB2 := bnext hB1 hb2
  have hD2 := hD.on hb2
  clear hb2 hB1 hD z0 z1 z2 z3 hzl hd2
  go_wp2_with fail
  go_loopw [6] (fun i wr => ∃ k : Nat, i = .int .i64 k ∧ k ≤ L.length ∧ k ≤ addAt d.f0 L ∧ Below w.heap.size w wr ∧ Dz wr w.heap.size d) (fun i _ => L.length - (intOf i).toNat)
  case atStart => exact ⟨0, rfl, Nat.zero_le _, Nat.zero_le _, hB2, hD2⟩
  case round =>
    clear hB2 hD2
    obtain ⟨k, rfl, hk, hka, hBr, hDr⟩ := hrel
    by_cases hlt : k < L.length
    · obtain ⟨b, o, e2, hb, he⟩ := Sl.elem RDanger.len (by decide) (hs'.out.below (hBr.mono hB)) hlt
      cases e2
      have hst := Lib.hid (fun h => addAt_step (s := d.f0) hlt rfl hka h)
      have hat := Lib.hid (fun h => addAt_at (s := d.f0) hlt rfl hka h)
      have his := Lib.hid (fun h1 h2 => addC_is (d := d) hv'.out hd'.out hlt rfl h1 h2)
      have hne0 := Lib.hid (fun (h : ¬ (L[k]).f0 = d.f0) => fun (hk : k < L.length) => h)
      obtain ⟨a, ha⟩ : ∃ a, L[k] = a := ⟨_, rfl⟩
      rw [ha] at he hst hat his
      rw [ha] at hne0
      have d0 : wr.cell? ⟨g, k * 4, none⟩ = some (.string a.f0) := by have := he 0 _ rfl; simpa [Nat.add_assoc] using this
      have hbw : g < wr.heap.size := by have := hBr.size; omega
      have hki : (k : Int) < (L.length : Int) := by omega
      obtain ⟨hzl, z0, z1, z2, z3⟩ := id hDr
      clear he
      cases h1 : ltS a.f0 d.f0
      · have hi1 := Lib.hid (hat.out h1)
        have h1' := ltS_no h1
        by_cases he : a.f0 = d.f0
        · have H := Lib.hid (his.out hi1.out he)
          have hq := beq_bytes he
          clear hst hat his he h1 hne0 ha
          go_wp2_with fail
          refine wp_region_grew (by kernel_rfl) (by kernel_rfl) ?_
          repeat (first | (go_big_quiet_step (fail)) | (quiet_step (fail)))
          refine wpQuiet_nil ?_
          rintro w8 ⟨⟨w8, hb8⟩, rfl⟩
          try dsimp only
          obtain ⟨hc8, hf8⟩ := bcell hb8
          have hD8 := hDr.on hb8
          obtain ⟨yzl, y0, y1, y2, y3⟩ := id hD8
          have d8 := (hc8 _ (k * 4) hbw).trans d0
          have hbw8 : g < w8.heap.size := Nat.lt_of_lt_of_le hbw hb8.size
          have hB8 := bnext hBr hb8
          clear hc8 hf8
          go_wp2_with fail
          refine wp_region_grew (by kernel_rfl) (by kernel_rfl) ?_
          repeat (first | (go_big_quiet_step (fail)) | (quiet_step (fail)))
          refine wpQuiet_nil ?_
          rintro _ ⟨⟨w9, hb9⟩, rfl⟩
          try dsimp only
          obtain ⟨hc9, hf9⟩ := bcell hb9
          go_wp2
          go_ret2
          exact AddPostC.nil H.out (bnext hB8 hb9)
        · have hno : ∀ hk : k < L.length, ¬ L[k].f0 = d.f0 := fun hk => by rw [ha]; exact he
          have hfull := Lib.hid (fun h => addC_full hv'.out hd'.out hi1.out hno h)
          have hgo := Lib.hid (fun h => addC_ok hv'.out hd'.out hi1.out hno h)
          have hq := bytes_ne he
          clear hst hat his he h1 hno hne0 ha
          go_wp2_with fail
          refine wp_region_grew (by kernel_rfl) (by kernel_rfl) ?_
          repeat (first | (go_big_quiet_step (fail)) | (quiet_step (fail)))
          refine wpQuiet_nil ?_
          rintro w8 ⟨⟨w8, hb8⟩, rfl⟩
          try dsimp only
          obtain ⟨hc8, hf8⟩ := bcell hb8
          have hD8 := hDr.on hb8
          obtain ⟨yzl, y0, y1, y2, y3⟩ := id hD8
          have d8 := (hc8 _ (k * 4) hbw).trans d0
          have hbw8 : g < w8.heap.size := Nat.lt_of_lt_of_le hbw hb8.size
          have hB8 := bnext hBr hb8
          clear hc8 hf8
          go_wp2_with fail
          refine wp_region_grew (by kernel_rfl) (by kernel_rfl) ?_
          repeat (first | (go_big_quiet_step (fail)) | (quiet_step (fail)))
          refine wpQuiet_nil ?_
          rintro w9 ⟨⟨w8, hb9⟩, rfl⟩
          try dsimp only
          obtain ⟨hc9, hf9⟩ := bcell hb9
          have hB9 := bnext hB8 hb9
          have hD9 := hD8.on hb9
          clear hc9 hf9 hb9 hb8 hD8 hDr hBr y0 y1 y2 y3 d8 d0 z0 z1 z2 z3 hzl yzl hq h1'
          by_cases h24 : L.length = 24
          · have H := Lib.hid (hfull.out h24)
            go_wp2
            go_ret2
            exact AddPostC.nil H.out hB9
          have H' := Lib.hid (hgo.out h24)
          have h24' : ((L.length : Int) == 24) = false := beq_eq_false_iff_ne.2 (by omega)
          clear hfull hgo
          have hz9 := hB9.size
          have hO0 : (w9.alloc (.cells #[] 36)).ownsRow w.heap.size 36 4 (.slice (some ⟨w9.heap.size, 0, none⟩) 0 0) 0 [] := World.ownsRow_made w9 #[] 0 hz9 (Nat.zero_le _) rfl
          have hBa0 : Below w.heap.size w (w9.alloc (.cells #[] 36)) := hB9.alloc hz9 _
          have hc0 := Lib.hid (Sl.cells (hs'.out.below (hBa0.mono hB)))
          have hl0 : (flat RDanger.cells (L.take k)).length = k * 4 := by rw [flat_len RDanger.len, List.length_take, Nat.min_eq_left (by omega)]
          have hone := Lib.hid (flat_one RDanger.one (L.take k))
          have hone2 := Lib.hid (flat_one RDanger.one (L.drop k))
          have hkI : ((k : Nat) : Int) ≤ (L.length : Int) := by omega
          have hkC : ((k : Nat) : Int) ≤ (c : Int) := by omega
          have hlC : (L.length : Int) ≤ (c : Int) := by omega
          have hff := Lib.hid (add_flat L d k)
          have hln := Lib.hid (ins_len L k d (by omega))
          have hfd : (flat RDanger.cells (L.drop k)).length = (L.length - k) * 4 := by rw [flat_len RDanger.len, List.length_drop]
          have hfl' := Lib.hid (fun j u (hj : (flat RDanger.cells (L.take k))[j]? = some u) => hc0.out j u (flat_take RDanger.len L k hj))
          have hdr' := Lib.hid (fun j u (hj : (flat RDanger.cells (L.drop k))[j]? = some u) => flat_drop RDanger.len L (show k ≤ L.length by omega) hj)
          obtain ⟨Xt, hXt⟩ : ∃ X, flat RDanger.cells (L.take k) = X := ⟨_, rfl⟩
          obtain ⟨Xd, hXd⟩ : ∃ X, flat RDanger.cells (L.drop k) = X := ⟨_, rfl⟩
          rw [hXt] at hl0 hone hff hfl'
          rw [hXd] at hone2 hff hfd hdr'
          clear hc0 hXt hXd
          go_wp2_with (at_builtin; refine wpList_append_own _ rfl _ _ 24 rfl w.heap.size 36 i0 (.agg #[.string ⟨#[]⟩, .int .i64 0, .int .i64 0, .int .i64 0]) 4 40 Tryz.underlying24 hi ie0 ie1 ie2 rfl (by decide) _ _ _ rfl hO0 ⟨g, 0, none⟩ k c Xt rfl hl0 hfl'.out hone.out ?c3 ?c4 ?c5 ?_)
          case c3 => unfold maxLen; omega
          case c4 => omega
          case c5 => simp; omega
          intro v1 wa hown1 hg1 _
          have hBa := hBa0.grown hg1 hBa0.size (fun q e => (hO0.lt q e).1)
          have hDa := (hD9.al (.cells #[] 36)).far hg1 (fun q e => by have e' : w9.heap.size = q := Option.some.inj e; have := hD9.1; omega)
          obtain ⟨hzl, z0, z1, z2, z3⟩ := id hDa
          have hza := hBa.size
          clear hO0 hg1 hBa0 hfl' hD9 hB9
          go_wp2_with (at_builtin; refine wpList_append_own _ rfl _ _ 24 rfl w.heap.size 36 i0 (.agg #[.string ⟨#[]⟩, .int .i64 0, .int .i64 0, .int .i64 0]) 4 40 Tryz.underlying24 hi ie0 ie1 ie2 rfl (by decide) _ _ _ rfl (hown1.alloc _) ⟨wa.heap.size, 0, none⟩ 1 1 [.string d.f0, .int .i64 d.f1, .int .i64 d.f2, .int .i64 d.f3] rfl rfl (new_cells wa [.string d.f0, .int .i64 d.f1, .int .i64 d.f2, .int .i64 d.f3] 36) ?c2 ?c3 ?c4 ?c5 ?_)
          case c2 => intro u hu; simp at hu; rcases hu with rfl | rfl | rfl | rfl <;> rfl
          case c3 => unfold maxLen; omega
          case c4 => omega
          case c5 => simp; omega
          intro v2 wb hown2 hg2 _
          have hBb := (show Below w.heap.size w (wa.alloc (.cells #[.string d.f0, .int .i64 d.f1, .int .i64 d.f2, .int .i64 d.f3] 36)) from hBa.alloc hza _).grown hg2 (by simp; omega) (fun q e => (hown1.lt q e).1)
          have hcb := Lib.hid (Sl.cells (hs'.out.below (hBb.mono hB)))
          have hzb := hBb.size
          clear hown1 hg2 hBa hDa z0 z1 z2 z3 hzl
          have hcl : ¬ (c = k) := by omega
          go_wp2_with (at_builtin; refine wpList_append_own _ rfl _ _ 24 rfl w.heap.size 36 i0 (.agg #[.string ⟨#[]⟩, .int .i64 0, .int .i64 0, .int .i64 0]) 4 40 Tryz.underlying24 hi ie0 ie1 ie2 rfl (by decide) _ _ _ rfl hown2 ⟨g, k * 4, none⟩ (L.length - k) (c - k) Xd rfl hfd ?c1 hone2.out ?c3 ?c4 ?c5 ?_)
          case c1 => (intro j u hj; rw [Addr.add_lit]; have := hcb.out _ _ (hdr'.out j u hj); rw [Addr.add_lit, Nat.zero_add] at this; exact this)
          case c3 => unfold maxLen; omega
          case c4 => omega
          case c5 => omega
          intro v3 wc hown3 hg3 _
          have hBc := hBb.grown hg3 hzb (fun q e => (hown2.lt q e).1)
          have hown4 : wc.ownsRow w.heap.size 36 4 v3 (L.take k ++ d :: L.drop k).length (flat RDanger.cells (L.take k ++ d :: L.drop k)) := by
            rw [hff.out, hln.out]
            have e : k + 1 + (L.length - k) = L.length + 1 := by omega
            first | (rw [← e]; simpa using hown3) | (rw [hnil]; simpa [hnil] using hown3)
          clear hown2 hown3 hg3
          go_wp2
          go_ret2
          exact ⟨_, by rw [H'.out.1] <;> rfl, hBc, by rw [H'.out.2]; exact hown4⟩
      · have hi1 := Lib.hid (hst.out h1)
        have h1' := ltS_yes h1
        clear hst hat his h1 hne0 ha
        go_wp2_with fail
        refine wp_region_grew (by kernel_rfl) (by kernel_rfl) ?_
        repeat (first | (go_big_quiet_step (fail)) | (quiet_step (fail)))
        refine wpQuiet_nil ?_
        rintro _ ⟨⟨w9, hb9⟩, rfl⟩
        try dsimp only
        obtain ⟨hc9, hf9⟩ := bcell hb9
        go_wp2
        go_roundw
        case rel => exact ⟨k + 1, by go_num, by omega, hi1.out, bnext hBr hb9, hDr.on hb9⟩
        case measure => simp [intOf]; omega
    · obtain rfl : k = L.length := by omega
      have hi1 : addAt d.f0 L = L.length := by have := addAt_le d.f0 L; omega
      have hno : ∀ hk : L.length < L.length, ¬ L[L.length].f0 = d.f0 := fun hk => by omega
      have hfull := Lib.hid (fun h => addC_full hv'.out hd'.out hi1 hno h)
      have hgo := Lib.hid (fun h => addC_ok hv'.out hd'.out hi1 hno h)
      have hki : ¬ (L.length : Int) < (L.length : Int) := by omega
      clear hno
      go_wp2_with fail
      refine wp_region_grew (by kernel_rfl) (by kernel_rfl) ?_
      repeat (first | (go_big_quiet_step (fail)) | (quiet_step (fail)))
      refine wpQuiet_nil ?_
      rintro w8 ⟨⟨w8, hb8⟩, rfl⟩
      try dsimp only
      obtain ⟨hc8, hf8⟩ := bcell hb8
      have hD8 := hDr.on hb8
      have hB8 := bnext hBr hb8
      clear hc8 hf8
      go_wp2_with fail
      refine wp_region_grew (by kernel_rfl) (by kernel_rfl) ?_
      repeat (first | (go_big_quiet_step (fail)) | (quiet_step (fail)))
      refine wpQuiet_nil ?_
      rintro w9 ⟨⟨w8, hb9⟩, rfl⟩
      try dsimp only
      obtain ⟨hc9, hf9⟩ := bcell hb9
      have hB9 := bnext hB8 hb9
      have hD9 := hD8.on hb9
      clear hc9 hf9 hb9 hb8 hD8 hDr hBr
      by_cases h24 : L.length = 24
      · have H := Lib.hid (hfull.out h24)
        go_wp2
        go_ret2
        exact AddPostC.nil H.out hB9
      have H' := Lib.hid (hgo.out h24)
      have h24' : ((L.length : Int) == 24) = false := beq_eq_false_iff_ne.2 (by omega)
      clear hfull hgo
      have hz9 := hB9.size
      have hO0 : (w9.alloc (.cells #[] 36)).ownsRow w.heap.size 36 4 (.slice (some ⟨w9.heap.size, 0, none⟩) 0 0) 0 [] := World.ownsRow_made w9 #[] 0 hz9 (Nat.zero_le _) rfl
      have hBa0 : Below w.heap.size w (w9.alloc (.cells #[] 36)) := hB9.alloc hz9 _
      have hc0 := Lib.hid (Sl.cells (hs'.out.below (hBa0.mono hB)))
      have hl0 : (flat RDanger.cells (L.take L.length)).length = L.length * 4 := by rw [flat_len RDanger.len, List.length_take, Nat.min_eq_left (by omega)]
      have hone := Lib.hid (flat_one RDanger.one (L.take L.length))
      have hone2 := Lib.hid (flat_one RDanger.one (L.drop L.length))
      have hkI : ((L.length : Nat) : Int) ≤ (L.length : Int) := by omega
      have hkC : ((L.length : Nat) : Int) ≤ (c : Int) := by omega
      have hlC : (L.length : Int) ≤ (c : Int) := by omega
      have hff := Lib.hid (add_flat L d L.length)
      have hln := Lib.hid (ins_len L L.length d (by omega))
      have hfd : (flat RDanger.cells (L.drop L.length)).length = (L.length - L.length) * 4 := by rw [flat_len RDanger.len, List.length_drop]
      have hfl' := Lib.hid (fun j u (hj : (flat RDanger.cells (L.take L.length))[j]? = some u) => hc0.out j u (flat_take RDanger.len L L.length hj))
      have hdr' := Lib.hid (fun j u (hj : (flat RDanger.cells (L.drop L.length))[j]? = some u) => flat_drop RDanger.len L (show L.length ≤ L.length by omega) hj)
      obtain ⟨Xt, hXt⟩ : ∃ X, flat RDanger.cells (L.take L.length) = X := ⟨_, rfl⟩
      obtain ⟨Xd, hXd⟩ : ∃ X, flat RDanger.cells (L.drop L.length) = X := ⟨_, rfl⟩
      rw [hXt] at hl0 hone hff hfl'
      rw [hXd] at hone2 hff hfd hdr'
      clear hc0 hXt hXd
      go_wp2_with (at_builtin; refine wpList_append_own _ rfl _ _ 24 rfl w.heap.size 36 i0 (.agg #[.string ⟨#[]⟩, .int .i64 0, .int .i64 0, .int .i64 0]) 4 40 Tryz.underlying24 hi ie0 ie1 ie2 rfl (by decide) _ _ _ rfl hO0 ⟨g, 0, none⟩ L.length c Xt rfl hl0 hfl'.out hone.out ?c3 ?c4 ?c5 ?_)
      case c3 => unfold maxLen; omega
      case c4 => omega
      case c5 => simp; omega
      intro v1 wa hown1 hg1 _
      have hBa := hBa0.grown hg1 hBa0.size (fun q e => (hO0.lt q e).1)
      have hDa := (hD9.al (.cells #[] 36)).far hg1 (fun q e => by have e' : w9.heap.size = q := Option.some.inj e; have := hD9.1; omega)
      obtain ⟨hzl, z0, z1, z2, z3⟩ := id hDa
      have hza := hBa.size
      clear hO0 hg1 hBa0 hfl' hD9 hB9
      go_wp2_with (at_builtin; refine wpList_append_own _ rfl _ _ 24 rfl w.heap.size 36 i0 (.agg #[.string ⟨#[]⟩, .int .i64 0, .int .i64 0, .int .i64 0]) 4 40 Tryz.underlying24 hi ie0 ie1 ie2 rfl (by decide) _ _ _ rfl (hown1.alloc _) ⟨wa.heap.size, 0, none⟩ 1 1 [.string d.f0, .int .i64 d.f1, .int .i64 d.f2, .int .i64 d.f3] rfl rfl (new_cells wa [.string d.f0, .int .i64 d.f1, .int .i64 d.f2, .int .i64 d.f3] 36) ?c2 ?c3 ?c4 ?c5 ?_)
      case c2 => intro u hu; simp at hu; rcases hu with rfl | rfl | rfl | rfl <;> rfl
      case c3 => unfold maxLen; omega
      case c4 => omega
      case c5 => simp; omega
      intro v2 wb hown2 hg2 _
      have hBb := (show Below w.heap.size w (wa.alloc (.cells #[.string d.f0, .int .i64 d.f1, .int .i64 d.f2, .int .i64 d.f3] 36)) from hBa.alloc hza _).grown hg2 (by simp; omega) (fun q e => (hown1.lt q e).1)
      have hcb := Lib.hid (Sl.cells (hs'.out.below (hBb.mono hB)))
      have hzb := hBb.size
      clear hown1 hg2 hBa hDa z0 z1 z2 z3 hzl
      have hnil : Xd = [] := List.eq_nil_of_length_eq_zero (by rw [hfd]; omega)
      by_cases hcl : c = L.length
      · subst hcl
        go_wp2_with (at_builtin; refine wpList_append_own _ rfl _ _ 24 rfl w.heap.size 36 i0 (.agg #[.string ⟨#[]⟩, .int .i64 0, .int .i64 0, .int .i64 0]) 4 40 Tryz.underlying24 hi ie0 ie1 ie2 rfl (by decide) _ _ _ rfl hown2 ⟨g, 0, none⟩ (L.length - L.length) (L.length - L.length) Xd (by simp [Act.eval, Act.put]) hfd ?c1 hone2.out ?c3 ?c4 ?c5 ?_)
        case c1 => (intro j u hj; rw [hnil] at hj; simp at hj)
        case c3 => unfold maxLen; omega
        case c4 => omega
        case c5 => omega
        intro v3 wc hown3 hg3 _
        have hBc := hBb.grown hg3 hzb (fun q e => (hown2.lt q e).1)
        have hown4 : wc.ownsRow w.heap.size 36 4 v3 (L.take L.length ++ d :: L.drop L.length).length (flat RDanger.cells (L.take L.length ++ d :: L.drop L.length)) := by
          rw [hff.out, hln.out]
          have e : L.length + 1 + (L.length - L.length) = L.length + 1 := by omega
          first | (rw [← e]; simpa using hown3) | (rw [hnil]; simpa [hnil] using hown3)
        clear hown2 hown3 hg3
        go_wp2
        go_ret2
        exact ⟨_, by rw [H'.out.1] <;> rfl, hBc, by rw [H'.out.2]; exact hown4⟩
      · go_wp2_with (at_builtin; refine wpList_append_own _ rfl _ _ 24 rfl w.heap.size 36 i0 (.agg #[.string ⟨#[]⟩, .int .i64 0, .int .i64 0, .int .i64 0]) 4 40 Tryz.underlying24 hi ie0 ie1 ie2 rfl (by decide) _ _ _ rfl hown2 ⟨g, L.length * 4, none⟩ (L.length - L.length) (c - L.length) Xd (by simp [Act.eval, Act.put]) hfd ?c1 hone2.out ?c3 ?c4 ?c5 ?_)
        case c1 => (intro j u hj; rw [hnil] at hj; simp at hj)
        case c3 => unfold maxLen; omega
        case c4 => omega
        case c5 => omega
        intro v3 wc hown3 hg3 _
        have hBc := hBb.grown hg3 hzb (fun q e => (hown2.lt q e).1)
        have hown4 : wc.ownsRow w.heap.size 36 4 v3 (L.take L.length ++ d :: L.drop L.length).length (flat RDanger.cells (L.take L.length ++ d :: L.drop L.length)) := by
          rw [hff.out, hln.out]
          have e : L.length + 1 + (L.length - L.length) = L.length + 1 := by omega
          first | (rw [← e]; simpa using hown3) | (rw [hnil]; simpa [hnil] using hown3)
        clear hown2 hown3 hg3
        go_wp2
        go_ret2
        exact ⟨_, by rw [H'.out.1] <;> rfl, hBc, by rw [H'.out.2]; exact hown4⟩
theorem spec_Add_go (L : List RDanger) (g B : Nat) (d : RDanger) (w : World) (hs : Sl w B (some ⟨g, 0, none⟩) (flat RDanger.cells L)) (hgB : g < B) (hB : B ≤ w.heap.size) (hok : ∀ a ∈ L, a.ok) (hl : L.length ≤ 1048576) (hds : d.f0.size ≤ maxLen) (hv : vDangsM L = true) (hd : d.v = true) :
    Calls Tryz.prog 71 #[.slice (some ⟨g, 0, none⟩) L.length L.length, .agg #[.string d.f0, .int .i64 d.f1, .int .i64 d.f2, .int .i64 d.f3]] w (AddPost L d w) := (spec_Add_goc L g B L.length (Nat.le_refl _) d w hs hgB hB hok hl hds hv hd).mono fun e w' h => AddPost.of h
theorem spec_Addc (L : List RDanger) (g B c : Nat) (hcap : L.length ≤ c) (d : RDanger) (w : World) (hs : Sl w B (some ⟨g, 0, none⟩) (flat RDanger.cells L)) (hgB : g < B) (hB : B ≤ w.heap.size) (hok : ∀ a ∈ L, a.ok) (hl : L.length ≤ 1048576) (hds : d.f0.size ≤ maxLen) :
    Calls Tryz.prog 71 #[.slice (some ⟨g, 0, none⟩) L.length c, .agg #[.string d.f0, .int .i64 d.f1, .int .i64 d.f2, .int .i64 d.f3]] w (AddPostC L d w) := by
  cases hv : vDangsM L
  · exact spec_Add_badC L _ _ B d w hs hB hok hl hds (by rw [hv]; rfl)
  cases hd : d.v
  · exact spec_Add_badC L _ _ B d w hs hB hok hl hds (by rw [hd, Bool.and_false])
  exact spec_Add_goc L g B c hcap d w hs hgB hB hok hl hds hv hd
theorem spec_Add (L : List RDanger) (g B : Nat) (d : RDanger) (w : World) (hs : Sl w B (some ⟨g, 0, none⟩) (flat RDanger.cells L)) (hgB : g < B) (hB : B ≤ w.heap.size) (hok : ∀ a ∈ L, a.ok) (hl : L.length ≤ 1048576) (hds : d.f0.size ≤ maxLen) :
    Calls Tryz.prog 71 #[.slice (some ⟨g, 0, none⟩) L.length L.length, .agg #[.string d.f0, .int .i64 d.f1, .int .i64 d.f2, .int .i64 d.f3]] w (AddPost L d w) := by
  cases hv : vDangsM L
  · exact spec_Add_bad L _ _ B d w hs hB hok hl hds (by rw [hv]; rfl)
  cases hd : d.v
  · exact spec_Add_bad L _ _ B d w hs hB hok hl hds (by rw [hd, Bool.and_false])
  exact spec_Add_go L g B d w hs hgB hB hok hl hds hv hd
end Go.Proofs.YthjkkidcpidgdaaGreatDoor

/-
  Contracts of rows of dangers that are drawn. Each under the conditions that it states.
-/
set_option linter.unusedVariables false
set_option linter.unnecessarySimpa false
set_option maxRecDepth 100000
set_option linter.unusedSimpArgs false
namespace Go.Proofs.YthjkkidcpidgdaaGreatDoor
open Go.RowKit BigFrame

def gdL (D : List RDanger) : Prop := ∀ a ∈ D, gd a.f0 a.f1 a.f2 a.f3
theorem gd_q (qb : UInt8) : gd (⟨#[113]⟩ ++ ⟨#[qb]⟩) 0 0 9 := ⟨by show 2 ≤ 8; omega, ⟨by omega, by omega⟩, ⟨by omega, by omega⟩, by omega⟩
theorem gdL.ok {D : List RDanger} (h : gdL D) : ∀ a ∈ D, a.ok := fun a ha => by
  obtain ⟨h1, h2, h3, h4⟩ := h a ha
  unfold c1B at h2 h3
  have hh : ∀ v : Int, -1 ≤ v ∧ v ≤ 200001 → IntKind.i64.has v := fun v hv => by
    have e1 : IntKind.i64.min = -9223372036854775808 := rfl
    have e2 : IntKind.i64.max = 9223372036854775807 := rfl
    unfold IntKind.has
    rw [e1, e2]
    omega
  exact ⟨by unfold maxLen; omega, hh _ (by omega), hh _ (by omega), hh _ (by omega)⟩
theorem gdL.add {D : List RDanger} {d : RDanger} (h : gdL D) (hd : gd d.f0 d.f1 d.f2 d.f3) : gdL (addL D d) := fun a ha => by
  unfold addL at ha
  split at ha
  · rcases List.mem_append.1 ha with h1 | h1
    · exact h a (List.mem_of_mem_take h1)
    · rcases List.mem_cons.1 h1 with rfl | h1
      · exact hd
      · exact h a (List.mem_of_mem_drop h1)
  · cases ha
theorem gdL.put {D : List RDanger} {d : RDanger} (h : gdL D) (hd : gd d.f0 d.f1 d.f2 d.f3) (k : Nat) : gdL (D.take k ++ [d] ++ D.drop (k + 1)) := fun a ha => by
  rcases List.mem_append.1 ha with h1 | h1
  · rcases List.mem_append.1 h1 with h1 | h1
    · exact h a (List.mem_of_mem_take h1)
    · cases List.mem_singleton.1 h1; exact hd
  · exact h a (List.mem_of_mem_drop h1)
theorem addL_pos {D : List RDanger} {d : RDanger} (h : addC D d = 0) : (addL D d).length = D.length + 1 := by
  have ha := addAt_le d.f0 D
  unfold addL
  rw [if_pos h, List.length_append, List.length_take, List.length_cons, List.length_drop]
  omega
theorem flat_putD {M : List RDanger} {i : Nat} (hi : i < M.length) (b : RDanger) : (flat RDanger.cells M).take (i * 4) ++ RDanger.cells b ++ (flat RDanger.cells M).drop (i * 4 + (RDanger.cells b).length) = flat RDanger.cells (M.take i ++ [b] ++ M.drop (i + 1)) := by
  rw [flat_append, flat_append, flat_tk RDanger.len M (by omega), RDanger.len, show i * 4 + 4 = (i + 1) * 4 by omega, flat_dr RDanger.len M (by omega)]
  rfl
theorem put_len {M : List RDanger} {i : Nat} (hi : i < M.length) (b : RDanger) : (M.take i ++ [b] ++ M.drop (i + 1)).length = M.length := by
  rw [List.length_append, List.length_append, List.length_take, List.length_drop]; simp; omega
theorem conv_byte (w : World) (x : Int) : (convert 22 9 (.slice (some ⟨w.heap.size, 0, none⟩) 1 1)).run Tryz.prog (w.alloc (.cells #[.int .u8 x] 5)) = .ok (.string ⟨#[UInt8.ofNat x.toNat]⟩) (w.alloc (.cells #[.int .u8 x] 5)) := by
  rw [run_convert_bytes_string _ _ _ 5 _ _ _ Tryz.underlying22 Tryz.underlying5 Tryz.underlying9]
  rw [run_bytesToString _ _ _ _ [x] (by simp [go_sem])]
  rfl
theorem owns_less {w : World} {B B' : Nat} {e : TypeId} {sz : Nat} {v : Value} {n : Nat} {xs : List Value} (h : w.ownsRow B e sz v n xs) (hB : B' ≤ B) : w.ownsRow B' e sz v n xs := by
  obtain ⟨hl, h | ⟨g, cap, cur, e, hb, r⟩⟩ := h
  · exact ⟨hl, .inl h⟩
  · exact ⟨hl, .inr ⟨g, cap, cur, e, Nat.le_trans hB hb, r⟩⟩
set_option maxHeartbeats 6400000 in
theorem src_draw14 (B g K : Nat) (w : World) (hs : SrcAt w B g K) (hBw : B ≤ w.heap.size) (hK : K + 90 ≤ 1000000000) :
    Calls Tryz.prog 29 #[.pointer (some ⟨g, 0, none⟩)] w fun e w' => ∃ D : List RDanger, gdL D ∧ D.length ≤ 25 ∧ ∃ v : Value, e = .returned v ∧ w.grownBy w' (some g) ∧ SrcAt w' B g (K + 90) ∧ Rs w' w.heap.size 36 4 v D.length (flat RDanger.cells D) := by
  obtain ⟨i0, hi, ie0, ie1, ie2⟩ := info_parts infoDang
  have hgl := hs.2.1
  have hBg := hs.1
  have hal : Below w.heap.size w (w.alloc (.cells #[] 36)) := by go_grown
  have hO := (show (w.alloc (.cells #[] 36)).ownsRow w.heap.size 36 4 (.slice (some ⟨w.heap.size, 0, none⟩) 0 0) 0 [] from World.ownsRow_made w #[] 0 (Nat.le_refl _) (Nat.zero_le _) rfl)
  go_enter Tryz.func29, Tryz.ntmps29
  go_wp2_with fail
  refine (src_pick B g K 5 _ (by omega) (by omega) (hs.on hal) (by omega)).mono ?_
  rintro e w2 ⟨k0, hk0, rfl, hgn, hs2⟩
  have hG2 := grown_go (grown_none' hal (some g)) hgn
  have hO2 := owns_far hO hgn (fun k e => by have := Option.some.inj e; omega)
  clear hgn hal hO hs
  go_wp2_with fail
  go_loopw [3, 4, 5, 6] (fun lv kv _ _ wr => ∃ (n j : Nat) (m : Int) (D : List RDanger) (q c : Nat), lv = .slice (some ⟨q, 0, none⟩) n c ∧ n ≤ c ∧ kv = .int .i64 m ∧ 0 ≤ m ∧ D.length = n ∧ n ≤ j ∧ (j : Int) + m ≤ 4 ∧ gdL D ∧ w.grownBy wr (some g) ∧ SrcAt wr B g (K + 2 + 18 * j) ∧ wr.ownsRow w.heap.size 36 4 (.slice (some ⟨q, 0, none⟩) n c) n (flat RDanger.cells D)) (fun _ kv _ _ _ => (intOf kv).toNat)
  case atStart => exact ⟨0, 0, k0, [], _, 0, rfl, Nat.le_refl _, rfl, hk0.1, rfl, by omega, by omega, (fun a ha => by cases ha), hG2, hs2, hO2⟩
  case round =>
    clear hO2 hG2 hs2
    obtain ⟨n, j, m, D, q, c, rfl, hnc, rfl, hm, hDl, hnj, hjm, hgD, hGr, hS, hO⟩ := hrel
    have hSz := hGr.size
    by_cases hmp : 0 < m
    · go_wp2_with fail
      refine (src_dang B g (K + 2 + 18 * j) _ hS (by omega) (by omega)).mono ?_
      rintro e w4 ⟨s, x, y, r, hd, rfl, hgn, hs4⟩
      have hG4 := grown_go hGr hgn
      have hO4 := owns_far hO hgn (fun k e => by have := Option.some.inj e; omega)
      have hz4 := hgn.size
      have hq4 := hO4.lt q rfl
      obtain ⟨A', c', e', hsl⟩ := (Rs.of_owns hO4).sl
      injection e' with e1 e2 e3
      subst e1 e3
      clear hgn hGr hO hS e2
      subst hDl
      have HG := Lib.hid hgD
      have HD := Lib.hid hd
      have hds : s.size ≤ maxLen := by have := hd.1; unfold maxLen; omega
      clear hgD hd
      go_wp2_with fail
      refine (spec_Addc D q w4.heap.size c hnc ⟨s, x, y, r⟩ _ hsl hq4.2 (Nat.le_refl _) HG.out.ok (by omega) hds).mono ?_
      rintro e w5 ⟨v, rfl, hb5, hO5⟩
      have hG5 := grown_on hG4 hb5
      have hs5 := hs4.on hb5
      clear hsl hs4 hG4
      by_cases hC : addC D ⟨s, x, y, r⟩ = 0
      · have hln := addL_pos hC
        have hgA := HG.out.add (d := ⟨s, x, y, r⟩) HD.out
        rw [hC]
        clear hO4 hC hb5
        generalize addL D ⟨s, x, y, r⟩ = D5 at hO5 hln hgA
        obtain ⟨hl5, ⟨rfl, hn0⟩ | ⟨q5, c5, cur5, rfl, hq5, hh5, hn5, hr5⟩⟩ := id hO5
        · omega
        have HA := Lib.hid hgA
        have HL := Lib.hid hln
        have HO := Lib.hid (owns_less hO5 (show w.heap.size ≤ w4.heap.size by omega))
        clear hO5 hr5 hh5 hl5 hgA hln
        go_wp2_with fail
        go_roundw
        case rel => exact ⟨D5.length, j + 1, m - 1, D5, q5, c5, rfl, hn5, by go_num, by omega, rfl, by have := HL.out; omega, by omega, HA.out, hG5, hs5.le (by omega) (by omega), HO.out⟩
        case measure => simp [intOf]; omega
      · have hO6 := owns_onR hO4 hb5
        have hcc : (addC D ⟨s, x, y, r⟩ == 0) = false := beq_eq_false_iff_ne.2 hC
        clear hO5 hO4 hb5
        generalize addC D ⟨s, x, y, r⟩ = cc at hcc
        go_wp2_with fail
        go_roundw
        case rel => exact ⟨D.length, j + 1, m - 1, D, q, c, rfl, hnc, by go_num, by omega, rfl, by omega, by omega, HG.out, hG5, hs5.le (by omega) (by omega), hO6⟩
        case measure => simp [intOf]; omega
    · have hOw := own_of_owns hO
      have hq0 := hO.lt q rfl
      have hcells : (flat RDanger.cells D).length ≤ c * 4 := by rw [flat_len RDanger.len]; omega
      subst hDl
      clear hO
      rcases Nat.eq_zero_or_pos D.length with hn | hn
      · obtain ⟨Dx, qx, cx, Nx, hDx, hqx, hqg, hgx, hOx⟩ : ∃ (Dx : List RDanger) (qx cx Nx : Nat), (Dx = D ∧ qx = q ∧ cx = c) ∧ w.heap.size ≤ qx ∧ qx < wr.heap.size ∧ gdL Dx ∧ Own wr qx 36 Nx (flat RDanger.cells Dx) := ⟨D, q, c, c * 4, ⟨rfl, rfl, rfl⟩, hq0.1, hq0.2, hgD, hOw⟩
        obtain ⟨rfl, rfl, rfl⟩ := hDx
        have hSx : SrcAt wr B g (K + 82) := hS.le (by omega) (by omega)
        have hGx := hGr
        have hnn : ¬ (0 : Int) < (Dx.length : Int) := by omega
        clear hS hGr hOw hgD hn
        go_wp2_with fail
        refine (src_one B g (K + 82) 24 _ (by omega) (by omega) hSx (by omega)).mono ?_
        rintro e w11 ⟨bb, rfl, hgn, hs11⟩
        have hG11 := grown_go hGx hgn
        have hO11 := hOx.far hgn (by omega)
        have hz11 := hgn.size
        clear hgn hGx hOx hSx
        cases bb
        · go_wp2_with fail
          go_ret
          exact ⟨Dx, hgx, by omega, _, rfl, hG11, hs11.le (by omega) (by omega), ⟨by rw [flat_len RDanger.len], .inr ⟨qx, cx, Nx, rfl, hqx, hO11⟩⟩⟩
        · clear hO11 hgx
          have hal : Below w11.heap.size w11 (w11.alloc (.cells #[.int .i64 24, .int .i64 25] 2)) := by go_grown
          go_wp2_with fail
          refine (src_among B g (K + 82 + 2) w11.heap.size 0 2 [24, 25] _ (by simp) (by simp) (hs11.on hal) (by omega) (by simp) (by have := hs11.2.1; omega) (fun j u hu => by rw [Nat.zero_add, World.cell?_alloc_new]; simpa using hu)).mono ?_
          rintro e w12 ⟨z, hmem, rfl, hgn, hs12⟩
          have hG12 := grown_go (grown_on hG11 hal) hgn
          have hz12 := hG12.size
          have hz : 24 ≤ z ∧ z ≤ 25 := by simp at hmem; omega
          clear hgn hal hs11 hG11 hmem
          have hal : Below w12.heap.size w12 (w12.alloc (.cells #[] 36)) := by go_grown
          have hO12 := (show (w12.alloc (.cells #[] 36)).ownsRow w.heap.size 36 4 (.slice (some ⟨w12.heap.size, 0, none⟩) 0 0) 0 [] from World.ownsRow_made w12 #[] 0 hz12 (Nat.zero_le _) rfl)
          have hG13 := grown_on hG12 hal
          have hs13 := hs12.on hal
          clear hal hG12 hs12
          go_wp2_with fail
          go_loopw [3, 9] (fun lv kv wr => ∃ (n : Nat) (D : List RDanger) (A : Option Addr) (c : Nat), lv = .slice A n c ∧ kv = .int .i64 n ∧ (n : Int) ≤ z ∧ D.length = n ∧ gdL D ∧ w.grownBy wr (some g) ∧ SrcAt wr B g (K + 82 + 2 + 2) ∧ wr.ownsRow w.heap.size 36 4 (.slice A n c) n (flat RDanger.cells D)) (fun _ kv _ => 25 - (intOf kv).toNat)
          case atStart => exact ⟨0, [], _, 0, rfl, rfl, by omega, rfl, (fun a ha => by cases ha), hG13, hs13, hO12⟩
          case round =>
            clear hO12 hG13 hs13
            obtain ⟨n, D, A1, c1, rfl, rfl, hnz, hDl, hgD, hGr, hS, hO⟩ := hrel
            have hgD' := Lib.hid hgD
            clear hgD
            by_cases hlt : (n : Int) < z
            · have hcv := conv_byte wr (97 + (n : Int))
              obtain ⟨qb, hqb⟩ : ∃ qb, UInt8.ofNat (97 + (n : Int)).toNat = qb := ⟨_, rfl⟩
              rw [hqb] at hcv
              have hss : (⟨#[113]⟩ ++ ⟨#[qb]⟩ : ByteArray).size = 2 := rfl
              have hrz := hGr.size
              have hlg : n + 1 ≤ 1000 := by omega
              clear hqb
              go_wp2_with (at_builtin; refine wpList_append_own _ rfl _ _ 24 rfl w.heap.size 36 i0 (.agg #[.string ⟨#[]⟩, .int .i64 0, .int .i64 0, .int .i64 0]) 4 40 Tryz.underlying24 hi ie0 ie1 ie2 rfl (by decide) _ _ _ rfl ((hO.alloc (.cells #[.int .u8 (97 + (n : Int))] 5)).alloc (.cells #[.string (⟨#[113]⟩ ++ ⟨#[qb]⟩), .int .i64 0, .int .i64 0, .int .i64 9] 36)) ⟨wr.heap.size + 1, 0, none⟩ 1 1 [.string (⟨#[113]⟩ ++ ⟨#[qb]⟩), .int .i64 0, .int .i64 0, .int .i64 9] rfl rfl ?c1 ?c2 ?c3 ?c4 ?c5 ?_)
              case c1 => intro j u hj; have := new_cells (wr.alloc (.cells #[.int .u8 (97 + (n : Int))] 5)) [.string (⟨#[113]⟩ ++ ⟨#[qb]⟩), .int .i64 0, .int .i64 0, .int .i64 9] 36 j u hj; simpa using this
              case c2 => intro u hu; simp at hu; rcases hu with rfl | rfl | rfl | rfl <;> rfl
              case c3 => unfold maxLen; omega
              case c4 => omega
              case c5 => first | omega | (simp; omega)
              intro v' w5 hO5 hg5 _
              have hg5' : ((wr.alloc (.cells #[.int .u8 (97 + (n : Int))] 5)).alloc (.cells #[.string (⟨#[113]⟩ ++ ⟨#[qb]⟩), .int .i64 0, .int .i64 0, .int .i64 9] 36)).grownBy w5 (Value.slice A1 n c1).ownBlock := hg5
              have ha4 : Below wr.heap.size wr ((wr.alloc (.cells #[.int .u8 (97 + (n : Int))] 5)).alloc (.cells #[.string (⟨#[113]⟩ ++ ⟨#[qb]⟩), .int .i64 0, .int .i64 0, .int .i64 9] 36)) := by go_grown
              obtain ⟨A2, c2, rfl, _⟩ := (Rs.of_owns hO5).sl
              have hAq : ∀ k, (Value.slice A1 n c1).ownBlock = some k → w.heap.size ≤ k := fun k e => (hO.lt k e).1
              have hG5 := grown_row (grown_on hGr ha4) hg5' hAq
              have hS5 := (hS.on ha4).far (by simp; omega) hg5' (fun k e => ⟨by have := hAq k e; omega, by have := hAq k e; omega⟩)
              clear hg5 hg5' hAq hGr hS hO ha4 hcv
              go_wp2_with fail
              go_roundw
              case rel => exact ⟨n + 1, D ++ [⟨⟨#[113]⟩ ++ ⟨#[qb]⟩, 0, 0, 9⟩], A2, c2, by go_num, by go_num, by omega, by rw [List.length_append, hDl]; rfl, (fun a ha => by rcases List.mem_append.1 ha with h | h; exact hgD'.out a h; (have h := List.mem_singleton.1 h; subst h; exact gd_q qb)), hG5, hS5, by rw [flat_snoc]; exact hO5⟩
              case measure => simp [intOf]; omega
            · go_wp2_with fail
              go_ret
              exact ⟨D, hgD'.out, by omega, _, rfl, hGr, hS.le (by omega) (by omega), by rw [hDl]; exact Rs.of_owns hO⟩
      · have hnn : (0 : Int) < (D.length : Int) := by omega
        go_wp2_with fail
        refine (src_one B g (K + 2 + 18 * j) 8 _ (by omega) (by omega) hS (by omega)).mono ?_
        rintro e w6 ⟨b6, rfl, hgn, hs6⟩
        have hG6 := grown_go hGr hgn
        have hO6 := hOw.far hgn (by omega)
        have hz6 := hgn.size
        clear hgn hGr hOw hS
        cases b6
        · obtain ⟨Dx, qx, cx, Nx, hDx, hqx, hqg, hgx, hOx⟩ : ∃ (Dx : List RDanger) (qx cx Nx : Nat), (Dx = D ∧ qx = q ∧ cx = c) ∧ w.heap.size ≤ qx ∧ qx < w6.heap.size ∧ gdL Dx ∧ Own w6 qx 36 Nx (flat RDanger.cells Dx) := ⟨D, q, c, c * 4, ⟨rfl, rfl, rfl⟩, hq0.1, by omega, hgD, hO6⟩
          obtain ⟨rfl, rfl, rfl⟩ := hDx
          have hSx : SrcAt w6 B g (K + 82) := hs6.le (by omega) (by omega)
          have hGx := hG6
          clear hs6 hG6 hO6 hgD
          go_wp2_with fail
          refine (src_one B g (K + 82) 24 _ (by omega) (by omega) hSx (by omega)).mono ?_
          rintro e w11 ⟨bb, rfl, hgn, hs11⟩
          have hG11 := grown_go hGx hgn
          have hO11 := hOx.far hgn (by omega)
          have hz11 := hgn.size
          clear hgn hGx hOx hSx
          cases bb
          · go_wp2_with fail
            go_ret
            exact ⟨Dx, hgx, by omega, _, rfl, hG11, hs11.le (by omega) (by omega), ⟨by rw [flat_len RDanger.len], .inr ⟨qx, cx, Nx, rfl, hqx, hO11⟩⟩⟩
          · clear hO11 hgx
            have hal : Below w11.heap.size w11 (w11.alloc (.cells #[.int .i64 24, .int .i64 25] 2)) := by go_grown
            go_wp2_with fail
            refine (src_among B g (K + 82 + 2) w11.heap.size 0 2 [24, 25] _ (by simp) (by simp) (hs11.on hal) (by omega) (by simp) (by have := hs11.2.1; omega) (fun j u hu => by rw [Nat.zero_add, World.cell?_alloc_new]; simpa using hu)).mono ?_
            rintro e w12 ⟨z, hmem, rfl, hgn, hs12⟩
            have hG12 := grown_go (grown_on hG11 hal) hgn
            have hz12 := hG12.size
            have hz : 24 ≤ z ∧ z ≤ 25 := by simp at hmem; omega
            clear hgn hal hs11 hG11 hmem
            have hal : Below w12.heap.size w12 (w12.alloc (.cells #[] 36)) := by go_grown
            have hO12 := (show (w12.alloc (.cells #[] 36)).ownsRow w.heap.size 36 4 (.slice (some ⟨w12.heap.size, 0, none⟩) 0 0) 0 [] from World.ownsRow_made w12 #[] 0 hz12 (Nat.zero_le _) rfl)
            have hG13 := grown_on hG12 hal
            have hs13 := hs12.on hal
            clear hal hG12 hs12
            go_wp2_with fail
            go_loopw [3, 9] (fun lv kv wr => ∃ (n : Nat) (D : List RDanger) (A : Option Addr) (c : Nat), lv = .slice A n c ∧ kv = .int .i64 n ∧ (n : Int) ≤ z ∧ D.length = n ∧ gdL D ∧ w.grownBy wr (some g) ∧ SrcAt wr B g (K + 82 + 2 + 2) ∧ wr.ownsRow w.heap.size 36 4 (.slice A n c) n (flat RDanger.cells D)) (fun _ kv _ => 25 - (intOf kv).toNat)
            case atStart => exact ⟨0, [], _, 0, rfl, rfl, by omega, rfl, (fun a ha => by cases ha), hG13, hs13, hO12⟩
            case round =>
              clear hO12 hG13 hs13
              obtain ⟨n, D, A1, c1, rfl, rfl, hnz, hDl, hgD, hGr, hS, hO⟩ := hrel
              have hgD' := Lib.hid hgD
              clear hgD
              by_cases hlt : (n : Int) < z
              · have hcv := conv_byte wr (97 + (n : Int))
                obtain ⟨qb, hqb⟩ : ∃ qb, UInt8.ofNat (97 + (n : Int)).toNat = qb := ⟨_, rfl⟩
                rw [hqb] at hcv
                have hss : (⟨#[113]⟩ ++ ⟨#[qb]⟩ : ByteArray).size = 2 := rfl
                have hrz := hGr.size
                have hlg : n + 1 ≤ 1000 := by omega
                clear hqb
                go_wp2_with (at_builtin; refine wpList_append_own _ rfl _ _ 24 rfl w.heap.size 36 i0 (.agg #[.string ⟨#[]⟩, .int .i64 0, .int .i64 0, .int .i64 0]) 4 40 Tryz.underlying24 hi ie0 ie1 ie2 rfl (by decide) _ _ _ rfl ((hO.alloc (.cells #[.int .u8 (97 + (n : Int))] 5)).alloc (.cells #[.string (⟨#[113]⟩ ++ ⟨#[qb]⟩), .int .i64 0, .int .i64 0, .int .i64 9] 36)) ⟨wr.heap.size + 1, 0, none⟩ 1 1 [.string (⟨#[113]⟩ ++ ⟨#[qb]⟩), .int .i64 0, .int .i64 0, .int .i64 9] rfl rfl ?c1 ?c2 ?c3 ?c4 ?c5 ?_)
                case c1 => intro j u hj; have := new_cells (wr.alloc (.cells #[.int .u8 (97 + (n : Int))] 5)) [.string (⟨#[113]⟩ ++ ⟨#[qb]⟩), .int .i64 0, .int .i64 0, .int .i64 9] 36 j u hj; simpa using this
                case c2 => intro u hu; simp at hu; rcases hu with rfl | rfl | rfl | rfl <;> rfl
                case c3 => unfold maxLen; omega
                case c4 => omega
                case c5 => first | omega | (simp; omega)
                intro v' w5 hO5 hg5 _
                have hg5' : ((wr.alloc (.cells #[.int .u8 (97 + (n : Int))] 5)).alloc (.cells #[.string (⟨#[113]⟩ ++ ⟨#[qb]⟩), .int .i64 0, .int .i64 0, .int .i64 9] 36)).grownBy w5 (Value.slice A1 n c1).ownBlock := hg5
                have ha4 : Below wr.heap.size wr ((wr.alloc (.cells #[.int .u8 (97 + (n : Int))] 5)).alloc (.cells #[.string (⟨#[113]⟩ ++ ⟨#[qb]⟩), .int .i64 0, .int .i64 0, .int .i64 9] 36)) := by go_grown
                obtain ⟨A2, c2, rfl, _⟩ := (Rs.of_owns hO5).sl
                have hAq : ∀ k, (Value.slice A1 n c1).ownBlock = some k → w.heap.size ≤ k := fun k e => (hO.lt k e).1
                have hG5 := grown_row (grown_on hGr ha4) hg5' hAq
                have hS5 := (hS.on ha4).far (by simp; omega) hg5' (fun k e => ⟨by have := hAq k e; omega, by have := hAq k e; omega⟩)
                clear hg5 hg5' hAq hGr hS hO ha4 hcv
                go_wp2_with fail
                go_roundw
                case rel => exact ⟨n + 1, D ++ [⟨⟨#[113]⟩ ++ ⟨#[qb]⟩, 0, 0, 9⟩], A2, c2, by go_num, by go_num, by omega, by rw [List.length_append, hDl]; rfl, (fun a ha => by rcases List.mem_append.1 ha with h | h; exact hgD'.out a h; (have h := List.mem_singleton.1 h; subst h; exact gd_q qb)), hG5, hS5, by rw [flat_snoc]; exact hO5⟩
                case measure => simp [intOf]; omega
              · go_wp2_with fail
                go_ret
                exact ⟨D, hgD'.out, by omega, _, rfl, hGr, hS.le (by omega) (by omega), by rw [hDl]; exact Rs.of_owns hO⟩
        · go_wp2_with fail
          refine (src_pick B g (K + 2 + 18 * j + 2) D.length _ (by omega) (by omega) hs6 (by omega)).mono ?_
          rintro e w7 ⟨at0, hat, rfl, hgn, hs7⟩
          obtain ⟨k, rfl⟩ := Int.eq_ofNat_of_zero_le hat.1
          have hk : k < D.length := by omega
          have hG7 := grown_go hG6 hgn
          have hO7 := hO6.far hgn (by omega)
          have hz7 := hgn.size
          clear hgn hG6 hO6 hs6
          obtain ⟨bb, oo, e2, hbb, he⟩ := Sl.elem RDanger.len (by decide) hO7.sl' hk
          cases e2
          have hga := hgD D[k] (List.getElem_mem hk)
          obtain ⟨⟨s, x, y, r⟩, ha⟩ : ∃ a, D[k] = a := ⟨_, rfl⟩
          rw [ha] at he hga
          have d0 : w7.cell? ⟨q, k * 4, none⟩ = some (.string s) := by have := he 0 _ rfl; simpa using this
          have d1 : w7.cell? ⟨q, k * 4 + 1, none⟩ = some (.int .i64 x) := by have := he 1 _ rfl; simpa using this
          have d2 : w7.cell? ⟨q, k * 4 + 2, none⟩ = some (.int .i64 y) := by have := he 2 _ rfl; simpa using this
          have d3 : w7.cell? ⟨q, k * 4 + 3, none⟩ = some (.int .i64 r) := by have := he 3 _ rfl; simpa using this
          have HD := Lib.hid hgD
          have hkI : (k : Int) < (D.length : Int) := by omega
          clear he hgD ha hbb
          go_wp2_with fail
          refine (src_bend14 B g (K + 2 + 18 * j + 2 + 2) s x y r _ hga hs7 (by omega) (by omega)).mono ?_
          rintro e w8 ⟨s2, x2, y2, r2, hd2, rfl, hgn, hs8⟩
          have hG8 := grown_go hG7 hgn
          have hO8 := hO7.far hgn (by omega)
          have hz8 := hgn.size
          have n1 : (some g : Option Nat) ≠ some q := fun e => by have := Option.some.inj e; omega
          replace d0 := far_cell d0 hgn n1
          replace d1 := far_cell d1 hgn n1
          replace d2 := far_cell d2 hgn n1
          replace d3 := far_cell d3 hgn n1
          have f0 := hO8.frozen (k * 4)
          have f1 := hO8.frozen (k * 4 + 1)
          have f2 := hO8.frozen (k * 4 + 2)
          have f3 := hO8.frozen (k * 4 + 3)
          clear hgn hG7 hO7 hs7
          go_upto_region 11 with fail
          refine wp_atB ?_
          intro w9 hw9
          have hgx := HD.out.put (d := ⟨s2, x2, y2, r2⟩) hd2 k
          have hlx := put_len hk (⟨s2, x2, y2, r2⟩ : RDanger)
          have hO9 : Own w9 q 36 (c * 4) (flat RDanger.cells (D.take k ++ [⟨s2, x2, y2, r2⟩] ++ D.drop (k + 1))) := by
            rw [← flat_putD hk, hw9]
            exact Own.upds (RDanger.cells ⟨s2, x2, y2, r2⟩) (k * 4) hO8 (by rw [RDanger.len, flat_len RDanger.len]; omega)
          have hG9 : w.grownBy w9 (some g) := by rw [hw9]; exact grown_setP (grown_setP (grown_setP (grown_setP hG8 hq0.1) hq0.1) hq0.1) hq0.1
          have hs9 : SrcAt w9 B g (K + 2 + 18 * j + 2 + 2 + 4) := by rw [hw9]; exact (((hs8.setne (by omega) (by omega)).setne (by omega) (by omega)).setne (by omega) (by omega)).setne (by omega) (by omega)
          have hz9 : w8.heap.size ≤ w9.heap.size := by rw [hw9]; simp
          clear d0 d1 d2 d3 f0 f1 f2 f3 hw9 hG8 hs8 hO8
          generalize D.take k ++ [⟨s2, x2, y2, r2⟩] ++ D.drop (k + 1) = D9 at hgx hlx hO9
          obtain ⟨Dx, qx, cx, Nx, hDx, hqx, hqg, hgx, hOx⟩ : ∃ (Dx : List RDanger) (qx cx Nx : Nat), (Dx = D9 ∧ qx = q ∧ cx = c) ∧ w.heap.size ≤ qx ∧ qx < w9.heap.size ∧ gdL Dx ∧ Own w9 qx 36 Nx (flat RDanger.cells Dx) := ⟨D9, q, c, c * 4, ⟨rfl, rfl, rfl⟩, hq0.1, by omega, hgx, hO9⟩
          obtain ⟨rfl, rfl, rfl⟩ := hDx
          have hSx : SrcAt w9 B g (K + 82) := hs9.le (by omega) (by omega)
          have hGx := hG9
          clear hs9 hG9 hO9
          have h25 : Dx.length ≤ 25 := by omega
          rw [← hlx]
          clear hlx
          go_wp2_with fail
          refine (src_one B g (K + 82) 24 _ (by omega) (by omega) hSx (by omega)).mono ?_
          rintro e w11 ⟨bb, rfl, hgn, hs11⟩
          have hG11 := grown_go hGx hgn
          have hO11 := hOx.far hgn (by omega)
          have hz11 := hgn.size
          clear hgn hGx hOx hSx
          cases bb
          · go_wp2_with fail
            go_ret
            exact ⟨Dx, hgx, by omega, _, rfl, hG11, hs11.le (by omega) (by omega), ⟨by rw [flat_len RDanger.len], .inr ⟨qx, cx, Nx, rfl, hqx, hO11⟩⟩⟩
          · clear hO11 hgx
            have hal : Below w11.heap.size w11 (w11.alloc (.cells #[.int .i64 24, .int .i64 25] 2)) := by go_grown
            go_wp2_with fail
            refine (src_among B g (K + 82 + 2) w11.heap.size 0 2 [24, 25] _ (by simp) (by simp) (hs11.on hal) (by omega) (by simp) (by have := hs11.2.1; omega) (fun j u hu => by rw [Nat.zero_add, World.cell?_alloc_new]; simpa using hu)).mono ?_
            rintro e w12 ⟨z, hmem, rfl, hgn, hs12⟩
            have hG12 := grown_go (grown_on hG11 hal) hgn
            have hz12 := hG12.size
            have hz : 24 ≤ z ∧ z ≤ 25 := by simp at hmem; omega
            clear hgn hal hs11 hG11 hmem
            have hal : Below w12.heap.size w12 (w12.alloc (.cells #[] 36)) := by go_grown
            have hO12 := (show (w12.alloc (.cells #[] 36)).ownsRow w.heap.size 36 4 (.slice (some ⟨w12.heap.size, 0, none⟩) 0 0) 0 [] from World.ownsRow_made w12 #[] 0 hz12 (Nat.zero_le _) rfl)
            have hG13 := grown_on hG12 hal
            have hs13 := hs12.on hal
            clear hal hG12 hs12
            go_wp2_with fail
            go_loopw [3, 9] (fun lv kv wr => ∃ (n : Nat) (D : List RDanger) (A : Option Addr) (c : Nat), lv = .slice A n c ∧ kv = .int .i64 n ∧ (n : Int) ≤ z ∧ D.length = n ∧ gdL D ∧ w.grownBy wr (some g) ∧ SrcAt wr B g (K + 82 + 2 + 2) ∧ wr.ownsRow w.heap.size 36 4 (.slice A n c) n (flat RDanger.cells D)) (fun _ kv _ => 25 - (intOf kv).toNat)
            case atStart => exact ⟨0, [], _, 0, rfl, rfl, by omega, rfl, (fun a ha => by cases ha), hG13, hs13, hO12⟩
            case round =>
              clear hO12 hG13 hs13
              obtain ⟨n, D, A1, c1, rfl, rfl, hnz, hDl, hgD, hGr, hS, hO⟩ := hrel
              have hgD' := Lib.hid hgD
              clear hgD
              by_cases hlt : (n : Int) < z
              · have hcv := conv_byte wr (97 + (n : Int))
                obtain ⟨qb, hqb⟩ : ∃ qb, UInt8.ofNat (97 + (n : Int)).toNat = qb := ⟨_, rfl⟩
                rw [hqb] at hcv
                have hss : (⟨#[113]⟩ ++ ⟨#[qb]⟩ : ByteArray).size = 2 := rfl
                have hrz := hGr.size
                have hlg : n + 1 ≤ 1000 := by omega
                clear hqb
                go_wp2_with (at_builtin; refine wpList_append_own _ rfl _ _ 24 rfl w.heap.size 36 i0 (.agg #[.string ⟨#[]⟩, .int .i64 0, .int .i64 0, .int .i64 0]) 4 40 Tryz.underlying24 hi ie0 ie1 ie2 rfl (by decide) _ _ _ rfl ((hO.alloc (.cells #[.int .u8 (97 + (n : Int))] 5)).alloc (.cells #[.string (⟨#[113]⟩ ++ ⟨#[qb]⟩), .int .i64 0, .int .i64 0, .int .i64 9] 36)) ⟨wr.heap.size + 1, 0, none⟩ 1 1 [.string (⟨#[113]⟩ ++ ⟨#[qb]⟩), .int .i64 0, .int .i64 0, .int .i64 9] rfl rfl ?c1 ?c2 ?c3 ?c4 ?c5 ?_)
                case c1 => intro j u hj; have := new_cells (wr.alloc (.cells #[.int .u8 (97 + (n : Int))] 5)) [.string (⟨#[113]⟩ ++ ⟨#[qb]⟩), .int .i64 0, .int .i64 0, .int .i64 9] 36 j u hj; simpa using this
                case c2 => intro u hu; simp at hu; rcases hu with rfl | rfl | rfl | rfl <;> rfl
                case c3 => unfold maxLen; omega
                case c4 => omega
                case c5 => first | omega | (simp; omega)
                intro v' w5 hO5 hg5 _
                have hg5' : ((wr.alloc (.cells #[.int .u8 (97 + (n : Int))] 5)).alloc (.cells #[.string (⟨#[113]⟩ ++ ⟨#[qb]⟩), .int .i64 0, .int .i64 0, .int .i64 9] 36)).grownBy w5 (Value.slice A1 n c1).ownBlock := hg5
                have ha4 : Below wr.heap.size wr ((wr.alloc (.cells #[.int .u8 (97 + (n : Int))] 5)).alloc (.cells #[.string (⟨#[113]⟩ ++ ⟨#[qb]⟩), .int .i64 0, .int .i64 0, .int .i64 9] 36)) := by go_grown
                obtain ⟨A2, c2, rfl, _⟩ := (Rs.of_owns hO5).sl
                have hAq : ∀ k, (Value.slice A1 n c1).ownBlock = some k → w.heap.size ≤ k := fun k e => (hO.lt k e).1
                have hG5 := grown_row (grown_on hGr ha4) hg5' hAq
                have hS5 := (hS.on ha4).far (by simp; omega) hg5' (fun k e => ⟨by have := hAq k e; omega, by have := hAq k e; omega⟩)
                clear hg5 hg5' hAq hGr hS hO ha4 hcv
                go_wp2_with fail
                go_roundw
                case rel => exact ⟨n + 1, D ++ [⟨⟨#[113]⟩ ++ ⟨#[qb]⟩, 0, 0, 9⟩], A2, c2, by go_num, by go_num, by omega, by rw [List.length_append, hDl]; rfl, (fun a ha => by rcases List.mem_append.1 ha with h | h; exact hgD'.out a h; (have h := List.mem_singleton.1 h; subst h; exact gd_q qb)), hG5, hS5, by rw [flat_snoc]; exact hO5⟩
                case measure => simp [intOf]; omega
              · go_wp2_with fail
                go_ret
                exact ⟨D, hgD'.out, by omega, _, rfl, hGr, hS.le (by omega) (by omega), by rw [hDl]; exact Rs.of_owns hO⟩
end Go.Proofs.YthjkkidcpidgdaaGreatDoor

/-
  The draws of a list of dangers with a path and a margin. Under the conditions that it states.
-/
set_option linter.unusedVariables false
set_option linter.unnecessarySimpa false
set_option maxRecDepth 100000
set_option linter.unusedSimpArgs false
namespace Go.Proofs.YthjkkidcpidgdaaGreatDoor
open Go.RowKit BigFrame

set_option maxHeartbeats 1600000 in
theorem draw_don (L : List Int) (A : Option Addr) (c B : Nat) (w : World) (hs : Sl w B A (L.map (Value.int .u8))) (hB : B ≤ w.heap.size) (hu : ∀ z ∈ L, IntKind.u8.has z) (hl : L.length ≤ 1048576) :
    Calls Tryz.prog 6 #[.slice A L.length c] w fun e w' => ∃ (D : List RDanger) (P : List RPoint) (mg : Int), (-1 ≤ mg ∧ mg ≤ 20001) ∧ gdL D ∧ D.length ≤ 25 ∧ P.length ≤ 65 ∧ ∃ v v2 : Value, e = .returned (.tuple #[v, v2, .int .i64 mg]) ∧ Below w.heap.size w w' ∧ Rs w' w.heap.size 36 4 v D.length (flat RDanger.cells D) ∧ Rs w' w.heap.size 34 2 v2 P.length (flat RPoint.cells P) := by
  go_enter Tryz.func6, Tryz.ntmps6
  go_wp2_with fail
  refine (src_from L _ _ B _ hs hB hu hl).mono ?_
  rintro e w1 ⟨rfl, hb1, hs1⟩
  have hgl := hs1.2.1
  go_wp2_with fail
  refine (src_draw14 B _ 0 _ hs1 (by omega) (by omega)).mono ?_
  rintro e w2 ⟨D, hD, hDl, v, rfl, hg2, hs2, hR2⟩
  have hB2 := hb1.grown hg2 (by omega) (fun k e => by have := Option.some.inj e; omega)
  have hz2 := hg2.size
  replace hR2 := hR2.more (show w.heap.size + 1 ≤ w1.heap.size by omega)
  clear hb1 hg2 hs1
  go_wp2_with fail
  refine (src_path14 B _ (0 + 90) _ hs2 (by omega) (by omega)).mono ?_
  rintro e w3 ⟨P, v2, hPl, rfl, hg3, hs3, hP3⟩
  have hB3 := hB2.grown hg3 (by omega) (fun k e => by have := Option.some.inj e; omega)
  have hR3 := hR2.far hg3 (fun k e h => by have := hR2.block k h; have := Option.some.inj e; omega)
  have hz3 := hg3.size
  replace hP3 := hP3.more (show w.heap.size + 1 ≤ w2.heap.size by omega)
  clear hB2 hg3 hs2 hR2
  go_wp2_with fail
  refine (src_pick B _ (0 + 90 + 62) 3000 _ (by omega) (by omega) hs3 (by omega)).mono ?_
  rintro e w4 ⟨mg, hmg, rfl, hg4, hs4⟩
  have hB4 := hB3.grown hg4 (by omega) (fun k e => by have := Option.some.inj e; omega)
  have hR4 := hR3.far hg4 (fun k e h => by have := hR3.block k h; have := Option.some.inj e; omega)
  have hP4 := hP3.far hg4 (fun k e h => by have := hP3.block k h; have := Option.some.inj e; omega)
  have hz4 := hg4.size
  clear hB3 hg4 hs3 hR3 hP3
  go_wp2_with fail
  refine (src_one B _ (0 + 90 + 62 + 2) 9 _ (by omega) (by omega) hs4 (by omega)).mono ?_
  rintro e w5 ⟨b, rfl, hg5, hs5⟩
  have hB5 := hB4.grown hg5 (by omega) (fun k e => by have := Option.some.inj e; omega)
  have hR5 := hR4.far hg5 (fun k e h => by have := hR4.block k h; have := Option.some.inj e; omega)
  have hP5 := hP4.far hg5 (fun k e h => by have := hP4.block k h; have := Option.some.inj e; omega)
  have hz5 := hg5.size
  clear hB4 hg5 hs4 hR4 hP4
  cases b
  · go_wp2_with fail
    go_ret3
    exact ⟨D, P, mg, by omega, hD, hDl, hPl, _, _, rfl, hB5, hR5.more (by omega), hP5.more (by omega)⟩
  · go_wp2_with fail
    have hal : Below w5.heap.size w5 (w5.alloc (.cells #[.int .i64 (-1), .int .i64 0, .int .i64 20000, .int .i64 20001] 2)) := by go_grown
    refine (src_among B _ (0 + 90 + 62 + 2 + 2) w5.heap.size 0 4 [-1, 0, 20000, 20001] _ (by simp) (by simp) (hs5.on hal) (by omega) (by simp) (by have := hs5.2.1; omega) (fun j u hu => by rw [Nat.zero_add, World.cell?_alloc_new]; simpa using hu)).mono ?_
    rintro e w6 ⟨z, hmem, rfl, hg6, hs6⟩
    have hz : -1 ≤ z ∧ z ≤ 20001 := by simp at hmem; omega
    have hB6 := (bnext hB5 hal).grown hg6 (by simp; omega) (fun k e => by have := Option.some.inj e; omega)
    have hRa := hR5.on hal
    have hPa := hP5.on hal
    have hR6 := hRa.far hg6 (fun k e h => by have := hRa.block k h; have := Option.some.inj e; omega)
    have hP6 := hPa.far hg6 (fun k e h => by have := hPa.block k h; have := Option.some.inj e; omega)
    clear hB5 hg6 hs5 hR5 hP5 hRa hPa
    go_wp2_with fail
    go_ret3
    exact ⟨D, P, z, hz, hD, hDl, hPl, _, _, rfl, hB6, hR6.more (by omega), hP6.more (by omega)⟩
end Go.Proofs.YthjkkidcpidgdaaGreatDoor

/-
  Contracts of the spread of fixes: the program's and the reference's. Each under the conditions that it states.
-/
set_option linter.unusedVariables false
set_option linter.unnecessarySimpa false
set_option maxRecDepth 100000
set_option linter.unusedSimpArgs false
namespace Go.Proofs.YthjkkidcpidgdaaGreatDoor
open Go.RowKit BigFrame

theorem pcells_len : ∀ L : List (Int × Int), (pcells L).length = L.length * 2
  | [] => rfl
  | p :: L => by
    have e : pcells (p :: L) = .int .i64 p.1 :: .int .i64 p.2 :: pcells L := rfl
    have ih := pcells_len L
    rw [e, List.length_cons, List.length_cons, List.length_cons]; omega
theorem pcells_app (L M : List (Int × Int)) : pcells (L ++ M) = pcells L ++ pcells M := by simp [pcells]
theorem getD_at' {α : Type} {L : List α} {k : Nat} {d : α} (h : k < L.length) : L.getD k d = L[k] := by rw [List.getD_eq_getElem?_getD, List.getElem?_eq_getElem h]; rfl
theorem vPoints_at {L : List (Int × Int)} (h : vPoints L = true) {k : Nat} (hk : k < L.length) : vPoint L[k].1 L[k].2 = true := by
  unfold vPoints at h
  exact List.all_eq_true.1 h _ (List.getElem_mem hk)
theorem keep6 {w w' : World} {b o bm om i k : Nat} {ax ay bx by_ x y : Int} (hb : b < w.heap.size) (hm : bm < w.heap.size) (h : w.cell? ⟨b, o + i * 2, none⟩ = some (.int .i64 ax) ∧ w.cell? ⟨b, o + i * 2 + 1, none⟩ = some (.int .i64 ay) ∧ w.cell? ⟨bm, om + i, none⟩ = some (.int .i64 x) ∧ w.cell? ⟨b, o + k * 2, none⟩ = some (.int .i64 bx) ∧ w.cell? ⟨b, o + k * 2 + 1, none⟩ = some (.int .i64 by_) ∧ w.cell? ⟨bm, om + k, none⟩ = some (.int .i64 y)) (hB : Below w.heap.size w w') : w'.cell? ⟨b, o + i * 2, none⟩ = some (.int .i64 ax) ∧ w'.cell? ⟨b, o + i * 2 + 1, none⟩ = some (.int .i64 ay) ∧ w'.cell? ⟨bm, om + i, none⟩ = some (.int .i64 x) ∧ w'.cell? ⟨b, o + k * 2, none⟩ = some (.int .i64 bx) ∧ w'.cell? ⟨b, o + k * 2 + 1, none⟩ = some (.int .i64 by_) ∧ w'.cell? ⟨bm, om + k, none⟩ = some (.int .i64 y) := by
  obtain ⟨h1, h2, h3, h4, h5, h6⟩ := h
  obtain ⟨hc, _⟩ := bcell hB
  exact ⟨(hc _ _ hb).trans h1, (hc _ _ hb).trans h2, (hc _ _ hm).trans h3, (hc _ _ hb).trans h4, (hc _ _ hb).trans h5, (hc _ _ hm).trans h6⟩
theorem intsOf {w : World} {B : Nat} {A : Option Addr} {M : List Int} (hs : Sl w B A (M.map (Value.int .i64))) {k : Nat} (hk : k < M.length) : ∃ b o, A = some ⟨b, o, none⟩ ∧ b < B ∧ w.cell? ⟨b, o + k, none⟩ = some (.int .i64 M[k]) := by
  obtain ⟨b, o, e, hb, hc⟩ := hs (by intro e; rw [List.map_eq_nil_iff] at e; subst e; simp at hk)
  exact ⟨b, o, e, hb, hc k _ (by rw [List.getElem?_map, List.getElem?_eq_getElem hk]; rfl)⟩
end Go.Proofs.YthjkkidcpidgdaaGreatDoor

/-
  Contracts of the clearance of a danger from a path: the program's and the reference's. Each under the conditions that it states.
-/
set_option linter.unusedVariables false
set_option linter.unnecessarySimpa false
set_option maxRecDepth 100000
set_option linter.unusedSimpArgs false
namespace Go.Proofs.YthjkkidcpidgdaaGreatDoor
open Go.RowKit BigFrame

theorem distM_sym (a b c d : Int) : distM a b c d = distM c d a b := by unfold distM; congr 1; unfold sqM; grind
theorem root_mono {a b : Int} (h : a ≤ b) : rootM a ≤ rootM b := by
  rcases Int.lt_or_le (rootM a) 1 with h1 | h1
  · have := rootM_nonneg b; omega
  · rw [← rootM_iff _ _ h1]
    have := (rootM_iff (rootM a) a h1).2 (Int.le_refl _)
    omega
/-- A segment is no farther than its first end. -/
theorem gap_le {ax ay bx by_ px py : Int} (b1 : 0 ≤ ax ∧ ax ≤ 200000) (b2 : 0 ≤ ay ∧ ay ≤ 200000) (b3 : 0 ≤ bx ∧ bx ≤ 200000) (b4 : 0 ≤ by_ ∧ by_ ≤ 200000) : gapM ax ay bx by_ px py ≤ distM ax ay px py := by
  unfold gapM
  split
  · exact Int.le_refl _
  · rename_i h1
    split
    · rename_i h2
      refine root_mono ?_
      have e : sqM bx by_ px py = sqM ax ay px py - 2 * ((bx - ax) * (px - ax) + (by_ - ay) * (py - ay)) + sqM ax ay bx by_ := by unfold sqM; grind
      have := (sqM_bd b1 b2 b3 b4).1
      omega
    · rename_i h2
      have hq : 1 ≤ sqM ax ay bx by_ := by omega
      rcases Int.lt_or_le (farM (max (crossM ax ay bx by_ px py) (-(crossM ax ay bx by_ px py))) (sqM ax ay bx by_)) 1 with h3 | h3
      · have : 0 ≤ distM ax ay px py := rootM_nonneg _
        omega
      · have h4 := (far_iff (x := max (crossM ax ay bx by_ px py) (-(crossM ax ay bx by_ px py))) hq h3).2 (Int.le_refl _)
        unfold distM
        rw [← rootM_iff _ _ h3]
        generalize farM (max (crossM ax ay bx by_ px py) (-(crossM ax ay bx by_ px py))) (sqM ax ay bx by_) = F at *
        have e : max (crossM ax ay bx by_ px py) (-(crossM ax ay bx by_ px py)) * max (crossM ax ay bx by_ px py) (-(crossM ax ay bx by_ px py)) = crossM ax ay bx by_ px py * crossM ax ay bx by_ px py := by
          rcases Int.le_total 0 (crossM ax ay bx by_ px py) with h | h
          · rw [show max (crossM ax ay bx by_ px py) (-(crossM ax ay bx by_ px py)) = crossM ax ay bx by_ px py by omega]
          · rw [show max (crossM ax ay bx by_ px py) (-(crossM ax ay bx by_ px py)) = -(crossM ax ay bx by_ px py) by omega, Int.neg_mul_neg]
        rw [e] at h4
        have e2 : crossM ax ay bx by_ px py * crossM ax ay bx by_ px py + ((px - ax) * (bx - ax) + (py - ay) * (by_ - ay)) * ((px - ax) * (bx - ax) + (py - ay) * (by_ - ay)) = sqM ax ay px py * sqM ax ay bx by_ := by unfold crossM sqM; grind
        have n := sqr_nonneg ((px - ax) * (bx - ax) + (py - ay) * (by_ - ay))
        exact Int.le_of_mul_le_mul_right (show F * F * sqM ax ay bx by_ ≤ sqM ax ay px py * sqM ax ay bx by_ by omega) (by omega)
theorem gap_nonneg (ax ay bx by_ px py : Int) : 0 ≤ gapM ax ay bx by_ px py := by
  unfold gapM
  split
  · exact rootM_nonneg _
  · split
    · exact rootM_nonneg _
    · exact farM_nonneg _ _
/-- The least gap of the first k pieces. -/
def ctM (L : List (Int × Int)) (px py : Int) : Nat → Int
  | 0 => distM (L.getD 0 (0, 0)).1 (L.getD 0 (0, 0)).2 px py
  | k + 1 => min (ctM L px py k) (gapM (L.getD k (0, 0)).1 (L.getD k (0, 0)).2 (L.getD (k + 1) (0, 0)).1 (L.getD (k + 1) (0, 0)).2 px py)
def pathM (L : List (Int × Int)) : Bool := decide (1 ≤ L.length) && (decide (L.length ≤ 64) && vPoints L)

theorem impl_Path (L : List (Int × Int)) (A : Option Addr) (c B : Nat) (w : World) (hs : Sl w B A (pcells L)) (hB : B ≤ w.heap.size) (hl : L.length ≤ 1048576) : Calls Tryz.prog 35 #[.slice A L.length c] w fun e w' => e = .returned (.bool (pathM L)) ∧ Below w.heap.size w w' := by
  have hs' := Lib.hid hs
  clear hs
  cases hin : inB (L.length : Int) 1 64
  · have h := inB_no.1 hin
    have HP : Hid (pathM L = false) := Lib.hid (by
      unfold pathM
      rcases (by omega : L.length < 1 ∨ 64 < L.length) with h2 | h2
      · rw [decide_eq_false (by omega)]; rfl
      · rw [decide_eq_false (by omega : ¬ L.length ≤ 64), Bool.false_and, Bool.and_false])
    clear h
    go_enter Tryz.func35, Tryz.ntmps35
    go_wp2_with (go_at_call 74; refine (within_any _ _ _ _).mono ?_; rintro e w' ⟨rfl, rfl⟩)
    go_ret
    exact ⟨ret_bool HP.out.symm, Below.refl _ _⟩
  · have h := inB_yes.1 hin
    have HP : Hid (pathM L = vPoints L) := Lib.hid (by unfold pathM; rw [decide_eq_true (by omega : 1 ≤ L.length), decide_eq_true (by omega : L.length ≤ 64)]; rfl)
    clear h
    go_enter Tryz.func35, Tryz.ntmps35
    go_wp2_with (first | (go_at_call 74; refine (within_any _ _ _ _).mono ?_; rintro e w' ⟨rfl, rfl⟩) | (go_at_call 75; refine (arePoints_any L _ _ B _ hs'.out (by omega) (by omega)).mono ?_; rintro e w1 ⟨rfl, hb1⟩))
    go_ret
    exact ⟨ret_bool HP.out.symm, hb1⟩
theorem ctM_bd {L : List (Int × Int)} {px py : Int} (hv : vPoints L = true) (hp : vPoint px py = true) : ∀ k, k < L.length → 0 ≤ ctM L px py k ∧ ctM L px py k ≤ 282842
  | 0, h => by
    have a := vPoint_yes (vPoints_at hv h)
    have b := vPoint_yes hp
    have := distM_bd a.1 a.2 b.1 b.2
    unfold ctM
    rw [getD_at' h]
    exact this
  | k + 1, h => by
    have ih := ctM_bd hv hp k (by omega)
    have := gap_nonneg (L.getD k (0, 0)).1 (L.getD k (0, 0)).2 (L.getD (k + 1) (0, 0)).1 (L.getD (k + 1) (0, 0)).2 px py
    unfold ctM
    omega
theorem Dn.on' {w w' : World} {g : Nat} {s : ByteArray} {x y r : Int} (h : Dn w g 0 s x y r) (hb : Below w.heap.size w w') : Dn w' g 0 s x y r := h.on hb
set_option maxHeartbeats 1600000 in
theorem impl_Clear (L : List (Int × Int)) (A : Option Addr) (c B : Nat) (s : ByteArray) (x y r : Int) (w : World) (hs : Sl w B A (pcells L)) (hB : B ≤ w.heap.size) (hv : vPoints L = true) (hl : 1 ≤ L.length) (hl2 : L.length ≤ 64) (hp : vPoint x y = true) (hr : 0 ≤ r ∧ r ≤ 20000) :
    Calls Tryz.prog 39 #[.agg #[.string s, .int .i64 x, .int .i64 y, .int .i64 r], .slice A L.length c] w fun e w' => e = .returned (.int .i64 (ctM L x y (L.length - 1) - r)) ∧ Below w.heap.size w w' := by
  have hB0 : Below w.heap.size w (w.alloc (.cells #[.string s, .int .i64 x, .int .i64 y, .int .i64 r] 36)) := by go_grown
  have hd : Dn (w.alloc (.cells #[.string s, .int .i64 x, .int .i64 y, .int .i64 r] 36)) w.heap.size 0 s x y r := ⟨by simp, by simp [go_sem], by simp [go_sem], by simp [go_sem], by simp [go_sem]⟩
  have hs' := Lib.hid hs
  have hv' := Lib.hid hv
  have hct : Hid (∀ k, k < L.length → 0 ≤ ctM L x y k ∧ ctM L x y k ≤ 282842) := Lib.hid (fun k hk => ctM_bd hv hp k hk)
  have pb := vPoint_yes hp
  clear hs
  obtain ⟨b, o, rfl, hb, c0, c1⟩ := Sl.point hs'.out (show 0 < L.length by omega)
  have v0 := vPoint_yes (vPoints_at hv (show 0 < L.length by omega))
  have hap := fun w => impl_Distance x y L[0].1 L[0].2 w pb.1 pb.2 v0.1 v0.2
  have h0 : Hid (distM x y L[0].1 L[0].2 = ctM L x y 0) := Lib.hid (by rw [ctM, getD_at' (show 0 < L.length by omega)]; exact distM_sym _ _ _ _)
  rw [h0.out] at hap
  generalize L[0] = p0 at *
  obtain ⟨ax, ay⟩ := p0
  simp only [Nat.zero_mul, Nat.add_zero] at hap c0 c1
  have hbw : b < w.heap.size := by omega
  clear v0 h0 hv
  go_enter Tryz.func39, Tryz.ntmps39
  go_wp2_with fail
  refine wp_region_grew (by kernel_rfl) (by kernel_rfl) ?_
  repeat (first | (go_big_quiet_step ((first | (go_at_call 52; exact grew_of (hap _))))) | (quiet_step ((first | (go_at_call 52; exact grew_of (hap _))))))
  refine wpQuiet_nil ?_
  rintro w9 ⟨⟨w8, hb9⟩, rfl⟩
  try dsimp only
  obtain ⟨hc9, hf9⟩ := bcell hb9
  go_wp2_with fail
  have hB9 := bnext hB0 hb9
  have hd' := Lib.hid (hd.on' hb9)
  have hz9 := hd'.out.1
  have hs9 := Lib.hid (hs'.out.below (hB9.mono hB))
  clear c0 c1 hc9 hf9 hap hd hB0 hb9
  generalize hbase : w9 = wb at hd' hs9 hB9 ⊢
  go_loopw [5, 6] (fun m i wr => ∃ k : Nat, i = .int .i64 ((k : Int) + 1) ∧ k + 1 ≤ L.length ∧ m = .int .i64 (ctM L x y k) ∧ Below w.heap.size w wr ∧ Dn wr w.heap.size 0 s x y r) (fun _ i _ => L.length - (intOf i).toNat)
  case atStart => exact ⟨0, rfl, hl, rfl, hB9, hd'.out⟩
  case round =>
    clear hB9 hs9 hd' hz9
    obtain ⟨k, rfl, hk, rfl, hB1, hD1⟩ := hrel
    have hS1 := hB1.size
    have hcb := hct.out k (by omega)
    by_cases hlt : k + 1 < L.length
    · obtain ⟨b1', o1', e1', hb, c0, c1⟩ := Sl.point (hs'.out.below (hB1.mono hB)) (show k < L.length by omega)
      cases e1'
      obtain ⟨b', o', e', hb', c2, c3⟩ := Sl.point (hs'.out.below (hB1.mono hB)) hlt
      cases e'
      have va := vPoint_yes (vPoints_at hv'.out (show k < L.length by omega))
      have vb := vPoint_yes (vPoints_at hv'.out hlt)
      have hst : ctM L x y (k + 1) = min (ctM L x y k) (gapM L[k].1 L[k].2 L[k + 1].1 L[k + 1].2 x y) := by rw [ctM, getD_at' (show k < L.length by omega), getD_at' hlt]
      have hg0 := gap_nonneg L[k].1 L[k].2 L[k + 1].1 L[k + 1].2 x y
      have hgp := fun w => impl_DTS L[k].1 L[k].2 L[k + 1].1 L[k + 1].2 x y w va.1 va.2 vb.1 vb.2 pb.1 pb.2
      have hgl0 : k = 0 → gapM L[k].1 L[k].2 L[k + 1].1 L[k + 1].2 x y ≤ ctM L x y k := fun e => by
        subst e
        rw [ctM, getD_at' (show 0 < L.length by omega)]
        exact gap_le va.1 va.2 vb.1 vb.2
      have e0 : L.getD k (0, 0) = L[k] := getD_at' (show k < L.length by omega)
      generalize L[k] = pa at *
      generalize L[k + 1] = pb' at *
      obtain ⟨ax, ay⟩ := pa
      obtain ⟨bx, by_⟩ := pb'
      simp only at hst hgp c0 c1 c2 c3 hg0 hgl0
      generalize gapM ax ay bx by_ x y = G at hst hgp hg0 hgl0
      generalize ctM L x y k = m at *
      have HST := Lib.hid hst
      have hbw : b < wr.heap.size := by omega
      have hgl := hD1.1
      have d1 := hD1.2.2.1
      have d2 := hD1.2.2.2.1
      have hw : IntKind.i64.wrap ((k : Int) + 1 - 1) = (k : Int) := by rw [IntWalk.i64_in _ (by omega)]; omega
      have ht : ((k : Int) + 1).toNat = k + 1 := by omega
      have hk0 : (0 : Int) ≤ (k : Int) + 1 := by omega
      clear hst va vb e0
      have HD := Lib.hid hD1
      simp only [Nat.zero_add] at d1 d2
      clear hD1
      go_wp2_with fail
      refine wp_region_grew (by kernel_rfl) (by kernel_rfl) ?_
      repeat (first | (go_big_quiet_step ((first | (go_at_call 76; exact grew_of (hgp _))))) | (quiet_step ((first | (go_at_call 76; exact grew_of (hgp _))))))
      refine wpQuiet_nil ?_
      rintro w9 ⟨⟨w8, hb9⟩, rfl⟩
      try dsimp only
      obtain ⟨hc9, hf9⟩ := bcell hb9
      clear hw ht
      have hB2 := bnext hB1 hb9
      have hD2 := HD.out.on' hb9
      rcases (by omega : k = 0 ∨ (¬ k = 0 ∧ G < m) ∨ (¬ k = 0 ∧ ¬ G < m)) with h | ⟨h, h2⟩ | ⟨h, h2⟩
      · have e : min m G = G := by have := hgl0 h; omega
        have g1 : (((k : Int) + 1) == 1) = true := beq_iff_eq.2 (by omega)
        clear h hgl0
        go_wp2
        go_roundw
        case rel => exact ⟨k + 1, by go_num, by omega, by rw [HST.out, e], hB2, hD2⟩
        case measure => simp [intOf]; omega
      · have e : min m G = G := by omega
        have g1 : (((k : Int) + 1) == 1) = false := beq_eq_false_iff_ne.2 (by omega)
        have g2 : decide (G < m) = true := decide_eq_true h2
        clear h hgl0
        go_wp2
        go_roundw
        case rel => exact ⟨k + 1, by go_num, by omega, by rw [HST.out, e], hB2, hD2⟩
        case measure => simp [intOf]; omega
      · have e : min m G = m := by omega
        have g1 : (((k : Int) + 1) == 1) = false := beq_eq_false_iff_ne.2 (by omega)
        have g2 : decide (G < m) = false := decide_eq_false h2
        clear h hgl0
        go_wp2
        go_roundw
        case rel => exact ⟨k + 1, by go_num, by omega, by rw [HST.out, e], hB2, hD2⟩
        case measure => simp [intOf]; omega
    · have hkl : k = L.length - 1 := by omega
      have hgl := hD1.1
      have d3 := hD1.2.2.2.2
      simp only [Nat.zero_add] at d3
      generalize hm : ctM L x y k = m at *
      have HM := Lib.hid hm
      clear hm
      go_wp2
      go_ret
      exact ⟨ret_int (by rw [← hkl, HM.out]), hB1⟩

theorem path_yes {L : List (Int × Int)} (h : pathM L = true) : 1 ≤ L.length ∧ L.length ≤ 64 ∧ vPoints L = true := by
  unfold pathM at h
  simp only [Bool.and_eq_true, decide_eq_true_eq] at h
  exact ⟨h.1, h.2.1, h.2.2⟩
theorem dang_yes {s : ByteArray} {x y r : Int} (h : vDanger s x y r = true) : vPoint x y = true ∧ 0 ≤ r ∧ r ≤ 20000 := by
  unfold vDanger at h
  rw [Bool.and_eq_true, Bool.and_eq_true] at h
  have := inB_yes.1 h.2.2
  exact ⟨h.2.1, by omega, by omega⟩
def coOk (L : List (Int × Int)) (s : ByteArray) (x y r : Int) : Bool := vDanger s x y r && pathM L
def coC (L : List (Int × Int)) (s : ByteArray) (x y r : Int) : Int := if coOk L s x y r then 0 else 1
def coV (L : List (Int × Int)) (s : ByteArray) (x y r : Int) : Int := if coOk L s x y r then ctM L x y (L.length - 1) - r else 0
set_option maxHeartbeats 1600000 in
theorem impl_CO (L : List (Int × Int)) (A : Option Addr) (c B : Nat) (s : ByteArray) (hz : s.size ≤ maxLen) (x y r : Int) (w : World) (hs : Sl w B A (pcells L)) (hB : B ≤ w.heap.size) (hl : L.length ≤ 1048576) : Calls Tryz.prog 8 #[.agg #[.string s, .int .i64 x, .int .i64 y, .int .i64 r], .slice A L.length c] w fun e w' => e = .returned (.tuple #[.int .i64 (coV L s x y r), .int .i64 (coC L s x y r)]) ∧ Below w.heap.size w w' := by
  have hs' := Lib.hid hs
  clear hs
  cases hd : vDanger s x y r
  · have HC : Hid (coC L s x y r = 1 ∧ coV L s x y r = 0) := Lib.hid (by unfold coC coV coOk; rw [hd]; exact ⟨rfl, rfl⟩)
    go_enter Tryz.func8, Tryz.ntmps8
    go_wp2_with (go_at_call 40; refine (impl_ValidDanger _ hz _ _ _ _).mono ?_; rintro e w1 ⟨rfl, hb1⟩; have hB1 := bnext (w := w) (by go_grown) hb1; have hS1 := hB1.size; ((have hz1 : w.heap.size < w1.heap.size := by have := hb1.size; (try simp only [World.size_alloc, World.size_setCell, World.size_drew] at this); omega)); obtain ⟨hc1, hf1⟩ := bcell hb1; clear hb1)
    go_ret2
    exact ⟨by rw [HC.out.1, HC.out.2]; rfl, by go_grown⟩
  cases hp : pathM L
  · have HC : Hid (coC L s x y r = 1 ∧ coV L s x y r = 0) := Lib.hid (by unfold coC coV coOk; rw [hd, hp]; exact ⟨rfl, rfl⟩)
    go_enter Tryz.func8, Tryz.ntmps8
    go_wp2_with (first | (go_at_call 40; refine (impl_ValidDanger _ hz _ _ _ _).mono ?_; rintro e w1 ⟨rfl, hb1⟩; have hB1 := bnext (w := w) (by go_grown) hb1; have hS1 := hB1.size; ((have hz1 : w.heap.size < w1.heap.size := by have := hb1.size; (try simp only [World.size_alloc, World.size_setCell, World.size_drew] at this); omega)); obtain ⟨hc1, hf1⟩ := bcell hb1; clear hb1) | (go_at_call 35; refine (impl_Path L _ _ B _ (hs'.out.below ((show Below w.heap.size w _ by go_grown).mono hB)) (by have := hS1; omega) hl).mono ?_; rintro e w1 ⟨rfl, hb1⟩; have hB1 := bnext (w := w) (by go_grown) hb1; have hS1 := hB1.size; ((have hz1 : w.heap.size < w1.heap.size := by have := hb1.size; (try simp only [World.size_alloc, World.size_setCell, World.size_drew] at this); omega)); obtain ⟨hc1, hf1⟩ := bcell hb1; clear hb1))
    go_ret2
    exact ⟨by rw [HC.out.1, HC.out.2]; rfl, by go_grown⟩
  · have HC : Hid (coC L s x y r = 0 ∧ coV L s x y r = ctM L x y (L.length - 1) - r) := Lib.hid (by unfold coC coV coOk; rw [hd, hp]; exact ⟨rfl, rfl⟩)
    obtain ⟨p1, p2, p3⟩ := path_yes hp
    obtain ⟨q1, q2⟩ := dang_yes hd
    go_enter Tryz.func8, Tryz.ntmps8
    go_wp2_with (first | (go_at_call 40; refine (impl_ValidDanger _ hz _ _ _ _).mono ?_; rintro e w1 ⟨rfl, hb1⟩; have hB1 := bnext (w := w) (by go_grown) hb1; have hS1 := hB1.size; ((have hz1 : w.heap.size < w1.heap.size := by have := hb1.size; (try simp only [World.size_alloc, World.size_setCell, World.size_drew] at this); omega)); obtain ⟨hc1, hf1⟩ := bcell hb1; clear hb1) | (go_at_call 35; refine (impl_Path L _ _ B _ (hs'.out.below ((show Below w.heap.size w _ by go_grown).mono hB)) (by have := hS1; omega) hl).mono ?_; rintro e w1 ⟨rfl, hb1⟩; have hB1 := bnext (w := w) (by go_grown) hb1; have hS1 := hB1.size; ((have hz1 : w.heap.size < w1.heap.size := by have := hb1.size; (try simp only [World.size_alloc, World.size_setCell, World.size_drew] at this); omega)); obtain ⟨hc1, hf1⟩ := bcell hb1; clear hb1) | (go_at_call 39; refine (impl_Clear L _ _ B s x y r _ (hs'.out.below ((show Below w.heap.size w _ by go_grown).mono hB)) (by have := hS1; omega) p3 p1 p2 q1 q2).mono ?_; rintro e w1 ⟨rfl, hb1⟩; have hB1 := bnext (w := w) (by go_grown) hb1; have hS1 := hB1.size; (skip); obtain ⟨hc1, hf1⟩ := bcell hb1; clear hb1))
    go_ret2
    exact ⟨by rw [HC.out.1, HC.out.2]; rfl, by go_grown⟩

end Go.Proofs.YthjkkidcpidgdaaGreatDoor

/-
  Contracts of the names of dangers on a path: the program's and the reference's. Each under the conditions that it states. (Does not build yet.)
-/
set_option linter.unusedVariables false
set_option linter.unnecessarySimpa false
set_option maxRecDepth 100000
set_option linter.unusedSimpArgs false
namespace Go.Proofs.YthjkkidcpidgdaaGreatDoor
open Go.RowKit BigFrame

def nearP (P : List (Int × Int)) (mg : Int) (a : RDanger) : Bool := decide (ctM P a.f1 a.f2 (P.length - 1) - a.f3 < mg)
set_option maxHeartbeats 1600000 in
/-- The names of those that a function picks; the function, at each element, says f. -/
theorem names_on (L : List RDanger) (A : Option Addr) (c B : Nat) (f : RDanger → Bool) (gp gm : Nat) (w : World) (hs : Sl w B A (flat RDanger.cells L)) (hB : B ≤ w.heap.size) (hl : L.length ≤ 1048576)
    (hcl : ∀ (k : Nat) (hk : k < L.length) (w' : World), Below w.heap.size w w' → Calls Tryz.prog 38 #[.agg #[.string L[k].f0, .int .i64 L[k].f1, .int .i64 L[k].f2, .int .i64 L[k].f3], .pointer (some ⟨gp, 0, none⟩), .pointer (some ⟨gm, 0, none⟩)] w' fun e w'' => e = .returned (.bool (f L[k])) ∧ Below w'.heap.size w' w'') :
    Calls Tryz.prog 37 #[.slice A L.length c, .func (.func 38) #[] #[.pointer (some ⟨gp, 0, none⟩), .pointer (some ⟨gm, 0, none⟩)]] w fun e w' => ∃ v, e = .returned v ∧ Below w.heap.size w w' ∧ Rs w' w.heap.size 9 1 v (namesTo f L L.length).length ((namesTo f L L.length).map Value.string) := by
  have hs' := Lib.hid hs
  have hcl' := Lib.hid hcl
  obtain ⟨i0, hi, ie0, ie1, ie2⟩ := info_parts infoStr
  clear hs hcl
  go_enter Tryz.func37, Tryz.ntmps37
  go_wp2
  have hO0 : (w.alloc (.cells #[] 9)).ownsRow w.heap.size 9 1 (.slice (some ⟨w.heap.size, 0, none⟩) 0 0) (namesTo f L 0).length ((namesTo f L 0).map Value.string) := World.ownsRow_made w #[] 0 (by omega) (Nat.zero_le _) rfl
  have hB0 : Below w.heap.size w (w.alloc (.cells #[] 9)) := by go_grown
  go_loopw [5, 11] (fun v i wr => ∃ k : Nat, i = .int .i64 k ∧ k ≤ L.length ∧ Below w.heap.size w wr ∧ wr.ownsRow w.heap.size 9 1 v (namesTo f L k).length ((namesTo f L k).map Value.string)) (fun _ i _ => L.length - (intOf i).toNat)
  case atStart => exact ⟨0, rfl, Nat.zero_le _, hB0, hO0⟩
  case round =>
    clear hB0 hO0
    obtain ⟨k, rfl, hk, hB1, hown⟩ := hrel
    have hS1 := hB1.size
    by_cases hlt : k < L.length
    · have hh := Lib.hid (namesTo_hit (f := f) hlt)
      have hm := Lib.hid (namesTo_miss (f := f) hlt)
      have hle := namesTo_le f L k
      have hc' := Lib.hid (hcl'.out k hlt)
      obtain ⟨b, o, rfl, hb, he⟩ := Sl.elem RDanger.len (by decide) (hs'.out.below (hB1.mono hB)) hlt
      obtain ⟨a, ha⟩ : ∃ a, L[k] = a := ⟨_, rfl⟩
      rw [ha] at he hh hm hc'
      clear ha
      have d0 : wr.cell? ⟨b, o + k * 4, none⟩ = some (.string a.f0) := by have := he 0 _ rfl; simpa [Nat.add_assoc] using this
      have d1 : wr.cell? ⟨b, o + k * 4 + 1, none⟩ = some (.int .i64 a.f1) := by have := he 1 _ rfl; simpa [Nat.add_assoc] using this
      have d2 : wr.cell? ⟨b, o + k * 4 + 2, none⟩ = some (.int .i64 a.f2) := by have := he 2 _ rfl; simpa [Nat.add_assoc] using this
      have d3 : wr.cell? ⟨b, o + k * 4 + 3, none⟩ = some (.int .i64 a.f3) := by have := he 3 _ rfl; simpa [Nat.add_assoc] using this
      clear he
      have hbw : b < wr.heap.size := by omega
      go_wp2_with fail
      refine (hc'.out _ (show Below w.heap.size w _ by go_grown)).mono ?_
      rintro e w9 ⟨rfl, hb9⟩
      obtain ⟨hc9, hf9⟩ := bcell hb9
      have hz9 := hb9.size
      simp only [World.size_alloc] at hz9
      have hzl : wr.heap.size < w9.heap.size := by omega
      have hB9 := bnext (show Below w.heap.size w (wr.alloc (.cells #[.string a.f0, .int .i64 a.f1, .int .i64 a.f2, .int .i64 a.f3] 36)) by go_grown) hb9
      have hO9 := owns_on (hown.alloc (.cells #[.string a.f0, .int .i64 a.f1, .int .i64 a.f2, .int .i64 a.f3] 36)) hb9
      cases hn : f a
      · have H := Lib.hid (hm.out hn)
        go_wp2
        go_roundw
        case rel => exact ⟨k + 1, by go_num, by omega, hB9, by rw [H.out]; exact hO9⟩
        case measure => simp [intOf]; omega
      · have H := Lib.hid (hh.out hn)
        go_wp2_with (at_builtin; refine wpList_append_own _ rfl _ _ 28 rfl w.heap.size 9 i0 (.string ⟨#[]⟩) 1 16 Tryz.underlying28 hi ie0 ie1 ie2 rfl (by decide) _ _ _ rfl (hO9.alloc _) ⟨w9.heap.size, 0, none⟩ 1 1 [.string a.f0] rfl rfl ?c1 ?c2 ?c3 ?c4 ?c5 ?_)
        case c1 =>
          intro j u hj
          match j, hj with
          | 0, hj => simp at hj; subst hj; simp [Addr.add]
        case c2 => intro u hu; simp at hu; subst hu; rfl
        case c3 => unfold maxLen; omega
        case c4 => omega
        case c5 => simp; omega
        intro v' wn hown' hgrow _
        have hBn := (show Below w.heap.size w (w9.alloc (.cells #[.string a.f0] 9)) by go_grown).grown hgrow (by simp; omega) (fun q e => (hO9.lt q e).1)
        have hOn : wn.ownsRow w.heap.size 9 1 v' (namesTo f L (k + 1)).length ((namesTo f L (k + 1)).map Value.string) := by rw [H.out]; simpa using hown'
        clear hown' hgrow hB9 hO9 hb9 hown hc9 hf9
        go_wp2
        go_roundw
        case rel => exact ⟨k + 1, by go_num, by omega, hBn, hOn⟩
        case measure => simp [intOf]; omega
    · obtain rfl : k = L.length := by omega
      go_wp2
      go_ret
      exact ⟨_, rfl, hB1, Rs.of_owns hown⟩
theorem clos_DOn (s : ByteArray) (x y r mg : Int) (P : List (Int × Int)) (A2 : Option Addr) (c2 B gp gm : Nat) (w : World) (hgp : gp < w.heap.size) (hgm : gm < w.heap.size) (hc1 : w.cell? ⟨gp, 0, none⟩ = some (.slice A2 P.length c2)) (hc2 : w.cell? ⟨gm, 0, none⟩ = some (.int .i64 mg)) (hs2 : Sl w B A2 (pcells P)) (hB : B ≤ w.heap.size) (hp : pathM P = true) (hd : vDanger s x y r = true) :
    Calls Tryz.prog 38 #[.agg #[.string s, .int .i64 x, .int .i64 y, .int .i64 r], .pointer (some ⟨gp, 0, none⟩), .pointer (some ⟨gm, 0, none⟩)] w fun e w' => e = .returned (.bool (decide (ctM P x y (P.length - 1) - r < mg))) ∧ Below w.heap.size w w' := by
  obtain ⟨pa, pb, pc⟩ := path_yes hp
  obtain ⟨q1, q2⟩ := dang_yes hd
  have hcl := fun w' (hb' : Below w.heap.size w w') => impl_Clear P A2 c2 B s x y r w' (hs2.below (hb'.mono hB)) (Nat.le_trans hB hb'.size) pc pa pb q1 q2
  obtain ⟨D, hD⟩ : ∃ D, ctM P x y (P.length - 1) - r = D := ⟨_, rfl⟩
  simp only [hD] at hcl
  rw [hD]
  have HCL := Lib.hid hcl
  clear hcl hs2 pa pb pc q1 q2 hp hd hD
  go_enter Tryz.func38, Tryz.ntmps38
  go_wp2_with fail
  refine wp_region_grew (by kernel_rfl) (by kernel_rfl) ?_
  repeat (first | (go_big_quiet_step ((first | (go_at_call 39; exact grew_of (HCL.out _ ((show Below w.heap.size w _ by go_grown).trans ((Grew.below _).mono (by simp)))))))) | (quiet_step ((first | (go_at_call 39; exact grew_of (HCL.out _ ((show Below w.heap.size w _ by go_grown).trans ((Grew.below _).mono (by simp)))))))))
  refine wpQuiet_nil ?_
  rintro w9 ⟨⟨w8, hb9⟩, rfl⟩
  try dsimp only
  obtain ⟨hc9, hf9⟩ := bcell hb9
  go_wp2
  go_ret
  exact ⟨rfl, bnext (by go_grown) hb9⟩

def onC (L : List RDanger) (P : List (Int × Int)) (mg : Int) : Int := if vDangsM L && pathM P then (if inB mg 0 20000 then 0 else 2) else 1
def onN (L : List RDanger) (P : List (Int × Int)) (mg : Int) : List ByteArray := if onC L P mg = 0 then namesTo (nearP P mg) L L.length else []
theorem onN_le (L : List RDanger) (P : List (Int × Int)) (mg : Int) : (onN L P mg).length ≤ L.length := by
  unfold onN
  split
  · exact namesTo_le _ _ _
  · simp
theorem away_any (n : Int) (w : World) : Calls Tryz.prog 36 #[.int .i64 n] w fun e w' => e = .returned (.bool (inB n 0 20000)) ∧ w = w' := by
  go_enter Tryz.func36, Tryz.ntmps36
  go_wp2_with (go_at_call 74; refine (within_any _ _ _ _).mono ?_; rintro e w' ⟨rfl, rfl⟩)
  go_ret
  exact ⟨rfl, rfl⟩
set_option maxHeartbeats 1600000 in
theorem impl_DOn_ok (L : List RDanger) (A : Option Addr) (c B : Nat) (P : List (Int × Int)) (A2 : Option Addr) (c2 : Nat) (mg : Int) (w : World) (hs : Sl w B A (flat RDanger.cells L)) (hs2 : Sl w B A2 (pcells P)) (hB : B ≤ w.heap.size) (hok : ∀ a ∈ L, a.ok) (hl : L.length ≤ 1048576) (hv : vDangsM L = true) (hp : pathM P = true) (hmg : inB mg 0 20000 = true) : Calls Tryz.prog 7 #[.slice A L.length c, .slice A2 P.length c2, .int .i64 mg] w fun e w' => ∃ v, e = .returned (.tuple #[v, .int .i64 0]) ∧ Below w.heap.size w w' ∧ Rs w' w.heap.size 9 1 v (namesTo (nearP P mg) L L.length).length ((namesTo (nearP P mg) L L.length).map Value.string) := by
  have hs' := Lib.hid hs
  have hok' := Lib.hid hok
  have hs2' := Lib.hid hs2
  have hl2 : P.length ≤ 1048576 := by have := path_yes hp; omega
  clear hs hs2 hok
  go_enter Tryz.func7, Tryz.ntmps7
  go_wp2_with (first | (go_at_call 34; refine (impl_ValidDangers L _ _ B _ (hs'.out.below ((show Below w.heap.size w _ by go_grown).mono hB)) (by simp; omega) hok'.out hl).mono ?_; rintro e w1 ⟨rfl, hb1⟩; have hB1 := bnext (w := w) (by go_grown) hb1; have hS1 := hB1.size; ((have hz1 : w.heap.size < w1.heap.size := by have := hb1.size; (try simp only [World.size_alloc, World.size_setCell, World.size_drew] at this); omega); (have hy1 : w.heap.size + 1 < w1.heap.size := by have := hb1.size; (try simp only [World.size_alloc, World.size_setCell, World.size_drew] at this); omega)); obtain ⟨hc1, hf1⟩ := bcell hb1; clear hb1) | (go_at_call 35; refine (impl_Path P _ _ B _ (hs2'.out.below ((show Below w.heap.size w _ by go_grown).mono hB)) (by have := hS1; omega) hl2).mono ?_; rintro e w1 ⟨rfl, hb1⟩; have hB1 := bnext (w := w) (by go_grown) hb1; have hS1 := hB1.size; ((have hz1 : w.heap.size < w1.heap.size := by have := hb1.size; (try simp only [World.size_alloc, World.size_setCell, World.size_drew] at this); omega); (have hy1 : w.heap.size + 1 < w1.heap.size := by have := hb1.size; (try simp only [World.size_alloc, World.size_setCell, World.size_drew] at this); omega)); obtain ⟨hc1, hf1⟩ := bcell hb1; clear hb1) | (go_at_call 36; refine (away_any _ _).mono ?_; rintro e w' ⟨rfl, rfl⟩))
  have q1 : w1.cell? ⟨w.heap.size, 0, none⟩ = some (.slice A2 P.length c2) := by simp [go_sem, *]
  have q2 : w1.cell? ⟨w.heap.size + 1, 0, none⟩ = some (.int .i64 mg) := by simp [go_sem, *]
  refine (names_on L A c B (nearP P mg) w.heap.size (w.heap.size + 1) w1 (hs'.out.below (hB1.mono hB)) (by omega) hl ?_).mono ?_
  · intro k hk w' hb
    exact clos_DOn _ _ _ _ mg P A2 c2 B w.heap.size (w.heap.size + 1) w' (by have := hb.size; omega) (by have := hb.size; omega) ((hb.cell (p := ⟨w.heap.size, 0, none⟩) hz1).trans q1) ((hb.cell (p := ⟨w.heap.size + 1, 0, none⟩) hy1).trans q2) (hs2'.out.below ((bnext hB1 hb).mono hB)) (by have := hb.size; omega) hp (vDangs_at hv hk)
  rintro e w2 ⟨v, rfl, hb2, hR⟩
  go_wp2
  go_ret2
  exact ⟨v, rfl, bnext hB1 hb2, hR.more (by omega)⟩
theorem impl_DOn_no (L : List RDanger) (A : Option Addr) (c B : Nat) (P : List (Int × Int)) (A2 : Option Addr) (c2 : Nat) (mg : Int) (w : World) (hs : Sl w B A (flat RDanger.cells L)) (hs2 : Sl w B A2 (pcells P)) (hB : B ≤ w.heap.size) (hok : ∀ a ∈ L, a.ok) (hl : L.length ≤ 1048576) (hl2 : P.length ≤ 1048576) (h : ¬ (vDangsM L = true ∧ pathM P = true ∧ inB mg 0 20000 = true)) : Calls Tryz.prog 7 #[.slice A L.length c, .slice A2 P.length c2, .int .i64 mg] w fun e w' => e = .returned (.tuple #[.slice none 0 0, .int .i64 (onC L P mg)]) ∧ Below w.heap.size w w' := by
  have hs' := Lib.hid hs
  have hok' := Lib.hid hok
  have hs2' := Lib.hid hs2
  clear hs hs2 hok
  cases h1 : vDangsM L
  · have HC : Hid (onC L P mg = 1) := Lib.hid (by unfold onC; rw [h1]; rfl)
    clear h
    go_enter Tryz.func7, Tryz.ntmps7
    go_wp2_with (first | (go_at_call 34; refine (impl_ValidDangers L _ _ B _ (hs'.out.below ((show Below w.heap.size w _ by go_grown).mono hB)) (by simp; omega) hok'.out hl).mono ?_; rintro e w1 ⟨rfl, hb1⟩; have hB1 := bnext (w := w) (by go_grown) hb1; have hS1 := hB1.size; ((have hz1 : w.heap.size < w1.heap.size := by have := hb1.size; (try simp only [World.size_alloc, World.size_setCell, World.size_drew] at this); omega); (have hy1 : w.heap.size + 1 < w1.heap.size := by have := hb1.size; (try simp only [World.size_alloc, World.size_setCell, World.size_drew] at this); omega)); obtain ⟨hc1, hf1⟩ := bcell hb1; clear hb1) | (go_at_call 35; refine (impl_Path P _ _ B _ (hs2'.out.below ((show Below w.heap.size w _ by go_grown).mono hB)) (by have := hS1; omega) hl2).mono ?_; rintro e w1 ⟨rfl, hb1⟩; have hB1 := bnext (w := w) (by go_grown) hb1; have hS1 := hB1.size; ((have hz1 : w.heap.size < w1.heap.size := by have := hb1.size; (try simp only [World.size_alloc, World.size_setCell, World.size_drew] at this); omega); (have hy1 : w.heap.size + 1 < w1.heap.size := by have := hb1.size; (try simp only [World.size_alloc, World.size_setCell, World.size_drew] at this); omega)); obtain ⟨hc1, hf1⟩ := bcell hb1; clear hb1) | (go_at_call 36; refine (away_any _ _).mono ?_; rintro e w' ⟨rfl, rfl⟩))
    go_ret2
    exact ⟨by rw [HC.out]; rfl, by go_grown⟩
  cases h2 : pathM P
  · have HC : Hid (onC L P mg = 1) := Lib.hid (by unfold onC; rw [h1, h2]; rfl)
    clear h
    go_enter Tryz.func7, Tryz.ntmps7
    go_wp2_with (first | (go_at_call 34; refine (impl_ValidDangers L _ _ B _ (hs'.out.below ((show Below w.heap.size w _ by go_grown).mono hB)) (by simp; omega) hok'.out hl).mono ?_; rintro e w1 ⟨rfl, hb1⟩; have hB1 := bnext (w := w) (by go_grown) hb1; have hS1 := hB1.size; ((have hz1 : w.heap.size < w1.heap.size := by have := hb1.size; (try simp only [World.size_alloc, World.size_setCell, World.size_drew] at this); omega); (have hy1 : w.heap.size + 1 < w1.heap.size := by have := hb1.size; (try simp only [World.size_alloc, World.size_setCell, World.size_drew] at this); omega)); obtain ⟨hc1, hf1⟩ := bcell hb1; clear hb1) | (go_at_call 35; refine (impl_Path P _ _ B _ (hs2'.out.below ((show Below w.heap.size w _ by go_grown).mono hB)) (by have := hS1; omega) hl2).mono ?_; rintro e w1 ⟨rfl, hb1⟩; have hB1 := bnext (w := w) (by go_grown) hb1; have hS1 := hB1.size; ((have hz1 : w.heap.size < w1.heap.size := by have := hb1.size; (try simp only [World.size_alloc, World.size_setCell, World.size_drew] at this); omega); (have hy1 : w.heap.size + 1 < w1.heap.size := by have := hb1.size; (try simp only [World.size_alloc, World.size_setCell, World.size_drew] at this); omega)); obtain ⟨hc1, hf1⟩ := bcell hb1; clear hb1) | (go_at_call 36; refine (away_any _ _).mono ?_; rintro e w' ⟨rfl, rfl⟩))
    go_ret2
    exact ⟨by rw [HC.out]; rfl, by go_grown⟩
  cases h3 : inB mg 0 20000
  · have HC : Hid (onC L P mg = 2) := Lib.hid (by unfold onC; rw [h1, h2, h3]; rfl)
    clear h
    go_enter Tryz.func7, Tryz.ntmps7
    go_wp2_with (first | (go_at_call 34; refine (impl_ValidDangers L _ _ B _ (hs'.out.below ((show Below w.heap.size w _ by go_grown).mono hB)) (by simp; omega) hok'.out hl).mono ?_; rintro e w1 ⟨rfl, hb1⟩; have hB1 := bnext (w := w) (by go_grown) hb1; have hS1 := hB1.size; ((have hz1 : w.heap.size < w1.heap.size := by have := hb1.size; (try simp only [World.size_alloc, World.size_setCell, World.size_drew] at this); omega); (have hy1 : w.heap.size + 1 < w1.heap.size := by have := hb1.size; (try simp only [World.size_alloc, World.size_setCell, World.size_drew] at this); omega)); obtain ⟨hc1, hf1⟩ := bcell hb1; clear hb1) | (go_at_call 35; refine (impl_Path P _ _ B _ (hs2'.out.below ((show Below w.heap.size w _ by go_grown).mono hB)) (by have := hS1; omega) hl2).mono ?_; rintro e w1 ⟨rfl, hb1⟩; have hB1 := bnext (w := w) (by go_grown) hb1; have hS1 := hB1.size; ((have hz1 : w.heap.size < w1.heap.size := by have := hb1.size; (try simp only [World.size_alloc, World.size_setCell, World.size_drew] at this); omega); (have hy1 : w.heap.size + 1 < w1.heap.size := by have := hb1.size; (try simp only [World.size_alloc, World.size_setCell, World.size_drew] at this); omega)); obtain ⟨hc1, hf1⟩ := bcell hb1; clear hb1) | (go_at_call 36; refine (away_any _ _).mono ?_; rintro e w' ⟨rfl, rfl⟩))
    go_ret2
    exact ⟨by rw [HC.out]; rfl, by go_grown⟩
  · exact absurd ⟨h1, h2, h3⟩ h
theorem impl_DOn (L : List RDanger) (A : Option Addr) (c B : Nat) (P : List (Int × Int)) (A2 : Option Addr) (c2 : Nat) (mg : Int) (w : World) (hs : Sl w B A (flat RDanger.cells L)) (hs2 : Sl w B A2 (pcells P)) (hB : B ≤ w.heap.size) (hok : ∀ a ∈ L, a.ok) (hl : L.length ≤ 1048576) (hl2 : P.length ≤ 1048576) : Calls Tryz.prog 7 #[.slice A L.length c, .slice A2 P.length c2, .int .i64 mg] w fun e w' => ∃ v, e = .returned (.tuple #[v, .int .i64 (onC L P mg)]) ∧ Below w.heap.size w w' ∧ Rs w' w.heap.size 9 1 v (onN L P mg).length ((onN L P mg).map Value.string) := by
  by_cases h : vDangsM L = true ∧ pathM P = true ∧ inB mg 0 20000 = true
  · refine (impl_DOn_ok L A c B P A2 c2 mg w hs hs2 hB hok hl h.1 h.2.1 h.2.2).mono ?_
    rintro e w' ⟨v, rfl, hb, hR⟩
    have e1 : onC L P mg = 0 := by unfold onC; rw [h.1, h.2.1, h.2.2]; rfl
    have e2 : onN L P mg = namesTo (nearP P mg) L L.length := by unfold onN; rw [if_pos e1]
    exact ⟨v, by rw [e1], hb, by rw [e2]; exact hR⟩
  · refine (impl_DOn_no L A c B P A2 c2 mg w hs hs2 hB hok hl hl2 h).mono ?_
    rintro e w' ⟨rfl, hb⟩
    have e2 : onN L P mg = [] := by
      unfold onN
      rw [if_neg]
      intro e1
      apply h
      unfold onC at e1
      cases h1 : vDangsM L <;> cases h2 : pathM P <;> cases h3 : inB mg 0 20000 <;> simp [h1, h2, h3] at e1 ⊢
    exact ⟨_, rfl, hb, by rw [e2]; exact Rs.nil _ _ _ _⟩
end Go.Proofs.YthjkkidcpidgdaaGreatDoor

set_option linter.unusedVariables false
set_option linter.unnecessarySimpa false
set_option maxRecDepth 100000
set_option linter.unusedSimpArgs false
namespace Go.Proofs.YthjkkidcpidgdaaGreatDoor
open Go.RowKit BigFrame Go.Deep
def pts (P : List RPoint) : List (Int × Int) := P.map fun a => (a.f0, a.f1)
theorem flat_pts (L : List RPoint) : flat RPoint.cells L = pcells (pts L) := by
  induction L with
  | nil => rfl
  | cons a L ih => rw [flat_cons, ih]; rfl
theorem pts_len (P : List RPoint) : (pts P).length = P.length := List.length_map _
theorem namesTo_at {f : RDanger → Bool} {D : List RDanger} {k : Nat} (hk : k < D.length) (h : f D[k] = true) : (namesTo f D k).length < (namesTo f D D.length).length ∧ (namesTo f D D.length)[(namesTo f D k).length]? = some D[k].f0 := by
  have e : namesTo f D D.length = namesTo f D k ++ D[k].f0 :: ((D.drop (k + 1)).filter f).map RDanger.f0 := by
    unfold namesTo
    rw [List.take_length]
    conv => lhs; rw [← List.take_append_drop k D, List.drop_eq_getElem_cons hk]
    rw [List.filter_append, List.filter_cons_of_pos h, List.map_append, List.map_cons]
  rw [e]
  constructor
  · rw [List.length_append, List.length_cons]; omega
  · rw [List.getElem?_append_right (Nat.le_refl _), Nat.sub_self]; rfl
theorem one_dang (a : RDanger) : vDangsM [a] = a.v := by
  unfold vDangsM
  cases h : a.v <;> simp [h, allTo, okDang]
theorem one_path (x y : Int) : pathM [(x, y)] = vPoint x y := by
  unfold pathM vPoints
  simp
theorem one_near (a : RDanger) (px py : Int) : (namesTo (nearD px py) [a] 1).length = if nearD px py a then 1 else 0 := by
  unfold namesTo
  cases h : nearD px py a <;> simp [h]
theorem dg_pt {s : ByteArray} {x y r : Int} (h : vDanger s x y r = true) : vPoint x y = true := by
  unfold vDanger at h; rw [Bool.and_eq_true, Bool.and_eq_true] at h; exact h.2.1
theorem dang_read (s : ByteArray) (x y r : Int) (h1 : -100000000000000000 < r) (h2 : r < 100000000000000000) : ∃ (S : ByteArray) (X Y R : Int), (dgS (dangX s x y r).data.toList (ba (rlA (dangX s x y r).data.toList 0)) = S ∧ dg (dangX s x y r).data.toList (rpX (rlA (dangX s x y r).data.toList 1)) = X ∧ dg (dangX s x y r).data.toList (rpY (rlA (dangX s x y r).data.toList 1)) = Y ∧ dg (dangX s x y r).data.toList (rdV (ba (rlA (dangX s x y r).data.toList 2))) = R ∧ dgOk (dangX s x y r).data.toList = vDanger s x y r) ∧ (vDanger s x y r = true → S = s ∧ X = x ∧ Y = y ∧ R = r) := by
  cases hv : vDanger s x y r
  · have e : dangX s x y r = ⟨#[]⟩ := by unfold dangX; rw [hv]; rfl
    refine ⟨_, _, _, _, ⟨rfl, rfl, rfl, rfl, ?_⟩, fun h => by cases h⟩
    rw [e]; rfl
  · have e : dangX s x y r = dangT s x y r := by unfold dangX; rw [hv]; rfl
    rw [e]
    obtain ⟨q0, q1, q2, q3, q4⟩ := dang_back hv (dg_pt hv) h1 h2
    exact ⟨s, x, y, r, ⟨q1, q2, q3, q4, q0⟩, fun _ => ⟨rfl, rfl, rfl, rfl⟩⟩
theorem dangX_size {s : ByteArray} {x y r : Int} (hs : s.size ≤ 8) (hx : IntKind.i64.has x) (hy : IntKind.i64.has y) (hr : IntKind.i64.has r) : (dangX s x y r).size ≤ 1048576 := by
  unfold dangX
  split
  · have h1 := ptT_size hx hy
    have hr' := has_i64 hr
    have h2 := decT_size hr'.1 hr'.2
    have h3 : (⟨#[32]⟩ : ByteArray).size = 1 := rfl
    unfold dangT
    rw [ByteArray.size_append, ByteArray.size_append, ByteArray.size_append, ByteArray.size_append]
    omega
  · decide
def oneC (s : ByteArray) (x y r px py : Int) : Int := if vDanger s x y r && vPoint px py then 0 else 1
def oneN (s : ByteArray) (x y r px py : Int) : Nat := if (vDanger s x y r && vPoint px py) && nearD px py ⟨s, x, y, r⟩ then 1 else 0
def oneV (s : ByteArray) (x y r px py : Int) : Int := if vDanger s x y r && vPoint px py then distM px py x y - r else 0
theorem one_case (s : ByteArray) (x y r px py : Int) : oneC s x y r px py = 1 ∨ (oneC s x y r px py = 0 ∧ oneN s x y r px py = 1 ∧ oneV s x y r px py ≤ 0) ∨ (oneC s x y r px py = 0 ∧ oneN s x y r px py = 0 ∧ ¬ oneV s x y r px py ≤ 0) := by
  unfold oneC oneN oneV
  cases vDanger s x y r && vPoint px py
  · exact Or.inl rfl
  · cases hn : nearD px py ⟨s, x, y, r⟩
    · refine Or.inr (Or.inr ⟨rfl, rfl, ?_⟩)
      have h : ¬ distM x y px py ≤ r := of_decide_eq_false hn
      rw [distM_sym] at h
      rw [if_pos rfl]; omega
    · refine Or.inr (Or.inl ⟨rfl, rfl, ?_⟩)
      have h : distM x y px py ≤ r := of_decide_eq_true hn
      rw [distM_sym] at h
      rw [if_pos rfl]; omega
theorem one_DAt (s : ByteArray) (x y r px py : Int) (hok : (⟨s, x, y, r⟩ : RDanger).ok) (w : World) : Calls Tryz.prog 13 #[.slice (some ⟨w.heap.size, 0, none⟩) 1 1, .agg #[.int .i64 px, .int .i64 py]] (w.alloc (.cells #[.string s, .int .i64 x, .int .i64 y, .int .i64 r] 36)) fun e w' => ∃ (A : Option Addr) (c : Nat), e = .returned (.tuple #[.slice A (oneN s x y r px py) c, .int .i64 (oneC s x y r px py)]) ∧ Below w.heap.size w w' := by
  have hs : Sl (w.alloc (.cells #[.string s, .int .i64 x, .int .i64 y, .int .i64 r] 36)) (w.heap.size + 1) (some ⟨w.heap.size, 0, none⟩) (flat RDanger.cells [⟨s, x, y, r⟩]) := Sl.new w _ _
  have hal : Below w.heap.size w (w.alloc (.cells #[.string s, .int .i64 x, .int .i64 y, .int .i64 r] 36)) := by go_grown
  have hok1 : ∀ a ∈ [(⟨s, x, y, r⟩ : RDanger)], a.ok := fun a ha => by rw [List.mem_singleton] at ha; rw [ha]; exact hok
  by_cases h : vDangsM [⟨s, x, y, r⟩] = true ∧ vPoint px py = true
  · have hv : (vDanger s x y r && vPoint px py) = true := by
      have h1 := h.1
      rw [one_dang] at h1
      rw [Bool.and_eq_true]; exact ⟨h1, h.2⟩
    refine (impl_DAt_ok [⟨s, x, y, r⟩] (some ⟨w.heap.size, 0, none⟩) 1 (w.heap.size + 1) px py _ hs (by simp) hok1 (by simp) h.1 h.2).mono ?_
    rintro e w' ⟨v, rfl, hb, hR⟩
    obtain ⟨A, c, rfl, -⟩ := hR.sl
    refine ⟨A, c, ?_, bnext hal hb⟩
    have e1 : oneC s x y r px py = 0 := by unfold oneC; rw [hv]; rfl
    have e2 : oneN s x y r px py = (namesTo (nearD px py) [⟨s, x, y, r⟩] [(⟨s, x, y, r⟩ : RDanger)].length).length := by
      have := one_near ⟨s, x, y, r⟩ px py
      unfold oneN; rw [hv]
      exact this.symm
    rw [e1, e2]
  · have hv : (vDanger s x y r && vPoint px py) = false := by
      rw [one_dang] at h
      rw [← Bool.not_eq_true, Bool.and_eq_true]; exact h
    refine (impl_DAt_no [⟨s, x, y, r⟩] (some ⟨w.heap.size, 0, none⟩) 1 (w.heap.size + 1) px py _ hs (by simp) hok1 (by simp) h).mono ?_
    rintro e w' ⟨rfl, hb⟩
    refine ⟨none, 0, ?_, bnext hal hb⟩
    have e1 : oneC s x y r px py = 1 := by unfold oneC; rw [hv]; rfl
    have e2 : oneN s x y r px py = 0 := by unfold oneN; rw [hv]; rfl
    rw [e1, e2]
theorem one_CO (s : ByteArray) (x y r px py : Int) (hz : s.size ≤ maxLen) (w : World) : Calls Tryz.prog 8 #[.agg #[.string s, .int .i64 x, .int .i64 y, .int .i64 r], .slice (some ⟨w.heap.size, 0, none⟩) 1 1] (w.alloc (.cells #[.int .i64 px, .int .i64 py] 34)) fun e w' => e = .returned (.tuple #[.int .i64 (oneV s x y r px py), .int .i64 (oneC s x y r px py)]) ∧ Below w.heap.size w w' := by
  have hs : Sl (w.alloc (.cells #[.int .i64 px, .int .i64 py] 34)) (w.heap.size + 1) (some ⟨w.heap.size, 0, none⟩) (pcells [(px, py)]) := Sl.new w _ _
  have hal : Below w.heap.size w (w.alloc (.cells #[.int .i64 px, .int .i64 py] 34)) := by go_grown
  refine (impl_CO [(px, py)] (some ⟨w.heap.size, 0, none⟩) 1 (w.heap.size + 1) s hz x y r _ hs (by simp) (by simp)).mono ?_
  rintro e w' ⟨rfl, hb⟩
  refine ⟨?_, bnext hal hb⟩
  have e1 : coC [(px, py)] s x y r = oneC s x y r px py := by unfold coC coOk oneC; rw [one_path]
  have e2 : coV [(px, py)] s x y r = oneV s x y r px py := by unfold coV coOk oneV; rw [one_path]; rfl
  rw [e1, e2]
set_option maxHeartbeats 400000 in
theorem fnDangers.env_of {W : World} (hsh : W.ShapedOpen Tryz.prog) (h : laidMetH Tryz.prog Rows.fnDangersRow.laid W) : Env W := by
  rw [MakeChecks.laidMetH_plain _ _ _ (by kernel_rfl)] at h
  have hT : Tab W := Lib.tabIs_of_head tabVar (by kernel_rfl) Tryz.underlying181 Tryz.underlying98 (by kernel_rfl) (by kernel_rfl) h.tail.tail
  obtain ⟨a0, s0, hv0, -, -, -⟩ := laid_sentinel h.tail.tail.tail.tail ranVar (by kernel_rfl) Tryz.underlying115 rowErr Tryz.underlying189 Tryz.underlying191 rfl rfl Tryz.underlying9 (by kernel_rfl) (by kernel_rfl)
  obtain ⟨a1, s1, hv1, -, -, -⟩ := laid_sentinel h.tail.tail.tail.tail.tail synVar (by kernel_rfl) Tryz.underlying115 rowErr Tryz.underlying189 Tryz.underlying191 rfl rfl Tryz.underlying9 (by kernel_rfl) (by kernel_rfl)
  exact ⟨hT, ⟨_, _, hv1⟩, ⟨_, _, hv0⟩, cell_of_shapedOpen_int (zero := #[.int .i64 0]) (t := 3) hsh (of_decide_eq_true (by kernel_rfl)) (by kernel_rfl) rfl (by kernel_rfl) (by kernel_rfl) Tryz.underlying3⟩
namespace fnDangers
open Go.ChangeShapes Go.WideShapes Go.ChangeAt Go.RowKit
set_option linter.unusedVariables false
set_option maxHeartbeats 6400000 in
theorem walk (W : World) (A0 : Option Addr) (c0 : Nat) (L0 : List Int) (s0 : Sl W W.heap.size A0 (bytesL L0)) (b0 : ∀ z ∈ L0, IntKind.u8.has z) (m0 : L0.length ≤ maxLen) (A1 : Option Addr) (c1 : Nat) (L1 : List Int) (s1 : Sl W W.heap.size A1 (bytesL L1)) (b1 : ∀ z ∈ L1, IntKind.u8.has z) (m1 : L1.length ≤ maxLen) (hE : Env W) :
    Calls Tryz.prog 3 #[.slice A0 L0.length c0, .slice A1 L1.length c1] W fun e w' => e = .returned (.bool true) ∧ Below W.heap.size W w' := by
  by_cases hl0 : 1048576 < L0.length
  · go_enter Tryz.func3, Tryz.ntmps3
    go_wp2_with (first | (go_at_call 5; refine (b10Long_any _ _ _ _ (by assumption)).mono ?_; rintro e w' ⟨rfl, rfl⟩))
    go_ret
    exact ⟨rfl, Below.refl _ _⟩
  by_cases hl1 : 1048576 < L1.length
  · go_enter Tryz.func3, Tryz.ntmps3
    go_wp2_with (first | (go_at_call 5; refine (b10Long_any _ _ _ _ (by assumption)).mono ?_; rintro e w' ⟨rfl, rfl⟩))
    go_ret
    exact ⟨rfl, Below.refl _ _⟩
  have S0 := Lib.hid s0
  have S1 := Lib.hid s1
  have U0 := Lib.hid b0
  have U1 := Lib.hid b1
  have hE' := Lib.hid hE
  clear s0 s1 b0 b1 hE
  go_enter Tryz.func3, Tryz.ntmps3
  go_wp2_with (go_at_call 5; refine (b10Long_any _ _ _ _ (by assumption)).mono ?_; rintro e w' ⟨rfl, rfl⟩)
  refine (draw_don L0 _ _ W.heap.size _ S0.out (Nat.le_refl _) U0.out (by omega)).mono ?_
  rintro e w1 ⟨D, P, mg, hmg, hD, hDl, hPl, v, v2, rfl, hb1, hRD, hRP⟩
  obtain ⟨A, c, rfl, -⟩ := hRD.sl
  obtain ⟨A2, c2, rfl, -⟩ := hRP.sl
  have HD := Lib.hid hD.ok
  have hpl : (pts P).length = P.length := pts_len P
  rw [← hpl] at hRP ⊢
  rw [flat_pts] at hRP
  have hpl2 : (pts P).length ≤ 65 := by omega
  generalize pts P = Q at hRP hpl2 ⊢
  clear hD hpl hPl P
  go_wp2_with fail
  obtain ⟨A', c', e', hslD⟩ := hRD.sl
  injection e' with e1 e2 e3
  subst e1 e3
  obtain ⟨A'2, c'2, e', hslP⟩ := hRP.sl
  injection e' with e1 e4 e3
  subst e1 e3
  refine (impl_DOn D A c w1.heap.size Q A2 c2 mg _ hslD hslP (Nat.le_refl _) HD.out (by omega) (by omega)).mono ?_
  rintro e w2 ⟨vN, rfl, hb2, hRN⟩
  have hB2 := bnext hb1 hb2
  have hRD2 := hRD.on hb2
  have hRP2 := hRP.on hb2
  have hW1 : W.heap.size ≤ w1.heap.size := hb1.size
  clear hslD hslP hRD hRP hb1 hb2 e2 e4
  go_upto_if 42 with fail
  go_cut [4, 8, 9, 10, 11, 12, 13] (fun u0 _ _ _ _ _ _ wx => u0 = .bool false ∧ ∃ wz, wz = wx ∧ Below W.heap.size W wz)
  case first =>
    by_cases hC : onC D Q mg = 0
    · have hval : vDangsM D = true ∧ pathM Q = true ∧ onN D Q mg = namesTo (nearP Q mg) D D.length := by
        refine ⟨?_, ?_, by unfold onN; rw [if_pos hC]⟩
        · unfold onC at hC
          cases h1 : vDangsM D
          · rw [h1] at hC; simp at hC
          · rfl
        · unfold onC at hC
          cases h1 : pathM Q
          · rw [h1] at hC; simp at hC
          · rfl
      obtain ⟨hvD, hvQ, hN⟩ := hval
      rw [hN] at hRN
      rw [hC]
      obtain ⟨AN, cN, rfl, -⟩ := hRN.sl
      have HV := Lib.hid hvD
      have HQ := Lib.hid hvQ
      clear hC hN hvD hvQ
      obtain ⟨nN, hnN⟩ : ∃ n, (namesTo (nearP Q mg) D D.length).length = n := ⟨_, rfl⟩
      rw [hnN] at hRN ⊢
      have HN := Lib.hid hnN
      have hnl : nN ≤ 25 := by have := namesTo_le (nearP Q mg) D D.length; omega
      clear hnN
      go_wp2_with fail
      go_loopw [4, 10, 11] (fun rv av iv wr => rv = .bool false ∧ ∃ k j : Nat, iv = .int .i64 k ∧ av = .int .i64 j ∧ k ≤ D.length ∧ j = (namesTo (nearP Q mg) D k).length ∧ Below W.heap.size W wr ∧ Rs wr W.heap.size 36 4 (.slice A D.length c) D.length (flat RDanger.cells D) ∧ Rs wr W.heap.size 34 2 (.slice A2 Q.length c2) Q.length (pcells Q) ∧ Rs wr W.heap.size 9 1 (.slice AN nN cN) nN ((namesTo (nearP Q mg) D D.length).map Value.string)) (fun _ _ iv _ => D.length - (intOf iv).toNat)
      case atStart => exact ⟨rfl, 0, 0, rfl, rfl, Nat.zero_le _, rfl, hB2, hRD2, hRP2, hRN.more hW1⟩
      case round =>
        clear hB2 hRD2 hRP2 hRN
        obtain ⟨rfl, k, j, rfl, rfl, hk, hj, hBr, hRDr, hRPr, hRNr⟩ := hrel
        have hSr := hBr.size
        have HJ := Lib.hid hj
        clear hj
        by_cases hlt : k < D.length
        · have hkI : (k : Int) < (D.length : Int) := by omega
          obtain ⟨A', c', e', hslD⟩ := hRDr.sl
          injection e' with e1 e2 e3
          subst e1 e3
          obtain ⟨A'2, c'2, e', hslP⟩ := hRPr.sl
          injection e' with e1 e4 e3
          subst e1 e3
          obtain ⟨b, o, e5, hb, he⟩ := Sl.elem RDanger.len (by decide) hslD hlt
          subst e5
          have hvk := vDangs_at HV.out hlt
          have hok := (HD.out D[k] (List.getElem_mem hlt)).1
          have Hat := Lib.hid (fun h => namesTo_at (f := nearP Q mg) hlt h)
          have Hhit := Lib.hid (fun h => namesTo_hit (f := nearP Q mg) hlt h)
          have Hmiss := Lib.hid (fun h => namesTo_miss (f := nearP Q mg) hlt h)
          obtain ⟨a, ha⟩ : ∃ a, D[k] = a := ⟨_, rfl⟩
          rw [ha] at he hvk hok Hat Hhit Hmiss
          have d0 : wr.cell? ⟨b, o + k * 4, none⟩ = some (.string a.f0) := by have := he 0 _ rfl; simpa [Nat.add_assoc] using this
          have d1 : wr.cell? ⟨b, o + k * 4 + 1, none⟩ = some (.int .i64 a.f1) := by have := he 1 _ rfl; simpa [Nat.add_assoc] using this
          have d2 : wr.cell? ⟨b, o + k * 4 + 2, none⟩ = some (.int .i64 a.f2) := by have := he 2 _ rfl; simpa [Nat.add_assoc] using this
          have d3 : wr.cell? ⟨b, o + k * 4 + 3, none⟩ = some (.int .i64 a.f3) := by have := he 3 _ rfl; simpa [Nat.add_assoc] using this
          have hco : coC Q a.f0 a.f1 a.f2 a.f3 = 0 ∧ coV Q a.f0 a.f1 a.f2 a.f3 = ctM Q a.f1 a.f2 (Q.length - 1) - a.f3 := by unfold coC coV coOk; rw [hvk, HQ.out]; exact ⟨rfl, rfl⟩
          have hnp : nearP Q mg a = decide (ctM Q a.f1 a.f2 (Q.length - 1) - a.f3 < mg) := rfl
          clear he hvk ha hslD
          go_wp2_with fail
          refine (impl_CO Q A2 c2 wr.heap.size a.f0 hok a.f1 a.f2 a.f3 _ hslP (Nat.le_refl _) (by omega)).mono ?_
          rintro e w3 ⟨rfl, hb3⟩
          rw [hco.1, hco.2]
          have hB3 := bnext hBr hb3
          have hRD3 := hRDr.on hb3
          have hRP3 := hRPr.on hb3
          have hRN3 := hRNr.on hb3
          have hb3z := hb3.size
          obtain ⟨hc3, _⟩ := bcell hb3
          replace d0 := (hc3 _ _ hb).trans d0
          have hb' : b < w3.heap.size := by omega
          clear hslP hRDr hRPr hRNr hBr hb3 d1 d2 d3 hc3 hco e2 e4
          generalize ctM Q a.f1 a.f2 (Q.length - 1) - a.f3 = cv at hnp
          by_cases hnr : cv < mg
          · have hnt : nearP Q mg a = true := by rw [hnp]; exact decide_eq_true hnr
            have h1 := Hat.out hnt
            have HH := Lib.hid (Hhit.out hnt)
            rw [← HJ.out, HN.out] at h1
            obtain ⟨AN', cN', e', hslN⟩ := hRN3.sl
            injection e' with e1 e2 e3
            subst e1 e3
            have hxj : ((namesTo (nearP Q mg) D D.length).map Value.string)[j]? = some (.string a.f0) := by rw [List.getElem?_map, h1.2]; rfl
            obtain ⟨bN, oN, e6, hbN, heN⟩ := hslN (by intro e; rw [e] at hxj; simp at hxj)
            subst e6
            have g0 : w3.cell? ⟨bN, oN + j, none⟩ = some (.string a.f0) := by have := heN j _ hxj; simpa using this
            have hjI : (j : Int) < (nN : Int) := by have := h1.1; omega
            have hjN : j < nN := h1.1
            clear hslN hxj heN h1 hnp hnt Hat Hhit Hmiss e2
            go_wp2_with fail
            refine wp_region_grew (by kernel_rfl) (by kernel_rfl) ?_
            repeat (first | (go_big_quiet_step (fail)) | (quiet_step (fail)))
            refine wpQuiet_nil ?_
            rintro _ ⟨⟨w9, hb9⟩, rfl⟩
            try dsimp only
            obtain ⟨hc9, hf9⟩ := bcell hb9
            go_wp2_with fail
            go_roundw
            case rel => (repeat apply Exists.intro); exact ⟨⟨rfl, k + 1, j + 1, by go_num, by go_num, by omega, by rw [HH.out, List.length_append, ← HJ.out]; rfl, bnext hB3 hb9, hRD3.on hb9, hRP3.on hb9, hRN3.on hb9⟩, rfl⟩
            case measure => simp [intOf]; omega
          · have HM := Lib.hid (Hmiss.out (by rw [hnp]; exact decide_eq_false hnr))
            clear hnp Hat Hhit Hmiss
            go_wp2_with fail
            go_roundw
            case rel => (repeat apply Exists.intro); exact ⟨⟨rfl, k + 1, j, by go_num, by go_num, by omega, by rw [HM.out]; exact HJ.out, hB3, hRD3, hRP3, hRN3⟩, rfl⟩
            case measure => simp [intOf]; omega
        · obtain rfl : k = D.length := by omega
          have hjn : j = nN := by rw [HJ.out]; exact HN.out
          subst hjn
          go_wp2_with fail
          go_meet
          exact ⟨rfl, _, rfl, hBr⟩
    · have hC2 : (onC D Q mg == 0) = false := beq_eq_false_iff_ne.2 hC
      generalize onC D Q mg = cc at hC2
      go_wp2_with fail
      go_meet
      exact ⟨rfl, _, rfl, hB2⟩
  case rest =>
    clear hB2 hRD2 hRP2 hRN
    obtain ⟨rfl, w9, rfl, hB9⟩ := hcut
    go_wp2_with fail
    refine (draw_card L1 _ _ W.heap.size _ (S1.out.below hB9) hB9.size U1.out (by omega)).mono ?_
    rintro e w10 ⟨s, x, y, r, px, py, hd, rfl, hb10⟩
    have hB10 := bnext hB9 hb10
    go_upto_region 20 with fail
    refine wp_atB ?_
    intro w11 hw11
    have hB11 : Below W.heap.size W w11 := by rw [hw11]; exact bnext hB10 (by go_grown)
    have hF : Dw w11 w10.heap.size s x y r := by rw [hw11]; exact (Dw.new w10 s x y r 36).on (by go_grown)
    have hP : PtB w11 (w10.heap.size + 1) px py := by rw [hw11]; have := (Bp.new (w10.alloc (.cells #[.string s, .int .i64 x, .int .i64 y, .int .i64 r] 36)) px py 34).1; simpa using this
    clear hw11 hb10 hB10 hB9
    obtain ⟨h, hh⟩ : ∃ h, w10.heap.size = h := ⟨_, rfl⟩
    rw [hh] at hF hP ⊢
    clear hh
    obtain ⟨d1, d2, d3, d4⟩ := id hd
    unfold c1B at d2 d3
    have hsz : s.size ≤ maxLen := by unfold maxLen; omega
    have hx : IntKind.i64.has x := has_of (by omega)
    have hy : IntKind.i64.has y := has_of (by omega)
    have hr : IntKind.i64.has r := has_of (by omega)
    obtain ⟨_, f0, f1, f2, f3⟩ := id hF
    go_wp2_with fail
    refine (impl_DangerText s hsz x y r hx hy hr _ (hE'.out.on hB11).tab).mono ?_
    rintro e w12 ⟨rfl, hb12⟩
    have hB12 := bnext hB11 hb12
    replace hF := hF.on hb12
    replace hP := hP.on hb12
    have hX := dangX_size d1 hx hy hr
    go_wp2_with fail
    refine (impl_RDang (dangX s x y r) hX _ (hE'.out.on hB12)).mono ?_
    rintro e w13 ⟨rfl, hb13⟩
    have hB13 := bnext hB12 hb13
    replace hF := hF.on hb13
    replace hP := hP.on hb13
    obtain ⟨S', X', Y', R', ⟨q1, q2, q3, q4, q5⟩, hq⟩ := dang_read s x y r (by omega) (by omega)
    rw [q1, q2, q3, q4, q5]
    obtain ⟨ok, hok⟩ : ∃ ok, vDanger s x y r = ok := ⟨_, rfl⟩
    rw [hok] at hq ⊢
    have HQ := Lib.hid hq
    have HK := Lib.hid hok
    clear q1 q2 q3 q4 q5 hq hok hX hb12 hb13 hB11 hB12 f0 f1 f2 f3
    go_upto_region 21 with fail
    refine wp_atB ?_
    intro w14 hw14
    have hB14 : Below W.heap.size W w14 := by rw [hw14]; exact bnext hB13 (by go_grown)
    have hF4 : Dw w14 h s x y r := by rw [hw14]; exact hF.on (by go_grown)
    have hP4 : PtB w14 (h + 1) px py := by rw [hw14]; exact hP.on (by go_grown)
    have hG4 : Dw w14 w13.heap.size S' X' Y' R' := by rw [hw14]; exact (Dw.new w13 S' X' Y' R' 36).on (by go_grown)
    clear hw14 hB13 hF hP
    obtain ⟨g, hg⟩ : ∃ g, w13.heap.size = g := ⟨_, rfl⟩
    rw [hg] at hG4 ⊢
    clear hg
    go_cut [107] (fun u wx => u = .bool false ∧ ∃ wz, wz = wx ∧ Below W.heap.size W wz ∧ Dw wz h s x y r ∧ PtB wz (h + 1) px py)
    case first =>
      cases ok
      · obtain ⟨_, f0, f1, f2, f3⟩ := id hF4
        go_wp2_with fail
        refine (spec_ValidDanger s hsz x y r _).mono ?_
        rintro e w15 ⟨rfl, hb15⟩
        rw [HK.out]
        clear f0 f1 f2 f3
        go_wp2_with fail
        go_meet
        exact ⟨rfl, _, rfl, bnext hB14 hb15, hF4.on hb15, hP4.on hb15⟩
      · obtain ⟨rfl, rfl, rfl, rfl⟩ := HQ.out rfl
        obtain ⟨_, f0, f1, f2, f3⟩ := id hF4
        go_wp2_with fail
        refine (spec_ValidDanger S' hsz X' Y' R' _).mono ?_
        rintro e w15 ⟨rfl, hb15⟩
        rw [HK.out]
        clear f0 f1 f2 f3
        obtain ⟨_, f0, f1, f2, f3⟩ := id (hF4.on hb15)
        obtain ⟨_, g0, g1, g2, g3⟩ := id (hG4.on hb15)
        go_wp2_with fail
        go_meet
        exact ⟨rfl, _, rfl, bnext hB14 hb15, hF4.on hb15, hP4.on hb15⟩
    case rest =>
      clear hB14 hF4 hP4 hG4
      obtain ⟨rfl, w16, rfl, hB16, hF6, hP6⟩ := hcut
      obtain ⟨_, f0, f1, f2, f3⟩ := id hF6
      obtain ⟨_, p0, p1⟩ := id hP6
      go_wp2_with fail
      refine (one_DAt s x y r px py ⟨hsz, hx, hy, hr⟩ _).mono ?_
      rintro e w17 ⟨A3, c3, rfl, hb17⟩
      have hB17 := bnext hB16 hb17
      clear f0 f1 f2 f3 p0 p1
      obtain ⟨_, f0, f1, f2, f3⟩ := id (hF6.on hb17)
      obtain ⟨_, p0, p1⟩ := id (hP6.on hb17)
      go_wp2_with fail
      refine (one_CO s x y r px py hsz _).mono ?_
      rintro e w18 ⟨rfl, hb18⟩
      have hB18 := bnext hB17 hb18
      clear f0 f1 f2 f3 p0 p1
      have hcs := one_case s x y r px py
      generalize oneC s x y r px py = cd at hcs
      generalize oneN s x y r px py = nn at hcs
      generalize oneV s x y r px py = cv at hcs
      rcases hcs with rfl | ⟨rfl, rfl, hle⟩ | ⟨rfl, rfl, hle⟩
      · go_wp2_with fail
        go_ret
        exact ⟨rfl, hB18⟩
      · have hd : decide (cv ≤ 0) = true := decide_eq_true hle
        go_wp2_with fail
        go_ret
        exact ⟨ret_bool (by simp [hle]), hB18⟩
      · have hd : decide (cv ≤ 0) = false := decide_eq_false hle
        go_wp2_with fail
        go_ret
        exact ⟨ret_bool (by simp [hle]), hB18⟩

theorem lifted (os : Os) (started : os.Started) (H : Type) (enc : TypeId × Value → H) :
    ReturnsInHanded {} Tryz.checked os 3 .any (fun w args => (Rows.fnDangersSpec.pre enc Tryz.prog Tryz.f3 Rows.fnDangersRow.domain false w args ∧ laidMetH Tryz.prog Rows.fnDangersRow.laid w) ∧ sizedMet enc Tryz.prog Tryz.f3 (OpenSpec.ofChange Rows.fnDangersSpec) false w args) (Rows.fnDangersSpec.post enc Tryz.prog Tryz.f3 false true false false) := by
  refine change_sh (C := Tryz.checked) (X := fun w _ => laidMetH Tryz.prog Rows.fnDangersRow.laid w) (fun _ _ _ hh h => h.of_heap hh) own started (by kernel_rfl) Tryz.func3
    (ChangeSpec.witness_shaped (enc := enc) (C := Tryz.checked) (os := os) (X := fun w _ => laidMetH Tryz.prog Rows.fnDangersRow.laid w) false (World.laidAll Tryz.prog os Rows.fnDangersRow.laid) #[.slice none 0 0, .slice none 0 0] 8 (World.laidAll_os _ _ _)
      (World.shaped_of_ZipB (by kernel_rfl) (by kernel_rfl)) (by kernel_rfl) (by kernel_rfl) (by kernel_rfl)
      (by rw [MakeChecks.laidMetH_plain _ _ _ (by kernel_rfl)]; exact laidMet_laidAll _ (by kernel_rfl) (by kernel_rfl))) ?_
  intro W base args ds gs before hval0 hW hcnd _ hsh hL _
  have hval : ∀ (j : Nat) t v, Tryz.f3.params[j]? = some t → args[j]? = some v → Value.okWide Tryz.prog W .any base t v := hval0
  have hW' := hW
  obtain ⟨p, q, hA0, hV, rfl, hfz, hnd⟩ := hW
  have hA : DataW.TrodAll enc Tryz.prog W 0 (fun _ => true) true Tryz.f3.params.toList args.toList ds p := hA0
  rw [Tryz.params3] at hA hval
  obtain ⟨v0, vs0, d0, ds0, p0, q0, hargs, rfl, rfl, h0, r0⟩ := trodAll_cons hA
  obtain ⟨v1, vs1, d1, ds1, p1, q1, rfl, rfl, rfl, h1, r1⟩ := trodAll_cons r0
  obtain ⟨rfl, rfl, rfl⟩ := trodAll_nil r1
  obtain rfl : args = #[v0, v1] := by cases args; simp_all
  have g0 := h0
  have g1 := h1
  obtain ⟨rfl, rfl⟩ := trodVars_none hV
  clear hA0 hval0
  simp only [List.append_nil] at hW'
  have hlt : ∀ x ∈ p0 ++ (p1), x.block < W.heap.size := fun x hx => by simpa using hW'.lt x (by simpa using hx)
  obtain ⟨fu0, hf0⟩ := h0
  obtain ⟨A0, c0, L0, hv0, s0, b0, m0⟩ := open_row8 Tryz.underlying22 Tryz.underlying5 (by kernel_rfl) hf0
  obtain ⟨va0, vl0, vc0, rfl⟩ := Go.WideShapes.okWide_slice Tryz.underlying22 (hval 0 22 _ rfl rfl)
  obtain ⟨rfl, rfl, rfl⟩ : A0 = va0 ∧ L0.length = vl0 ∧ c0 = vc0 := by have := hv0; simp [Value.cells] at this; exact ⟨this.1.symm, this.2.1.symm, this.2.2.symm⟩
  obtain ⟨fu1, hf1⟩ := h1
  obtain ⟨A1, c1, L1, hv1, s1, b1, m1⟩ := open_row8 Tryz.underlying22 Tryz.underlying5 (by kernel_rfl) hf1
  obtain ⟨va1, vl1, vc1, rfl⟩ := Go.WideShapes.okWide_slice Tryz.underlying22 (hval 1 22 _ rfl rfl)
  obtain ⟨rfl, rfl, rfl⟩ : A1 = va1 ∧ L1.length = vl1 ∧ c1 = vc1 := by have := hv1; simp [Value.cells] at this; exact ⟨this.1.symm, this.2.1.symm, this.2.2.symm⟩
  refine (walk W A0 c0 L0 s0 b0 m0 A1 c1 L1 s1 b1 m1 (env_of hsh hL)).mono fun e W' ⟨he, hg⟩ => ?_
  subst he
  exact ⟨_, rfl, post_below (pa := _) hW' (trodAll_cons_mk (shut_bool Tryz.underlying4 _) trodAll_mk0) (trodAll_cons_mk (Below.trod laidOut (by kernel_rfl) (of_decide_eq_true (by kernel_rfl)) g0 hg (fun x hx => hlt x (by simp [hx]))) (trodAll_cons_mk (Below.trod laidOut (by kernel_rfl) (of_decide_eq_true (by kernel_rfl)) g1 hg (fun x hx => hlt x (by simp [hx]))) trodAll_mk0)) rfl (by simp) hg⟩

theorem over : Rows.fnDangersRow.holds Tryz.pinned (OpenSpec.ofChange Rows.fnDangersSpec) :=
  OpenClaim.holds_of_wide 3 Tryz.f3 rfl rfl rfl rfl rfl rfl rfl ⟨rfl, rfl, rfl, rfl, rfl⟩ rfl rfl rfl rfl rfl (by kernel_rfl) Tryz.func3 (by kernel_rfl)
    (of_decide_eq_true (by kernel_rfl)) (by unfold Func.isWrapper; first | (rw [if_pos (by decide +kernel)]; kernel_rfl) | (rw [if_neg (by decide +kernel)]; exact ⟨rfl, rfl⟩))
    (fun os started H enc _ => lifted os started H enc)

theorem proved : Rows.FnDangersCardSaid :=
  Claim7.holds_tied_plain_at .later [] [.data, .data, .data, .data, .sentinel, .sentinel, .pinned] true (true, "67ed4aaaf122051f5a1c704e3366e35f0424dd2d345cc85e1dedba098d180fea") true over (fun _ h => by cases h) (by kernel_rfl) (fun _ h => by cases h) fnDangers_row_tie rfl ⟨rfl, rfl⟩ (by kernel_rfl) rfl
    (fun f fn hf hfn => by
      obtain rfl : f = 3 := Option.some.inj ((show Tryz.prog.funcNamed "loop.example/g00953/laws.FnDangers" = some 3 by kernel_rfl).symm.trans hf) |>.symm
      obtain rfl : fn = Tryz.f3 := (Option.some.inj (Tryz.func3.symm.trans hfn)).symm
      exact ⟨by kernel_rfl, fun j t ht => by
        rw [Tryz.params3] at ht
        have hm : t ∈ [22, 22] := by simpa using Array.mem_of_getElem? ht
        have hall : ([22, 22].all fun u => !Tryz.prog.wantsStandIn u) = true := by kernel_rfl
        exact (show Tryz.prog.wantsStandIn t = false by simpa using List.all_eq_true.1 hall t hm)⟩)
    (by kernel_rfl)
#print axioms proved
end fnDangers

end Go.Proofs.YthjkkidcpidgdaaGreatDoor
