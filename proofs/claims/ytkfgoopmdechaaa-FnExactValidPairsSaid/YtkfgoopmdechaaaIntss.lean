/-
  Contracts of rows of rows of numbers: the copies that the laws make, their equality, their size; how many rows hold a number: the program's and the reference's. Each under the conditions that it states.
-/
import Derived.Test.YtkfgoopmdechaaaInts
set_option linter.unusedVariables false
set_option linter.unnecessarySimpa false
set_option maxRecDepth 100000
set_option linter.unusedSimpArgs false
namespace Go.Proofs.Ytkfgoopmdechaaa
open Go.RowKit BigFrame Go.Deep

/-- A row in memory: where it lies, its room, its numbers. -/
structure Row where
  A : Option Addr
  c : Nat
  L : List Int
instance : Inhabited Row := ⟨⟨none, 0, []⟩⟩
def Row.cells (r : Row) : List Value := [.slice r.A r.L.length r.c]
theorem Row.len (r : Row) : r.cells.length = 1 := rfl
def Row.num (r : Row) : Nat := r.L.length
def Row.ok (w : World) (B : Nat) (r : Row) : Prop := Sl w B r.A (ints r.L) ∧ (∀ a ∈ r.L, IntKind.i64.has a) ∧ r.L.length ≤ maxLen
theorem Row.ok_below {w w' : World} {B : Nat} {r : Row} (h : r.ok w B) (hb : Below B w w') : r.ok w' B := ⟨h.1.below hb, h.2⟩
/-- Numbers that a copy holds. -/
def lists (R : List Row) : List (List Int) := R.map Row.L

section
variable {H : Type} {enc : TypeId × Value → H} {P : Program} {w : World} {spare : Nat → Bool} {held : Bool}
theorem trod_one_int {i : TypeId} (hi : P.underlying i = some (.int .i64)) {m : Nat} {c : List Value} {y : DataW H × List MemPlace} {b : Nat} (h : DataW.trod enc P w b spare held m i c = some y) : ∃ a : Int, c = [.int .i64 a] ∧ IntKind.i64.has a := by
  have h' := h
  obtain ⟨z, e, _, q⟩ := DataW.trod_int hi h'
  exact ⟨z, e, by simpa [Lit.wf, IntKind.has] using q⟩
theorem flat_int (L : List Int) : flat (fun a : Int => [Value.int .i64 a]) L = ints L := by
  induction L with
  | nil => rfl
  | cons a L ih => rw [flat_cons, ih]; rfl
theorem open_row {t i : TypeId} {fuel : Nat} {cs : List Value} {x : DataW H × List MemPlace} (ht : P.underlying t = some (.slice i)) (hi : P.underlying i = some (.int .i64)) (hC : P.cellsOf i = 1) (h : DataW.trod enc P w 0 spare held fuel t cs = some x) :
    ∃ (A : Option Addr) (c : Nat) (L : List Int), cs = [.slice A L.length c] ∧ Sl w w.heap.size A (ints L) ∧ (∀ a ∈ L, IntKind.i64.has a) ∧ L.length ≤ maxLen := by
  obtain ⟨A, c, L, e, hs, hb, hl⟩ := open_flat (fun a : Int => [Value.int .i64 a]) IntKind.i64.has (fun _ => rfl) (by decide) ht hC (fun _ _ _ h => trod_one_int hi h) h
  exact ⟨A, c, L, e, by rw [← flat_int]; exact hs, hb, hl⟩
theorem open_rows {t e i : TypeId} {fuel : Nat} {cs : List Value} {x : DataW H × List MemPlace} (ht : P.underlying t = some (.slice e)) (he : P.underlying e = some (.slice i)) (hi : P.underlying i = some (.int .i64)) (hC : P.cellsOf e = 1) (hD : P.cellsOf i = 1) (h : DataW.trod enc P w 0 spare held fuel t cs = some x) :
    ∃ (A : Option Addr) (c : Nat) (R : List Row), cs = [.slice A R.length c] ∧ Sl w w.heap.size A (flat Row.cells R) ∧ (∀ r ∈ R, r.ok w w.heap.size) ∧ R.length ≤ maxLen :=
  open_flat Row.cells (Row.ok w w.heap.size) Row.len (by decide) ht hC (fun _ _ _ h => by
    obtain ⟨A, c, L, e, hs, hb, hl⟩ := open_row he hi hD h
    exact ⟨⟨A, c, L⟩, e, hs, hb, hl⟩) h
end


set_option maxHeartbeats 800000 in
theorem szInt64SS_any (R : List Row) (A : Option Addr) (c B : Nat) (l : Int) (w : World) (hs : Sl w B A (flat Row.cells R)) (hB : B ≤ w.heap.size) (hok : ∀ r ∈ R, r.ok w B) (hm : R.length ≤ maxLen) (h1 : -1 ≤ l) (h2 : l ≤ 1048576) : Calls Try.prog 10 #[.slice A R.length c, .int .i64 l] w fun e w' => e = .returned (.int .i64 (szS Row.num l R)) ∧ w = w' := by
  have hn2 : R.length ≤ 9223372036854775807 := by simpa [maxLen, IntKind.max, IntKind.bits, IntKind.signed] using hm
  have hs' := Lib.hid hs
  have hok' := Lib.hid hok
  clear hs hok
  by_cases h : l - (R.length : Int) < 0
  · have hm : Hid (szS Row.num l R = -1) := by apply Lib.hid; unfold szS; rw [if_pos h]
    go_enter Try.func10, Try.ntmps10
    go_wp2
    go_ret
    exact ⟨ret_int hm.out.symm, rfl⟩
  · have hm : Hid (szS Row.num l R = szAll Row.num (l - R.length) R) := by apply Lib.hid; unfold szS; rw [if_neg h]
    go_enter Try.func10, Try.ntmps10
    go_wp2
    go_loopw [1, 5] (fun s i wr => ∃ (k : Nat) (z : Int), s = .int .i64 z ∧ i = .int .i64 k ∧ k ≤ R.length ∧ 0 ≤ z ∧ z ≤ 1048576 ∧ szAll Row.num (l - R.length) R = szAll Row.num z (R.drop k) ∧ w = wr) (fun _ i _ => R.length - (intOf i).toNat)
    case atStart => exact ⟨0, _, rfl, rfl, Nat.zero_le _, by omega, by omega, rfl, rfl⟩
    case round =>
      obtain ⟨k, z, rfl, rfl, hk, hz0, hz1, hv, rfl⟩ := hrel
      have hv' := Lib.hid hv
      clear hv
      have hB1 : Below w.heap.size w w := Below.refl _ _
      by_cases hlt : k < R.length
      · have hd := Lib.hid (szAll_at (f := Row.num) (l := z) hlt)
        obtain ⟨b, o, rfl, hb, he⟩ := Sl.elem Row.len (by decide) hs'.out hlt
        have d0 : w.cell? ⟨b, o + k, none⟩ = some (.slice R[k].A R[k].L.length R[k].c) := by have := he 0 _ rfl; simpa using this
        have hr := (hok'.out _ (List.getElem_mem hlt)).2.2
        have hnum : R[k].num = R[k].L.length := rfl
        rw [hnum] at hd
        obtain ⟨n, hn⟩ : ∃ n, R[k].L.length = n := ⟨_, rfl⟩
        rw [hn] at hd d0 hr
        clear he hnum hn
        by_cases hq : szR z n < 0
        · have hq2 := Lib.hid (szR_lt hq)
          go_wp2_with (go_at_call 38; refine (szInt64S_any _ _ _ _ (by omega) (by omega) hr _).mono ?_; rintro e w' ⟨rfl, rfl⟩)
          go_ret
          exact ⟨ret_int (by rw [hm.out, hv'.out, hd.out, if_pos (by have := hq2.out.1; omega)]), rfl⟩
        · have hq2 := Lib.hid (szR_ge hq)
          have hq0 : 0 ≤ szR z n := by omega
          go_wp2_with (go_at_call 38; refine (szInt64S_any _ _ _ _ (by omega) (by omega) hr _).mono ?_; rintro e w' ⟨rfl, rfl⟩)
          go_roundw
          case rel => exact ⟨k + 1, _, rfl, by go_num, by omega, by omega, by have := hq2.out; omega, by rw [hv'.out, hd.out, if_neg (by have := hq2.out.1; omega), hq2.out.2], by first | rfl | trivial⟩
          case measure => simp [intOf]; omega
      · obtain rfl : k = R.length := by omega
        have he : Hid (szAll Row.num z (R.drop R.length) = z) := by apply Lib.hid; rw [List.drop_length]; rfl
        go_wp2
        go_ret
        exact ⟨ret_int (by rw [hm.out, hv'.out, he.out]), rfl⟩

/-- How many of the first k rows hold n. -/
def sentTo (n : Int) (R : List Row) : Nat → Int
  | 0 => 0
  | k + 1 => sentTo n R k + if (R.getD k default).L.contains n then 1 else 0
theorem sentTo_bd (n : Int) (R : List Row) (k : Nat) : 0 ≤ sentTo n R k ∧ sentTo n R k ≤ k := by
  induction k with
  | zero => simp [sentTo]
  | succ k ih => simp only [sentTo]; split <;> omega
theorem sentTo_hit {n : Int} {R : List Row} {k : Nat} {r : Row} (hk : k < R.length) (hr : R[k] = r) (h : r.L.contains n = true) : sentTo n R (k + 1) = sentTo n R k + 1 := by
  simp only [sentTo]; rw [getD_at hk, hr, if_pos h]
theorem sentTo_miss {n : Int} {R : List Row} {k : Nat} {r : Row} (hk : k < R.length) (hr : R[k] = r) (h : r.L.contains n = false) : sentTo n R (k + 1) = sentTo n R k := by
  simp only [sentTo]; rw [getD_at hk, hr, if_neg (by rw [h]; simp)]; omega
theorem sentTo_lists {n : Int} {R R2 : List Row} (h : lists R = lists R2) (k : Nat) : sentTo n R k = sentTo n R2 k := by
  induction k with
  | zero => rfl
  | succ k ih =>
    have e : (R.getD k default).L = (R2.getD k default).L := by
      have h1 : ∀ Q : List Row, (Q.getD k default).L = (lists Q).getD k [] := fun Q => by
        unfold lists
        rw [List.getD_eq_getElem?_getD, List.getD_eq_getElem?_getD, List.getElem?_map]
        cases Q[k]? <;> rfl
      rw [h1, h1, h]
    simp only [sentTo]; rw [ih, e]
set_option maxHeartbeats 800000 in
theorem spec_TimesSent (R : List Row) (n : Int) (A : Option Addr) (c B : Nat) (w : World) (hs : Sl w B A (flat Row.cells R)) (hok : ∀ r ∈ R, r.ok w B) (hl : R.length ≤ 1048576) (hl2 : ∀ r ∈ R, r.L.length ≤ 1048576) :
    Calls Try.prog 11 #[.slice A R.length c, .int .i64 n] w fun e w' => e = .returned (.int .i64 (sentTo n R R.length)) ∧ w = w' := by
  have hs' := Lib.hid hs
  have hok' := Lib.hid hok
  have hl' := hl2
  clear hs hok hl2
  go_enter Try.func11, Try.ntmps11
  go_wp2
  go_loopw [5, 6] (fun s i wr => ∃ k : Nat, s = .int .i64 (sentTo n R k) ∧ i = .int .i64 k ∧ k ≤ R.length ∧ w = wr) (fun _ i _ => R.length - (intOf i).toNat)
  case atStart => exact ⟨0, rfl, rfl, Nat.zero_le _, rfl⟩
  case round =>
    obtain ⟨k, rfl, rfl, hk, rfl⟩ := hrel
    have hbd := sentTo_bd n R k
    by_cases hlt : k < R.length
    · obtain ⟨b, o, rfl, hb, he⟩ := Sl.elem Row.len (by decide) hs'.out hlt
      have d0 : w.cell? ⟨b, o + k, none⟩ = some (.slice R[k].A R[k].L.length R[k].c) := by have := he 0 _ rfl; simpa using this
      have hr := Lib.hid (hok'.out _ (List.getElem_mem hlt))
      obtain ⟨r, hre⟩ : ∃ r, R[k] = r := ⟨_, rfl⟩
      rw [hre] at d0 hr
      have hlr := hl' _ (List.getElem_mem hlt)
      rw [hre] at hlr
      have HR := Lib.hid hre
      clear he hre
      have hC : ∀ w1, w1 = w → Calls Try.prog 39 #[.slice r.A r.L.length r.c, .int .i64 n] w1 fun e w' => e = .returned (.bool (r.L.contains n)) ∧ w1 = w' := fun w1 e => by subst e; exact spec_Has r.L n _ _ B _ hr.out.1 hlr
      cases hq : r.L.contains n
      · have hst := Lib.hid (sentTo_miss hlt HR.out hq)
        rw [hq] at hC
        go_wp2_with (go_at_call 39; refine (hC _ rfl).mono ?_; rintro e w' ⟨rfl, rfl⟩)
        go_roundw
        case rel => exact ⟨k + 1, by rw [hst.out], by go_num, by omega, by first | rfl | trivial⟩
        case measure => simp [intOf]; omega
      · have hst := Lib.hid (sentTo_hit hlt HR.out hq)
        rw [hq] at hC
        go_wp2_with (go_at_call 39; refine (hC _ rfl).mono ?_; rintro e w' ⟨rfl, rfl⟩)
        go_roundw
        case rel => exact ⟨k + 1, by rw [hst.out], by go_num, by omega, by first | rfl | trivial⟩
        case measure => simp [intOf]; omega
    · obtain rfl : k = R.length := by omega
      go_wp2
      go_ret
      exact ⟨rfl, rfl⟩

set_option maxHeartbeats 800000 in
theorem impl_sent (R : List Row) (n : Int) (A : Option Addr) (c B : Nat) (w : World) (hs : Sl w B A (flat Row.cells R)) (hok : ∀ r ∈ R, r.ok w B) (hl : R.length ≤ 1048576) (hl2 : ∀ r ∈ R, r.L.length ≤ 1048576) :
    Calls Try.prog 41 #[.slice A R.length c, .int .i64 n] w fun e w' => e = .returned (.int .i64 (sentTo n R R.length)) ∧ w = w' := by
  have hs' := Lib.hid hs
  have hok' := Lib.hid hok
  have hl' := hl2
  clear hs hok hl2
  go_enter Try.func41, Try.ntmps41
  go_wp2
  go_loopw [5, 10] (fun s i wr => ∃ k : Nat, s = .int .i64 (sentTo n R k) ∧ i = .int .i64 k ∧ k ≤ R.length ∧ w = wr) (fun _ i _ => R.length - (intOf i).toNat)
  case atStart => exact ⟨0, rfl, rfl, Nat.zero_le _, rfl⟩
  case round =>
    obtain ⟨k, rfl, rfl, hk, rfl⟩ := hrel
    have hbd := sentTo_bd n R k
    by_cases hlt : k < R.length
    · obtain ⟨b, o, rfl, hb, he⟩ := Sl.elem Row.len (by decide) hs'.out hlt
      have d0 : w.cell? ⟨b, o + k, none⟩ = some (.slice R[k].A R[k].L.length R[k].c) := by have := he 0 _ rfl; simpa using this
      have hr := Lib.hid (hok'.out _ (List.getElem_mem hlt))
      obtain ⟨r, hre⟩ : ∃ r, R[k] = r := ⟨_, rfl⟩
      rw [hre] at d0 hr
      have hlr := hl' _ (List.getElem_mem hlt)
      rw [hre] at hlr
      have HR := Lib.hid hre
      clear he hre
      have hC : ∀ w1, w1 = w → Calls Try.prog 71 #[.slice r.A r.L.length r.c, .int .i64 n] w1 fun e w' => e = .returned (.bool (r.L.contains n)) ∧ w1 = w' := fun w1 e => by subst e; exact int_contains r.L n _ _ B _ hr.out.1 hlr
      cases hq : r.L.contains n
      · have hst := Lib.hid (sentTo_miss hlt HR.out hq)
        rw [hq] at hC
        go_wp2_with (go_at_call 71; refine (hC _ rfl).mono ?_; rintro e w' ⟨rfl, rfl⟩)
        go_roundw
        case rel => exact ⟨k + 1, by rw [hst.out], by go_num, by omega, by first | rfl | trivial⟩
        case measure => simp [intOf]; omega
      · have hst := Lib.hid (sentTo_hit hlt HR.out hq)
        rw [hq] at hC
        go_wp2_with (go_at_call 71; refine (hC _ rfl).mono ?_; rintro e w' ⟨rfl, rfl⟩)
        go_roundw
        case rel => exact ⟨k + 1, by rw [hst.out], by go_num, by omega, by first | rfl | trivial⟩
        case measure => simp [intOf]; omega
    · obtain rfl : k = R.length := by omega
      go_wp2
      go_ret
      exact ⟨rfl, rfl⟩

theorem impl_TimesSent (R : List Row) (n : Int) (A : Option Addr) (c B : Nat) (w : World) (hs : Sl w B A (flat Row.cells R)) (hok : ∀ r ∈ R, r.ok w B) (hl : R.length ≤ 1048576) (hl2 : ∀ r ∈ R, r.L.length ≤ 1048576) :
    Calls Try.prog 13 #[.slice A R.length c, .int .i64 n] w fun e w' => e = .returned (.int .i64 (sentTo n R R.length)) ∧ w = w' := by
  go_enter Try.func13, Try.ntmps13
  go_wp2_with (go_at_call 41; refine (impl_sent R n _ _ B _ hs hok hl hl2).mono ?_; rintro e w' ⟨rfl, rfl⟩)
  go_ret
  exact ⟨rfl, rfl⟩
/-- A row in a block of its own, from lo on. -/
def RowAt (w : World) (lo : Nat) (r : Row) : Prop := r.L ≠ [] → ∃ b, r.A = some ⟨b, 0, none⟩ ∧ lo ≤ b ∧ b < w.heap.size ∧ ∀ (j : Nat) (u : Value), (ints r.L)[j]? = some u → w.cell? ⟨b, j, none⟩ = some u
theorem RowAt.on {w w' : World} {lo : Nat} {r : Row} (h : RowAt w lo r) (hb : Below w.heap.size w w') : RowAt w' lo r := fun hn => by
  obtain ⟨b, e, h1, h2, h3⟩ := h hn
  exact ⟨b, e, h1, Nat.lt_of_lt_of_le h2 hb.size, fun j u hu => (hb.cell (p := ⟨b, j, none⟩) h2).trans (h3 j u hu)⟩
theorem RowAt.set {w : World} {lo g k : Nat} {r : Row} {v : Value} (h : RowAt w lo r) (hg : g < lo) : RowAt (w.setCell ⟨g, k, none⟩ v) lo r := fun hn => by
  obtain ⟨b, e, h1, h2, h3⟩ := h hn
  refine ⟨b, e, h1, by simpa using h2, fun j u hu => ?_⟩
  rw [World.cell?_setCell_other _ _ _ _ (fun e => by have := congrArg Addr.block e; simp at this; omega)]
  exact h3 j u hu
theorem RowAt.sl {w : World} {lo : Nat} {r : Row} (h : RowAt w lo r) : Sl w w.heap.size r.A (ints r.L) := fun hn => by
  obtain ⟨b, e, h1, h2, h3⟩ := h (fun e => hn (by rw [e]; rfl))
  exact ⟨b, 0, e, h2, fun j u hu => by rw [Nat.zero_add]; exact h3 j u hu⟩
theorem RowAt.new {w : World} {g n lo : Nat} {L : List Int} (hlo : lo ≤ g) (hg : g < w.heap.size) (h : Sl w (g + 1) (some ⟨g, 0, none⟩) (ints L)) : RowAt w lo ⟨some ⟨g, 0, none⟩, n, L⟩ := fun hn => by
  obtain ⟨b, o, e, hb, hc⟩ := h (by intro e; have := ints_len L; rw [e] at this; simp at this; exact hn (List.eq_nil_of_length_eq_zero this.symm))
  cases e
  exact ⟨g, rfl, hlo, hg, fun j u hu => by have := hc j u hu; rwa [Nat.zero_add] at this⟩
def ToRows (R : List Row) (w : World) (e : Ending) (w' : World) : Prop := ∃ R' : List Row, lists R' = lists R ∧ R'.length = R.length ∧ e = .returned (.slice (some ⟨w.heap.size, 0, none⟩) R.length R.length) ∧ Below w.heap.size w w' ∧ w.heap.size < w'.heap.size ∧ Sl w' w'.heap.size (some ⟨w.heap.size, 0, none⟩) (flat Row.cells R') ∧ ∀ r ∈ R', r.ok w' w'.heap.size
theorem lists_take {R : List Row} {k : Nat} (h : k < R.length) : (lists R).take (k + 1) = (lists R).take k ++ [R[k].L] := by
  unfold lists
  rw [List.take_succ_eq_append_getElem (by simpa using h), List.getElem_map]
set_option maxHeartbeats 1600000 in
theorem toInt64SS_any (R : List Row) (A : Option Addr) (c B : Nat) (w : World) (hs : Sl w B A (flat Row.cells R)) (hB : B ≤ w.heap.size) (hok : ∀ r ∈ R, r.ok w B) (hl : R.length ≤ 1048576) (hl2 : ∀ r ∈ R, r.L.length ≤ 1048576) : Calls Try.prog 12 #[.slice A R.length c] w (ToRows R w) := by
  have hmk : ∀ w : World, (Instr.makeSlice 22 (.int .i64 R.length) (.int .i64 R.length)).run Try.prog w = .ok (.slice (some ⟨w.heap.size, 0, none⟩) R.length R.length) (w.alloc (.cells (madeCells #[.slice none 0 0] R.length) 54)) := fun w => by
    have := made_row (by_ := 24) (z := #[.slice none 0 0]) (s := 1) w Try.underlying22 (by kernel_rfl) (by kernel_rfl) R.length (by omega) (by omega)
    simpa using this
  have hs' := Lib.hid hs
  have hok' := Lib.hid hok
  have hl' := Lib.hid hl2
  clear hs hok hl2
  go_enter Try.func12, Try.ntmps12
  go_wp2
  have hO : Own (w.alloc (.cells (madeCells #[.slice none 0 0] R.length) 54)) w.heap.size 54 R.length (flat Row.cells []) := own_made w _ _ Row.cells []
  have hB0 : Below w.heap.size w (w.alloc (.cells (madeCells #[.slice none 0 0] R.length) 54)) := by go_grown
  clear hmk
  go_loopw [4] (fun i wr => ∃ (k : Nat) (R' : List Row), i = .int .i64 k ∧ k ≤ R.length ∧ R'.length = k ∧ lists R' = (lists R).take k ∧ Below w.heap.size w wr ∧ Own wr w.heap.size 54 R.length (flat Row.cells R') ∧ ∀ r ∈ R', RowAt wr (w.heap.size + 1) r) (fun i _ => R.length - (intOf i).toNat)
  case atStart => exact ⟨0, [], rfl, Nat.zero_le _, rfl, rfl, hB0, hO, by simp⟩
  case round =>
    clear hB0 hO
    obtain ⟨k, R', rfl, hk, hlk, hll, hB1, hO, hrows⟩ := hrel
    have hrows := Lib.hid hrows
    have hsz := hO.lt
    by_cases hlt : k < R.length
    · obtain ⟨b, o, rfl, hb, he⟩ := Sl.elem Row.len (by decide) (hs'.out.below (hB1.mono hB)) hlt
      have d0 : wr.cell? ⟨b, o + k, none⟩ = some (.slice R[k].A R[k].L.length R[k].c) := by have := he 0 _ rfl; simpa using this
      have hr := Lib.hid (Row.ok_below (r := R[k]) (hok'.out _ (List.getElem_mem hlt)) (hB1.mono hB))
      have hlr := hl'.out _ (List.getElem_mem hlt)
      have hstep := Lib.hid (lists_take hlt)
      obtain ⟨r, hre⟩ : ∃ r, R[k] = r := ⟨_, rfl⟩
      rw [hre] at d0 hr hstep hlr
      clear he hre
      have hflen : (flat Row.cells R').length = k := by rw [flat_len Row.len]; omega
      go_wp2_with (go_at_call 40; refine (toInt64S_any r.L _ _ B _ hr.out.1 (by have := hB1.size; omega) hlr).mono ?_; rintro e w1 ⟨rfl, hb1, hz1, r1⟩; (have hO1 := hO.on hb1); (obtain ⟨y0, x0⟩ := hO1.cell (i := k) (by omega)); (have v0 := hO1.frozen k))
      have hnew := RowAt.new (n := r.L.length) (lo := w.heap.size + 1) (by omega) hz1 r1
      have hO2 := Own.set hO1 (i := k) hflen.symm hlt (.slice (some ⟨wr.heap.size, 0, none⟩) r.L.length r.L.length)
      have hBn : Below w.heap.size w (w1.setCell ⟨w.heap.size, k, none⟩ (.slice (some ⟨wr.heap.size, 0, none⟩) r.L.length r.L.length)) := (bnext hB1 hb1).setCell (by simp) _
      go_roundw
      case rel => exact ⟨k + 1, R' ++ [⟨some ⟨wr.heap.size, 0, none⟩, r.L.length, r.L⟩], by go_num, by omega, by simp [hlk], by rw [hstep.out, ← hll]; simp [lists], hBn, by rw [flat_snoc]; exact hO2, fun q hq => by
          rcases List.mem_append.1 hq with h | h
          · exact ((hrows.out q h).on hb1).set (by omega)
          · rw [List.mem_singleton] at h; subst h; exact hnew.set (by omega)⟩
      case measure => simp [intOf]; omega
    · obtain rfl : k = R.length := by omega
      have hll2 : lists R' = lists R := by rw [hll, show R.length = (lists R).length by simp [lists], List.take_length]
      have hall : ∀ q ∈ R', q.ok wr wr.heap.size := fun q hq => by
        have hm : q.L ∈ lists R := by rw [← hll2]; exact List.mem_map.2 ⟨q, hq, rfl⟩
        obtain ⟨p, hp, e⟩ := List.mem_map.1 hm
        have := (hok'.out p hp).2
        rw [e] at this
        exact ⟨(hrows.out q hq).sl, this⟩
      have hsl := (hO.sl).more (B' := wr.heap.size) (by omega)
      go_wp2
      go_ret
      exact ⟨R', hll2, hlk, rfl, hB1, hsz, hsl, hall⟩

theorem lists_at {R R2 : List Row} (h : lists R2 = lists R) {k : Nat} (h1 : k < R.length) (h2 : k < R2.length) : R2[k].L = R[k].L := by
  have e : (lists R2)[k]'(by simpa [lists] using h2) = (lists R)[k]'(by simpa [lists] using h1) := by simp [h]
  simpa [lists] using e
set_option maxHeartbeats 1600000 in
theorem eqInt64SS_same (R R2 : List Row) (A A2 : Option Addr) (c c2 : Nat) (w : World) (hs : Sl w w.heap.size A (flat Row.cells R)) (hs2 : Sl w w.heap.size A2 (flat Row.cells R2)) (hok : ∀ r ∈ R, r.ok w w.heap.size) (hok2 : ∀ r ∈ R2, r.ok w w.heap.size) (he : lists R2 = lists R) (hn : R2.length = R.length) (hl : R.length ≤ 1048576) (hl2 : ∀ r ∈ R, r.L.length ≤ 1048576) : Calls Try.prog 14 #[.slice A R.length c, .slice A2 R.length c2] w fun e w' => e = .returned (.bool true) ∧ Below w.heap.size w w' := by
  have hs' := Lib.hid hs
  have hs2' := Lib.hid hs2
  have hok' := Lib.hid hok
  have hok2' := Lib.hid hok2
  have hl' := Lib.hid hl2
  have he' := Lib.hid he
  have hn' := Lib.hid hn
  clear hs hs2 hok hok2 hl2 he hn
  go_enter Try.func14, Try.ntmps14
  go_wp2
  go_loopw [5] (fun i wr => ∃ k : Nat, i = .int .i64 k ∧ k ≤ R.length ∧ Below w.heap.size w wr) (fun i _ => R.length - (intOf i).toNat)
  case atStart => exact ⟨0, rfl, Nat.zero_le _, Below.refl _ _⟩
  case round =>
    obtain ⟨k, rfl, hk, hB1⟩ := hrel
    have hS1 := hB1.size
    by_cases hlt : k < R.length
    · have hlt2 : k < R2.length := by have := hn'.out; omega
      obtain ⟨bp, op, rfl, hbp, hep⟩ := Sl.elem Row.len (by decide) (hs'.out.below hB1) hlt
      obtain ⟨bq, oq, rfl, hbq, heq⟩ := Sl.elem Row.len (by decide) (hs2'.out.below hB1) hlt2
      have dp : wr.cell? ⟨bp, op + k, none⟩ = some (.slice R[k].A R[k].L.length R[k].c) := by have := hep 0 _ rfl; simpa using this
      have dq : wr.cell? ⟨bq, oq + k, none⟩ = some (.slice R2[k].A R2[k].L.length R2[k].c) := by have := heq 0 _ rfl; simpa using this
      have hr := Lib.hid (Row.ok_below (r := R[k]) (hok'.out _ (List.getElem_mem hlt)) hB1)
      have hr2 := Lib.hid (Row.ok_below (r := R2[k]) (hok2'.out _ (List.getElem_mem hlt2)) hB1)
      have hlr := hl'.out _ (List.getElem_mem hlt)
      have hel := lists_at he'.out hlt hlt2
      rw [hel] at dq
      have hq2 : Hid (Sl wr w.heap.size R2[k].A (ints R[k].L)) := Lib.hid (by rw [← hel]; exact hr2.out.1)
      clear hel hr2
      obtain ⟨r, hre⟩ : ∃ r, R[k] = r := ⟨_, rfl⟩
      obtain ⟨q, hqe⟩ : ∃ r, R2[k] = r := ⟨_, rfl⟩
      rw [hre] at dp dq hr hlr hq2
      rw [hqe] at dq hq2
      clear hep heq hre hqe
      have hwp : bp < wr.heap.size := by omega
      have hwq : bq < wr.heap.size := by omega
      go_wp2_with fail
      refine wp_region_grew (by kernel_rfl) (by kernel_rfl) ?_
      repeat (first | (go_big_quiet_step ((first | (go_at_call 42; exact grew_of (eqInt64S_same r.L _ _ _ _ w.heap.size _ (hr.out.1.below ((Grew.below _).mono hS1)) (hq2.out.below ((Grew.below _).mono hS1)) (Nat.le_trans hS1 (Grew.below _).size) hlr))))) | (quiet_step ((first | (go_at_call 42; exact grew_of (eqInt64S_same r.L _ _ _ _ w.heap.size _ (hr.out.1.below ((Grew.below _).mono hS1)) (hq2.out.below ((Grew.below _).mono hS1)) (Nat.le_trans hS1 (Grew.below _).size) hlr))))))
      refine wpQuiet_nil ?_
      rintro _ ⟨⟨w9, hb9⟩, rfl⟩
      try dsimp only
      obtain ⟨hc9, hf9⟩ := bcell hb9
      go_wp2
      go_roundw
      case rel => exact ⟨k + 1, by go_num, by omega, bnext hB1 hb9⟩
      case measure => simp [intOf]; omega
    · obtain rfl : k = R.length := by omega
      go_wp2
      go_ret
      exact ⟨rfl, hB1⟩
end Go.Proofs.Ytkfgoopmdechaaa
