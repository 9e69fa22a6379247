/-
  Contracts of rows of numbers and of rows of such rows: the copies that the laws make, their equality, their size. Each under the conditions that it states.
-/
import Derived.Test.YthjkkidcpidgdaaBase
import Derived.Test.YthjkkidcpidgdaaRow
set_option linter.unusedVariables false
set_option linter.unnecessarySimpa false
set_option maxRecDepth 100000
set_option linter.unusedSimpArgs false
namespace Go.Proofs.Ythjkkidcpidgdaa
open Go.RowKit BigFrame

def ints (L : List Int) : List Value := L.map (Value.int .i64)
theorem ints_len (L : List Int) : (ints L).length = L.length := by simp [ints]
theorem ints_at {L : List Int} {k : Nat} (h : k < L.length) : (ints L)[k]? = some (.int .i64 L[k]) := by
  unfold ints; rw [List.getElem?_map, List.getElem?_eq_getElem h]; rfl
theorem ints_snoc {L : List Int} {k : Nat} (h : k < L.length) : ints (L.take (k + 1)) = ints (L.take k) ++ [.int .i64 L[k]] := by
  unfold ints; rw [List.take_succ_eq_append_getElem h, List.map_append]; rfl
theorem Sl.int {w : World} {B : Nat} {A : Option Addr} {L : List Int} (h : Sl w B A (ints L)) {k : Nat} (hk : k < L.length) : ∃ b o : Nat, A = some ⟨b, o, none⟩ ∧ b < B ∧ w.cell? ⟨b, o + k, none⟩ = some (.int .i64 L[k]) := by
  obtain ⟨b, o, e, hb, hc⟩ := h (by intro e; have := ints_len L; rw [e] at this; simp at this; omega)
  exact ⟨b, o, e, hb, hc k _ (ints_at hk)⟩

theorem szInt64S_any (A : Option Addr) (n c : Nat) (l : Int) (h1 : -1 ≤ l) (h2 : l ≤ 1048576) (hn : n ≤ maxLen) (w : World) : Calls Try.prog 70 #[.slice A n c, .int .i64 l] w fun e w' => e = .returned (.int .i64 (szR l n)) ∧ w = w' := by
  have hn2 : n ≤ 9223372036854775807 := by simpa [maxLen, IntKind.max, IntKind.bits, IntKind.signed] using hn
  by_cases h : l - (n : Int) < 0
  · have hm : Hid (szR l n = -1) := by apply Lib.hid; unfold szR; rw [if_pos h]
    go_enter Try.func70, Try.ntmps70
    go_wp2
    go_ret
    exact ⟨ret_int hm.out.symm, rfl⟩
  · have hm : Hid (szR l n = l - n) := by apply Lib.hid; unfold szR; rw [if_neg h]
    go_enter Try.func70, Try.ntmps70
    go_wp2
    go_ret
    exact ⟨ret_int hm.out.symm, rfl⟩

set_option maxHeartbeats 800000 in
theorem toInt64S_any (L : List Int) (A : Option Addr) (c B : Nat) (w : World) (hs : Sl w B A (ints L)) (hB : B ≤ w.heap.size) (hl : L.length ≤ 1048576) : Calls Try.prog 74 #[.slice A L.length c] w (ToPost (ints L) L.length w) := by
  have hmk : ∀ w : World, (Instr.makeSlice 40 (.int .i64 L.length) (.int .i64 L.length)).run Try.prog w = .ok (.slice (some ⟨w.heap.size, 0, none⟩) L.length L.length) (w.alloc (.cells (madeCells #[.int .i64 0] L.length) 2)) := fun w => by
    have := made_row (by_ := 8) (z := #[.int .i64 0]) (s := 1) w Try.underlying40 (by kernel_rfl) (by kernel_rfl) L.length (by omega) (by omega)
    simpa using this
  have hs' := Lib.hid hs
  clear hs
  go_enter Try.func74, Try.ntmps74
  go_wp2
  have hO : Own (w.alloc (.cells (madeCells #[.int .i64 0] L.length) 2)) w.heap.size 2 L.length (ints (L.take 0)) := own_made w _ _ (fun a : Int => [.int .i64 a]) L
  have hB0 : Below w.heap.size w (w.alloc (.cells (madeCells #[.int .i64 0] L.length) 2)) := by go_grown
  clear hmk
  go_loopw [4] (fun i wr => ∃ k : Nat, i = .int .i64 k ∧ k ≤ L.length ∧ Below w.heap.size w wr ∧ Own wr w.heap.size 2 L.length (ints (L.take k))) (fun i _ => L.length - (intOf i).toNat)
  case atStart => exact ⟨0, rfl, Nat.zero_le _, hB0, hO⟩
  case round =>
    clear hB0 hO
    obtain ⟨k, rfl, hk, hB1, hO⟩ := hrel
    by_cases hlt : k < L.length
    · obtain ⟨b, o, rfl, hb, d0⟩ := Sl.int (hs'.out.below (hB1.mono hB)) hlt
      have hlen : (ints (L.take k)).length = k := by rw [ints_len, List.length_take, Nat.min_eq_left hk]
      have hstep := Lib.hid (ints_snoc hlt)
      obtain ⟨y0, x0⟩ := hO.cell (i := k) (by omega)
      have v0 := hO.frozen k
      have hO1 := Lib.hid hO
      go_wp2
      go_roundw
      case rel => exact ⟨k + 1, by go_num, by omega, by go_grown, by rw [hstep.out]; exact Own.set hO1.out (by simp [hlen]) (by omega) _⟩
      case measure => simp [intOf]; omega
    · obtain rfl : k = L.length := by omega
      have hO2 : Own wr w.heap.size 2 L.length (ints L) := by rw [List.take_length] at hO; exact hO
      go_wp2
      go_ret
      exact ⟨rfl, hB1, hO2.lt, hO2.sl⟩

set_option maxHeartbeats 800000 in
theorem eqInt64S_same (L : List Int) (A A2 : Option Addr) (c c2 B : Nat) (w : World) (hs : Sl w B A (ints L)) (hs2 : Sl w B A2 (ints L)) (hB : B ≤ w.heap.size) (hl : L.length ≤ 1048576) : Calls Try.prog 76 #[.slice A L.length c, .slice A2 L.length c2] w fun e w' => e = .returned (.bool true) ∧ Below w.heap.size w w' := by
  have hs' := Lib.hid hs
  have hs2' := Lib.hid hs2
  clear hs hs2
  go_enter Try.func76, Try.ntmps76
  go_wp2
  go_loopw [5] (fun i wr => ∃ k : Nat, i = .int .i64 k ∧ k ≤ L.length ∧ Below w.heap.size w wr) (fun i _ => L.length - (intOf i).toNat)
  case atStart => exact ⟨0, rfl, Nat.zero_le _, Below.refl _ _⟩
  case round =>
    obtain ⟨k, rfl, hk, hB1⟩ := hrel
    have hS1 := hB1.size
    by_cases hlt : k < L.length
    · obtain ⟨bp, op, rfl, hbp, dp⟩ := Sl.int (hs'.out.below (hB1.mono hB)) hlt
      obtain ⟨bq, oq, rfl, hbq, dq⟩ := Sl.int (hs2'.out.below (hB1.mono hB)) hlt
      have hwp : bp < wr.heap.size := by omega
      have hwq : bq < wr.heap.size := by omega
      go_wp2_with fail
      refine wp_region_grew (by kernel_rfl) (by kernel_rfl) ?_
      repeat (first | (go_big_quiet_step (fail)) | (quiet_step (fail)))
      refine wpQuiet_nil ?_
      rintro _ ⟨⟨w9, hb9⟩, rfl⟩
      try dsimp only
      obtain ⟨hc9, hf9⟩ := bcell hb9
      go_wp2
      go_roundw
      case rel => exact ⟨k + 1, by go_num, by omega, bnext hB1 hb9⟩
      case measure => simp [intOf]; omega
    · obtain rfl : k = L.length := by omega
      go_wp2
      go_ret
      exact ⟨rfl, hB1⟩

end Go.Proofs.Ythjkkidcpidgdaa
