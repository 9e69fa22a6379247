/-
  Contracts of the decimal form of a number: the program's and the reference's. Under no condition but those that each states (the library's table of powers of ten).
-/
import Derived.Test.YtpnffdkkmibchaaGreatDoorRows
import Derived.Test.YtpnffdkkmibchaaGreatDoorKit
import Derived.Test.YtpnffdkkmibchaaGreatDoorDecP
import Derived.Test.YtpnffdkkmibchaaGreatDoorShelf
import Derived.Laws.BytesString
import Derived.Laws.Cells
import Derived.Lib.BufferOwn
set_option linter.unusedVariables false
set_option linter.unnecessarySimpa false
set_option maxRecDepth 100000
set_option linter.unusedSimpArgs false
namespace Go.Proofs.YtpnffdkkmibchaaGreatDoor
open Go.RowKit BigFrame

theorem owns_on {w w' : World} {B : Nat} {e : TypeId} {sz : Nat} {v : Value} {n : Nat} {xs : List Value} (h : w.ownsRow B e sz v n xs) (hb : Below w.heap.size w w') : w'.ownsRow B e sz v n xs := by
  refine World.ownsRow.kept (row := none) h ⟨hb.os, hb.tape, hb.output, hb.size, fun k hk _ => hb.block k hk⟩ ?_
  cases v.ownBlock
  · exact .inl rfl
  · exact .inr (by simp)
/-- The library's table of powers of ten. -/
def Tab (w : World) : Prop := Lib.TabIs Tryz.prog w "internal/strconv.uint64pow10" .u64 Lib.pow10Tab
theorem tabVar : Tryz.prog.globalNamed "internal/strconv.uint64pow10" = some 0 := by kernel_rfl
theorem Tab.on {w w' : World} (h : Tab w) (hb : Below w.heap.size w w') : Tab w' := by
  unfold Tab Lib.TabIs at *
  unfold World.var? at h ⊢
  simp only [tabVar, Option.bind_some] at h ⊢
  by_cases hl : 0 < w.heap.size
  · rw [hb.block _ hl]
    exact h
  · rw [Array.getElem?_eq_none (by omega)] at h
    cases h

/-- The bytes of a row as numbers. -/
def bytesV (l : List Int) : List Value := l.map (Value.int .u8)
theorem row_string (w : World) {B n : Nat} {v : Value} {l : List Int} {src dst e : TypeId} (hs : Tryz.prog.underlying src = some (.slice e)) (he : Tryz.prog.underlying e = some (.int .u8)) (hd : Tryz.prog.underlying dst = some .string) (h : w.ownsRow B e 1 v n (bytesV l)) (hn : 0 < n) :
    (convert src dst v).run Tryz.prog w = .ok (.string (l.foldl (fun r n => r.push (UInt8.ofNat n.toNat)) ByteArray.empty)) w := by
  obtain ⟨hl, h0 | ⟨g, cap, cur, rfl, hb, hh, hcn, hm, hsz, ht⟩⟩ := h
  · omega
  · rw [run_convert_bytes_string _ _ _ e _ _ _ hs he hd]
    refine run_bytesToString _ _ _ _ l ?_
    have e1 : n = l.length := by simpa [bytesV] using hl.symm
    subst e1
    have hx := run_loadCells_list (P := Tryz.prog) w ⟨g, 0, none⟩ (bytesV l) (fun j u hu => by
      rw [← ht, List.getElem?_take] at hu
      split at hu
      · have e0 : (⟨g, 0, none⟩ : Addr).add j = ⟨g, j, none⟩ := by unfold Addr.add; split <;> simp_all
        rw [e0]
        simp only [World.cell?, hh]
        simpa using hu
      · cases hu)
    simpa [bytesV] using hx

theorem owns_sl {w : World} {B n : Nat} {e : TypeId} {v : Value} {xs : List Value} (h : w.ownsRow B e 1 v n xs) (hn : 0 < n) : ∃ g c, v = .slice (some ⟨g, 0, none⟩) n c ∧ B ≤ g ∧ Sl w w.heap.size (some ⟨g, 0, none⟩) xs := by
  obtain ⟨hl, h0 | ⟨g, cap, cur, rfl, hb, hh, hcn, hm, hsz, ht⟩⟩ := h
  · omega
  · refine ⟨g, cap, rfl, hb, fun _ => ⟨g, 0, rfl, (Array.getElem?_eq_some_iff.1 hh).1, fun j u hu => ?_⟩⟩
    rw [← ht, List.getElem?_take] at hu
    split at hu
    · rw [Nat.zero_add]
      simp only [World.cell?, hh]
      simpa using hu
    · cases hu

theorem below_sgrow (w : World) (k : Nat) (os : Array Obj) : Below w.heap.size w (Sort.grow (w.drewN k) os) := by
  refine (below_drewN (Below.refl _ w) k).trans ⟨rfl, rfl, rfl, by simp [Sort.grow], fun j hj => ?_⟩
  have : j < w.heap.size := hj
  simp [Sort.grow, Array.getElem?_append, this]
theorem impl_Dec (n : Int) (h0 : -9223372036854775808 ≤ n) (h1 : n ≤ 9223372036854775807) (w : World) (ht : Tab w) : Calls Tryz.prog 28 #[.int .i64 n] w fun e w' => e = .returned (.string (decT n)) ∧ Below w.heap.size w w' := by
  go_enter Tryz.func28, Tryz.ntmps28
  go_wp2_with (go_at_call 47; refine (sh_strconv_FormatInt_10 n h0 h1 _ ht).mono ?_; rintro e w1 ⟨rfl, k, os, rfl⟩)
  go_ret
  exact ⟨rfl, below_sgrow _ _ _⟩
end Go.Proofs.YtpnffdkkmibchaaGreatDoor
