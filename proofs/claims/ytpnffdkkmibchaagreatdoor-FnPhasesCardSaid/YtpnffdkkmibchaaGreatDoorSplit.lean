/-
  Contracts of texts divided: the program's and the reference's. Under the conditions that each states.
-/
import Derived.Test.YtpnffdkkmibchaaGreatDoorRead
import Derived.Maps.AppendAt
import Derived.Lib.SplitLaws
set_option linter.unusedVariables false
set_option linter.unnecessarySimpa false
set_option maxRecDepth 100000
set_option linter.unusedSimpArgs false
namespace Go.Proofs.YtpnffdkkmibchaaGreatDoor
open Go.RowKit BigFrame

/-- A text of these bytes. -/
def ba (l : List UInt8) : ByteArray := ⟨l.toArray⟩
def partsV (S : List (List UInt8)) : List Value := S.map (fun l => .string (ba l))
theorem ba_data (s : ByteArray) : s = ba s.data.toList := ba_ext rfl
theorem ba_size (l : List UInt8) : (ba l).size = l.length := by simp [ba, ByteArray.size]
theorem ba_list (l : List UInt8) : (ba l).data.toList = l := rfl
theorem cut_is {s : ByteArray} {L : List UInt8} (hL : s.data.toList = L) (a b : Nat) : s.extract a b = ba (pre L a b) := by
  rw [ba_data (s.extract a b), Lib.extract_data, hL]
  unfold pre
  rw [List.drop_take]
theorem owns_any {w : World} {B n : Nat} {e : TypeId} {v : Value} {xs : List Value} (h : w.ownsRow B e 1 v n xs) : ∃ A c, v = .slice A n c ∧ Sl w w.heap.size A xs := by
  by_cases hn : 0 < n
  · obtain ⟨g, c, rfl, _, hs⟩ := owns_sl h hn
    exact ⟨_, c, rfl, hs⟩
  · obtain ⟨hl, h0 | ⟨g, cap, cur, rfl, hb, hh, hcn, hm, hsz, ht⟩⟩ := h
    · have e0 : xs = [] := List.eq_nil_of_length_eq_zero (by omega)
      subst e0
      obtain ⟨rfl, rfl⟩ := h0
      exact ⟨none, 0, rfl, fun hn => absurd rfl hn⟩
    · have e0 : xs = [] := List.eq_nil_of_length_eq_zero (by omega)
      subst e0
      exact ⟨_, cap, rfl, fun hn => absurd rfl hn⟩
/-- A row of texts is given. -/
def Gives (S : List (List UInt8)) (w : World) (e : Ending) (w' : World) : Prop := ∃ A c, e = .returned (.slice A S.length c) ∧ Sl w' w'.heap.size A (partsV S) ∧ Below w.heap.size w w'
theorem infoStr2 : (Tryz.prog.info? 9).map (fun i => (i.zero, i.size, i.bytes)) = some (some (.string ⟨#[]⟩), 1, 16) := by kernel_rfl
theorem glue_hit {a : List UInt8} {S : List (List UInt8)} : glue a ([] :: S) = a :: S := by simp [glue]
theorem glue_last (a : List UInt8) : glue a [[]] = [a] := by simp [glue]
theorem pre_next (L : List UInt8) (a : Nat) : pre L a a = [] := pre_self L a
theorem parts_snoc (S : List (List UInt8)) (l : List UInt8) : partsV (S ++ [l]) = partsV S ++ [.string (ba l)] := by simp [partsV]

end Go.Proofs.YtpnffdkkmibchaaGreatDoor
