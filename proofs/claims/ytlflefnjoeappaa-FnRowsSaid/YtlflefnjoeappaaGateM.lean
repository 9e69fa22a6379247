/-
  Plain words for the gates and the buoys of a channel, no program in sight. Under no condition.
-/
import Derived.Test.YtlflefnjoeappaaGateP
import Derived.Test.YtlflefnjoeappaaBuoy
set_option linter.unusedVariables false
set_option linter.unnecessarySimpa false
set_option maxRecDepth 100000
set_option linter.unusedSimpArgs false
namespace Go.Proofs.Ytlflefnjoeappaa
structure RGate where
  f0 : Int
  f1 : Int
  f2 : Int
  f3 : Int
  f4 : Int
instance : Inhabited RGate := ⟨⟨0, 0, 0, 0, 0⟩⟩
def RGate.cells (a : RGate) : List Value := [.int .i64 a.f0, .int .i64 a.f1, .int .i64 a.f2, .int .i64 a.f3, .int .i64 a.f4]
theorem RGate.len (a : RGate) : a.cells.length = 5 := rfl
def RGate.ok (a : RGate) : Prop := IntKind.i64.has a.f0 ∧ IntKind.i64.has a.f1 ∧ IntKind.i64.has a.f2 ∧ IntKind.i64.has a.f3 ∧ IntKind.i64.has a.f4
def RGate.same (a b : RGate) : Bool := decide (a.f0 = b.f0) && (decide (a.f1 = b.f1) && (decide (a.f2 = b.f2) && (decide (a.f3 = b.f3) && (decide (a.f4 = b.f4)))))
/-! ### Gates and buoys of a channel -/
def gX (P : List RPoint) (wd : Int) (k : Nat) : Int := wingX (P.getD k default).f1 (P.getD (k + 1) default).f1 (wd / 2) (segD P k)
def gY (P : List RPoint) (wd : Int) (k : Nat) : Int := wingX (P.getD k default).f0 (P.getD (k + 1) default).f0 (wd / 2) (segD P k)
def gateM (P : List RPoint) (wd d : Int) : RGate := ⟨d, (placeM P d).1 - gX P wd (fndM P d).1, (placeM P d).2 + gY P wd (fndM P d).1, (placeM P d).1 + gX P wd (fndM P d).1, (placeM P d).2 - gY P wd (fndM P d).1⟩
/-- The distances of the gates. -/
def plcN (s : Int) (k : Nat) : List Int := (List.range k).map fun (j : Nat) => (j : Int) * s
def cntM (L s : Int) : Nat := ((L + s - 1) / s).toNat
def plcs (L s : Int) : List Int := plcN s (cntM L s) ++ [L]
theorem plcN_len (s : Int) (k : Nat) : (plcN s k).length = k := by simp [plcN]
theorem plcN_succ (s : Int) (k : Nat) : plcN s (k + 1) = plcN s k ++ [(k : Int) * s] := by simp [plcN, List.range_succ]
theorem plcs_len (L s : Int) : (plcs L s).length = cntM L s + 1 := by simp [plcs, plcN_len]
theorem cnt_iff {L s : Int} (hs : 1 ≤ s) (k : Nat) : (k : Int) * s < L ↔ k < cntM L s := by
  have h := Int.le_ediv_iff_mul_le (a := (k : Int) + 1) (b := L + s - 1) (c := s) (by omega)
  have e : ((k : Int) + 1) * s = (k : Int) * s + s := by rw [Int.add_mul]; simp
  rw [e] at h
  unfold cntM
  omega
theorem plcs_mem {L s : Int} (hs : 1 ≤ s) (hL : 0 ≤ L) : ∀ d ∈ plcs L s, 0 ≤ d ∧ d ≤ L := by
  intro d hd
  simp only [plcs, plcN, List.mem_append, List.mem_map, List.mem_range, List.mem_singleton] at hd
  rcases hd with ⟨k, hk, rfl⟩ | rfl
  · have := (cnt_iff (L := L) hs k).2 hk
    have := Int.mul_nonneg (show (0 : Int) ≤ k by omega) (show 0 ≤ s by omega)
    omega
  · omega
/-- The greatest number of gates. -/
theorem cnt_le {L s B : Int} (hs : 1 ≤ s) (h : L ≤ B * s) (hB : 0 ≤ B) : (cntM L s : Int) ≤ B := by
  unfold cntM
  have : (L + s - 1) / s < B + 1 := by
    apply Int.ediv_lt_of_lt_mul (by omega)
    rw [Int.add_mul]; omega
  omega
def gates (P : List RPoint) (wd s : Int) : List RGate := (plcs (lenM P) s).map (gateM P wd)
theorem gates_len (P : List RPoint) (wd s : Int) : (gates P wd s).length = cntM (lenM P) s + 1 := by simp [gates, plcs_len]
def okGate (g : RGate) : Bool := vPoint g.f1 g.f2 && vPoint g.f3 g.f4
def gtC (nm : ByteArray) (P : List RPoint) (wd s : Int) : Int := if vChan nm P wd = false then 1 else if inB s 50 200000 = false then 2 else if 32 < (gates P wd s).length then 5 else if (gates P wd s).all okGate = true then 0 else 6
def gtL (nm : ByteArray) (P : List RPoint) (wd s : Int) : List RGate := if gtC nm P wd s = 0 then gates P wd s else []
def buoysOf (G : List RGate) : List RBuoy := G.flatMap fun g => [⟨g.f1, g.f2, 1⟩, ⟨g.f3, g.f4, 2⟩]
theorem buoysOf_len (G : List RGate) : (buoysOf G).length = 2 * G.length := by
  induction G with
  | nil => rfl
  | cons g G ih => simp [buoysOf] at ih ⊢; omega
theorem buoysOf_snoc (G : List RGate) (g : RGate) : buoysOf (G ++ [g]) = buoysOf G ++ [⟨g.f1, g.f2, 1⟩, ⟨g.f3, g.f4, 2⟩] := by simp [buoysOf]
def nearB (b c : RBuoy) (t : Int) : Bool := (c.f2 == b.f2) && decide (distM c.f0 c.f1 b.f0 b.f1 ≤ t)
def hasB (L : List RBuoy) (b : RBuoy) (t : Int) : Bool := L.any fun c => nearB b c t
def lacks (A L : List RBuoy) (t : Int) : List RBuoy := A.filter fun b => !hasB L b t
def msC (nm : ByteArray) (P : List RPoint) (wd s : Int) (L : List RBuoy) (t : Int) : Int := if ¬ (vChan nm P wd = true ∧ vBuoys L = true) then 1 else if inB t 0 5000 = false then 2 else gtC nm P wd s
def msL (nm : ByteArray) (P : List RPoint) (wd s : Int) (L : List RBuoy) (t : Int) : List RBuoy := if msC nm P wd s L t = 0 then lacks (buoysOf (gates P wd s)) L t else []
end Go.Proofs.Ytlflefnjoeappaa
