/-
  Plain laws of sines by the table and of the best of 360 directions, no program in sight.
-/
set_option linter.unusedVariables false
set_option maxRecDepth 100000
namespace Go.Proofs.YthjkkidcpidgdaaGreatDoor

def tabM : List Int := [0, 17452, 34899, 52336, 69756, 87156, 104528, 121869, 139173, 156434, 173648, 190809, 207912, 224951, 241922, 258819, 275637, 292372, 309017, 325568, 342020, 358368, 374607, 390731, 406737, 422618, 438371, 453990, 469472, 484810, 500000, 515038, 529919, 544639, 559193, 573576, 587785, 601815, 615661, 629320, 642788, 656059, 669131, 681998, 694658, 707107, 719340, 731354, 743145, 754710, 766044, 777146, 788011, 798636, 809017, 819152, 829038, 838671, 848048, 857167, 866025, 874620, 882948, 891007, 898794, 906308, 913545, 920505, 927184, 933580, 939693, 945519, 951057, 956305, 961262, 965926, 970296, 974370, 978148, 981627, 984808, 987688, 990268, 992546, 994522, 996195, 997564, 998630, 999391, 999848, 1000000]
theorem tabM_len : tabM.length = 91 := by decide
theorem tabM_bd : ∀ k, k < 91 → 0 ≤ tabM.getD k 0 ∧ tabM.getD k 0 ≤ 1000000 := by decide
/-- The table's number k. -/
def tq (k : Nat) : Int := tabM.getD k 0
theorem tq_bd {k : Nat} (h : k < 91) : 0 ≤ tq k ∧ tq k ≤ 1000000 := tabM_bd k h
/-- The sine of 0 to 180 degrees. -/
def sinH (r : Int) : Int := if 90 < r then tq (180 - r).toNat else tq r.toNat
theorem sinH_bd {r : Int} (h0 : 0 ≤ r) (h1 : r ≤ 180) : 0 ≤ sinH r ∧ sinH r ≤ 1000000 := by
  unfold sinH
  split
  · exact tq_bd (by omega)
  · exact tq_bd (by omega)
def sinM (d : Int) : Int := if 180 ≤ d % 360 then -(sinH (d % 360 - 180)) else sinH (d % 360)
theorem sinM_bd (d : Int) : -1000000 ≤ sinM d ∧ sinM d ≤ 1000000 := by
  unfold sinM
  split
  · have := @sinH_bd (d % 360 - 180) (by omega) (by omega); omega
  · have := @sinH_bd (d % 360) (by omega) (by omega); omega
theorem sinM_mod (d e : Int) (h : d % 360 = e % 360) : sinM d = sinM e := by unfold sinM; rw [h]
def cosM (d : Int) : Int := sinM (d % 360 + 90)
theorem cosM_eq (d : Int) : cosM d = sinM (d + 90) := sinM_mod _ _ (by omega)
theorem cosM_bd (d : Int) : -1000000 ≤ cosM d ∧ cosM d ≤ 1000000 := sinM_bd _

theorem sinM_1 {a : Int} {r : Nat} (h : a % 360 = r) (h1 : r ≤ 90) : sinM a = tq r := by
  unfold sinM sinH
  rw [h, if_neg (by omega), if_neg (by omega)]
  exact congrArg tq (by omega)
theorem sinM_2 {a : Int} {r : Nat} (h : a % 360 = r) (h1 : 90 < r) (h2 : r < 180) : sinM a = tq (180 - r) := by
  unfold sinM sinH
  rw [h, if_neg (by omega), if_pos (by omega)]
  exact congrArg tq (by omega)
theorem sinM_3 {a : Int} {r : Nat} (h : a % 360 = r) (h1 : 180 ≤ r) (h2 : r ≤ 270) : sinM a = -tq (r - 180) := by
  unfold sinM sinH
  rw [h, if_pos (by omega), if_neg (by omega)]
  exact congrArg (fun k => -tq k) (by omega)
theorem sinM_4 {a : Int} {r : Nat} (h : a % 360 = r) (h1 : 270 < r) (h2 : r < 360) : sinM a = -tq (180 - (r - 180)) := by
  unfold sinM sinH
  rw [h, if_pos (by omega), if_pos (by omega)]
  exact congrArg (fun k => -tq k) (by omega)
theorem sinM_turn {a : Int} {r : Nat} (h : a % 360 = r) (h1 : 180 ≤ r) : sinM a = -sinM ((r : Int) - 180) := by
  have e : ((r : Int) - 180) % 360 = (r : Int) - 180 := by omega
  unfold sinM
  rw [h, if_pos (by omega), e, if_neg (by omega)]

/-! ### The best of 360 directions -/
def alongM (dx dy d : Int) : Int := dx * sinM d + dy * cosM d
/-- The best direction and its number behind k rounds. -/
def bestTo (dx dy : Int) : Nat → Int × Int
  | 0 => (0, alongM dx dy 0)
  | k + 1 => if (bestTo dx dy k).2 < alongM dx dy k then ((k : Int), alongM dx dy k) else bestTo dx dy k
def bearM (dx dy : Int) : Int := (bestTo dx dy 360).1
theorem bestTo_one (dx dy : Int) : bestTo dx dy 1 = (0, alongM dx dy 0) := by
  simp [bestTo]
theorem bestTo_bd (dx dy : Int) (k : Nat) (h : k ≤ 360) : 0 ≤ (bestTo dx dy k).1 ∧ (bestTo dx dy k).1 < 360 := by
  induction k with
  | zero => simp [bestTo]
  | succ k ih =>
    have := ih (by omega)
    simp only [bestTo]
    split
    · exact ⟨by simp, by simp; omega⟩
    · exact this
theorem bearM_bd (dx dy : Int) : 0 ≤ bearM dx dy ∧ bearM dx dy < 360 := bestTo_bd dx dy 360 (Nat.le_refl _)
theorem bestTo_zero (k : Nat) : bestTo 0 0 k = (0, 0) := by
  induction k with
  | zero => simp [bestTo, alongM]
  | succ k ih => simp only [bestTo, ih]; simp [alongM]
theorem bearM_zero : bearM 0 0 = 0 := by unfold bearM; rw [bestTo_zero]
/-- The same, counted from no round at all. -/
def bestS (dx dy : Int) (k : Nat) : Int × Int := if k = 0 then (0, 0) else bestTo dx dy k
theorem bestS_zero (dx dy : Int) : bestS dx dy 0 = (0, 0) := rfl
theorem bestS_one (dx dy : Int) : bestS dx dy (0 + 1) = (0, alongM dx dy 0) := by unfold bestS; rw [if_neg (by omega), bestTo_one]
theorem bestS_hit {dx dy : Int} {k : Nat} (h0 : ¬ k = 0) (h : (bestS dx dy k).2 < alongM dx dy k) : bestS dx dy (k + 1) = ((k : Int), alongM dx dy k) := by
  unfold bestS at *
  rw [if_neg h0] at h
  rw [if_neg (by omega)]
  simp only [bestTo]
  rw [if_pos h]
theorem bestS_miss {dx dy : Int} {k : Nat} (h0 : ¬ k = 0) (h : ¬ (bestS dx dy k).2 < alongM dx dy k) : bestS dx dy (k + 1) = bestS dx dy k := by
  unfold bestS at *
  rw [if_neg h0] at h
  rw [if_neg (by omega), if_neg h0]
  simp only [bestTo]
  rw [if_neg h]
theorem bestS_end (dx dy : Int) : (bestS dx dy 360).1 = bearM dx dy := by unfold bestS bearM; rw [if_neg (by omega)]
theorem bestTo_hit {dx dy : Int} {k : Nat} (h : (bestTo dx dy k).2 < alongM dx dy k) : bestTo dx dy (k + 1) = ((k : Int), alongM dx dy k) := by
  simp only [bestTo]; rw [if_pos h]
theorem bestTo_miss {dx dy : Int} {k : Nat} (h : ¬ (bestTo dx dy k).2 < alongM dx dy k) : bestTo dx dy (k + 1) = bestTo dx dy k := by
  simp only [bestTo]; rw [if_neg h]
theorem along_bd {dx dy : Int} (d : Int) (h1 : -200000 ≤ dx ∧ dx ≤ 200000) (h2 : -200000 ≤ dy ∧ dy ≤ 200000) : -400000000000 ≤ alongM dx dy d ∧ alongM dx dy d ≤ 400000000000 := by
  have a := sinM_bd d
  have b := cosM_bd d
  have e := Int.mul_le_mul_of_nonneg_left (show sinM d ≤ 1000000 by omega) (show 0 ≤ 200000 + dx by omega)
  have mb : ∀ x y : Int, -200000 ≤ x → x ≤ 200000 → -1000000 ≤ y → y ≤ 1000000 → -200000000000 ≤ x * y ∧ x * y ≤ 200000000000 := fun x y a1 a2 a3 a4 => by
    have h : (x * y).natAbs ≤ (200000 * 1000000 : Int).natAbs := by
      rw [Int.natAbs_mul]
      exact Nat.mul_le_mul (show x.natAbs ≤ 200000 by omega) (show y.natAbs ≤ 1000000 by omega)
    omega
  have := mb dx (sinM d) h1.1 h1.2 a.1 a.2
  have := mb dy (cosM d) h2.1 h2.2 b.1 b.2
  unfold alongM; omega
end Go.Proofs.YthjkkidcpidgdaaGreatDoor
