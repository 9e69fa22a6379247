/-
  Plain laws of places of a channel, no program in sight: they lie in it. Each under the conditions that it states.
-/
import Derived.Test.YtlflefnjoeappaaBtwP
set_option linter.unusedVariables false
set_option linter.unnecessarySimpa false
set_option maxRecDepth 100000
set_option linter.unusedSimpArgs false
namespace Go.Proofs.Ytlflefnjoeappaa
/-! ### Places of a channel lie in it -/
theorem near_le (P : List RPoint) (x y : Int) : ∀ (n k : Nat), k ≤ n → (nearTo P x y n).2 ≤ segM P x y k
  | 0, k, h => by
    obtain rfl : k = 0 := by omega
    exact Int.le_refl _
  | n + 1, k, h => by
    rw [nearTo]
    rcases (by omega : k = n + 1 ∨ k ≤ n) with rfl | h1
    · split
      · exact Int.le_refl _
      · rename_i h2; omega
    · have ih := near_le P x y n k h1
      split
      · simp only; omega
      · exact ih
theorem place_near {P : List RPoint} {d : Int} (h2 : 2 ≤ P.length) (hs : ∀ j, j < P.length - 1 → 1 ≤ segD P j) (h0 : 0 ≤ d) (hd : d ≤ lenM P) : (nearTo P (placeM P d).1 (placeM P d).2 (P.length - 2)).2 ≤ 0 := by
  have hf := fndM_spec h2 h0 hd
  have h := near_le P (placeM P d).1 (placeM P d).2 (P.length - 2) (fndM P d).1 (by omega)
  have hg : segM P (placeM P d).1 (placeM P d).2 (fndM P d).1 = 0 := by
    unfold segM placeM partM
    exact gap_btw (hs _ hf.1) hf.2.2.1 hf.2.2.2
  omega
theorem place_in {P : List RPoint} {d lo hi : Int} (h2 : 2 ≤ P.length) (hs : ∀ j, j < P.length - 1 → 1 ≤ segD P j) (hp : ∀ k, k < P.length → (lo ≤ (P.getD k default).f0 ∧ (P.getD k default).f0 ≤ hi) ∧ lo ≤ (P.getD k default).f1 ∧ (P.getD k default).f1 ≤ hi) (h0 : 0 ≤ d) (hd : d ≤ lenM P) : (lo ≤ (placeM P d).1 ∧ (placeM P d).1 ≤ hi) ∧ lo ≤ (placeM P d).2 ∧ (placeM P d).2 ≤ hi := by
  have hf := fndM_spec h2 h0 hd
  unfold placeM partM
  have a := hp (fndM P d).1 (by omega)
  have b := hp ((fndM P d).1 + 1) (by omega)
  exact btw_in (hs _ hf.1) hf.2.2.1 hf.2.2.2 a.1 a.2 b.1 b.2
end Go.Proofs.Ytlflefnjoeappaa
