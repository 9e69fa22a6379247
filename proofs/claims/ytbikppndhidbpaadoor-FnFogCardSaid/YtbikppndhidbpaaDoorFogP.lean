/-
  Plain laws of sounds, no program in sight: louder and with the wind they carry farther. Each under the conditions that it states.
-/
import Derived.Test.YtbikppndhidbpaaDoorBtwP
set_option linter.unusedVariables false
set_option linter.unnecessarySimpa false
set_option maxRecDepth 100000
set_option linter.unusedSimpArgs false
namespace Go.Proofs.YtbikppndhidbpaaDoor
/-! ### How far a sound carries -/
def metM (i : Nat) : Int := [50, 200, 1000, 4000, 8000].getD i 0
def blendM (x0 y0 x1 y1 x : Int) : Int := if x ≤ x0 ∨ x1 ≤ x0 then y0 else if x1 ≤ x then y1 else y0 + divR ((y1 - y0) * (x - x0)) (x1 - x0)
def sndM (p w : Int) : Int := blendM (60 + 20 * min ((p - 60) / 20) 3) (metM (min ((p - 60) / 20) 3).toNat) (60 + 20 * min ((p - 60) / 20) 3 + 20) (metM ((min ((p - 60) / 20) 3).toNat + 1)) p * (4 + w) / 4
theorem snd_up : ∀ k : Nat, k < 80 → ∀ j : Nat, j < 7 → sndM ((k : Int) + 60) ((j : Int) - 3) ≤ sndM ((k : Int) + 61) ((j : Int) - 3) := by decide +kernel
theorem snd_wind : ∀ k : Nat, k < 81 → ∀ j : Nat, j < 6 → sndM ((k : Int) + 60) ((j : Int) - 3) ≤ sndM ((k : Int) + 60) ((j : Int) - 2) := by decide +kernel
theorem snd_bd : ∀ k : Nat, k < 81 → ∀ j : Nat, j < 7 → 0 ≤ sndM ((k : Int) + 60) ((j : Int) - 3) ∧ sndM ((k : Int) + 60) ((j : Int) - 3) ≤ 14000 := by decide +kernel
end Go.Proofs.YtbikppndhidbpaaDoor
