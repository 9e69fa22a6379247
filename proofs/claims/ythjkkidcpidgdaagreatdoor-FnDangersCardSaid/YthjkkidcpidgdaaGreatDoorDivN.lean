/-
  Plain law of nearest quotients: how far they are from the true ones. Under no condition but those that it states.
-/
import Derived.Test.YthjkkidcpidgdaaGreatDoorLead2
set_option linter.unusedVariables false
set_option maxRecDepth 100000
set_option linter.unusedSimpArgs false
namespace Go.Proofs.YthjkkidcpidgdaaGreatDoor
theorem divR_near {a n : Int} (hn : 1 ≤ n) : -n ≤ 2 * (n * divR a n - a) ∧ 2 * (n * divR a n - a) ≤ n := by
  by_cases h : a < 0
  · rw [divR_lt hn h]
    have h1 := Int.mul_ediv_add_emod (n - 2 * a) (2 * n)
    have h2 := Int.emod_nonneg (n - 2 * a) (by omega : 2 * n ≠ 0)
    have h3 := Int.emod_lt_of_pos (n - 2 * a) (show 0 < 2 * n by omega)
    generalize (n - 2 * a) / (2 * n) = q at h1
    generalize (n - 2 * a) % (2 * n) = r at h1 h2 h3
    have e : n * -q = -(n * q) := Int.mul_neg n q
    have e2 : 2 * n * q = 2 * (n * q) := Int.mul_assoc 2 n q
    rw [e]
    omega
  · rw [divR_ge hn h]
    have h1 := Int.mul_ediv_add_emod (2 * a + n) (2 * n)
    have h2 := Int.emod_nonneg (2 * a + n) (by omega : 2 * n ≠ 0)
    have h3 := Int.emod_lt_of_pos (2 * a + n) (show 0 < 2 * n by omega)
    generalize (2 * a + n) / (2 * n) = q at h1
    generalize (2 * a + n) % (2 * n) = r at h1 h2 h3
    have e2 : 2 * n * q = 2 * (n * q) := Int.mul_assoc 2 n q
    omega
end Go.Proofs.YthjkkidcpidgdaaGreatDoor
