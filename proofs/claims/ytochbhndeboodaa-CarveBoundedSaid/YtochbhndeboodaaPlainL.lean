/- How large the worth of a task can be. -/
import Derived.Test.YtochbhndeboodaaPlainK
namespace Go.Proofs.Ytochbhndeboodaa
set_option linter.unusedVariables false
set_option linter.unusedSimpArgs false
open Go.Proofs.Ytochbhndeboodaa.PCarveMore (S52 S56 k52 k56)

theorem bestV_small {L : List S52} (hL : OkL L) {i j : Nat} (hi : i ≤ 48) (hj : j ≤ 48) : bestV L i j ≤ 2415919104 := by
  by_cases h0 : i = 0 ∨ j = 0
  · rw [bestV_zero hL hi hj h0]
    decide
  · obtain ⟨a, e⟩ := plan_read hL (w := i) (h := j) (by omega) hi (by omega) hj
    have h := (read_area hL (by omega) (by omega) e).2.1
    have h2 : (i : Int) * j ≤ 48 * 48 := Int.le_trans (Int.mul_le_mul_of_nonneg_right (show (i : Int) ≤ 48 by omega) (by omega)) (Int.mul_le_mul_of_nonneg_left (show (j : Int) ≤ 48 by omega) (by omega))
    generalize (i : Int) * j = z at *
    omega

end Go.Proofs.Ytochbhndeboodaa
