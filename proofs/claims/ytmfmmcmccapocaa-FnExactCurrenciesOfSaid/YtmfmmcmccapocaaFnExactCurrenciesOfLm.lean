/- What the functions of chapter 4 answer (schedules of points, weights, interest, the day when it is reached), in the program and in the reference. Conditions: those of a schedule, and days of the calendar. -/
import Derived.Test.YtmfmmcmccapocaaFnExactCurrenciesOfLs
namespace Go.Proofs.Ytmfmmcmccapocaa.L
set_option linter.unusedVariables false
set_option linter.unusedSimpArgs false
open Go.RowKit Go.Proofs.Ytmfmmcmccapocaa.P Go.Proofs.YtmfmmcmccapocaaW.PrintWords Go.Proofs.YtmfmmcmccapocaaW.PrintLast Go.Proofs.YtmfmmcmccapocaaW.PrintMore

theorem near_eq {a b : Int} (ha : 0 ≤ a) (hb : 0 < b) : near a b = (2 * a + b) / (2 * b) := by
  have h := Int.mul_ediv_add_emod a b
  have q := quot_bd ha hb
  unfold near
  have h1 : (2 * a + b) / (2 * b) = a / b + (2 * (a % b) + b) / (2 * b) := by
    rw [show 2 * a + b = 2 * (a % b) + b + (a / b) * (2 * b) by
      have : (a / b) * (2 * b) = 2 * (b * (a / b)) := by rw [Int.mul_comm (a / b), Int.mul_assoc]
      omega]
    rw [Int.add_mul_ediv_right _ _ (by omega)]; omega
  rw [h1]
  by_cases h2 : b ≤ 2 * (a % b)
  · rw [if_pos h2, show (2 * (a % b) + b) / (2 * b) = 1 from by
      rw [show 2 * (a % b) + b = (2 * (a % b) - b) + 1 * (2 * b) by omega, Int.add_mul_ediv_right _ _ (by omega), Int.ediv_eq_zero_of_lt (by omega) (by omega)]; rfl]
  · rw [if_neg h2, show (2 * (a % b) + b) / (2 * b) = 0 from Int.ediv_eq_zero_of_lt (by omega) (by omega)]; omega
theorem near_mono {a a' b : Int} (ha : 0 ≤ a) (h : a ≤ a') (hb : 0 < b) : near a b ≤ near a' b := by
  rw [near_eq ha hb, near_eq (by omega) hb]
  exact Int.ediv_le_ediv (by omega) (by omega)

theorem cmp_Compare (a b : Int) : cmp_Compare_int64.f a b = some (if a < b then -1 else if a > b then 1 else 0) := by
  unfold cmp_Compare_int64.f cmp_isNaN_int64.f
  simp only [bne_self_eq_false, Option.bind_some, Bool.false_eq_true, if_false]
  by_cases h : a < b
  · simp [h]
  · by_cases h2 : b < a <;> simp [h, h2]
def amountV (n : Int) : Int × Int := if 0 ≤ n ∧ n ≤ 1000000000 then (n, 0) else (0, 3)
end Go.Proofs.Ytmfmmcmccapocaa.L

