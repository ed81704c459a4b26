/- What the small functions of the program and of the reference answer (ranges, nearest quotients, weekdays, lengths of months), as facts about their printed Lean forms. Conditions: the bounds that each fact names. -/
import Derived.Test.YtbfckglccgemkaaFnExactCrossRateLa
namespace Go.Proofs.Ytbfckglccgemkaa.L
set_option linter.unusedVariables false
set_option linter.unusedSimpArgs false
open Go.RowKit Go.Proofs.Ytbfckglccgemkaa.P Go.Proofs.YtbfckglccgemkaaW.PrintWords Go.Proofs.YtbfckglccgemkaaW.PrintLast Go.Proofs.YtbfckglccgemkaaW.PrintMore

theorem impl_in (a b c : Int) : impl_in.f a b c = some (decide (b ≤ a ∧ a ≤ c)) := by
  unfold impl_in.f
  by_cases h : b ≤ a <;> simp [h]
theorem spec_l01In (a b c : Int) : spec_l01In.f a b c = some (decide (b ≤ a ∧ a ≤ c)) := by
  unfold spec_l01In.f
  by_cases h : b ≤ a <;> simp [h]
theorem spec_IsAmount (a : Int) : spec_IsAmount.f a = some (decide (0 ≤ a ∧ a ≤ 1000000000)) := by
  unfold spec_IsAmount.f; rw [spec_l01In]; rfl
theorem impl_isPoints (a : Int) : impl_isPoints.f a = some (decide (0 ≤ a ∧ a ≤ 10000)) := by
  unfold impl_isPoints.f; rw [impl_in]; rfl
theorem spec_l02Is (a : Int) : spec_l02Is.f a = some (decide (0 ≤ a ∧ a ≤ 36524)) := by
  unfold spec_l02Is.f; rw [spec_l01In]; rfl
end Go.Proofs.Ytbfckglccgemkaa.L

