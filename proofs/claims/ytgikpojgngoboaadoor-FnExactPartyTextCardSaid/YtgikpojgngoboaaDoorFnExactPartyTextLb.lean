/- What the small functions of the program and of the reference answer (ranges, nearest quotients, weekdays, lengths of months), as facts about their printed Lean forms. Conditions: the bounds that each fact names. -/
import Derived.Test.YtgikpojgngoboaaDoorFnExactPartyTextLa
namespace Go.Proofs.YtgikpojgngoboaaDoor.L
set_option linter.unusedVariables false
set_option linter.unusedSimpArgs false
open Go.RowKit Go.Proofs.YtgikpojgngoboaaDoor.P Go.Proofs.YtgikpojgngoboaaDoorW.PrintWords Go.Proofs.YtgikpojgngoboaaDoorW.PrintLast Go.Proofs.YtgikpojgngoboaaDoorW.PrintMore

theorem impl_in (a b c : Int) : impl_in.f a b c = some (decide (b ≤ a ∧ a ≤ c)) := by
  unfold impl_in.f
  by_cases h : b ≤ a <;> simp [h]
theorem spec_l01In (a b c : Int) : spec_l01In.f a b c = some (decide (b ≤ a ∧ a ≤ c)) := by
  unfold spec_l01In.f
  by_cases h : b ≤ a <;> simp [h]
end Go.Proofs.YtgikpojgngoboaaDoor.L

