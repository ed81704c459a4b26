/- The plain laws of the first seat: what the printed law of each function comes to is 'true', for all arguments of their kinds. -/
import Derived.Test.YtgadnnfecilfcaaFnExactWeekdayOfLc
namespace Go.Proofs.Ytgadnnfecilfcaa.Pure
set_option linter.unusedVariables false
set_option linter.unusedSimpArgs false
open Go.RowKit Go.Proofs.Ytgadnnfecilfcaa.P Go.Proofs.Ytgadnnfecilfcaa.L Go.Proofs.YtgadnnfecilfcaaW.PrintWords Go.Proofs.YtgadnnfecilfcaaW.PrintLast Go.Proofs.YtgadnnfecilfcaaW.PrintMore

theorem FnExactWeekdayOf' (n : Int) (_ : (Lit.int .i64 n).wf = true) : ∃ k, laws_FnExactWeekdayOf.f k n = some true := by
  unfold laws_FnExactWeekdayOf.f
  simp only [Option.bind_some, L.spec_WeekdayOf]
  exact (Ev.bind (L.impl_WeekdayOf n) (Ev.pure (by simp))).rounds
end Go.Proofs.Ytgadnnfecilfcaa.Pure

