/- The plain laws of the first seat: what the printed law of each function comes to is 'true', for all arguments of their kinds. -/
import Derived.Test.YtgadnnfecilfcaaFnExactDayOfLc
namespace Go.Proofs.Ytgadnnfecilfcaa.Pure
set_option linter.unusedVariables false
set_option linter.unusedSimpArgs false
open Go.RowKit Go.Proofs.Ytgadnnfecilfcaa.P Go.Proofs.Ytgadnnfecilfcaa.L Go.Proofs.YtgadnnfecilfcaaW.PrintWords Go.Proofs.YtgadnnfecilfcaaW.PrintLast Go.Proofs.YtgadnnfecilfcaaW.PrintMore

theorem FnExactDayOf' (y m d : Int) (_ : (Lit.int .i64 y).wf = true ∧ (Lit.int .i64 m).wf = true ∧ (Lit.int .i64 d).wf = true) : ∃ k, laws_FnExactDayOf.f k y m d = some true := by
  unfold laws_FnExactDayOf.f laws_toDate.f
  simp only [Option.bind_some]
  exact (Ev.bind (L.spec_DayOf y m d) (Ev.bind (L.impl_DayOf y m d) (Ev.pure (by simp)))).rounds
end Go.Proofs.Ytgadnnfecilfcaa.Pure

