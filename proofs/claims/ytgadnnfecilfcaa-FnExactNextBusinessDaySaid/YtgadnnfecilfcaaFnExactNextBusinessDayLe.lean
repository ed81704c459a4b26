/- The plain laws of the first seat: what the printed law of each function comes to is 'true', for all arguments of their kinds. -/
import Derived.Test.YtgadnnfecilfcaaFnExactNextBusinessDayLc
namespace Go.Proofs.Ytgadnnfecilfcaa.Pure
set_option linter.unusedVariables false
set_option linter.unusedSimpArgs false
open Go.RowKit Go.Proofs.Ytgadnnfecilfcaa.P Go.Proofs.Ytgadnnfecilfcaa.L Go.Proofs.YtgadnnfecilfcaaW.PrintWords Go.Proofs.YtgadnnfecilfcaaW.PrintLast Go.Proofs.YtgadnnfecilfcaaW.PrintMore

theorem FnExactNextBusinessDay' (a b : Int) (_ : (Lit.int .i64 a).wf = true) (_ : (Lit.int .i64 b).wf = true) : ∃ k, laws_FnExactNextBusinessDay.f k a b = some true := by
  unfold laws_FnExactNextBusinessDay.f
  exact (Ev.bind (L.spec_NextBusinessDay a b) (Ev.bind (L.impl_NextBusinessDay a b) (Ev.pure (by simp)))).rounds
end Go.Proofs.Ytgadnnfecilfcaa.Pure

