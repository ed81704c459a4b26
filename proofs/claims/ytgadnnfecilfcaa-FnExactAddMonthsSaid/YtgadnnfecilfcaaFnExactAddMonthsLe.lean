/- The plain laws of the first seat: what the printed law of each function comes to is 'true', for all arguments of their kinds. -/
import Derived.Test.YtgadnnfecilfcaaFnExactAddMonthsLc
namespace Go.Proofs.Ytgadnnfecilfcaa.Pure
set_option linter.unusedVariables false
set_option linter.unusedSimpArgs false
open Go.RowKit Go.Proofs.Ytgadnnfecilfcaa.P Go.Proofs.Ytgadnnfecilfcaa.L Go.Proofs.YtgadnnfecilfcaaW.PrintWords Go.Proofs.YtgadnnfecilfcaaW.PrintLast Go.Proofs.YtgadnnfecilfcaaW.PrintMore

theorem FnExactAddMonths' (y m d a : Int) (_ : (Lit.int .i64 y).wf = true ∧ (Lit.int .i64 m).wf = true ∧ (Lit.int .i64 d).wf = true) (_ : (Lit.int .i64 a).wf = true) : ∃ k, laws_FnExactAddMonths.f k y m d a = some true := by
  unfold laws_FnExactAddMonths.f laws_toDate.f
  simp only [Option.bind_some, L.spec_AddMonths]
  exact (Ev.bind (L.impl_AddMonths y m d a) (Ev.pure (by simp [laws_eqDate.f]))).rounds
end Go.Proofs.Ytgadnnfecilfcaa.Pure

