/- The plain laws of the first seat: what the printed law of each function comes to is 'true', for all arguments of their kinds. -/
import Derived.Test.YtgadnnfecilfcaaFnExactIsAmountLb
namespace Go.Proofs.Ytgadnnfecilfcaa.Pure
set_option linter.unusedVariables false
set_option linter.unusedSimpArgs false
open Go.RowKit Go.Proofs.Ytgadnnfecilfcaa.P Go.Proofs.Ytgadnnfecilfcaa.L Go.Proofs.YtgadnnfecilfcaaW.PrintWords Go.Proofs.YtgadnnfecilfcaaW.PrintLast Go.Proofs.YtgadnnfecilfcaaW.PrintMore

theorem FnExactIsAmount' (a : Int) (_ : (Lit.int .i64 a).wf = true) : laws_FnExactIsAmount.f a = some true := by
  unfold laws_FnExactIsAmount.f
  simp [L.spec_IsAmount, L.impl_IsAmount]
end Go.Proofs.Ytgadnnfecilfcaa.Pure

