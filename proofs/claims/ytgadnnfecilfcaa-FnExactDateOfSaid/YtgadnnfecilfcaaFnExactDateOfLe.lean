/- The plain laws of the first seat: what the printed law of each function comes to is 'true', for all arguments of their kinds. -/
import Derived.Test.YtgadnnfecilfcaaFnExactDateOfLc
namespace Go.Proofs.Ytgadnnfecilfcaa.Pure
set_option linter.unusedVariables false
set_option linter.unusedSimpArgs false
open Go.RowKit Go.Proofs.Ytgadnnfecilfcaa.P Go.Proofs.Ytgadnnfecilfcaa.L Go.Proofs.YtgadnnfecilfcaaW.PrintWords Go.Proofs.YtgadnnfecilfcaaW.PrintLast Go.Proofs.YtgadnnfecilfcaaW.PrintMore

theorem FnExactDateOf' (n : Int) (_ : (Lit.int .i64 n).wf = true) : ∃ k, laws_FnExactDateOf.f k n = some true := by
  obtain ⟨y, m, d, c, h1, h2, -⟩ := L.dateOf_both n
  unfold laws_FnExactDateOf.f
  exact (Ev.bind h2 (Ev.bind h1 (Ev.pure (by simp [laws_eqDate.f])))).rounds
end Go.Proofs.Ytgadnnfecilfcaa.Pure

