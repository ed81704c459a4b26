/- The plain laws of the first seat: what the printed law of each function comes to is 'true', for all arguments of their kinds. -/
import Derived.Test.YtgadnnfecilfcaaFnExactIsInterestLd
namespace Go.Proofs.Ytgadnnfecilfcaa.Pure
set_option linter.unusedVariables false
set_option linter.unusedSimpArgs false
open Go.RowKit Go.Proofs.Ytgadnnfecilfcaa.P Go.Proofs.Ytgadnnfecilfcaa.L Go.Proofs.YtgadnnfecilfcaaW.PrintWords Go.Proofs.YtgadnnfecilfcaaW.PrintLast Go.Proofs.YtgadnnfecilfcaaW.PrintMore

theorem FnExactIsInterest' (c : ByteArray) (kind : Int) (o : ByteArray) (value age : Int) (hq : c.size ≤ maxLen ∧ (Lit.int .i64 kind).wf = true ∧ o.size ≤ maxLen ∧ (Lit.int .i64 value).wf = true ∧ (Lit.int .i64 age).wf = true) :
    ∃ k, laws_FnExactIsInterest.f k c kind o value age = some true := by
  unfold laws_FnExactIsInterest.f laws_toInterest.f laws_szInterest.f
  obtain ⟨hc, -, ho, -, -⟩ := hq
  unfold maxLen at hc ho
  rw [w64 (x := 1048576 - (c.size : Int)) (by omega) (by omega)]
  by_cases h1 : 1048576 - (c.size : Int) < 0
  · exact ⟨0, by simp [h1]⟩
  rw [w64 (x := 1048576 - (c.size : Int) - (o.size : Int)) (by omega) (by omega)]
  by_cases h2 : 1048576 - (c.size : Int) - (o.size : Int) < 0
  · exact ⟨0, by simp [h1, h2]⟩
  simp only [h1, h2, if_false, Option.bind_some]
  exact (Ev.bind (L.spec_IsInterest c kind o value age (by omega) (by omega)) (Ev.bind (L.impl_IsInterest c kind o value age (by omega) (by omega)) (Ev.pure (by simp)))).rounds
end Go.Proofs.Ytgadnnfecilfcaa.Pure

