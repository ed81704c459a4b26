/- The plain laws of the first seat: what the printed law of each function comes to is 'true', for all arguments of their kinds. -/
import Derived.Test.YtgadnnfecilfcaaFnExactIsPartyCodeLd
namespace Go.Proofs.Ytgadnnfecilfcaa.Pure
set_option linter.unusedVariables false
set_option linter.unusedSimpArgs false
open Go.RowKit Go.Proofs.Ytgadnnfecilfcaa.P Go.Proofs.Ytgadnnfecilfcaa.L Go.Proofs.YtgadnnfecilfcaaW.PrintWords Go.Proofs.YtgadnnfecilfcaaW.PrintLast Go.Proofs.YtgadnnfecilfcaaW.PrintMore

theorem FnExactIsPartyCode' (s : ByteArray) (hs : s.size ≤ 140737488351232) : ∃ k, laws_FnExactIsPartyCode.f k s = some true := by
  unfold laws_FnExactIsPartyCode.f
  by_cases h : (s.size : Int) > 1048576
  · exact ⟨0, by rw [if_pos h]⟩
  · simp only [h, if_false]
    exact (Ev.bind (L.spec_IsPartyCode s hs) (Ev.bind (L.impl_IsPartyCode s hs) (Ev.pure (by simp)))).rounds
end Go.Proofs.Ytgadnnfecilfcaa.Pure

