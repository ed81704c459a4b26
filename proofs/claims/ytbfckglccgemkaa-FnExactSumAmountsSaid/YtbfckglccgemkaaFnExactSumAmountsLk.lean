/- The plain laws of chapter 1 over lists: what the printed law of each function comes to is 'true', for all arguments of their kinds. -/
import Derived.Test.YtbfckglccgemkaaFnExactSumAmountsLg
namespace Go.Proofs.Ytbfckglccgemkaa.Pure
set_option linter.unusedVariables false
set_option linter.unusedSimpArgs false
open Go.RowKit Go.Proofs.Ytbfckglccgemkaa.P Go.Proofs.Ytbfckglccgemkaa.L Go.Proofs.YtbfckglccgemkaaW.PrintWords Go.Proofs.YtbfckglccgemkaaW.PrintLast Go.Proofs.YtbfckglccgemkaaW.PrintMore

theorem FnExactSumAmounts' (l : List Int) (_ : l.length * 8 ≤ 140737488351232) (_ : ∀ x ∈ l, (Lit.int .i64 x).wf = true) : ∃ k, laws_FnExactSumAmounts.f k l = some true := by
  unfold laws_FnExactSumAmounts.f
  by_cases h : (l.length : Int) > 1048576
  · exact ⟨0, by rw [if_pos h]⟩
  have hl : l.length ≤ 1048576 := by omega
  have j : Ev (fun k => laws_FnExactSumAmounts.j0 k l l false) true :=
    Ev.step (f := fun k => (laws_toInt64S.f k l).bind fun t131 => (laws_eqInt64S.f k l t131).bind fun t134 => if t134 = true then some true else some false) (fun k => by simp only [laws_FnExactSumAmounts.j0, Bool.false_eq_true, if_false])
      (Ev.bind (L.laws_toInt64S l hl) (Ev.bind (L.laws_eqInt64S l l hl) (Ev.pure (by simp))))
  simp only [h, if_false]
  refine (Ev.bind (L.laws_toInt64S l hl) (Ev.bind (L.spec_SumAmounts l hl) (Ev.bind (L.laws_toInt64S l hl) (Ev.bind (L.impl_SumAmounts l hl) ?_)))).rounds
  simp only [if_true, bne_self_eq_false]
  exact j
end Go.Proofs.Ytbfckglccgemkaa.Pure

