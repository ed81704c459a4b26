/- The plain laws of chapter 1 over lists: what the printed law of each function comes to is 'true', for all arguments of their kinds. -/
import Derived.Test.YtbfckglccgemkaaFnExactIsFairShareLg
namespace Go.Proofs.Ytbfckglccgemkaa.Pure
set_option linter.unusedVariables false
set_option linter.unusedSimpArgs false
open Go.RowKit Go.Proofs.Ytbfckglccgemkaa.P Go.Proofs.Ytbfckglccgemkaa.L Go.Proofs.YtbfckglccgemkaaW.PrintWords Go.Proofs.YtbfckglccgemkaaW.PrintLast Go.Proofs.YtbfckglccgemkaaW.PrintMore

theorem FnExactIsFairShare' (t : Int) (w p : List Int) (_ : (Lit.int .i64 t).wf = true) (_ : w.length * 8 ≤ 140737488351232) (_ : ∀ x ∈ w, (Lit.int .i64 x).wf = true) (_ : p.length * 8 ≤ 140737488351232) (_ : ∀ x ∈ p, (Lit.int .i64 x).wf = true) :
    ∃ k, laws_FnExactIsFairShare.f k t w p = some true := by
  unfold laws_FnExactIsFairShare.f
  by_cases h : (w.length : Int) > 1048576
  · exact ⟨0, by rw [if_pos h]⟩
  by_cases h2 : (p.length : Int) > 1048576
  · exact ⟨0, by rw [if_neg h, if_pos h2]⟩
  have hl : w.length ≤ 1048576 := by omega
  have hp : p.length ≤ 1048576 := by omega
  have j : Ev (fun k => laws_FnExactIsFairShare.j0 k w p w p false) true :=
    Ev.step (f := fun k => (laws_toInt64S.f k w).bind fun t235 => (laws_eqInt64S.f k w t235).bind fun t238 => if t238 = true then ((laws_toInt64S.f k p).bind fun t239 => (laws_eqInt64S.f k p t239).bind fun t242 => if t242 = true then some true else some false) else some false) (fun k => by simp only [laws_FnExactIsFairShare.j0, Bool.false_eq_true, if_false])
      (Ev.bind (L.laws_toInt64S w hl) (Ev.bind (L.laws_eqInt64S w w hl) (by simp only [decide_true, if_true]; exact Ev.bind (L.laws_toInt64S p hp) (Ev.bind (L.laws_eqInt64S p p hp) (Ev.pure (by simp))))))
  simp only [h, h2, if_false]
  refine (Ev.bind (L.laws_toInt64S w hl) (Ev.bind (L.laws_toInt64S p hp) (Ev.bind (L.spec_IsFairShare t w p hl hp) (Ev.bind (L.laws_toInt64S w hl) (Ev.bind (L.laws_toInt64S p hp) (Ev.bind (L.impl_IsFairShare t w p hp) ?_)))))).rounds
  simp only [bne_self_eq_false, Bool.false_eq_true, if_false]
  exact j
end Go.Proofs.Ytbfckglccgemkaa.Pure

