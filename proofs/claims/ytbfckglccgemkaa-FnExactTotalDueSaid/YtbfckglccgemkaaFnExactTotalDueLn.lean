/- The plain laws of chapter 4 (schedules): what the printed law of each function comes to is 'true', for all arguments of their kinds. -/
import Derived.Test.YtbfckglccgemkaaFnExactTotalDueLm
namespace Go.Proofs.Ytbfckglccgemkaa.Pure
set_option linter.unusedVariables false
set_option linter.unusedSimpArgs false
open Go.RowKit Go.Proofs.Ytbfckglccgemkaa.P Go.Proofs.Ytbfckglccgemkaa.L Go.Proofs.YtbfckglccgemkaaW.PrintWords Go.Proofs.YtbfckglccgemkaaW.PrintLast Go.Proofs.YtbfckglccgemkaaW.PrintMore

theorem tailS (l : List S75) (hl : l.length ≤ 1048576) : Ev (fun k => (laws_toStepS.f k l).bind fun t => (laws_eqStepS.f k (l.map L.convStep) t).bind fun u => if u = true then some true else some false) true :=
  Ev.bind (L.laws_toStepS l hl) (Ev.bind (L.laws_eqStepS _ (by rw [List.length_map]; exact hl)) (Ev.pure (by simp)))
/-- A law of a schedule begins so: too long a list is out of its reach. -/
theorem beginS {f : Nat → Int → Option Bool} (l : List S75) (hb : l.length * 16 ≤ 140737488351232) (h0 : ∀ k t, t < 0 → f k t = some true)
    (h : l.length ≤ 1048576 → ¬ (1048576 - (l.length : Int) < 0) → Ev (fun k => f k (1048576 - (l.length : Int))) true) : ∃ k, (laws_szStepS.f l 1048576).bind (f k) = some true := by
  have hz := L.laws_szStepS l hb
  by_cases h1 : 1048576 < (l.length : Int)
  · exact ⟨0, by rw [hz, if_pos h1, Option.bind_some]; exact h0 0 (-1) (by decide)⟩
  · rw [if_neg h1] at hz
    obtain ⟨k, hk⟩ := (h (by omega) (by omega)).rounds
    exact ⟨k, by rw [hz, Option.bind_some]; exact hk⟩
theorem FnExactTotalDue' (l : List S75) (a c f t : Int) (hb : l.length * 16 ≤ 140737488351232) {p : S75 → Prop} (_ : ∀ x ∈ l, p x) (_ : (Lit.int .i64 a).wf = true) (_ : (Lit.int .i64 c).wf = true) (_ : (Lit.int .i64 f).wf = true) (_ : (Lit.int .i64 t).wf = true) : ∃ k, laws_FnExactTotalDue.f k l a c f t = some true := by
  unfold laws_FnExactTotalDue.f
  refine beginS l hb (fun k t h => by rw [if_pos h]) (fun hl hn => ?_)
  have hm : (l.map L.convStep).length ≤ 1048576 := by rw [List.length_map]; exact hl
  simp only [hn, if_false]
  refine Ev.bind (L.laws_toStepS l hl) (Ev.bind (L.spec_TotalDue _ hm a c f t) (Ev.bind (L.laws_toStepS l hl) (Ev.bind (L.impl_TotalDue _ a c f t) ?_)))
  simp only [if_true, bne_self_eq_false]
  exact Ev.step (fun k => by simp only [laws_FnExactTotalDue.j0, Bool.false_eq_true, if_false]) (tailS l hl)
end Go.Proofs.Ytbfckglccgemkaa.Pure

