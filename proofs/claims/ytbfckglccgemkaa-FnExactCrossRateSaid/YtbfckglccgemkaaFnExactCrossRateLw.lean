/- The plain laws of chapter 3 that look for a rate: what the printed law of each function comes to is 'true', for all arguments of their kinds. -/
import Derived.Test.YtbfckglccgemkaaFnExactCrossRateLv
namespace Go.Proofs.Ytbfckglccgemkaa.Pure
set_option linter.unusedVariables false
set_option linter.unusedSimpArgs false
open Go.RowKit Go.Proofs.Ytbfckglccgemkaa.P Go.Proofs.Ytbfckglccgemkaa.L Go.Proofs.YtbfckglccgemkaaW.PrintWords Go.Proofs.YtbfckglccgemkaaW.PrintLast Go.Proofs.YtbfckglccgemkaaW.PrintMore

theorem FnExactCrossRate' (l : List S90) (a b : ByteArray) (d : Int) (hb : l.length * 40 ≤ 140737488351232) (hq : ∀ x ∈ l, Read1 x) (_ : a.size ≤ 140737488351232) (_ : b.size ≤ 140737488351232) (_ : (Lit.int .i64 d).wf = true) :
    ∃ k, laws_FnExactCrossRate.f k l a b d = some true := by
  unfold laws_FnExactCrossRate.f
  by_cases ha : (a.size : Int) > 1048576
  · exact ⟨0, by rw [if_pos ha]⟩
  by_cases hb2 : (b.size : Int) > 1048576
  · exact ⟨0, by rw [if_neg ha, if_pos hb2]⟩
  simp only [ha, hb2, if_false]
  refine beginR l hb hq (fun k t h => by rw [if_pos h]) (fun hl hs r hn => ?_)
  have hm : (l.map L.convRate).length ≤ 1048576 := by rw [List.length_map]; exact hl
  obtain ⟨v, v1, v2⟩ := L.crossRate_both _ hm hs a b (by omega) (by omega) d
  simp only [hn, if_false]
  refine Ev.bind (L.laws_toRateS l hl) (Ev.bind v2 (Ev.bind (L.laws_toRateS l hl) (Ev.bind v1 ?_)))
  simp only [if_true, bne_self_eq_false]
  exact Ev.step (fun k => by simp only [laws_FnExactCrossRate.j0, Bool.false_eq_true, if_false]) (tailR l hl)
end Go.Proofs.Ytbfckglccgemkaa.Pure

