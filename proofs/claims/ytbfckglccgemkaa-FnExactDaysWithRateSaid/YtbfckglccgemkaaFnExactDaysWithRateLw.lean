/- The plain laws of chapter 3 that look for a rate: what the printed law of each function comes to is 'true', for all arguments of their kinds. -/
import Derived.Test.YtbfckglccgemkaaFnExactDaysWithRateLv
namespace Go.Proofs.Ytbfckglccgemkaa.Pure
set_option linter.unusedVariables false
set_option linter.unusedSimpArgs false
open Go.RowKit Go.Proofs.Ytbfckglccgemkaa.P Go.Proofs.Ytbfckglccgemkaa.L Go.Proofs.YtbfckglccgemkaaW.PrintWords Go.Proofs.YtbfckglccgemkaaW.PrintLast Go.Proofs.YtbfckglccgemkaaW.PrintMore

theorem FnExactDaysWithRate_tail (l : List S90) (a : ByteArray) (q : List Int) (c : Int) (hl : l.length ≤ 1048576) (hq : q.length ≤ 1048576) (him : Ev (fun k => impl_DaysWithRate.f k (l.map L.convRate) a) (q, c)) :
    Ev (fun k => laws_FnExactDaysWithRate.j0 k l a q c (l.map L.convRate) q c false) true := by
  have hm : (l.map L.convRate).length ≤ 1048576 := by rw [List.length_map]; exact hl
  have j2 : Ev (fun k => laws_FnExactDaysWithRate.j2 k (seqI 1 q.length) (1 + (q.length : Int)) false) true :=
    Ev.step (f := fun k => (laws_heldInt64S.f k (seqI 1 q.length) 1).bind fun t195 => if t195 < 0 then some false else if t195 = 1 + (q.length : Int) then some true else some false) (fun k => by simp only [laws_FnExactDaysWithRate.j2, Bool.false_eq_true, if_false])
      (Ev.bind (L.laws_heldInt64S q.length hq) (Ev.pure (by rw [if_neg (by omega), if_pos rfl])))
  have j1 : Ev (fun k => laws_FnExactDaysWithRate.j1 k l a q c q false) true := by
    refine Ev.step (fun k => by simp only [laws_FnExactDaysWithRate.j1, Bool.false_eq_true, if_false]) (Ev.bind (L.laws_markInt64S q hq) (f := fun k (bt184 : Int × List Int) => (laws_heldInt64S.f k bt184.2 1).bind fun t186 => (if t186 < 0 then (some false) else (if t186 = bt184.1 then ((laws_toRateS.f k l).bind fun t187 => ((impl_DaysWithRate.f k t187 a).bind fun bt190 => ((laws_eqInt64S.f k bt190.1 q).bind fun t194 => (if t194 = true then (laws_FnExactDaysWithRate.j2 k bt184.2 bt184.1 (bt190.2 != c)) else (laws_FnExactDaysWithRate.j2 k bt184.2 bt184.1 true))))) else (some false)))) ?_)
    refine Ev.bind (L.laws_heldInt64S q.length hq) ?_
    simp only [show ¬ (1 + (q.length : Int) < 0) by omega, if_false, if_true]
    refine Ev.bind (L.laws_toRateS l hl) (Ev.bind him (Ev.bind (L.laws_eqInt64S q q hq) ?_))
    simp only [decide_true, if_true, bne_self_eq_false]
    exact j2
  obtain ⟨⟨mk, ml⟩, m1, m2⟩ := L.laws_markRateS (l.map L.convRate) hm
  refine Ev.step (fun k => by simp only [laws_FnExactDaysWithRate.j0, Bool.false_eq_true, if_false]) (Ev.bind (L.laws_toRateS l hl) (f := fun k t695 => (laws_eqRateS.f k (l.map L.convRate) t695).bind fun t698 => (if t698 = true then ((laws_markRateS.f k (l.map L.convRate) 1).bind fun bt699 => (if bt699.1 < 0 then (laws_FnExactDaysWithRate.j1 k l a q c q true) else ((laws_eqInt64S.f k q q).bind fun t701 => (if t701 = true then (laws_FnExactDaysWithRate.j1 k l a q c q (c != c)) else (laws_FnExactDaysWithRate.j1 k l a q c q true))))) else (some false))) ?_)
  refine Ev.bind (L.laws_eqRateS _ hm) ?_
  simp only [decide_true, if_true]
  refine Ev.bind m1 ?_
  simp only [show ¬ (mk < 0) from by simpa using m2, if_false]
  refine Ev.bind (L.laws_eqInt64S q q hq) ?_
  simp only [decide_true, if_true, bne_self_eq_false]
  exact j1
theorem FnExactDaysWithRate' (l : List S90) (c : ByteArray) (hb : l.length * 40 ≤ 140737488351232) (hq : ∀ x ∈ l, Read1 x) (_ : c.size ≤ 140737488351232) :
    ∃ k, laws_FnExactDaysWithRate.f k l c = some true := by
  unfold laws_FnExactDaysWithRate.f
  by_cases hc : (c.size : Int) > 1048576
  · exact ⟨0, by rw [if_pos hc]⟩
  simp only [hc, if_false]
  refine beginR l hb hq (fun k t h => by rw [if_pos h]) (fun hl hs r hn => ?_)
  have hm : (l.map L.convRate).length ≤ 1048576 := by rw [List.length_map]; exact hl
  have h1 := L.impl_DaysWithRate _ hs c (by omega)
  have h2 := L.spec_DaysWithRate _ hm hs c (by omega)
  have hlen : (daysV (l.map L.convRate) c).1.length ≤ 1048576 := by
    unfold daysV
    split
    · unfold daysEnd
      split
      · simp
      · unfold daysL
        have := List.length_filter_le (fun x : S91 => decide (x.f0.toList = c.toList)) (l.map L.convRate)
        simp only [List.length_map] at this ⊢
        omega
    · simp
  generalize daysV (l.map L.convRate) c = v at h1 h2 hlen
  obtain ⟨q, e⟩ := v
  simp only [hn, if_false]
  refine Ev.bind (L.laws_toRateS l hl) (Ev.bind h2 (Ev.bind (L.laws_toRateS l hl) (Ev.bind h1 (Ev.bind (L.laws_eqInt64S q q hlen) ?_))))
  simp only [decide_true, if_true, bne_self_eq_false]
  exact FnExactDaysWithRate_tail l c q e hl hlen h1
end Go.Proofs.Ytbfckglccgemkaa.Pure

