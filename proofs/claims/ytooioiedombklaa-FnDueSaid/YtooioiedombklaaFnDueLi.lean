/- The plain laws over drawn schedules (interest, the day when it is reached): what the printed law comes to is 'true', for all codes. -/
import Derived.Test.YtooioiedombklaaFnDueLx
namespace Go.Proofs.Ytooioiedombklaa.Pure
set_option linter.unusedVariables false
set_option linter.unusedSimpArgs false
open Go.RowKit Go.Proofs.Ytooioiedombklaa.P Go.Proofs.Ytooioiedombklaa.L Go.Proofs.YtooioiedombklaaW.PrintWords Go.Proofs.YtooioiedombklaaW.PrintLast Go.Proofs.YtooioiedombklaaW.PrintMore

theorem commission_le (a p : Int) (h : (commissionV a p).2 = 0) : (commissionV a p).1 ≤ a := by
  unfold commissionV at h ⊢
  by_cases c : (0 ≤ a ∧ a ≤ 1000000000) ∧ (0 ≤ p ∧ p ≤ 10000)
  · rw [if_neg (not_not_intro c)] at h ⊢
    by_cases c2 : 0 ≤ near (a * p) 10000 ∧ near (a * p) 10000 ≤ 1000000000
    · rw [if_pos c2]
      simp only
      have m := commission_bd c.1 c.2
      rw [near_eq m.1 (by omega)]
      have := Int.mul_le_mul_of_nonneg_left c.2.2 c.1.1
      omega
    · rw [if_neg c2] at h; cases h
  · rw [if_pos c] at h; cases h
theorem total_ge (l : List S37) (a c f t : Int) (h : (totalV l a c f t).2 = 0) : a ≤ (totalV l a c f t).1 := by
  unfold totalV at h ⊢
  by_cases z : schedV l a [f, t] = 0
  · rw [if_pos z] at h ⊢
    obtain ⟨g1, g2, g3⟩ := schedV_zero z
    have gf := g3 f (by simp)
    have gt := g3 t (by simp)
    by_cases hc : 0 ≤ c ∧ c ≤ 10000
    · rw [if_pos hc] at h ⊢
      have cb := com_bd g2 hc
      have nb := near_bd (prod_bd g1 g2 gf.1 gt.2)
      have hi : 0 ≤ intL l a f t := nb.1
      unfold amountV at h ⊢
      split at h
      · rename_i q; rw [if_pos q]; simp only; omega
      · cases h
    · rw [if_neg hc] at h; cases h
  · rw [if_neg z] at h; exact absurd h z
theorem FnDue' (l : List Int) (hb : l.length * 1 ≤ 140737488351232) (hq : ∀ x ∈ l, (Lit.int .u8 x).wf = true) : ∃ k, laws_FnDue.f k l = some true := by
  unfold laws_FnDue.f
  refine beginC l hq fun h1 h2 => ?_
  obtain ⟨s, a, f, g, e1, hs⟩ := drawDayWhenReached l h1 h2
  obtain ⟨ca, cp, e2⟩ := drawCommissionOf l h1 h2
  obtain ⟨u, d, e3, hu⟩ := drawPointsOn l h1 h2
  obtain ⟨v, n, c, x, y, e4, hv⟩ := drawTotalDue l h1 h2
  obtain ⟨r, r1, r2, r3⟩ := dayWhenReached_both s (by omega) a f g
  have b1 := L.impl_CommissionOf ca cp
  have b2 := L.spec_CommissionOf ca cp
  have c1 := L.impl_PointsOn u d
  have c2 := L.spec_PointsOn u (by omega) d
  have d1 := L.impl_TotalDue v n c x y
  have d2 := L.spec_TotalDue v (by omega) n c x y
  refine Ev.bind e1 (Ev.bind r1 (Ev.bind r2 (Ev.bind e2 (Ev.bind b1 (Ev.bind b2 (Ev.bind e3 (Ev.bind c1 (Ev.bind c2 (Ev.bind e4 (Ev.bind d1 (Ev.bind d2 ?_)))))))))))
  simp only [if_true]
  obtain ⟨q, qc⟩ := r
  have j1 : Ev (fun k => laws_FnDue.j1 k s a f g q qc false) true := by
    by_cases z : qc = 0
    · obtain ⟨z1, z2, z3⟩ := r3 z
      obtain ⟨g1, g2, g3⟩ := schedV_zero z1
      have gf := g3 f (by simp)
      subst z
      have due : f ≤ q ∧ q ≤ 36524 ∧ g ≤ intL s a f q ∧ ∀ e, f ≤ e → e < q → intL s a f e < g := by
        rcases z3 with ⟨d', k1, k2, k3, k4, k5⟩ | ⟨_, k5⟩
        · cases k5; exact ⟨k1, k2, k3, k4⟩
        · cases k5
      obtain ⟨k1, k2, k3, k4⟩ := due
      have zz : ∀ w : Int, (0 ≤ w ∧ w ≤ 36524) → betweenV s a f w = amountV (intL s a f w) := by
        intro w hw
        unfold betweenV
        rw [if_pos]
        unfold schedV
        rw [g1, if_neg (by decide), if_neg]
        intro q'
        exact q' ⟨g2, fun e he => by
          simp only [List.mem_cons, List.not_mem_nil, or_false] at he
          rcases he with rfl | rfl <;> omega⟩
      have w1 := L.impl_InterestBetween s a f q
      rw [zz q (by omega)] at w1
      have j2 : Ev (fun k => laws_FnDue.j2 k s a f g q false) true := by
        by_cases cf : q = f
        · exact Ev.step (f := fun _ => some true) (fun k => by simp only [laws_FnDue.j2, Bool.false_eq_true, if_false, cf, if_true]) (Ev.pure rfl)
        · have w2 := L.impl_InterestBetween s a f (q - 1)
          rw [zz (q - 1) (by omega)] at w2
          have lt := k4 (q - 1) (by omega) (by omega)
          have nb := near_bd (prod_bd g1 g2 gf.1 (show q - 1 ≤ 36524 by omega))
          have hi : 0 ≤ intL s a f (q - 1) := nb.1
          have am : amountV (intL s a f (q - 1)) = (intL s a f (q - 1), 0) := by
            unfold amountV; rw [if_pos ⟨hi, by omega⟩]
          rw [am] at w2
          refine Ev.step (fun k => by simp only [laws_FnDue.j2, Bool.false_eq_true, if_false, cf]) (Ev.bind (g := fun k => impl_InterestBetween.f k s a f (wrap64 (q - 1))) (a := (intL s a f (q - 1), 0)) (by rw [w64 (x := q - 1) (by omega) (by omega)]; exact w2) (f := fun k (bt547 : Int × Int) => (if bt547.2 = 0 then (some (decide (bt547.1 < g))) else (some false))) (Ev.pure (by simp only [if_true]; rw [decide_eq_true lt])))
      refine Ev.step (fun k => by simp only [laws_FnDue.j1, Bool.false_eq_true, if_false, if_true]) (Ev.bind w1 (f := fun k (bt545 : Int × Int) => (if q < f then (laws_FnDue.j2 k s a f g q true) else (if bt545.2 = 0 then (if bt545.1 < g then (laws_FnDue.j2 k s a f g q true) else (laws_FnDue.j2 k s a f g q false)) else (laws_FnDue.j2 k s a f g q (bt545.2 != 3))))) ?_)
      simp only [show ¬ (q < f) by omega, if_false]
      unfold amountV
      by_cases cc : 0 ≤ intL s a f q ∧ intL s a f q ≤ 1000000000
      · rw [if_pos cc]
        simp only [if_true, show ¬ (intL s a f q < g) by omega, if_false]
        exact j2
      · rw [if_neg cc]
        simp only [show ¬ ((3 : Int) = 0) by omega, if_false, bne_self_eq_false]
        exact j2
    · exact Ev.step (f := fun _ => some true) (fun k => by simp only [laws_FnDue.j1, Bool.false_eq_true, if_false, z]) (Ev.pure rfl)
  have j0 : Ev (fun k => laws_FnDue.j0 k s a f g q qc n (totalV v n c x y).1 (totalV v n c x y).2 false) true := by
    by_cases z : (totalV v n c x y).2 = 0
    · have := total_ge v n c x y z
      exact Ev.step (fun k => by simp only [laws_FnDue.j0, Bool.false_eq_true, if_false, z, if_true]; rw [decide_eq_false (by omega)]) j1
    · exact Ev.step (fun k => by simp only [laws_FnDue.j0, Bool.false_eq_true, if_false, z]) j1
  by_cases z : (commissionV ca cp).2 = 0
  · have := commission_le ca cp z
    simp only [z, if_true]
    rw [decide_eq_false (by omega)]
    exact j0
  · simp only [z, if_false]
    exact j0
end Go.Proofs.Ytooioiedombklaa.Pure

