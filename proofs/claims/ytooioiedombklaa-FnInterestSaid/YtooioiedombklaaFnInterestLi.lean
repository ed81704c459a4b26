/- The plain laws over drawn schedules (interest, the day when it is reached): what the printed law comes to is 'true', for all codes. -/
import Derived.Test.YtooioiedombklaaFnInterestLx
namespace Go.Proofs.Ytooioiedombklaa.Pure
set_option linter.unusedVariables false
set_option linter.unusedSimpArgs false
open Go.RowKit Go.Proofs.Ytooioiedombklaa.P Go.Proofs.Ytooioiedombklaa.L Go.Proofs.YtooioiedombklaaW.PrintWords Go.Proofs.YtooioiedombklaaW.PrintLast Go.Proofs.YtooioiedombklaaW.PrintMore

theorem amountV_zero {n : Int} (h : (amountV n).2 = 0) : (amountV n).1 = n ∧ 0 ≤ n ∧ n ≤ 1000000000 := by
  unfold amountV at h ⊢
  split at h
  · rename_i c; rw [if_pos c]; exact ⟨rfl, c⟩
  · cases h
theorem one_step {p : Int} (hp : 0 ≤ p ∧ p ≤ 10000) {a d : Int} (ha : 0 ≤ a ∧ a ≤ 1000000000) (hd : 0 ≤ d ∧ d ≤ 36524) : betweenV [(⟨0, p⟩ : S37)] a 0 d = amountV (near (a * (p * d)) 3650000) := by
  have h0 : schedB [(⟨0, p⟩ : S37)] = true := by
    unfold schedB stepB X.risesB
    simp [hp]
  have h1 : schedV [(⟨0, p⟩ : S37)] a [0, d] = 0 := by
    unfold schedV
    rw [h0]
    simp [ha, hd]
  have h2 : wt 0 d [(⟨0, p⟩ : S37)] = p * d := by
    simp only [wt, part1]
    rw [show mx (0 : Int) 0 = 0 by decide, show d - 0 = d by omega, show mx d 0 = d by unfold mx; split <;> omega]
  unfold betweenV intL
  rw [if_pos h1, h2]
theorem simple_eq (a p d : Int) (h : (simpleV a p d).2 = 0) : (0 ≤ p ∧ p ≤ 10000) ∧ (0 ≤ a ∧ a ≤ 1000000000) ∧ (0 ≤ d ∧ d ≤ 36524) ∧ simpleV a p d = amountV (near (a * (p * d)) 3650000) := by
  by_cases c : (0 ≤ a ∧ a ≤ 1000000000) ∧ (0 ≤ p ∧ p ≤ 10000) ∧ (0 ≤ d ∧ d ≤ 36524)
  · refine ⟨c.2.1, c.1, c.2.2, ?_⟩
    unfold simpleV amountV
    rw [if_neg (not_not_intro c)]
  · unfold simpleV at h
    rw [if_pos c] at h
    cases h
theorem FnInterest' (l : List Int) (hb : l.length * 1 ≤ 140737488351232) (hq : ∀ x ∈ l, (Lit.int .u8 x).wf = true) : ∃ k, laws_FnInterest.f k l = some true := by
  unfold laws_FnInterest.f
  refine beginC l hq fun h1 h2 => ?_
  obtain ⟨s, a, f, t, e1, hs⟩ := drawInterestBetween l h1 h2
  obtain ⟨am, p, d, e2⟩ := drawSimpleInterest l h1 h2
  obtain ⟨u, x, y, e3, hu⟩ := drawWeightOf l h1 h2
  have a1 := L.impl_InterestBetween s a f t
  have a2 := L.spec_InterestBetween s (by omega) a f t
  have b1 := L.impl_SimpleInterest am p d
  have b2 := L.spec_SimpleInterest am p d
  have c1 := L.impl_WeightOf u x y
  have c2 := L.spec_WeightOf u (by omega) x y
  refine Ev.bind e1 (Ev.bind a1 (Ev.bind a2 (Ev.bind e2 (Ev.bind b1 (Ev.bind b2 (Ev.bind e3 (Ev.bind c1 (Ev.bind c2 ?_))))))))
  simp only [if_true]
  refine Ev.bind (L.impl_IsSchedule u) (Ev.bind (L.spec_IsSchedule u (by omega)) ?_)
  simp only [bne_self_eq_false]
  -- what is asked last: the interest of one day more
  have fin : Ev (fun k => if (betweenV s a f t).2 = 0 then (if t = 36524 then (some true) else (if t < f then (some true) else ((impl_InterestBetween.f k s a f (wrap64 (t + 1))).bind fun bt401 => (if bt401.2 = 3 then (some true) else (if bt401.2 = 0 then (some (decide (bt401.1 ≥ (betweenV s a f t).1))) else (some false)))))) else (some true)) true := by
    by_cases z : (betweenV s a f t).2 = 0
    · have z0 : schedV s a [f, t] = 0 := by
        apply Decidable.byContradiction
        intro q
        unfold betweenV at z
        rw [if_neg q] at z
        exact q z
      obtain ⟨g1, g2, g3⟩ := schedV_zero z0
      have gf := g3 f (by simp)
      have gt := g3 t (by simp)
      simp only [z, if_true]
      by_cases ct : t = 36524
      · simp only [ct, if_true]; exact Ev.pure rfl
      by_cases cf : t < f
      · simp only [ct, cf, if_true, if_false]; exact Ev.pure rfl
      simp only [ct, cf, if_false]
      rw [w64 (x := t + 1) (by omega) (by omega)]
      refine Ev.bind (L.impl_InterestBetween s a f (t + 1)) ?_
      have z1 : schedV s a [f, t + 1] = 0 := by
        unfold schedV
        rw [g1, if_neg (by decide), if_neg]
        intro q
        exact q ⟨g2, fun e he => by
          simp only [List.mem_cons, List.not_mem_nil, or_false] at he
          rcases he with rfl | rfl <;> omega⟩
      have hm := intL_mono g1 g2 gf.1 (show t ≤ t + 1 by omega) gt.2
      have hv : (betweenV s a f t).1 = intL s a f t := by
        unfold betweenV at z ⊢
        rw [if_pos z0] at z ⊢
        exact (amountV_zero z).1
      rw [hv]
      unfold betweenV
      rw [if_pos z1]
      unfold amountV
      by_cases cc : 0 ≤ intL s a f (t + 1) ∧ intL s a f (t + 1) ≤ 1000000000
      · rw [if_pos cc]; exact Ev.pure (by simp; exact hm)
      · rw [if_neg cc]; exact Ev.pure rfl
    · simp only [z, if_false]; exact Ev.pure rfl
  have j3 : Ev (fun k => laws_FnInterest.j3 k s a f t (betweenV s a f t).1 (betweenV s a f t).2 false) true :=
    Ev.step (fun k => by simp only [laws_FnInterest.j3, Bool.false_eq_true, if_false]) fin
  have j2f : Ev (fun k => laws_FnInterest.j2 k l s a f t (betweenV s a f t).1 (betweenV s a f t).2 u x y (weightV u x y).1 false) true :=
    Ev.step (fun k => by simp only [laws_FnInterest.j2, Bool.false_eq_true, if_false]) fin
  have j1 : Ev (fun k => laws_FnInterest.j1 k l s a f t (betweenV s a f t).1 (betweenV s a f t).2 u x y (weightV u x y).1 (weightV u x y).2) true := by
    by_cases z : (weightV u x y).2 = 0
    · by_cases c : x < y
      · have z0 : schedV u 0 [x, y] = 0 := by
          apply Decidable.byContradiction
          intro q
          unfold weightV at z
          rw [if_neg q] at z
          exact q z
        obtain ⟨g1, g2, g3⟩ := schedV_zero z0
        have gx := g3 x (by simp)
        have gy := g3 y (by simp)
        have hw : (weightV u x y).1 = wt x y u := by unfold weightV; rw [if_pos z0]
        obtain ⟨h, r1⟩ := roll_ev l h1 401
        obtain ⟨r, i, h', r2, r3, r4⟩ := dice_below l (fun hp => h2 _ (rd_mem l (Int.le_refl 0) hp)) h (y - x) (by omega)
        have zz : ∀ v w : Int, (0 ≤ v ∧ v ≤ 36524) → (0 ≤ w ∧ w ≤ 36524) → weightV u v w = (wt v w u, 0) := by
          intro v w hv hw
          unfold weightV
          rw [if_pos]
          unfold schedV
          rw [g1, if_neg (by decide), if_neg]
          intro q
          exact q ⟨by omega, fun e he => by
            simp only [List.mem_cons, List.not_mem_nil, or_false] at he
            rcases he with rfl | rfl <;> omega⟩
        have w1 := L.impl_WeightOf u x (x + r)
        have w2 := L.impl_WeightOf u (x + r) y
        rw [zz x (x + r) gx (by omega)] at w1
        rw [zz (x + r) y (by omega) gy] at w2
        have add := wt_add (f := x) (m := x + r) (t := y) (by omega) (by omega) u
        have fx := schedB_facts g1
        have bd := wt_bd (f := x) (t := y) gx.1 gy.2 fx.2.2
        have j2 : Ev (fun k => laws_FnInterest.j2 k l s a f t (betweenV s a f t).1 (betweenV s a f t).2 u x y (weightV u x y).1 true) true := by
          refine Ev.step (fun k => by simp only [laws_FnInterest.j2, if_true]) (Ev.bind r1 (f := fun k (bt390 : List Int × Int × Int) => ((laws_dice_below.f bt390.1 bt390.2.1 bt390.2.2 (wrap64 (y - x))).bind fun bt394 => ((impl_WeightOf.f k u x (wrap64 (x + bt394.1))).bind fun bt397 => ((impl_WeightOf.f k u (wrap64 (x + bt394.1)) y).bind fun bt399 => (if bt397.2 = 0 then (if bt399.2 = 0 then (laws_FnInterest.j3 k s a f t (betweenV s a f t).1 (betweenV s a f t).2 ((wrap64 (bt397.1 + bt399.1)) != (weightV u x y).1)) else (laws_FnInterest.j3 k s a f t (betweenV s a f t).1 (betweenV s a f t).2 true)) else (laws_FnInterest.j3 k s a f t (betweenV s a f t).1 (betweenV s a f t).2 true)))))) ?_)
          rw [w64 (x := y - x) (by omega) (by omega)]
          simp only [r2, Option.bind_some]
          rw [w64 (x := x + r) (by omega) (by omega)]
          refine Ev.bind w1 (Ev.bind w2 ?_)
          simp only [if_true]
          rw [add, w64 (x := wt x y u) (by omega) (by omega), hw, bne_self_eq_false]
          exact j3
        exact Ev.step (fun k => by simp only [laws_FnInterest.j1, z, if_true, c, decide_true]) j2
      · exact Ev.step (fun k => by simp only [laws_FnInterest.j1, z, if_true, c, decide_false]) j2f
    · exact Ev.step (fun k => by simp only [laws_FnInterest.j1, z, if_false]) j2f
  by_cases z : (simpleV am p d).2 = 0
  · obtain ⟨g1, g2, g3, g4⟩ := simple_eq am p d z
    have w1 := L.impl_InterestBetween [(⟨0, p⟩ : S37)] am 0 d
    rw [one_step g1 g2 g3, ← g4] at w1
    refine Ev.step (fun k => by simp only [laws_FnInterest.j0, Bool.false_eq_true, if_false, z, if_true]) (Ev.bind w1 (f := fun k (bt388 : Int × Int) => (if bt388.2 = 0 then (if bt388.1 = (simpleV am p d).1 then (laws_FnInterest.j1 k l s a f t (betweenV s a f t).1 (betweenV s a f t).2 u x y (weightV u x y).1 (weightV u x y).2) else (some false)) else (some false))) ?_)
    simp only [z, if_true]
    exact j1
  · exact Ev.step (fun k => by simp only [laws_FnInterest.j0, Bool.false_eq_true, if_false, z]) j1
end Go.Proofs.Ytooioiedombklaa.Pure

