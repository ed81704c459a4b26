/- What the calendar's functions answer, in the program and in the reference: lengths of months, numbers of dates, dates of numbers, business days, months added. Conditions: the bounds that each fact names. -/
import Derived.Test.YtmfmmcmccapocaaFnExactCurrenciesOfLb
namespace Go.Proofs.Ytmfmmcmccapocaa.L
set_option linter.unusedVariables false
set_option linter.unusedSimpArgs false
open Go.RowKit Go.Proofs.Ytmfmmcmccapocaa.P Go.Proofs.YtmfmmcmccapocaaW.PrintWords Go.Proofs.YtmfmmcmccapocaaW.PrintLast Go.Proofs.YtmfmmcmccapocaaW.PrintMore

instance (y m d : Int) : Decidable (Ok y m d) := by unfold Ok; infer_instance

theorem impl_daysIn (y m : Int) : Ev (fun k => impl_daysIn.f k y m) (dim y m) := by
  refine Ev.step (f := fun _ => some (dim y m)) (fun k => ?_) (Ev.pure rfl)
  unfold impl_daysIn.f dim
  by_cases h2 : m = 2
  · subst h2
    by_cases h : y % 4 = 0
    · have h' := (tmod_zero_iff y).2 h
      simp [impl_daysIn.j0, h', h]
    · have h' : ¬ Int.tmod y 4 = 0 := fun q => h ((tmod_zero_iff y).1 q)
      simp [impl_daysIn.j0, h', h]
  · simp only [h2, if_false, impl_daysIn.j0, Bool.false_eq_true]
    by_cases h4 : m = 4
    · simp [h4]
    by_cases h6 : m = 6
    · simp [h6]
    by_cases h9 : m = 9
    · simp [h9]
    by_cases h11 : m = 11
    · simp [h11]
    simp [h4, h6, h9, h11]
theorem impl_dayOf_l0 (y m d : Int) (hm : m ≤ 12) : ∀ (j : Nat) (x i : Int), 1 ≤ i → i + j = m → -1000000000000 ≤ x → x + 31 * j ≤ 1000000000000 →
    Ev (fun k => impl_dayOf.l0 k x i y m d) (x + cum y m - cum y i) := by
  intro j
  induction j with
  | zero =>
    intro x i h1 h2 h3 h4
    refine Ev.step (f := fun _ => some x) (fun k => ?_) (Ev.pure ?_)
    · simp only [impl_dayOf.l0]; rw [if_neg (by omega)]
    · rw [show i = m by omega]; congr 1; omega
  | succ j ih =>
    intro x i h1 h2 h3 h4
    have b := dim_bd y i
    refine Ev.step (f := fun k => (impl_daysIn.f k y i).bind fun t => impl_dayOf.l0 k (wrap64 (x + t)) (wrap64 (i + 1)) y m d) (fun k => ?_) (Ev.bind (impl_daysIn y i) ?_)
    · simp only [impl_dayOf.l0]; rw [if_pos (by omega)]
    · rw [w64 (by omega) (by omega), w64 (by omega) (by omega)]
      have h := ih (x + dim y i) (i + 1) (by omega) (by omega) (by omega) (by omega)
      rw [cum_succ y i h1 (by omega)] at h
      rw [show x + cum y m - cum y i = x + dim y i + cum y m - (cum y i + dim y i) by omega]
      exact h
theorem impl_dayOf (y m d : Int) (hy : 1970 ≤ y) (hY : y ≤ 2070) (h1 : 1 ≤ m) (hm : m ≤ 12) (hd : -1000000000 ≤ d) (hD : d ≤ 1000000000) :
    Ev (fun k => impl_dayOf.f k y m d) (num y m d) := by
  unfold impl_dayOf.f
  have h := impl_dayOf_l0 y m d hm (m - 1).toNat (365 * (y - 1970) + (y - 1970 + 1) / 4 + d - 1) 1 (by omega) (by omega) (by omega) (by omega)
  simp (disch := omega) only [w64, tdiv_pos]
  rw [cum_one] at h
  rw [show num y m d = 365 * (y - 1970) + (y - 1970 + 1) / 4 + d - 1 + cum y m - 0 by unfold num yr; omega]
  exact h
theorem num_last : num 2069 12 31 = 36524 := by unfold num yr cum; decide
theorem impl_isDay (n : Int) : Ev (fun k => impl_isDay.f k n) (decide (0 ≤ n ∧ n ≤ 36524)) := by
  unfold impl_isDay.f
  refine Ev.bind (impl_dayOf 2069 12 31 (by omega) (by omega) (by omega) (by omega) (by omega) (by omega)) ?_
  rw [num_last]
  exact Ev.pure (by rw [impl_in]; rfl)
end Go.Proofs.Ytmfmmcmccapocaa.L

