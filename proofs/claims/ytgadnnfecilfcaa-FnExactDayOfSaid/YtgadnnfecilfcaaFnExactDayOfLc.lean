/- What the calendar's functions answer, in the program and in the reference: lengths of months, numbers of dates, dates of numbers, business days, months added. Conditions: the bounds that each fact names. -/
import Derived.Test.YtgadnnfecilfcaaFnExactDayOfLb
namespace Go.Proofs.Ytgadnnfecilfcaa.L
set_option linter.unusedVariables false
set_option linter.unusedSimpArgs false
open Go.RowKit Go.Proofs.Ytgadnnfecilfcaa.P Go.Proofs.YtgadnnfecilfcaaW.PrintWords Go.Proofs.YtgadnnfecilfcaaW.PrintLast Go.Proofs.YtgadnnfecilfcaaW.PrintMore

instance (y m d : Int) : Decidable (Ok y m d) := by unfold Ok; infer_instance

theorem impl_daysIn (y m : Int) : Ev (fun k => impl_daysIn.f k y m) (dim y m) := by
  refine Ev.step (f := fun _ => some (dim y m)) (fun k => ?_) (Ev.pure rfl)
  unfold impl_daysIn.f dim
  by_cases h2 : m = 2
  · subst h2
    by_cases h : y % 4 = 0
    · have h' := (tmod_zero_iff y).2 h
      simp [impl_daysIn.j0, h', h]
    · have h' : ¬ Int.tmod y 4 = 0 := fun q => h ((tmod_zero_iff y).1 q)
      simp [impl_daysIn.j0, h', h]
  · simp only [h2, if_false, impl_daysIn.j0, Bool.false_eq_true]
    by_cases h4 : m = 4
    · simp [h4]
    by_cases h6 : m = 6
    · simp [h6]
    by_cases h9 : m = 9
    · simp [h9]
    by_cases h11 : m = 11
    · simp [h11]
    simp [h4, h6, h9, h11]
theorem spec_l02Length (y m : Int) (h1 : 1 ≤ m) (h2 : m ≤ 12) : spec_l02Length.f y m = some (dim y m) := by
  rcases months h1 h2 with rfl | rfl | rfl | rfl | rfl | rfl | rfl | rfl | rfl | rfl | rfl | rfl
  case inr.inl =>
    unfold spec_l02Length.f dim
    by_cases h : y % 4 = 0
    · have h' := (tmod_zero_iff y).2 h
      simp [h', h]
    · have h' : ¬ Int.tmod y 4 = 0 := fun q => h ((tmod_zero_iff y).1 q)
      simp [h', h, rd, wrap64]
  all_goals simp [spec_l02Length.f, dim, rd, wrap64]
theorem impl_dayOf_l0 (y m d : Int) (hm : m ≤ 12) : ∀ (j : Nat) (x i : Int), 1 ≤ i → i + j = m → -1000000000000 ≤ x → x + 31 * j ≤ 1000000000000 →
    Ev (fun k => impl_dayOf.l0 k x i y m d) (x + cum y m - cum y i) := by
  intro j
  induction j with
  | zero =>
    intro x i h1 h2 h3 h4
    refine Ev.step (f := fun _ => some x) (fun k => ?_) (Ev.pure ?_)
    · simp only [impl_dayOf.l0]; rw [if_neg (by omega)]
    · rw [show i = m by omega]; congr 1; omega
  | succ j ih =>
    intro x i h1 h2 h3 h4
    have b := dim_bd y i
    refine Ev.step (f := fun k => (impl_daysIn.f k y i).bind fun t => impl_dayOf.l0 k (wrap64 (x + t)) (wrap64 (i + 1)) y m d) (fun k => ?_) (Ev.bind (impl_daysIn y i) ?_)
    · simp only [impl_dayOf.l0]; rw [if_pos (by omega)]
    · rw [w64 (by omega) (by omega), w64 (by omega) (by omega)]
      have h := ih (x + dim y i) (i + 1) (by omega) (by omega) (by omega) (by omega)
      rw [cum_succ y i h1 (by omega)] at h
      rw [show x + cum y m - cum y i = x + dim y i + cum y m - (cum y i + dim y i) by omega]
      exact h
theorem impl_dayOf (y m d : Int) (hy : 1970 ≤ y) (hY : y ≤ 2070) (h1 : 1 ≤ m) (hm : m ≤ 12) (hd : -1000000000 ≤ d) (hD : d ≤ 1000000000) :
    Ev (fun k => impl_dayOf.f k y m d) (num y m d) := by
  unfold impl_dayOf.f
  have h := impl_dayOf_l0 y m d hm (m - 1).toNat (365 * (y - 1970) + (y - 1970 + 1) / 4 + d - 1) 1 (by omega) (by omega) (by omega) (by omega)
  simp (disch := omega) only [w64, tdiv_pos]
  rw [cum_one] at h
  rw [show num y m d = 365 * (y - 1970) + (y - 1970 + 1) / 4 + d - 1 + cum y m - 0 by unfold num yr; omega]
  exact h
theorem spec_l02Day_l1 (y m d : Int) (hm : m ≤ 12) (hd : -1000000000 ≤ d) (hD : d ≤ 1000000000) : ∀ (j : Nat) (x i : Int), 1 ≤ i → i + j = m → -1000000000000 ≤ x → x + 31 * j ≤ 1000000000000 →
    Ev (fun k => spec_l02Day.l1 k x i y m d) (x + cum y m - cum y i + d - 1) := by
  intro j
  induction j with
  | zero =>
    intro x i h1 h2 h3 h4
    refine Ev.step (f := fun _ => some (x + d - 1)) (fun k => ?_) (Ev.pure ?_)
    · simp only [spec_l02Day.l1]; rw [if_neg (by omega), w64 (x := x + d) (by omega) (by omega), w64 (by omega) (by omega)]
    · rw [show i = m by omega]; congr 1; omega
  | succ j ih =>
    intro x i h1 h2 h3 h4
    have b := dim_bd y i
    refine Ev.step (f := fun k => spec_l02Day.l1 k (x + dim y i) (i + 1) y m d) (fun k => ?_) ?_
    · simp only [spec_l02Day.l1]; rw [if_pos (by omega), spec_l02Length y i h1 (by omega), Option.bind_some, w64 (by omega) (by omega), w64 (by omega) (by omega)]
    · have h := ih (x + dim y i) (i + 1) (by omega) (by omega) (by omega) (by omega)
      rw [cum_succ y i h1 (by omega)] at h
      rw [show x + cum y m - cum y i + d - 1 = x + dim y i + cum y m - (cum y i + dim y i) + d - 1 by omega]
      exact h
theorem spec_l02Day_l0 (y m d : Int) (hy : y ≤ 2070) (h1 : 1 ≤ m) (hm : m ≤ 12) (hd : -1000000000 ≤ d) (hD : d ≤ 1000000000) : ∀ (j : Nat) (i : Int), 1970 ≤ i → i + j = y →
    Ev (fun k => spec_l02Day.l0 k (yr i) i y m d) (num y m d) := by
  intro j
  induction j with
  | zero =>
    intro i h2 h3
    have b := yr_bd h2 (by omega)
    refine Ev.step (f := fun k => spec_l02Day.l1 k (yr i) 1 y m d) (fun k => ?_) ?_
    · simp only [spec_l02Day.l0]; rw [if_neg (by omega)]
    · have h := spec_l02Day_l1 y m d hm hd hD (m - 1).toNat (yr i) 1 (by omega) (by omega) (by omega) (by omega)
      rw [cum_one] at h
      rw [show num y m d = yr i + cum y m - 0 + d - 1 by unfold num; rw [show i = y by omega]; omega]
      exact h
  | succ j ih =>
    intro i h2 h3
    have b := yr_bd h2 (by omega)
    have b2 := dim_bd i 2
    refine Ev.step (f := fun k => spec_l02Day.l0 k (yr (i + 1)) (i + 1) y m d) (fun k => ?_) (ih (i + 1) (by omega) (by omega))
    simp only [spec_l02Day.l0]
    rw [if_pos (by omega), spec_l02Length i 2 (by omega) (by omega), Option.bind_some, w64 (x := yr i + 337) (by omega) (by omega), w64 (by omega) (by omega), w64 (by omega) (by omega), yr_succ]
theorem spec_l02Day (y m d : Int) (hy : 1970 ≤ y) (hY : y ≤ 2070) (h1 : 1 ≤ m) (hm : m ≤ 12) (hd : -1000000000 ≤ d) (hD : d ≤ 1000000000) :
    Ev (fun k => spec_l02Day.f k y m d) (num y m d) := by
  have h := spec_l02Day_l0 y m d hY h1 hm hd hD (y - 1970).toNat 1970 (by omega) (by omega)
  rw [yr_first] at h
  exact h
theorem impl_IsDate (y m d : Int) : Ev (fun k => impl_IsDate.f k y m d) (decide (Ok y m d)) := by
  unfold impl_IsDate.f
  simp only [impl_isYear, Option.bind_some]
  by_cases h1 : 1970 ≤ y ∧ y ≤ 2069
  · simp only [h1, and_self, decide_true, if_true, impl_in, Option.bind_some]
    by_cases h2 : 1 ≤ m ∧ m ≤ 12
    · simp only [h2, and_self, decide_true, if_true]
      refine Ev.bind (impl_daysIn y m) (Ev.pure ?_)
      congr 1
      rw [decide_eq_decide]; unfold Ok; omega
    · simp only [h2, decide_false, Bool.false_eq_true, if_false]
      exact Ev.pure (by rw [decide_eq_false]; unfold Ok; omega)
  · simp only [h1, decide_false, Bool.false_eq_true, if_false]
    exact Ev.pure (by rw [decide_eq_false]; unfold Ok; omega)
theorem spec_IsDate (y m d : Int) : spec_IsDate.f y m d = some (decide (Ok y m d)) := by
  unfold spec_IsDate.f
  simp only [spec_l01In, Option.bind_some]
  by_cases h1 : 1970 ≤ y ∧ y ≤ 2069
  · simp only [h1, and_self, decide_true, if_true]
    by_cases h2 : 1 ≤ m ∧ m ≤ 12
    · simp only [h2, and_self, decide_true, if_true]
      rw [spec_l02Length y m h2.1 h2.2, Option.bind_some]
      congr 1
      rw [decide_eq_decide]; unfold Ok; omega
    · simp only [h2, decide_false, Bool.false_eq_true, if_false]
      rw [decide_eq_false]; unfold Ok; omega
  · simp only [h1, decide_false, Bool.false_eq_true, if_false]
    rw [decide_eq_false]; unfold Ok; omega
/-- What DayOf answers. -/
def dayOfV (y m d : Int) : Int × Int := if Ok y m d then (num y m d, 0) else (0, 1)
theorem impl_DayOf (y m d : Int) : Ev (fun k => impl_DayOf.f k y m d) (dayOfV y m d) := by
  unfold impl_DayOf.f dayOfV
  refine Ev.bind (impl_IsDate y m d) ?_
  by_cases h : Ok y m d
  · simp only [h, decide_true, if_true]
    obtain ⟨h1, h2, h3, h4, h5, h6⟩ := h
    have b := dim_bd y m
    exact Ev.bind (impl_dayOf y m d h1 (by omega) h3 h4 (by omega) (by omega)) (Ev.pure rfl)
  · simp only [h, decide_false, Bool.false_eq_true, if_false]
    exact Ev.pure rfl
theorem spec_DayOf (y m d : Int) : Ev (fun k => spec_DayOf.f k y m d) (dayOfV y m d) := by
  unfold spec_DayOf.f dayOfV
  simp only [spec_IsDate, Option.bind_some]
  by_cases h : Ok y m d
  · simp only [h, decide_true, if_true]
    obtain ⟨h1, h2, h3, h4, h5, h6⟩ := h
    have b := dim_bd y m
    exact Ev.bind (spec_l02Day y m d h1 (by omega) h3 h4 (by omega) (by omega)) (Ev.pure rfl)
  · simp only [h, decide_false, Bool.false_eq_true, if_false]
    exact Ev.pure rfl
end Go.Proofs.Ytgadnnfecilfcaa.L

