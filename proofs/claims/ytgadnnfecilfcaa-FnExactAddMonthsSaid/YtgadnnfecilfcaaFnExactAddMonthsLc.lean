/- What the calendar's functions answer, in the program and in the reference: lengths of months, numbers of dates, dates of numbers, business days, months added. Conditions: the bounds that each fact names. -/
import Derived.Test.YtgadnnfecilfcaaFnExactAddMonthsLb
namespace Go.Proofs.Ytgadnnfecilfcaa.L
set_option linter.unusedVariables false
set_option linter.unusedSimpArgs false
open Go.RowKit Go.Proofs.Ytgadnnfecilfcaa.P Go.Proofs.YtgadnnfecilfcaaW.PrintWords Go.Proofs.YtgadnnfecilfcaaW.PrintLast Go.Proofs.YtgadnnfecilfcaaW.PrintMore

instance (y m d : Int) : Decidable (Ok y m d) := by unfold Ok; infer_instance

theorem impl_daysIn (y m : Int) : Ev (fun k => impl_daysIn.f k y m) (dim y m) := by
  refine Ev.step (f := fun _ => some (dim y m)) (fun k => ?_) (Ev.pure rfl)
  unfold impl_daysIn.f dim
  by_cases h2 : m = 2
  · subst h2
    by_cases h : y % 4 = 0
    · have h' := (tmod_zero_iff y).2 h
      simp [impl_daysIn.j0, h', h]
    · have h' : ¬ Int.tmod y 4 = 0 := fun q => h ((tmod_zero_iff y).1 q)
      simp [impl_daysIn.j0, h', h]
  · simp only [h2, if_false, impl_daysIn.j0, Bool.false_eq_true]
    by_cases h4 : m = 4
    · simp [h4]
    by_cases h6 : m = 6
    · simp [h6]
    by_cases h9 : m = 9
    · simp [h9]
    by_cases h11 : m = 11
    · simp [h11]
    simp [h4, h6, h9, h11]
theorem spec_l02Length (y m : Int) (h1 : 1 ≤ m) (h2 : m ≤ 12) : spec_l02Length.f y m = some (dim y m) := by
  rcases months h1 h2 with rfl | rfl | rfl | rfl | rfl | rfl | rfl | rfl | rfl | rfl | rfl | rfl
  case inr.inl =>
    unfold spec_l02Length.f dim
    by_cases h : y % 4 = 0
    · have h' := (tmod_zero_iff y).2 h
      simp [h', h]
    · have h' : ¬ Int.tmod y 4 = 0 := fun q => h ((tmod_zero_iff y).1 q)
      simp [h', h, rd, wrap64]
  all_goals simp [spec_l02Length.f, dim, rd, wrap64]
theorem impl_IsDate (y m d : Int) : Ev (fun k => impl_IsDate.f k y m d) (decide (Ok y m d)) := by
  unfold impl_IsDate.f
  simp only [impl_isYear, Option.bind_some]
  by_cases h1 : 1970 ≤ y ∧ y ≤ 2069
  · simp only [h1, and_self, decide_true, if_true, impl_in, Option.bind_some]
    by_cases h2 : 1 ≤ m ∧ m ≤ 12
    · simp only [h2, and_self, decide_true, if_true]
      refine Ev.bind (impl_daysIn y m) (Ev.pure ?_)
      congr 1
      rw [decide_eq_decide]; unfold Ok; omega
    · simp only [h2, decide_false, Bool.false_eq_true, if_false]
      exact Ev.pure (by rw [decide_eq_false]; unfold Ok; omega)
  · simp only [h1, decide_false, Bool.false_eq_true, if_false]
    exact Ev.pure (by rw [decide_eq_false]; unfold Ok; omega)
theorem spec_IsDate (y m d : Int) : spec_IsDate.f y m d = some (decide (Ok y m d)) := by
  unfold spec_IsDate.f
  simp only [spec_l01In, Option.bind_some]
  by_cases h1 : 1970 ≤ y ∧ y ≤ 2069
  · simp only [h1, and_self, decide_true, if_true]
    by_cases h2 : 1 ≤ m ∧ m ≤ 12
    · simp only [h2, and_self, decide_true, if_true]
      rw [spec_l02Length y m h2.1 h2.2, Option.bind_some]
      congr 1
      rw [decide_eq_decide]; unfold Ok; omega
    · simp only [h2, decide_false, Bool.false_eq_true, if_false]
      rw [decide_eq_false]; unfold Ok; omega
  · simp only [h1, decide_false, Bool.false_eq_true, if_false]
    rw [decide_eq_false]; unfold Ok; omega
/-- What AddMonths answers. -/
def addMonthsV (y m d a : Int) : Int × Int × Int × Int :=
  if ¬ Ok y m d then (0, 0, 0, 1) else if ¬ (0 ≤ a ∧ a ≤ 600) then (0, 0, 0, 2)
  else if 2069 < y + (m - 1 + a) / 12 then (0, 0, 0, 3)
  else (y + (m - 1 + a) / 12, (m - 1 + a) % 12 + 1, mn d (dim (y + (m - 1 + a) / 12) ((m - 1 + a) % 12 + 1)), 0)
theorem impl_AddMonths (y m d a : Int) : Ev (fun k => impl_AddMonths.f k y m d a) (addMonthsV y m d a) := by
  unfold impl_AddMonths.f addMonthsV
  refine Ev.bind (impl_IsDate y m d) ?_
  by_cases h : Ok y m d
  · simp only [h, decide_true, if_true, not_true, if_false, impl_in, Option.bind_some]
    by_cases h2 : 0 ≤ a ∧ a ≤ 600
    · simp only [h2, and_self, decide_true, if_true, not_true, if_false]
      obtain ⟨o1, o2, o3, o4, o5, o6⟩ := h
      simp (disch := omega) only [w64, tdiv_pos, tmod_pos]
      generalize hY : y + (m - 1 + a) / 12 = Y
      generalize hM : (m - 1 + a) % 12 + 1 = M
      have bM : 1 ≤ M ∧ M ≤ 12 := by omega
      have bY : 1970 ≤ Y := by omega
      have bd := dim_bd Y M
      refine Ev.bind (impl_daysIn Y M) (Ev.bind (impl_IsDate Y M _) ?_)
      have hmn : 1 ≤ mn d (dim Y M) ∧ mn d (dim Y M) ≤ dim Y M := by unfold mn; split <;> omega
      by_cases h3 : 2069 < Y
      · have no : ¬ Ok Y M (mn d (dim Y M)) := by unfold Ok; omega
        simp only [no, decide_false, Bool.false_eq_true, if_false, h3, if_true]
        exact Ev.pure rfl
      · have yes : Ok Y M (mn d (dim Y M)) := by unfold Ok; omega
        simp only [yes, decide_true, if_true, h3, if_false]
        exact Ev.pure rfl
    · simp only [h2, decide_false, Bool.false_eq_true, if_false, not_false_eq_true, if_true]
      exact Ev.pure rfl
  · simp only [h, decide_false, Bool.false_eq_true, if_false, not_false_eq_true, if_true]
    exact Ev.pure rfl
theorem spec_AddMonths (y m d a : Int) : spec_AddMonths.f y m d a = some (addMonthsV y m d a) := by
  unfold spec_AddMonths.f addMonthsV
  simp only [spec_IsDate, spec_l01In, Option.bind_some]
  by_cases h : Ok y m d
  · simp only [h, decide_true, if_true, not_true, if_false]
    by_cases h2 : 0 ≤ a ∧ a ≤ 600
    · simp only [h2, and_self, decide_true, if_true, not_true, if_false]
      obtain ⟨o1, o2, o3, o4, o5, o6⟩ := h
      simp (disch := omega) only [w64, tdiv_pos, tmod_pos]
      rw [show (y * 12 + m - 1 + a) / 12 = y + (m - 1 + a) / 12 by omega, show (y * 12 + m - 1 + a) % 12 = (m - 1 + a) % 12 by omega]
      by_cases h3 : 2069 < y + (m - 1 + a) / 12
      · rw [if_pos h3, if_pos (by omega)]
      · rw [if_neg h3, if_neg (by omega), spec_l02Length _ _ (by omega) (by omega)]; rfl
    · simp only [h2, decide_false, Bool.false_eq_true, if_false, not_false_eq_true, if_true]
  · simp only [h, decide_false, Bool.false_eq_true, if_false, not_false_eq_true, if_true]
end Go.Proofs.Ytgadnnfecilfcaa.L

