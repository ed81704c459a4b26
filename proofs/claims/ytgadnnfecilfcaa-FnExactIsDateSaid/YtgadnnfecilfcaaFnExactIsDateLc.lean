/- What the calendar's functions answer, in the program and in the reference: lengths of months, numbers of dates, dates of numbers, business days, months added. Conditions: the bounds that each fact names. -/
import Derived.Test.YtgadnnfecilfcaaFnExactIsDateLb
namespace Go.Proofs.Ytgadnnfecilfcaa.L
set_option linter.unusedVariables false
set_option linter.unusedSimpArgs false
open Go.RowKit Go.Proofs.Ytgadnnfecilfcaa.P Go.Proofs.YtgadnnfecilfcaaW.PrintWords Go.Proofs.YtgadnnfecilfcaaW.PrintLast Go.Proofs.YtgadnnfecilfcaaW.PrintMore

instance (y m d : Int) : Decidable (Ok y m d) := by unfold Ok; infer_instance

theorem impl_daysIn (y m : Int) : Ev (fun k => impl_daysIn.f k y m) (dim y m) := by
  refine Ev.step (f := fun _ => some (dim y m)) (fun k => ?_) (Ev.pure rfl)
  unfold impl_daysIn.f dim
  by_cases h2 : m = 2
  · subst h2
    by_cases h : y % 4 = 0
    · have h' := (tmod_zero_iff y).2 h
      simp [impl_daysIn.j0, h', h]
    · have h' : ¬ Int.tmod y 4 = 0 := fun q => h ((tmod_zero_iff y).1 q)
      simp [impl_daysIn.j0, h', h]
  · simp only [h2, if_false, impl_daysIn.j0, Bool.false_eq_true]
    by_cases h4 : m = 4
    · simp [h4]
    by_cases h6 : m = 6
    · simp [h6]
    by_cases h9 : m = 9
    · simp [h9]
    by_cases h11 : m = 11
    · simp [h11]
    simp [h4, h6, h9, h11]
theorem spec_l02Length (y m : Int) (h1 : 1 ≤ m) (h2 : m ≤ 12) : spec_l02Length.f y m = some (dim y m) := by
  rcases months h1 h2 with rfl | rfl | rfl | rfl | rfl | rfl | rfl | rfl | rfl | rfl | rfl | rfl
  case inr.inl =>
    unfold spec_l02Length.f dim
    by_cases h : y % 4 = 0
    · have h' := (tmod_zero_iff y).2 h
      simp [h', h]
    · have h' : ¬ Int.tmod y 4 = 0 := fun q => h ((tmod_zero_iff y).1 q)
      simp [h', h, rd, wrap64]
  all_goals simp [spec_l02Length.f, dim, rd, wrap64]
theorem impl_IsDate (y m d : Int) : Ev (fun k => impl_IsDate.f k y m d) (decide (Ok y m d)) := by
  unfold impl_IsDate.f
  simp only [impl_isYear, Option.bind_some]
  by_cases h1 : 1970 ≤ y ∧ y ≤ 2069
  · simp only [h1, and_self, decide_true, if_true, impl_in, Option.bind_some]
    by_cases h2 : 1 ≤ m ∧ m ≤ 12
    · simp only [h2, and_self, decide_true, if_true]
      refine Ev.bind (impl_daysIn y m) (Ev.pure ?_)
      congr 1
      rw [decide_eq_decide]; unfold Ok; omega
    · simp only [h2, decide_false, Bool.false_eq_true, if_false]
      exact Ev.pure (by rw [decide_eq_false]; unfold Ok; omega)
  · simp only [h1, decide_false, Bool.false_eq_true, if_false]
    exact Ev.pure (by rw [decide_eq_false]; unfold Ok; omega)
theorem spec_IsDate (y m d : Int) : spec_IsDate.f y m d = some (decide (Ok y m d)) := by
  unfold spec_IsDate.f
  simp only [spec_l01In, Option.bind_some]
  by_cases h1 : 1970 ≤ y ∧ y ≤ 2069
  · simp only [h1, and_self, decide_true, if_true]
    by_cases h2 : 1 ≤ m ∧ m ≤ 12
    · simp only [h2, and_self, decide_true, if_true]
      rw [spec_l02Length y m h2.1 h2.2, Option.bind_some]
      congr 1
      rw [decide_eq_decide]; unfold Ok; omega
    · simp only [h2, decide_false, Bool.false_eq_true, if_false]
      rw [decide_eq_false]; unfold Ok; omega
  · simp only [h1, decide_false, Bool.false_eq_true, if_false]
    rw [decide_eq_false]; unfold Ok; omega
end Go.Proofs.Ytgadnnfecilfcaa.L

