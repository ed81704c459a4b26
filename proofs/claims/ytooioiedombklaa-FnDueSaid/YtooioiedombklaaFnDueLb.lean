/- What the small functions of the program and of the reference answer (ranges, nearest quotients, weekdays, lengths of months), as facts about their printed Lean forms. Conditions: the bounds that each fact names. -/
import Derived.Test.YtooioiedombklaaFnDueLa
namespace Go.Proofs.Ytooioiedombklaa.L
set_option linter.unusedVariables false
set_option linter.unusedSimpArgs false
open Go.RowKit Go.Proofs.Ytooioiedombklaa.P Go.Proofs.YtooioiedombklaaW.PrintWords Go.Proofs.YtooioiedombklaaW.PrintLast Go.Proofs.YtooioiedombklaaW.PrintMore

theorem impl_in (a b c : Int) : impl_in.f a b c = some (decide (b ≤ a ∧ a ≤ c)) := by
  unfold impl_in.f
  by_cases h : b ≤ a <;> simp [h]
theorem spec_l01In (a b c : Int) : spec_l01In.f a b c = some (decide (b ≤ a ∧ a ≤ c)) := by
  unfold spec_l01In.f
  by_cases h : b ≤ a <;> simp [h]
theorem impl_IsAmount (a : Int) : impl_IsAmount.f a = some (decide (0 ≤ a ∧ a ≤ 1000000000)) := by
  unfold impl_IsAmount.f; rw [impl_in]; rfl
theorem spec_IsAmount (a : Int) : spec_IsAmount.f a = some (decide (0 ≤ a ∧ a ≤ 1000000000)) := by
  unfold spec_IsAmount.f; rw [spec_l01In]; rfl
theorem impl_amountOf (a : Int) : impl_amountOf.f a = some (if 0 ≤ a ∧ a ≤ 1000000000 then (a, 0) else (0, 3)) := by
  unfold impl_amountOf.f; rw [impl_IsAmount]
  by_cases h : 0 ≤ a ∧ a ≤ 1000000000 <;> simp [h]
theorem spec_l04Result (a : Int) : spec_l04Result.f a = some (if 0 ≤ a ∧ a ≤ 1000000000 then (a, 0) else (0, 3)) := by
  unfold spec_l04Result.f; rw [spec_IsAmount]
  by_cases h : 0 ≤ a ∧ a ≤ 1000000000 <;> simp [h]
theorem impl_isPoints (a : Int) : impl_isPoints.f a = some (decide (0 ≤ a ∧ a ≤ 10000)) := by
  unfold impl_isPoints.f; rw [impl_in]; rfl
theorem spec_l04Points (a : Int) : spec_l04Points.f a = some (decide (0 ≤ a ∧ a ≤ 10000)) := by
  unfold spec_l04Points.f; rw [spec_l01In]; rfl
theorem spec_l02Is (a : Int) : spec_l02Is.f a = some (decide (0 ≤ a ∧ a ≤ 36524)) := by
  unfold spec_l02Is.f; rw [spec_l01In]; rfl
theorem impl_nearest (a b : Int) (ha : 0 ≤ a) (hA : a ≤ 9000000000000000000) (hb : 0 < b) (hB : b ≤ 4000000000000000000) : impl_nearest.f a b = some (near a b) := by
  have q := quot_bd ha hb
  unfold impl_nearest.f near
  rw [if_neg (by omega), tdiv_pos ha, tmod_pos ha]
  simp (disch := omega) only [w64]
  by_cases h : b ≤ 2 * (a % b)
  · rw [if_pos (by omega), if_pos h]
  · rw [if_neg (by omega), if_neg h]
theorem spec_l01Proportion (x y b : Int) (ha : 0 ≤ x * y) (hA : x * y ≤ 9000000000000000000) (hb : 0 < b) (hB : b ≤ 4000000000000000000) : spec_l01Proportion.f x y b = some (near (x * y) b) := by
  unfold spec_l01Proportion.f
  rw [w64 (x := x * y) (by omega) (by omega)]
  generalize x * y = a at *
  have q := quot_bd ha hb
  unfold near
  rw [if_neg (by omega), tdiv_pos ha, tmod_pos ha]
  simp (disch := omega) only [w64]
  by_cases h : b ≤ 2 * (a % b)
  · rw [if_pos (by omega), if_pos h]
  · rw [if_neg (by omega), if_neg h]
theorem spec_l04Interest (x y : Int) (ha : 0 ≤ x * y) (hA : x * y ≤ 9000000000000000000) : spec_l04Interest.f x y = some (near (x * y) 3650000) := by
  unfold spec_l04Interest.f
  rw [w64 (x := x * y) (by omega) (by omega)]
  generalize x * y = a at *
  have q := quot_bd (b := 3650000) ha (by omega)
  unfold near
  rw [tdiv_pos ha, tmod_pos ha]
  rw [w64 (x := 2 * (a % 3650000)) (by omega) (by omega), w64 (x := a / 3650000) (by omega) (by omega), w64 (by omega) (by omega)]
  by_cases h : 3650000 ≤ 2 * (a % 3650000)
  · rw [if_pos (by omega), if_pos h]
  · rw [if_neg (by omega), if_neg h]
theorem impl_interest (x y : Int) (ha : 0 ≤ x * y) (hA : x * y ≤ 9000000000000000000) : impl_interest.f x y = some (near (x * y) 3650000) := by
  unfold impl_interest.f
  rw [w64 (x := x * y) (by omega) (by omega), impl_nearest _ _ ha hA (by omega) (by omega)]; rfl
theorem impl_commission (x y : Int) (ha : 0 ≤ x * y) (hA : x * y ≤ 9000000000000000000) : impl_commission.f x y = some (near (x * y) 10000) := by
  unfold impl_commission.f
  rw [w64 (x := x * y) (by omega) (by omega), impl_nearest _ _ ha hA (by omega) (by omega)]; rfl
theorem spec_l04Commission (x y : Int) (ha : 0 ≤ x * y) (hA : x * y ≤ 9000000000000000000) : spec_l04Commission.f x y = some (near (x * y) 10000) := by
  unfold spec_l04Commission.f
  rw [spec_l01Proportion _ _ _ ha hA (by omega) (by omega)]; rfl
/-- What CommissionOf answers. -/
def commissionV (a p : Int) : Int × Int :=
  if ¬ ((0 ≤ a ∧ a ≤ 1000000000) ∧ (0 ≤ p ∧ p ≤ 10000)) then (0, 2)
  else if 0 ≤ near (a * p) 10000 ∧ near (a * p) 10000 ≤ 1000000000 then (near (a * p) 10000, 0) else (0, 3)
theorem spec_CommissionOf (a p : Int) : Ev (fun k => spec_CommissionOf.f k a p) (commissionV a p) := by
  unfold spec_CommissionOf.f commissionV
  simp only [spec_IsAmount, spec_l04Points, Option.bind_some]
  by_cases h1 : 0 ≤ a ∧ a ≤ 1000000000
  · by_cases h2 : 0 ≤ p ∧ p ≤ 10000
    · have m := commission_bd h1 h2
      refine Ev.step (f := fun _ => some (if 0 ≤ near (a * p) 10000 ∧ near (a * p) 10000 ≤ 1000000000 then (near (a * p) 10000, 0) else (0, 3))) (fun k => ?_) (Ev.pure ?_)
      · simp only [spec_CommissionOf.j0, h1, h2, and_self, decide_true, Bool.not_true, if_true, Bool.false_eq_true, if_false]
        rw [spec_l04Commission _ _ m.1 (by omega), Option.bind_some, spec_l04Result, Option.bind_some]
      · rw [if_neg (not_not_intro ⟨h1, h2⟩)]
    · refine Ev.step (f := fun _ => some (0, 2)) (fun k => ?_) (Ev.pure ?_)
      · simp [spec_CommissionOf.j0, h1, h2]
      · rw [if_pos (fun q => h2 q.2)]
  · refine Ev.step (f := fun _ => some (0, 2)) (fun k => ?_) (Ev.pure ?_)
    · simp [spec_CommissionOf.j0, h1]
    · rw [if_pos (fun q => h1 q.1)]
theorem impl_CommissionOf (a p : Int) : Ev (fun k => impl_CommissionOf.f k a p) (commissionV a p) := by
  unfold impl_CommissionOf.f commissionV
  simp only [impl_IsAmount, impl_isPoints, Option.bind_some]
  by_cases h1 : 0 ≤ a ∧ a ≤ 1000000000
  · by_cases h2 : 0 ≤ p ∧ p ≤ 10000
    · have m := commission_bd h1 h2
      refine Ev.step (f := fun _ => some (if 0 ≤ near (a * p) 10000 ∧ near (a * p) 10000 ≤ 1000000000 then (near (a * p) 10000, 0) else (0, 3))) (fun k => ?_) (Ev.pure ?_)
      · simp only [impl_CommissionOf.j0, h1, h2, and_self, decide_true, Bool.not_true, if_true, Bool.false_eq_true, if_false]
        rw [impl_commission _ _ m.1 (by omega), Option.bind_some, impl_amountOf, Option.bind_some]
      · rw [if_neg (not_not_intro ⟨h1, h2⟩)]
    · refine Ev.step (f := fun _ => some (0, 2)) (fun k => ?_) (Ev.pure ?_)
      · simp [impl_CommissionOf.j0, h1, h2]
      · rw [if_pos (fun q => h2 q.2)]
  · refine Ev.step (f := fun _ => some (0, 2)) (fun k => ?_) (Ev.pure ?_)
    · simp [impl_CommissionOf.j0, h1]
    · rw [if_pos (fun q => h1 q.1)]
end Go.Proofs.Ytooioiedombklaa.L

