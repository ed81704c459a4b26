/- What the small functions of the program and of the reference answer (ranges, nearest quotients, weekdays, lengths of months), as facts about their printed Lean forms. Conditions: the bounds that each fact names. -/
import Derived.Test.YtccnbjaaaaljoaaFnProportionsLa
namespace Go.Proofs.Ytccnbjaaaaljoaa.L
set_option linter.unusedVariables false
set_option linter.unusedSimpArgs false
open Go.RowKit Go.Proofs.Ytccnbjaaaaljoaa.P Go.Proofs.YtccnbjaaaaljoaaW.PrintWords Go.Proofs.YtccnbjaaaaljoaaW.PrintLast Go.Proofs.YtccnbjaaaaljoaaW.PrintMore

theorem impl_in (a b c : Int) : impl_in.f a b c = some (decide (b ≤ a ∧ a ≤ c)) := by
  unfold impl_in.f
  by_cases h : b ≤ a <;> simp [h]
theorem spec_l01In (a b c : Int) : spec_l01In.f a b c = some (decide (b ≤ a ∧ a ≤ c)) := by
  unfold spec_l01In.f
  by_cases h : b ≤ a <;> simp [h]
theorem impl_IsAmount (a : Int) : impl_IsAmount.f a = some (decide (0 ≤ a ∧ a ≤ 1000000000)) := by
  unfold impl_IsAmount.f; rw [impl_in]; rfl
theorem spec_IsAmount (a : Int) : spec_IsAmount.f a = some (decide (0 ≤ a ∧ a ≤ 1000000000)) := by
  unfold spec_IsAmount.f; rw [spec_l01In]; rfl
theorem impl_amountOf (a : Int) : impl_amountOf.f a = some (if 0 ≤ a ∧ a ≤ 1000000000 then (a, 0) else (0, 3)) := by
  unfold impl_amountOf.f; rw [impl_IsAmount]
  by_cases h : 0 ≤ a ∧ a ≤ 1000000000 <;> simp [h]
theorem impl_nearest (a b : Int) (ha : 0 ≤ a) (hA : a ≤ 9000000000000000000) (hb : 0 < b) (hB : b ≤ 4000000000000000000) : impl_nearest.f a b = some (near a b) := by
  have q := quot_bd ha hb
  unfold impl_nearest.f near
  rw [if_neg (by omega), tdiv_pos ha, tmod_pos ha]
  simp (disch := omega) only [w64]
  by_cases h : b ≤ 2 * (a % b)
  · rw [if_pos (by omega), if_pos h]
  · rw [if_neg (by omega), if_neg h]
theorem spec_l01Proportion (x y b : Int) (ha : 0 ≤ x * y) (hA : x * y ≤ 9000000000000000000) (hb : 0 < b) (hB : b ≤ 4000000000000000000) : spec_l01Proportion.f x y b = some (near (x * y) b) := by
  unfold spec_l01Proportion.f
  rw [w64 (x := x * y) (by omega) (by omega)]
  generalize x * y = a at *
  have q := quot_bd ha hb
  unfold near
  rw [if_neg (by omega), tdiv_pos ha, tmod_pos ha]
  simp (disch := omega) only [w64]
  by_cases h : b ≤ 2 * (a % b)
  · rw [if_pos (by omega), if_pos h]
  · rw [if_neg (by omega), if_neg h]
/-- What ProportionOf answers. -/
def proportionV (a b c : Int) : Int × Int :=
  if ¬ ((0 ≤ a ∧ a ≤ 1000000000) ∧ (0 ≤ b ∧ b ≤ 1000000000) ∧ (0 ≤ c ∧ c ≤ 1000000000)) then (0, 2) else if c = 0 then (0, 5)
  else if 0 ≤ near (a * b) c ∧ near (a * b) c ≤ 1000000000 then (near (a * b) c, 0) else (0, 3)
theorem spec_ProportionOf (a b c : Int) : Ev (fun k => spec_ProportionOf.f k a b c) (proportionV a b c) := by
  unfold spec_ProportionOf.f proportionV
  simp only [spec_IsAmount, Option.bind_some]
  by_cases h1 : 0 ≤ a ∧ a ≤ 1000000000
  · by_cases h2 : 0 ≤ b ∧ b ≤ 1000000000
    · by_cases h3 : 0 ≤ c ∧ c ≤ 1000000000
      · by_cases h4 : c = 0
        · refine Ev.step (f := fun _ => some (0, 5)) (fun k => ?_) (Ev.pure ?_)
          · simp [spec_ProportionOf.j0, h1, h2, h4]
          · simp [h1, h2, h4]
        · have m := proportion_bd h1 h2
          refine Ev.step (f := fun _ => some (if 0 ≤ near (a * b) c ∧ near (a * b) c ≤ 1000000000 then (near (a * b) c, 0) else (0, 3))) (fun k => ?_) (Ev.pure ?_)
          · simp only [spec_ProportionOf.j0, h1, h2, h3, h4, and_self, decide_true, Bool.not_true, if_true, Bool.false_eq_true, if_false]
            rw [spec_l01Proportion _ _ _ m.1 (by omega) (by omega) (by omega), Option.bind_some, spec_IsAmount, Option.bind_some]
            by_cases h5 : 0 ≤ near (a * b) c ∧ near (a * b) c ≤ 1000000000 <;> simp only [h5, and_self, decide_true, decide_false, if_true, if_false, Bool.false_eq_true]
          · rw [if_neg (not_not_intro ⟨h1, h2, h3⟩), if_neg h4]
      · refine Ev.step (f := fun _ => some (0, 2)) (fun k => ?_) (Ev.pure ?_)
        · simp [spec_ProportionOf.j0, h1, h2, h3]
        · rw [if_pos (fun q => h3 q.2.2)]
    · refine Ev.step (f := fun _ => some (0, 2)) (fun k => ?_) (Ev.pure ?_)
      · simp [spec_ProportionOf.j0, h1, h2]
      · rw [if_pos (fun q => h2 q.2.1)]
  · refine Ev.step (f := fun _ => some (0, 2)) (fun k => ?_) (Ev.pure ?_)
    · simp [spec_ProportionOf.j0, h1]
    · rw [if_pos (fun q => h1 q.1)]
theorem impl_ProportionOf (a b c : Int) : Ev (fun k => impl_ProportionOf.f k a b c) (proportionV a b c) := by
  unfold impl_ProportionOf.f proportionV
  simp only [impl_IsAmount, Option.bind_some]
  by_cases h1 : 0 ≤ a ∧ a ≤ 1000000000
  · by_cases h2 : 0 ≤ b ∧ b ≤ 1000000000
    · by_cases h3 : 0 ≤ c ∧ c ≤ 1000000000
      · by_cases h4 : c = 0
        · refine Ev.step (f := fun _ => some (0, 5)) (fun k => ?_) (Ev.pure ?_)
          · simp [impl_ProportionOf.j0, h1, h2, h4]
          · simp [h1, h2, h4]
        · have m := proportion_bd h1 h2
          refine Ev.step (f := fun _ => some (if 0 ≤ near (a * b) c ∧ near (a * b) c ≤ 1000000000 then (near (a * b) c, 0) else (0, 3))) (fun k => ?_) (Ev.pure ?_)
          · simp only [impl_ProportionOf.j0, h1, h2, h3, h4, and_self, decide_true, Bool.not_true, if_true, Bool.false_eq_true, if_false]
            rw [w64 (x := a * b) (by omega) (by omega), impl_nearest _ _ m.1 (by omega) (by omega) (by omega), Option.bind_some, impl_amountOf, Option.bind_some]
          · rw [if_neg (not_not_intro ⟨h1, h2, h3⟩), if_neg h4]
      · refine Ev.step (f := fun _ => some (0, 2)) (fun k => ?_) (Ev.pure ?_)
        · simp [impl_ProportionOf.j0, h1, h2, h3]
        · rw [if_pos (fun q => h3 q.2.2)]
    · refine Ev.step (f := fun _ => some (0, 2)) (fun k => ?_) (Ev.pure ?_)
      · simp [impl_ProportionOf.j0, h1, h2]
      · rw [if_pos (fun q => h2 q.2.1)]
  · refine Ev.step (f := fun _ => some (0, 2)) (fun k => ?_) (Ev.pure ?_)
    · simp [impl_ProportionOf.j0, h1]
    · rw [if_pos (fun q => h1 q.1)]
end Go.Proofs.Ytccnbjaaaaljoaa.L

