/- What the functions of chapter 4 answer (schedules of points, weights, interest, the day when it is reached), in the program and in the reference. Conditions: those of a schedule, and days of the calendar. -/
import Derived.Test.YtbfckglccgemkaaFnExactCrossRateLs
namespace Go.Proofs.Ytbfckglccgemkaa.L
set_option linter.unusedVariables false
set_option linter.unusedSimpArgs false
open Go.RowKit Go.Proofs.Ytbfckglccgemkaa.P Go.Proofs.YtbfckglccgemkaaW.PrintWords Go.Proofs.YtbfckglccgemkaaW.PrintLast Go.Proofs.YtbfckglccgemkaaW.PrintMore

theorem near_eq {a b : Int} (ha : 0 ≤ a) (hb : 0 < b) : near a b = (2 * a + b) / (2 * b) := by
  have h := Int.mul_ediv_add_emod a b
  have q := quot_bd ha hb
  unfold near
  have h1 : (2 * a + b) / (2 * b) = a / b + (2 * (a % b) + b) / (2 * b) := by
    rw [show 2 * a + b = 2 * (a % b) + b + (a / b) * (2 * b) by
      have : (a / b) * (2 * b) = 2 * (b * (a / b)) := by rw [Int.mul_comm (a / b), Int.mul_assoc]
      omega]
    rw [Int.add_mul_ediv_right _ _ (by omega)]; omega
  rw [h1]
  by_cases h2 : b ≤ 2 * (a % b)
  · rw [if_pos h2, show (2 * (a % b) + b) / (2 * b) = 1 from by
      rw [show 2 * (a % b) + b = (2 * (a % b) - b) + 1 * (2 * b) by omega, Int.add_mul_ediv_right _ _ (by omega), Int.ediv_eq_zero_of_lt (by omega) (by omega)]; rfl]
  · rw [if_neg h2, show (2 * (a % b) + b) / (2 * b) = 0 from Int.ediv_eq_zero_of_lt (by omega) (by omega)]; omega
theorem near_mono {a a' b : Int} (ha : 0 ≤ a) (h : a ≤ a') (hb : 0 < b) : near a b ≤ near a' b := by
  rw [near_eq ha hb, near_eq (by omega) hb]
  exact Int.ediv_le_ediv (by omega) (by omega)

/-- A step as it may be; the order of two. -/
def stepB (x : S72) : Bool := decide (0 ≤ x.f0 ∧ x.f0 ≤ 36524) && decide (0 ≤ x.f1 ∧ x.f1 ≤ 10000)
def stepLt (x y : S72) : Bool := decide (x.f0 < y.f0)
/-- A schedule. -/
def schedB (l : List S72) : Bool := (l.all stepB && X.risesB stepLt l) && decide (1 ≤ (l.length : Int) ∧ (l.length : Int) ≤ 12)
theorem cmp_Compare (a b : Int) : cmp_Compare_int64.f a b = some (if a < b then -1 else if a > b then 1 else 0) := by
  unfold cmp_Compare_int64.f cmp_isNaN_int64.f
  simp only [bne_self_eq_false, Option.bind_some, Bool.false_eq_true, if_false]
  by_cases h : a < b
  · simp [h]
  · by_cases h2 : b < a <;> simp [h, h2]
theorem impl_IsSchedule (l : List S72) : Ev (fun k => impl_IsSchedule.f k l) (schedB l) := by
  unfold impl_IsSchedule.f schedB
  have no : Ev (fun k => impl_IsSchedule.j0 k l true) false := Ev.step (f := fun _ => some false) (fun k => by simp [impl_IsSchedule.j0]) (Ev.pure rfl)
  by_cases h1 : (l.length : Int) < 1
  · simp only [h1, if_true]
    rw [show decide (1 ≤ (l.length : Int) ∧ (l.length : Int) ≤ 12) = false from decide_eq_false (by omega), Bool.and_false]
    exact no
  simp only [h1, if_false]
  by_cases h2 : (l.length : Int) > 12
  · rw [show decide ((l.length : Int) > 12) = true from decide_eq_true h2, show decide (1 ≤ (l.length : Int) ∧ (l.length : Int) ≤ 12) = false from decide_eq_false (by omega), Bool.and_false]
    exact no
  rw [show decide ((l.length : Int) > 12) = false from decide_eq_false h2, show decide (1 ≤ (l.length : Int) ∧ (l.length : Int) ≤ 12) = true from decide_eq_true (by omega), Bool.and_true]
  have ha : Ev (fun k => impl_all_Step__impl_IsSchedule_1.f k l) (l.all stepB) := by
    unfold impl_all_Step__impl_IsSchedule_1.f
    refine X.allM_ev l fun x _ => ?_
    unfold impl_IsSchedule_1.f stepB
    refine Ev.bind (impl_isDay x.f0) ?_
    by_cases h : 0 ≤ x.f0 ∧ x.f0 ≤ 36524
    · simp only [h, and_self, decide_true, if_true, Bool.true_and, impl_isPoints, Option.bind_some]; exact Ev.pure rfl
    · simp only [h, decide_false, Bool.false_eq_true, if_false, Bool.false_and]; exact Ev.pure rfl
  have hr : Ev (fun _ => impl_rising_Step__impl_IsSchedule_2.f l) (X.risesB stepLt l) := by
    unfold impl_rising_Step__impl_IsSchedule_2.f
    refine X.risingM_ev l fun x _ y _ => ⟨_, Ev.pure (by unfold impl_IsSchedule_2.f; rw [cmp_Compare]; rfl), ?_⟩
    unfold stepLt
    by_cases h : x.f0 < y.f0
    · simp [h]
    · by_cases h2 : y.f0 < x.f0 <;> simp [h, h2]
  refine Ev.step (fun k => ?_) (Ev.bind (g := fun k => impl_all_Step__impl_IsSchedule_1.f k l) (f := fun _ t276 => if t276 = true then ((impl_rising_Step__impl_IsSchedule_2.f l).bind fun t277 => some t277) else some false) ha ?_)
  · simp only [impl_IsSchedule.j0, Bool.false_eq_true, if_false]
  · cases l.all stepB
    · simp only [Bool.false_eq_true, if_false, Bool.false_and]; exact Ev.pure rfl
    · simp only [if_true, Bool.true_and]; exact Ev.bind hr (Ev.pure rfl)
def amountV (n : Int) : Int × Int := if 0 ≤ n ∧ n ≤ 1000000000 then (n, 0) else (0, 3)
end Go.Proofs.Ytbfckglccgemkaa.L

