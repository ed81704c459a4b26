/- What the calendar's functions answer, in the program and in the reference: lengths of months, numbers of dates, dates of numbers, business days, months added. Conditions: the bounds that each fact names. -/
import Derived.Test.YtgadnnfecilfcaaFnExactNextBusinessDayLb
namespace Go.Proofs.Ytgadnnfecilfcaa.L
set_option linter.unusedVariables false
set_option linter.unusedSimpArgs false
open Go.RowKit Go.Proofs.Ytgadnnfecilfcaa.P Go.Proofs.YtgadnnfecilfcaaW.PrintWords Go.Proofs.YtgadnnfecilfcaaW.PrintLast Go.Proofs.YtgadnnfecilfcaaW.PrintMore

instance (y m d : Int) : Decidable (Ok y m d) := by unfold Ok; infer_instance

theorem impl_daysIn (y m : Int) : Ev (fun k => impl_daysIn.f k y m) (dim y m) := by
  refine Ev.step (f := fun _ => some (dim y m)) (fun k => ?_) (Ev.pure rfl)
  unfold impl_daysIn.f dim
  by_cases h2 : m = 2
  · subst h2
    by_cases h : y % 4 = 0
    · have h' := (tmod_zero_iff y).2 h
      simp [impl_daysIn.j0, h', h]
    · have h' : ¬ Int.tmod y 4 = 0 := fun q => h ((tmod_zero_iff y).1 q)
      simp [impl_daysIn.j0, h', h]
  · simp only [h2, if_false, impl_daysIn.j0, Bool.false_eq_true]
    by_cases h4 : m = 4
    · simp [h4]
    by_cases h6 : m = 6
    · simp [h6]
    by_cases h9 : m = 9
    · simp [h9]
    by_cases h11 : m = 11
    · simp [h11]
    simp [h4, h6, h9, h11]
theorem impl_dayOf_l0 (y m d : Int) (hm : m ≤ 12) : ∀ (j : Nat) (x i : Int), 1 ≤ i → i + j = m → -1000000000000 ≤ x → x + 31 * j ≤ 1000000000000 →
    Ev (fun k => impl_dayOf.l0 k x i y m d) (x + cum y m - cum y i) := by
  intro j
  induction j with
  | zero =>
    intro x i h1 h2 h3 h4
    refine Ev.step (f := fun _ => some x) (fun k => ?_) (Ev.pure ?_)
    · simp only [impl_dayOf.l0]; rw [if_neg (by omega)]
    · rw [show i = m by omega]; congr 1; omega
  | succ j ih =>
    intro x i h1 h2 h3 h4
    have b := dim_bd y i
    refine Ev.step (f := fun k => (impl_daysIn.f k y i).bind fun t => impl_dayOf.l0 k (wrap64 (x + t)) (wrap64 (i + 1)) y m d) (fun k => ?_) (Ev.bind (impl_daysIn y i) ?_)
    · simp only [impl_dayOf.l0]; rw [if_pos (by omega)]
    · rw [w64 (by omega) (by omega), w64 (by omega) (by omega)]
      have h := ih (x + dim y i) (i + 1) (by omega) (by omega) (by omega) (by omega)
      rw [cum_succ y i h1 (by omega)] at h
      rw [show x + cum y m - cum y i = x + dim y i + cum y m - (cum y i + dim y i) by omega]
      exact h
theorem impl_dayOf (y m d : Int) (hy : 1970 ≤ y) (hY : y ≤ 2070) (h1 : 1 ≤ m) (hm : m ≤ 12) (hd : -1000000000 ≤ d) (hD : d ≤ 1000000000) :
    Ev (fun k => impl_dayOf.f k y m d) (num y m d) := by
  unfold impl_dayOf.f
  have h := impl_dayOf_l0 y m d hm (m - 1).toNat (365 * (y - 1970) + (y - 1970 + 1) / 4 + d - 1) 1 (by omega) (by omega) (by omega) (by omega)
  simp (disch := omega) only [w64, tdiv_pos]
  rw [cum_one] at h
  rw [show num y m d = 365 * (y - 1970) + (y - 1970 + 1) / 4 + d - 1 + cum y m - 0 by unfold num yr; omega]
  exact h
theorem num_last : num 2069 12 31 = 36524 := by unfold num yr cum; decide
theorem impl_isDay (n : Int) : Ev (fun k => impl_isDay.f k n) (decide (0 ≤ n ∧ n ≤ 36524)) := by
  unfold impl_isDay.f
  refine Ev.bind (impl_dayOf 2069 12 31 (by omega) (by omega) (by omega) (by omega) (by omega) (by omega)) ?_
  rw [num_last]
  exact Ev.pure (by rw [impl_in]; rfl)
theorem impl_weekday (n : Int) (h0 : 0 ≤ n) (h1 : n ≤ 1000000000) : impl_weekday.f n = some ((n + 3) % 7) := by
  unfold impl_weekday.f; rw [w64 (by omega) (by omega), tmod_pos (by omega)]
theorem spec_l02Weekday (n : Int) (h0 : 0 ≤ n) (h1 : n ≤ 1000000000) : spec_l02Weekday.f n = some ((n + 3) % 7) := by
  unfold spec_l02Weekday.f; rw [w64 (by omega) (by omega), tmod_pos (by omega)]
/-- The first business day that is not before a day. -/
def onB (n : Int) : Int := if (n + 3) % 7 = 5 then n + 2 else if (n + 3) % 7 = 6 then n + 1 else n
theorem onB_bd (n : Int) : n ≤ onB n ∧ onB n ≤ n + 2 := by unfold onB; repeat' split <;> omega
theorem onB_day (n : Int) : (onB n + 3) % 7 ≤ 4 := by unfold onB; repeat' split <;> omega
/-- As many business days on as told. -/
def bday : Nat → Int → Int
  | 0, n => n
  | j + 1, n => bday j (onB (n + 1))
theorem bday_bd (j : Nat) : ∀ n, n + j ≤ bday j n ∧ bday j n ≤ n + 3 * j := by
  induction j with
  | zero => intro n; simp [bday]
  | succ j ih =>
    intro n
    have h := ih (onB (n + 1))
    have b := onB_bd (n + 1)
    simp only [bday]; omega
theorem bday_day (j : Nat) : ∀ n, (n + 3) % 7 ≤ 4 → (bday j n + 3) % 7 ≤ 4 := by
  induction j with
  | zero => intro n h; exact h
  | succ j ih => intro n h; exact ih _ (onB_day _)
theorem impl_onBusiness (n : Int) (h0 : 0 ≤ n) (h1 : n ≤ 100000000) : Ev (fun k => impl_onBusiness.f k n) (onB n) := by
  unfold impl_onBusiness.f onB
  have stop : ∀ m : Int, 0 ≤ m → m ≤ 200000000 → (m + 3) % 7 ≤ 4 → Ev (fun k => impl_onBusiness.l0 k m) m := by
    intro m a b c
    refine Ev.step (f := fun _ => some m) (fun k => ?_) (Ev.pure rfl)
    simp only [impl_onBusiness.l0]
    rw [impl_weekday m a (by omega), Option.bind_some, if_neg (by omega)]
  have go : ∀ m r : Int, 0 ≤ m → m ≤ 200000000 → ¬ (m + 3) % 7 ≤ 4 → Ev (fun k => impl_onBusiness.l0 k (m + 1)) r → Ev (fun k => impl_onBusiness.l0 k m) r := by
    intro m r a b c e
    refine Ev.step (fun k => ?_) e
    simp only [impl_onBusiness.l0]
    rw [impl_weekday m a (by omega), Option.bind_some, if_pos (by omega), w64 (by omega) (by omega)]
  by_cases h5 : (n + 3) % 7 = 5
  · rw [if_pos h5]
    exact go n _ h0 (by omega) (by omega) (go (n + 1) _ (by omega) (by omega) (by omega) (by rw [show n + 1 + 1 = n + 2 by omega]; exact stop (n + 2) (by omega) (by omega) (by omega)))
  · rw [if_neg h5]
    by_cases h6 : (n + 3) % 7 = 6
    · rw [if_pos h6]
      exact go n _ h0 (by omega) (by omega) (stop (n + 1) (by omega) (by omega) (by omega))
    · rw [if_neg h6]
      exact stop n h0 (by omega) (by omega)
theorem impl_businessDay_l0 (d : Int) (hd : d ≤ 1000) : ∀ (j : Nat) (n i : Int), 0 ≤ i → i + j = d → 0 ≤ n → n + 3 * j ≤ 1000000 →
    Ev (fun k => impl_businessDay.l0 k n d i) (bday j n) := by
  intro j
  induction j with
  | zero =>
    intro n i h1 h2 h3 h4
    refine Ev.step (f := fun _ => some n) (fun k => ?_) (Ev.pure rfl)
    simp only [impl_businessDay.l0]; rw [if_neg (by omega)]
  | succ j ih =>
    intro n i h1 h2 h3 h4
    have b := onB_bd (n + 1)
    refine Ev.step (f := fun k => (impl_onBusiness.f k (n + 1)).bind fun t => impl_businessDay.l0 k t d (i + 1)) (fun k => ?_) (Ev.bind (impl_onBusiness (n + 1) (by omega) (by omega)) ?_)
    · simp only [impl_businessDay.l0]; rw [if_pos (by omega), w64 (by omega) (by omega), w64 (by omega) (by omega)]
    · exact ih (onB (n + 1)) (i + 1) (by omega) (by omega) (by omega) (by omega)
theorem impl_businessDay (n d : Int) (h0 : 0 ≤ n) (h1 : n ≤ 36524) (hd0 : 0 ≤ d) (hd : d ≤ 1000) : Ev (fun k => impl_businessDay.f k n d) (bday d.toNat (onB n)) := by
  have b := onB_bd n
  unfold impl_businessDay.f
  exact Ev.bind (impl_onBusiness n h0 (by omega)) (impl_businessDay_l0 d hd d.toNat (onB n) 0 (by omega) (by omega) (by omega) (by omega))
theorem spec_l02Business_l1 : ∀ (j : Nat) (n d : Int), d = j → d ≤ 1000 → 0 ≤ n → n + 3 * j ≤ 1000000 →
    Ev (fun k => spec_l02Business.l1 k n d) (bday j n) := by
  intro j
  induction j with
  | zero =>
    intro n d h1 h2 h3 h4
    refine Ev.step (f := fun _ => some n) (fun k => ?_) (Ev.pure rfl)
    simp only [spec_l02Business.l1]; rw [if_neg (by omega)]
  | succ j ih =>
    intro n d h1 h2 h3 h4
    have stop : ∀ m : Int, n ≤ m → m ≤ n + 3 → (m + 3) % 7 ≤ 4 → Ev (fun k => spec_l02Business.l2 k m d) (bday j m) := by
      intro m a b c
      refine Ev.step (fun k => ?_) (ih m (d - 1) (by omega) (by omega) (by omega) (by omega))
      simp only [spec_l02Business.l2]
      rw [spec_l02Weekday m (by omega) (by omega), Option.bind_some, if_neg (by omega), w64 (by omega) (by omega)]
    have go : ∀ m r : Int, n ≤ m → m ≤ n + 3 → ¬ (m + 3) % 7 ≤ 4 → Ev (fun k => spec_l02Business.l2 k (m + 1) d) r → Ev (fun k => spec_l02Business.l2 k m d) r := by
      intro m r a b c e
      refine Ev.step (fun k => ?_) e
      simp only [spec_l02Business.l2]
      rw [spec_l02Weekday m (by omega) (by omega), Option.bind_some, if_pos (by omega), w64 (by omega) (by omega)]
    refine Ev.step (f := fun k => spec_l02Business.l2 k (n + 1) d) (fun k => ?_) ?_
    · simp only [spec_l02Business.l1]; rw [if_pos (by omega), w64 (by omega) (by omega)]
    · simp only [bday]
      unfold onB
      by_cases h5 : (n + 1 + 3) % 7 = 5
      · rw [if_pos h5]
        exact go (n + 1) _ (by omega) (by omega) (by omega) (go (n + 1 + 1) _ (by omega) (by omega) (by omega) (by rw [show n + 1 + 1 + 1 = n + 1 + 2 by omega]; exact stop _ (by omega) (by omega) (by omega)))
      · rw [if_neg h5]
        by_cases h6 : (n + 1 + 3) % 7 = 6
        · rw [if_pos h6]
          exact go (n + 1) _ (by omega) (by omega) (by omega) (stop _ (by omega) (by omega) (by omega))
        · rw [if_neg h6]
          exact stop _ (by omega) (by omega) (by omega)
theorem spec_l02Business (n d : Int) (h0 : 0 ≤ n) (h1 : n ≤ 36524) (hd0 : 0 ≤ d) (hd : d ≤ 1000) : Ev (fun k => spec_l02Business.f k n d) (bday d.toNat (onB n)) := by
  unfold spec_l02Business.f
  have stop : ∀ m : Int, 0 ≤ m → m ≤ 36526 → (m + 3) % 7 ≤ 4 → Ev (fun k => spec_l02Business.l0 k m d) (bday d.toNat m) := by
    intro m a b c
    refine Ev.step (fun k => ?_) (spec_l02Business_l1 d.toNat m d (by omega) (by omega) (by omega) (by omega))
    simp only [spec_l02Business.l0]
    rw [spec_l02Weekday m (by omega) (by omega), Option.bind_some, if_neg (by omega)]
  have go : ∀ m r : Int, 0 ≤ m → m ≤ 36526 → ¬ (m + 3) % 7 ≤ 4 → Ev (fun k => spec_l02Business.l0 k (m + 1) d) r → Ev (fun k => spec_l02Business.l0 k m d) r := by
    intro m r a b c e
    refine Ev.step (fun k => ?_) e
    simp only [spec_l02Business.l0]
    rw [spec_l02Weekday m (by omega) (by omega), Option.bind_some, if_pos (by omega), w64 (by omega) (by omega)]
  unfold onB
  by_cases h5 : (n + 3) % 7 = 5
  · rw [if_pos h5]
    exact go n _ (by omega) (by omega) (by omega) (go (n + 1) _ (by omega) (by omega) (by omega) (by rw [show n + 1 + 1 = n + 2 by omega]; exact stop _ (by omega) (by omega) (by omega)))
  · rw [if_neg h5]
    by_cases h6 : (n + 3) % 7 = 6
    · rw [if_pos h6]
      exact go n _ (by omega) (by omega) (by omega) (stop _ (by omega) (by omega) (by omega))
    · rw [if_neg h6]
      exact stop _ (by omega) (by omega) (by omega)
/-- What NextBusinessDay answers. -/
def nextV (n d : Int) : Int × Int :=
  if ¬ ((0 ≤ n ∧ n ≤ 36524) ∧ (0 ≤ d ∧ d ≤ 1000)) then (0, 2)
  else if 0 ≤ bday d.toNat (onB n) ∧ bday d.toNat (onB n) ≤ 36524 then (bday d.toNat (onB n), 0) else (0, 3)
theorem impl_NextBusinessDay (n d : Int) : Ev (fun k => impl_NextBusinessDay.f k n d) (nextV n d) := by
  unfold impl_NextBusinessDay.f nextV
  refine Ev.bind (impl_isDay n) ?_
  simp only [impl_in, Option.bind_some]
  by_cases h1 : 0 ≤ n ∧ n ≤ 36524
  · by_cases h2 : 0 ≤ d ∧ d ≤ 1000
    · simp only [h1, h2, and_self, decide_true, if_true, Bool.not_true, not_true, if_false]
      refine Ev.step (fun k => ?_) (Ev.bind (g := fun k => impl_businessDay.f k n d) (f := fun k t => (impl_isDay.f k t).bind fun t118 => (if t118 = true then (some (t, 0)) else (some (0, 3)))) (impl_businessDay n d h1.1 h1.2 h2.1 h2.2) (Ev.bind (impl_isDay _) ?_))
      · simp only [impl_NextBusinessDay.j0, Bool.false_eq_true, if_false]
      · by_cases h3 : 0 ≤ bday d.toNat (onB n) ∧ bday d.toNat (onB n) ≤ 36524
        · simp only [h3, and_self, decide_true, if_true]; exact Ev.pure rfl
        · simp only [h3, decide_false, Bool.false_eq_true, if_false]; exact Ev.pure rfl
    · refine Ev.step (f := fun _ => some (0, 2)) (fun k => ?_) (Ev.pure ?_)
      · simp [impl_NextBusinessDay.j0, h1, h2]
      · rw [if_pos (fun q => h2 q.2)]
  · refine Ev.step (f := fun _ => some (0, 2)) (fun k => ?_) (Ev.pure ?_)
    · simp [impl_NextBusinessDay.j0, h1]
    · rw [if_pos (fun q => h1 q.1)]
theorem spec_NextBusinessDay (n d : Int) : Ev (fun k => spec_NextBusinessDay.f k n d) (nextV n d) := by
  unfold spec_NextBusinessDay.f nextV
  simp only [spec_l02Is, spec_l01In, Option.bind_some]
  by_cases h1 : 0 ≤ n ∧ n ≤ 36524
  · by_cases h2 : 0 ≤ d ∧ d ≤ 1000
    · simp only [h1, h2, and_self, decide_true, if_true, Bool.not_true, not_true, if_false]
      refine Ev.step (fun k => ?_) (Ev.bind (g := fun k => spec_l02Business.f k n d) (f := fun k t => (spec_l02Is.f t).bind fun t118 => (if t118 = true then (some (t, 0)) else (some (0, 3)))) (spec_l02Business n d h1.1 h1.2 h2.1 h2.2) ?_)
      · simp only [spec_NextBusinessDay.j0, Bool.false_eq_true, if_false]
      · simp only [spec_l02Is, Option.bind_some]
        by_cases h3 : 0 ≤ bday d.toNat (onB n) ∧ bday d.toNat (onB n) ≤ 36524
        · simp only [h3, and_self, decide_true, if_true]; exact Ev.pure rfl
        · simp only [h3, decide_false, Bool.false_eq_true, if_false]; exact Ev.pure rfl
    · refine Ev.step (f := fun _ => some (0, 2)) (fun k => ?_) (Ev.pure ?_)
      · simp [spec_NextBusinessDay.j0, h1, h2]
      · rw [if_pos (fun q => h2 q.2)]
  · refine Ev.step (f := fun _ => some (0, 2)) (fun k => ?_) (Ev.pure ?_)
    · simp [spec_NextBusinessDay.j0, h1]
    · rw [if_pos (fun q => h1 q.1)]
end Go.Proofs.Ytgadnnfecilfcaa.L

