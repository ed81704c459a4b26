/- What the calendar's functions answer, in the program and in the reference: lengths of months, numbers of dates, dates of numbers, business days, months added. Conditions: the bounds that each fact names. -/
import Derived.Test.YtccnbjaaaaljoaaFnDaysLb
namespace Go.Proofs.Ytccnbjaaaaljoaa.L
set_option linter.unusedVariables false
set_option linter.unusedSimpArgs false
open Go.RowKit Go.Proofs.Ytccnbjaaaaljoaa.P Go.Proofs.YtccnbjaaaaljoaaW.PrintWords Go.Proofs.YtccnbjaaaaljoaaW.PrintLast Go.Proofs.YtccnbjaaaaljoaaW.PrintMore

instance (y m d : Int) : Decidable (Ok y m d) := by unfold Ok; infer_instance

theorem impl_daysIn (y m : Int) : Ev (fun k => impl_daysIn.f k y m) (dim y m) := by
  refine Ev.step (f := fun _ => some (dim y m)) (fun k => ?_) (Ev.pure rfl)
  unfold impl_daysIn.f dim
  by_cases h2 : m = 2
  · subst h2
    by_cases h : y % 4 = 0
    · have h' := (tmod_zero_iff y).2 h
      simp [impl_daysIn.j0, h', h]
    · have h' : ¬ Int.tmod y 4 = 0 := fun q => h ((tmod_zero_iff y).1 q)
      simp [impl_daysIn.j0, h', h]
  · simp only [h2, if_false, impl_daysIn.j0, Bool.false_eq_true]
    by_cases h4 : m = 4
    · simp [h4]
    by_cases h6 : m = 6
    · simp [h6]
    by_cases h9 : m = 9
    · simp [h9]
    by_cases h11 : m = 11
    · simp [h11]
    simp [h4, h6, h9, h11]
theorem spec_l02Length (y m : Int) (h1 : 1 ≤ m) (h2 : m ≤ 12) : spec_l02Length.f y m = some (dim y m) := by
  rcases months h1 h2 with rfl | rfl | rfl | rfl | rfl | rfl | rfl | rfl | rfl | rfl | rfl | rfl
  case inr.inl =>
    unfold spec_l02Length.f dim
    by_cases h : y % 4 = 0
    · have h' := (tmod_zero_iff y).2 h
      simp [h', h]
    · have h' : ¬ Int.tmod y 4 = 0 := fun q => h ((tmod_zero_iff y).1 q)
      simp [h', h, rd, wrap64]
  all_goals simp [spec_l02Length.f, dim, rd, wrap64]
theorem impl_dayOf_l0 (y m d : Int) (hm : m ≤ 12) : ∀ (j : Nat) (x i : Int), 1 ≤ i → i + j = m → -1000000000000 ≤ x → x + 31 * j ≤ 1000000000000 →
    Ev (fun k => impl_dayOf.l0 k x i y m d) (x + cum y m - cum y i) := by
  intro j
  induction j with
  | zero =>
    intro x i h1 h2 h3 h4
    refine Ev.step (f := fun _ => some x) (fun k => ?_) (Ev.pure ?_)
    · simp only [impl_dayOf.l0]; rw [if_neg (by omega)]
    · rw [show i = m by omega]; congr 1; omega
  | succ j ih =>
    intro x i h1 h2 h3 h4
    have b := dim_bd y i
    refine Ev.step (f := fun k => (impl_daysIn.f k y i).bind fun t => impl_dayOf.l0 k (wrap64 (x + t)) (wrap64 (i + 1)) y m d) (fun k => ?_) (Ev.bind (impl_daysIn y i) ?_)
    · simp only [impl_dayOf.l0]; rw [if_pos (by omega)]
    · rw [w64 (by omega) (by omega), w64 (by omega) (by omega)]
      have h := ih (x + dim y i) (i + 1) (by omega) (by omega) (by omega) (by omega)
      rw [cum_succ y i h1 (by omega)] at h
      rw [show x + cum y m - cum y i = x + dim y i + cum y m - (cum y i + dim y i) by omega]
      exact h
theorem impl_dayOf (y m d : Int) (hy : 1970 ≤ y) (hY : y ≤ 2070) (h1 : 1 ≤ m) (hm : m ≤ 12) (hd : -1000000000 ≤ d) (hD : d ≤ 1000000000) :
    Ev (fun k => impl_dayOf.f k y m d) (num y m d) := by
  unfold impl_dayOf.f
  have h := impl_dayOf_l0 y m d hm (m - 1).toNat (365 * (y - 1970) + (y - 1970 + 1) / 4 + d - 1) 1 (by omega) (by omega) (by omega) (by omega)
  simp (disch := omega) only [w64, tdiv_pos]
  rw [cum_one] at h
  rw [show num y m d = 365 * (y - 1970) + (y - 1970 + 1) / 4 + d - 1 + cum y m - 0 by unfold num yr; omega]
  exact h
theorem num_last : num 2069 12 31 = 36524 := by unfold num yr cum; decide
theorem impl_isDay (n : Int) : Ev (fun k => impl_isDay.f k n) (decide (0 ≤ n ∧ n ≤ 36524)) := by
  unfold impl_isDay.f
  refine Ev.bind (impl_dayOf 2069 12 31 (by omega) (by omega) (by omega) (by omega) (by omega) (by omega)) ?_
  rw [num_last]
  exact Ev.pure (by rw [impl_in]; rfl)
theorem spec_l02Day_l1 (y m d : Int) (hm : m ≤ 12) (hd : -1000000000 ≤ d) (hD : d ≤ 1000000000) : ∀ (j : Nat) (x i : Int), 1 ≤ i → i + j = m → -1000000000000 ≤ x → x + 31 * j ≤ 1000000000000 →
    Ev (fun k => spec_l02Day.l1 k x i y m d) (x + cum y m - cum y i + d - 1) := by
  intro j
  induction j with
  | zero =>
    intro x i h1 h2 h3 h4
    refine Ev.step (f := fun _ => some (x + d - 1)) (fun k => ?_) (Ev.pure ?_)
    · simp only [spec_l02Day.l1]; rw [if_neg (by omega), w64 (x := x + d) (by omega) (by omega), w64 (by omega) (by omega)]
    · rw [show i = m by omega]; congr 1; omega
  | succ j ih =>
    intro x i h1 h2 h3 h4
    have b := dim_bd y i
    refine Ev.step (f := fun k => spec_l02Day.l1 k (x + dim y i) (i + 1) y m d) (fun k => ?_) ?_
    · simp only [spec_l02Day.l1]; rw [if_pos (by omega), spec_l02Length y i h1 (by omega), Option.bind_some, w64 (by omega) (by omega), w64 (by omega) (by omega)]
    · have h := ih (x + dim y i) (i + 1) (by omega) (by omega) (by omega) (by omega)
      rw [cum_succ y i h1 (by omega)] at h
      rw [show x + cum y m - cum y i + d - 1 = x + dim y i + cum y m - (cum y i + dim y i) + d - 1 by omega]
      exact h
theorem spec_l02Day_l0 (y m d : Int) (hy : y ≤ 2070) (h1 : 1 ≤ m) (hm : m ≤ 12) (hd : -1000000000 ≤ d) (hD : d ≤ 1000000000) : ∀ (j : Nat) (i : Int), 1970 ≤ i → i + j = y →
    Ev (fun k => spec_l02Day.l0 k (yr i) i y m d) (num y m d) := by
  intro j
  induction j with
  | zero =>
    intro i h2 h3
    have b := yr_bd h2 (by omega)
    refine Ev.step (f := fun k => spec_l02Day.l1 k (yr i) 1 y m d) (fun k => ?_) ?_
    · simp only [spec_l02Day.l0]; rw [if_neg (by omega)]
    · have h := spec_l02Day_l1 y m d hm hd hD (m - 1).toNat (yr i) 1 (by omega) (by omega) (by omega) (by omega)
      rw [cum_one] at h
      rw [show num y m d = yr i + cum y m - 0 + d - 1 by unfold num; rw [show i = y by omega]; omega]
      exact h
  | succ j ih =>
    intro i h2 h3
    have b := yr_bd h2 (by omega)
    have b2 := dim_bd i 2
    refine Ev.step (f := fun k => spec_l02Day.l0 k (yr (i + 1)) (i + 1) y m d) (fun k => ?_) (ih (i + 1) (by omega) (by omega))
    simp only [spec_l02Day.l0]
    rw [if_pos (by omega), spec_l02Length i 2 (by omega) (by omega), Option.bind_some, w64 (x := yr i + 337) (by omega) (by omega), w64 (by omega) (by omega), w64 (by omega) (by omega), yr_succ]
theorem spec_l02Day (y m d : Int) (hy : 1970 ≤ y) (hY : y ≤ 2070) (h1 : 1 ≤ m) (hm : m ≤ 12) (hd : -1000000000 ≤ d) (hD : d ≤ 1000000000) :
    Ev (fun k => spec_l02Day.f k y m d) (num y m d) := by
  have h := spec_l02Day_l0 y m d hY h1 hm hd hD (y - 1970).toNat 1970 (by omega) (by omega)
  rw [yr_first] at h
  exact h
theorem impl_IsDate (y m d : Int) : Ev (fun k => impl_IsDate.f k y m d) (decide (Ok y m d)) := by
  unfold impl_IsDate.f
  simp only [impl_isYear, Option.bind_some]
  by_cases h1 : 1970 ≤ y ∧ y ≤ 2069
  · simp only [h1, and_self, decide_true, if_true, impl_in, Option.bind_some]
    by_cases h2 : 1 ≤ m ∧ m ≤ 12
    · simp only [h2, and_self, decide_true, if_true]
      refine Ev.bind (impl_daysIn y m) (Ev.pure ?_)
      congr 1
      rw [decide_eq_decide]; unfold Ok; omega
    · simp only [h2, decide_false, Bool.false_eq_true, if_false]
      exact Ev.pure (by rw [decide_eq_false]; unfold Ok; omega)
  · simp only [h1, decide_false, Bool.false_eq_true, if_false]
    exact Ev.pure (by rw [decide_eq_false]; unfold Ok; omega)
theorem spec_IsDate (y m d : Int) : spec_IsDate.f y m d = some (decide (Ok y m d)) := by
  unfold spec_IsDate.f
  simp only [spec_l01In, Option.bind_some]
  by_cases h1 : 1970 ≤ y ∧ y ≤ 2069
  · simp only [h1, and_self, decide_true, if_true]
    by_cases h2 : 1 ≤ m ∧ m ≤ 12
    · simp only [h2, and_self, decide_true, if_true]
      rw [spec_l02Length y m h2.1 h2.2, Option.bind_some]
      congr 1
      rw [decide_eq_decide]; unfold Ok; omega
    · simp only [h2, decide_false, Bool.false_eq_true, if_false]
      rw [decide_eq_false]; unfold Ok; omega
  · simp only [h1, decide_false, Bool.false_eq_true, if_false]
    rw [decide_eq_false]; unfold Ok; omega
/-- What DayOf answers. -/
def dayOfV (y m d : Int) : Int × Int := if Ok y m d then (num y m d, 0) else (0, 1)
theorem impl_DayOf (y m d : Int) : Ev (fun k => impl_DayOf.f k y m d) (dayOfV y m d) := by
  unfold impl_DayOf.f dayOfV
  refine Ev.bind (impl_IsDate y m d) ?_
  by_cases h : Ok y m d
  · simp only [h, decide_true, if_true]
    obtain ⟨h1, h2, h3, h4, h5, h6⟩ := h
    have b := dim_bd y m
    exact Ev.bind (impl_dayOf y m d h1 (by omega) h3 h4 (by omega) (by omega)) (Ev.pure rfl)
  · simp only [h, decide_false, Bool.false_eq_true, if_false]
    exact Ev.pure rfl
theorem spec_DayOf (y m d : Int) : Ev (fun k => spec_DayOf.f k y m d) (dayOfV y m d) := by
  unfold spec_DayOf.f dayOfV
  simp only [spec_IsDate, Option.bind_some]
  by_cases h : Ok y m d
  · simp only [h, decide_true, if_true]
    obtain ⟨h1, h2, h3, h4, h5, h6⟩ := h
    have b := dim_bd y m
    exact Ev.bind (spec_l02Day y m d h1 (by omega) h3 h4 (by omega) (by omega)) (Ev.pure rfl)
  · simp only [h, decide_false, Bool.false_eq_true, if_false]
    exact Ev.pure rfl
theorem impl_weekday (n : Int) (h0 : 0 ≤ n) (h1 : n ≤ 1000000000) : impl_weekday.f n = some ((n + 3) % 7) := by
  unfold impl_weekday.f; rw [w64 (by omega) (by omega), tmod_pos (by omega)]
theorem spec_l02Weekday (n : Int) (h0 : 0 ≤ n) (h1 : n ≤ 1000000000) : spec_l02Weekday.f n = some ((n + 3) % 7) := by
  unfold spec_l02Weekday.f; rw [w64 (by omega) (by omega), tmod_pos (by omega)]
/-- What WeekdayOf answers. -/
def weekdayV (n : Int) : Int × Int := if 0 ≤ n ∧ n ≤ 36524 then ((n + 3) % 7, 0) else (0, 2)
theorem impl_WeekdayOf (n : Int) : Ev (fun k => impl_WeekdayOf.f k n) (weekdayV n) := by
  unfold impl_WeekdayOf.f weekdayV
  refine Ev.bind (impl_isDay n) ?_
  by_cases h : 0 ≤ n ∧ n ≤ 36524
  · simp only [h, and_self, decide_true, if_true]
    rw [impl_weekday n h.1 (by omega)]
    exact Ev.pure rfl
  · simp only [h, decide_false, Bool.false_eq_true, if_false]
    exact Ev.pure rfl
theorem spec_WeekdayOf (n : Int) : spec_WeekdayOf.f n = some (weekdayV n) := by
  unfold spec_WeekdayOf.f weekdayV
  simp only [spec_l02Is, Option.bind_some]
  by_cases h : 0 ≤ n ∧ n ≤ 36524
  · simp only [h, and_self, decide_true, if_true]
    rw [spec_l02Weekday n h.1 (by omega)]; rfl
  · simp only [h, decide_false, Bool.false_eq_true, if_false]
/-- The first business day that is not before a day. -/
def onB (n : Int) : Int := if (n + 3) % 7 = 5 then n + 2 else if (n + 3) % 7 = 6 then n + 1 else n
theorem onB_bd (n : Int) : n ≤ onB n ∧ onB n ≤ n + 2 := by unfold onB; repeat' split <;> omega
theorem onB_day (n : Int) : (onB n + 3) % 7 ≤ 4 := by unfold onB; repeat' split <;> omega
/-- As many business days on as told. -/
def bday : Nat → Int → Int
  | 0, n => n
  | j + 1, n => bday j (onB (n + 1))
theorem bday_bd (j : Nat) : ∀ n, n + j ≤ bday j n ∧ bday j n ≤ n + 3 * j := by
  induction j with
  | zero => intro n; simp [bday]
  | succ j ih =>
    intro n
    have h := ih (onB (n + 1))
    have b := onB_bd (n + 1)
    simp only [bday]; omega
theorem bday_day (j : Nat) : ∀ n, (n + 3) % 7 ≤ 4 → (bday j n + 3) % 7 ≤ 4 := by
  induction j with
  | zero => intro n h; exact h
  | succ j ih => intro n h; exact ih _ (onB_day _)
theorem impl_onBusiness (n : Int) (h0 : 0 ≤ n) (h1 : n ≤ 100000000) : Ev (fun k => impl_onBusiness.f k n) (onB n) := by
  unfold impl_onBusiness.f onB
  have stop : ∀ m : Int, 0 ≤ m → m ≤ 200000000 → (m + 3) % 7 ≤ 4 → Ev (fun k => impl_onBusiness.l0 k m) m := by
    intro m a b c
    refine Ev.step (f := fun _ => some m) (fun k => ?_) (Ev.pure rfl)
    simp only [impl_onBusiness.l0]
    rw [impl_weekday m a (by omega), Option.bind_some, if_neg (by omega)]
  have go : ∀ m r : Int, 0 ≤ m → m ≤ 200000000 → ¬ (m + 3) % 7 ≤ 4 → Ev (fun k => impl_onBusiness.l0 k (m + 1)) r → Ev (fun k => impl_onBusiness.l0 k m) r := by
    intro m r a b c e
    refine Ev.step (fun k => ?_) e
    simp only [impl_onBusiness.l0]
    rw [impl_weekday m a (by omega), Option.bind_some, if_pos (by omega), w64 (by omega) (by omega)]
  by_cases h5 : (n + 3) % 7 = 5
  · rw [if_pos h5]
    exact go n _ h0 (by omega) (by omega) (go (n + 1) _ (by omega) (by omega) (by omega) (by rw [show n + 1 + 1 = n + 2 by omega]; exact stop (n + 2) (by omega) (by omega) (by omega)))
  · rw [if_neg h5]
    by_cases h6 : (n + 3) % 7 = 6
    · rw [if_pos h6]
      exact go n _ h0 (by omega) (by omega) (stop (n + 1) (by omega) (by omega) (by omega))
    · rw [if_neg h6]
      exact stop n h0 (by omega) (by omega)
theorem impl_businessDay_l0 (d : Int) (hd : d ≤ 1000) : ∀ (j : Nat) (n i : Int), 0 ≤ i → i + j = d → 0 ≤ n → n + 3 * j ≤ 1000000 →
    Ev (fun k => impl_businessDay.l0 k n d i) (bday j n) := by
  intro j
  induction j with
  | zero =>
    intro n i h1 h2 h3 h4
    refine Ev.step (f := fun _ => some n) (fun k => ?_) (Ev.pure rfl)
    simp only [impl_businessDay.l0]; rw [if_neg (by omega)]
  | succ j ih =>
    intro n i h1 h2 h3 h4
    have b := onB_bd (n + 1)
    refine Ev.step (f := fun k => (impl_onBusiness.f k (n + 1)).bind fun t => impl_businessDay.l0 k t d (i + 1)) (fun k => ?_) (Ev.bind (impl_onBusiness (n + 1) (by omega) (by omega)) ?_)
    · simp only [impl_businessDay.l0]; rw [if_pos (by omega), w64 (by omega) (by omega), w64 (by omega) (by omega)]
    · exact ih (onB (n + 1)) (i + 1) (by omega) (by omega) (by omega) (by omega)
theorem impl_businessDay (n d : Int) (h0 : 0 ≤ n) (h1 : n ≤ 36524) (hd0 : 0 ≤ d) (hd : d ≤ 1000) : Ev (fun k => impl_businessDay.f k n d) (bday d.toNat (onB n)) := by
  have b := onB_bd n
  unfold impl_businessDay.f
  exact Ev.bind (impl_onBusiness n h0 (by omega)) (impl_businessDay_l0 d hd d.toNat (onB n) 0 (by omega) (by omega) (by omega) (by omega))
theorem spec_l02Business_l1 : ∀ (j : Nat) (n d : Int), d = j → d ≤ 1000 → 0 ≤ n → n + 3 * j ≤ 1000000 →
    Ev (fun k => spec_l02Business.l1 k n d) (bday j n) := by
  intro j
  induction j with
  | zero =>
    intro n d h1 h2 h3 h4
    refine Ev.step (f := fun _ => some n) (fun k => ?_) (Ev.pure rfl)
    simp only [spec_l02Business.l1]; rw [if_neg (by omega)]
  | succ j ih =>
    intro n d h1 h2 h3 h4
    have stop : ∀ m : Int, n ≤ m → m ≤ n + 3 → (m + 3) % 7 ≤ 4 → Ev (fun k => spec_l02Business.l2 k m d) (bday j m) := by
      intro m a b c
      refine Ev.step (fun k => ?_) (ih m (d - 1) (by omega) (by omega) (by omega) (by omega))
      simp only [spec_l02Business.l2]
      rw [spec_l02Weekday m (by omega) (by omega), Option.bind_some, if_neg (by omega), w64 (by omega) (by omega)]
    have go : ∀ m r : Int, n ≤ m → m ≤ n + 3 → ¬ (m + 3) % 7 ≤ 4 → Ev (fun k => spec_l02Business.l2 k (m + 1) d) r → Ev (fun k => spec_l02Business.l2 k m d) r := by
      intro m r a b c e
      refine Ev.step (fun k => ?_) e
      simp only [spec_l02Business.l2]
      rw [spec_l02Weekday m (by omega) (by omega), Option.bind_some, if_pos (by omega), w64 (by omega) (by omega)]
    refine Ev.step (f := fun k => spec_l02Business.l2 k (n + 1) d) (fun k => ?_) ?_
    · simp only [spec_l02Business.l1]; rw [if_pos (by omega), w64 (by omega) (by omega)]
    · simp only [bday]
      unfold onB
      by_cases h5 : (n + 1 + 3) % 7 = 5
      · rw [if_pos h5]
        exact go (n + 1) _ (by omega) (by omega) (by omega) (go (n + 1 + 1) _ (by omega) (by omega) (by omega) (by rw [show n + 1 + 1 + 1 = n + 1 + 2 by omega]; exact stop _ (by omega) (by omega) (by omega)))
      · rw [if_neg h5]
        by_cases h6 : (n + 1 + 3) % 7 = 6
        · rw [if_pos h6]
          exact go (n + 1) _ (by omega) (by omega) (by omega) (stop _ (by omega) (by omega) (by omega))
        · rw [if_neg h6]
          exact stop _ (by omega) (by omega) (by omega)
theorem spec_l02Business (n d : Int) (h0 : 0 ≤ n) (h1 : n ≤ 36524) (hd0 : 0 ≤ d) (hd : d ≤ 1000) : Ev (fun k => spec_l02Business.f k n d) (bday d.toNat (onB n)) := by
  unfold spec_l02Business.f
  have stop : ∀ m : Int, 0 ≤ m → m ≤ 36526 → (m + 3) % 7 ≤ 4 → Ev (fun k => spec_l02Business.l0 k m d) (bday d.toNat m) := by
    intro m a b c
    refine Ev.step (fun k => ?_) (spec_l02Business_l1 d.toNat m d (by omega) (by omega) (by omega) (by omega))
    simp only [spec_l02Business.l0]
    rw [spec_l02Weekday m (by omega) (by omega), Option.bind_some, if_neg (by omega)]
  have go : ∀ m r : Int, 0 ≤ m → m ≤ 36526 → ¬ (m + 3) % 7 ≤ 4 → Ev (fun k => spec_l02Business.l0 k (m + 1) d) r → Ev (fun k => spec_l02Business.l0 k m d) r := by
    intro m r a b c e
    refine Ev.step (fun k => ?_) e
    simp only [spec_l02Business.l0]
    rw [spec_l02Weekday m (by omega) (by omega), Option.bind_some, if_pos (by omega), w64 (by omega) (by omega)]
  unfold onB
  by_cases h5 : (n + 3) % 7 = 5
  · rw [if_pos h5]
    exact go n _ (by omega) (by omega) (by omega) (go (n + 1) _ (by omega) (by omega) (by omega) (by rw [show n + 1 + 1 = n + 2 by omega]; exact stop _ (by omega) (by omega) (by omega)))
  · rw [if_neg h5]
    by_cases h6 : (n + 3) % 7 = 6
    · rw [if_pos h6]
      exact go n _ (by omega) (by omega) (by omega) (stop _ (by omega) (by omega) (by omega))
    · rw [if_neg h6]
      exact stop _ (by omega) (by omega) (by omega)
/-- What NextBusinessDay answers. -/
def nextV (n d : Int) : Int × Int :=
  if ¬ ((0 ≤ n ∧ n ≤ 36524) ∧ (0 ≤ d ∧ d ≤ 1000)) then (0, 2)
  else if 0 ≤ bday d.toNat (onB n) ∧ bday d.toNat (onB n) ≤ 36524 then (bday d.toNat (onB n), 0) else (0, 3)
theorem impl_NextBusinessDay (n d : Int) : Ev (fun k => impl_NextBusinessDay.f k n d) (nextV n d) := by
  unfold impl_NextBusinessDay.f nextV
  refine Ev.bind (impl_isDay n) ?_
  simp only [impl_in, Option.bind_some]
  by_cases h1 : 0 ≤ n ∧ n ≤ 36524
  · by_cases h2 : 0 ≤ d ∧ d ≤ 1000
    · simp only [h1, h2, and_self, decide_true, if_true, Bool.not_true, not_true, if_false]
      refine Ev.step (fun k => ?_) (Ev.bind (g := fun k => impl_businessDay.f k n d) (f := fun k t => (impl_isDay.f k t).bind fun t118 => (if t118 = true then (some (t, 0)) else (some (0, 3)))) (impl_businessDay n d h1.1 h1.2 h2.1 h2.2) (Ev.bind (impl_isDay _) ?_))
      · simp only [impl_NextBusinessDay.j0, Bool.false_eq_true, if_false]
      · by_cases h3 : 0 ≤ bday d.toNat (onB n) ∧ bday d.toNat (onB n) ≤ 36524
        · simp only [h3, and_self, decide_true, if_true]; exact Ev.pure rfl
        · simp only [h3, decide_false, Bool.false_eq_true, if_false]; exact Ev.pure rfl
    · refine Ev.step (f := fun _ => some (0, 2)) (fun k => ?_) (Ev.pure ?_)
      · simp [impl_NextBusinessDay.j0, h1, h2]
      · rw [if_pos (fun q => h2 q.2)]
  · refine Ev.step (f := fun _ => some (0, 2)) (fun k => ?_) (Ev.pure ?_)
    · simp [impl_NextBusinessDay.j0, h1]
    · rw [if_pos (fun q => h1 q.1)]
theorem spec_NextBusinessDay (n d : Int) : Ev (fun k => spec_NextBusinessDay.f k n d) (nextV n d) := by
  unfold spec_NextBusinessDay.f nextV
  simp only [spec_l02Is, spec_l01In, Option.bind_some]
  by_cases h1 : 0 ≤ n ∧ n ≤ 36524
  · by_cases h2 : 0 ≤ d ∧ d ≤ 1000
    · simp only [h1, h2, and_self, decide_true, if_true, Bool.not_true, not_true, if_false]
      refine Ev.step (fun k => ?_) (Ev.bind (g := fun k => spec_l02Business.f k n d) (f := fun k t => (spec_l02Is.f t).bind fun t118 => (if t118 = true then (some (t, 0)) else (some (0, 3)))) (spec_l02Business n d h1.1 h1.2 h2.1 h2.2) ?_)
      · simp only [spec_NextBusinessDay.j0, Bool.false_eq_true, if_false]
      · simp only [spec_l02Is, Option.bind_some]
        by_cases h3 : 0 ≤ bday d.toNat (onB n) ∧ bday d.toNat (onB n) ≤ 36524
        · simp only [h3, and_self, decide_true, if_true]; exact Ev.pure rfl
        · simp only [h3, decide_false, Bool.false_eq_true, if_false]; exact Ev.pure rfl
    · refine Ev.step (f := fun _ => some (0, 2)) (fun k => ?_) (Ev.pure ?_)
      · simp [spec_NextBusinessDay.j0, h1, h2]
      · rw [if_pos (fun q => h2 q.2)]
  · refine Ev.step (f := fun _ => some (0, 2)) (fun k => ?_) (Ev.pure ?_)
    · simp [spec_NextBusinessDay.j0, h1]
    · rw [if_pos (fun q => h1 q.1)]
theorem impl_dateOf_l1 (n y : Int) (hy : 1970 ≤ y) (hY : y ≤ 2069) (hn : n < yr (y + 1)) : ∀ (j : Nat) (m : Int), 1 ≤ m → m + j = 12 → num y m 1 ≤ n →
    ∃ m' d', Ok y m' d' ∧ num y m' d' = n ∧ Ev (fun k => impl_dateOf.l1 k n y m 1) (y, m', d') := by
  have ylo := yr_bd hy (by omega)
  have ys := yr_bd (show 1970 ≤ y + 1 by omega) (by omega)
  have last : ∀ m : Int, 1 ≤ m → m ≤ 12 → num y m 1 ≤ n → n < num y m 1 + dim y m → Ok y m (1 + (n - num y m 1)) ∧ num y m (1 + (n - num y m 1)) = n := by
    intro m a b c d
    refine ⟨?_, ?_⟩
    · unfold Ok; omega
    · unfold num; omega
  intro j
  induction j with
  | zero =>
    intro m h1 h2 h3
    obtain rfl : m = 12 := by omega
    have e1 := cum_succ y 12 (by omega) (by omega)
    have e2 := cum_year y
    have e3 := yr_succ y
    have b := cum_bd y 12
    have up : n < num y 12 1 + dim y 12 := by unfold num; rw [show (12 : Int) + 1 = 13 by rfl] at e1; omega
    obtain ⟨k1, k2⟩ := last 12 (by omega) (by omega) h3 up
    refine ⟨12, 1 + (n - num y 12 1), k1, k2, ?_⟩
    refine Ev.step (fun k => ?_) (Ev.bind (g := fun k => impl_dayOf.f k y 12 1) (f := fun k t => some (y, 12, wrap64 (1 + wrap64 (n - t)))) (impl_dayOf y 12 1 hy (by omega) (by omega) (by omega) (by omega) (by omega)) (Ev.pure ?_))
    · simp only [impl_dateOf.l1]; rw [if_neg (by omega)]
    · have lo : 0 ≤ num y 12 1 := by unfold num; omega
      rw [w64 (x := n - num y 12 1) (by omega) (by omega), w64 (by omega) (by omega)]
  | succ j ih =>
    intro m h1 h2 h3
    have b := cum_bd y m
    have b' := cum_bd y (m + 1)
    have lo : 0 ≤ num y m 1 := by unfold num; omega
    have e1 := cum_succ y m h1 (by omega)
    have e : num y (m + 1) 1 = num y m 1 + dim y m := by unfold num; omega
    have dv := impl_dayOf y (m + 1) 1 hy (by omega) (by omega) (by omega) (by omega) (by omega)
    by_cases h : num y (m + 1) 1 ≤ n
    · obtain ⟨m', d', k1, k2, k3⟩ := ih (m + 1) (by omega) (by omega) h
      refine ⟨m', d', k1, k2, ?_⟩
      refine Ev.step (fun k => ?_) (Ev.bind (g := fun k => impl_dayOf.f k y (m + 1) 1) (f := fun k t => if t ≤ n then impl_dateOf.l1 k n y (m + 1) 1 else (impl_dayOf.f k y m 1).bind fun u => some (y, m, wrap64 (1 + wrap64 (n - u)))) dv ?_)
      · simp only [impl_dateOf.l1]; rw [if_pos (by omega), w64 (by omega) (by omega)]
      · simp only [h, if_true]; exact k3
    · obtain ⟨k1, k2⟩ := last m h1 (by omega) h3 (by omega)
      refine ⟨m, 1 + (n - num y m 1), k1, k2, ?_⟩
      refine Ev.step (fun k => ?_) (Ev.bind (g := fun k => impl_dayOf.f k y (m + 1) 1) (f := fun k t => if t ≤ n then impl_dateOf.l1 k n y (m + 1) 1 else (impl_dayOf.f k y m 1).bind fun u => some (y, m, wrap64 (1 + wrap64 (n - u)))) dv ?_)
      · simp only [impl_dateOf.l1]; rw [if_pos (by omega), w64 (by omega) (by omega)]
      · simp only [h, if_false]
        refine Ev.bind (impl_dayOf y m 1 hy (by omega) (by omega) (by omega) (by omega) (by omega)) (Ev.pure ?_)
        rw [w64 (x := n - num y m 1) (by omega) (by omega), w64 (by omega) (by omega)]
theorem impl_dateOf_j1 (n y : Int) (hy : 1970 ≤ y) (hY : y ≤ 2069) (h0 : yr y ≤ n) (hn : n < yr (y + 1)) :
    ∃ y' m' d', Ok y' m' d' ∧ num y' m' d' = n ∧ Ev (fun k => impl_dateOf.j1 k n y 1 1) (y', m', d') := by
  obtain ⟨m', d', k1, k2, k3⟩ := impl_dateOf_l1 n y hy hY hn 11 1 (by omega) (by omega) (by unfold num; rw [cum_one]; omega)
  exact ⟨y, m', d', k1, k2, Ev.step (fun k => by simp only [impl_dateOf.j1]) k3⟩
theorem impl_dateOf_l0 (n : Int) (hn : n ≤ 36524) : ∀ (j : Nat) (y : Int), 1970 ≤ y → y + j = 2069 → yr y ≤ n →
    ∃ y' m' d', Ok y' m' d' ∧ num y' m' d' = n ∧ Ev (fun k => impl_dateOf.l0 k n y 1 1) (y', m', d') := by
  intro j
  induction j with
  | zero =>
    intro y h1 h2 h3
    obtain rfl : y = 2069 := by omega
    obtain ⟨y', m', d', k1, k2, k3⟩ := impl_dateOf_j1 n 2069 h1 (by omega) h3 (by rw [show (2069 : Int) + 1 = 2070 by rfl, yr_last]; omega)
    refine ⟨y', m', d', k1, k2, Ev.step (fun k => ?_) k3⟩
    simp only [impl_dateOf.l0]; rw [if_neg (by omega)]
  | succ j ih =>
    intro y h1 h2 h3
    have dv := impl_dayOf (y + 1) 1 1 (by omega) (by omega) (by omega) (by omega) (by omega) (by omega)
    have e : num (y + 1) 1 1 = yr (y + 1) := by unfold num; rw [cum_one]; omega
    rw [e] at dv
    have st : ∀ k, impl_dateOf.l0 (k + 1) n y 1 1 = (impl_dayOf.f k (y + 1) 1 1).bind fun t => if t ≤ n then impl_dateOf.l0 k n (y + 1) 1 1 else impl_dateOf.j1 k n y 1 1 := by
      intro k
      simp only [impl_dateOf.l0]; rw [if_pos (by omega), w64 (by omega) (by omega)]
    by_cases h : yr (y + 1) ≤ n
    · obtain ⟨y', m', d', k1, k2, k3⟩ := ih (y + 1) (by omega) (by omega) h
      refine ⟨y', m', d', k1, k2, Ev.step st (Ev.bind dv ?_)⟩
      simp only [h, if_true]; exact k3
    · obtain ⟨y', m', d', k1, k2, k3⟩ := impl_dateOf_j1 n y h1 (by omega) h3 (by omega)
      refine ⟨y', m', d', k1, k2, Ev.step st (Ev.bind dv ?_)⟩
      simp only [h, if_false]; exact k3
theorem impl_dateOf (n : Int) (h0 : 0 ≤ n) (hn : n ≤ 36524) : ∃ y m d, Ok y m d ∧ num y m d = n ∧ Ev (fun k => impl_dateOf.f k n) (y, m, d) := by
  unfold impl_dateOf.f
  rw [tdiv_pos h0, w64 (x := n / 366) (by omega) (by omega), w64 (by omega) (by omega)]
  exact impl_dateOf_l0 n hn (99 - n / 366).toNat (1970 + n / 366) (by omega) (by omega) (by unfold yr; omega)
theorem spec_l02Date_l1 (n y : Int) (hy : 1970 ≤ y) (hY : y ≤ 2069) (hn : n < yr (y + 1)) : ∀ (j : Nat) (m : Int), 1 ≤ m → m + j = 12 → num y m 1 ≤ n →
    ∃ m' d', Ok y m' d' ∧ num y m' d' = n ∧ Ev (fun k => spec_l02Date.l1 k (n - num y m 1) y m 1) (y, m', d') := by
  have ylo := yr_bd hy (by omega)
  have ys := yr_bd (show 1970 ≤ y + 1 by omega) (by omega)
  have last : ∀ m : Int, 1 ≤ m → m ≤ 12 → num y m 1 ≤ n → n < num y m 1 + dim y m → Ok y m (n - num y m 1 + 1) ∧ num y m (n - num y m 1 + 1) = n ∧ Ev (fun k => spec_l02Date.l1 k (n - num y m 1) y m 1) (y, m, n - num y m 1 + 1) := by
    intro m a b c d
    have bd := dim_bd y m
    refine ⟨?_, ?_, ?_⟩
    · unfold Ok; omega
    · unfold num; omega
    · refine Ev.step (f := fun _ => some (y, m, n - num y m 1 + 1)) (fun k => ?_) (Ev.pure rfl)
      simp only [spec_l02Date.l1]
      rw [spec_l02Length y m a b, Option.bind_some, if_neg (by omega), w64 (by omega) (by omega)]
  intro j
  induction j with
  | zero =>
    intro m h1 h2 h3
    obtain rfl : m = 12 := by omega
    have e1 := cum_succ y 12 (by omega) (by omega)
    have e2 := cum_year y
    have e3 := yr_succ y
    have up : n < num y 12 1 + dim y 12 := by unfold num; rw [show (12 : Int) + 1 = 13 by rfl] at e1; omega
    exact ⟨12, _, last 12 (by omega) (by omega) h3 up⟩
  | succ j ih =>
    intro m h1 h2 h3
    have b := cum_bd y m
    have bd := dim_bd y m
    have lo : 0 ≤ num y m 1 := by unfold num; omega
    have e1 := cum_succ y m h1 (by omega)
    have e : num y (m + 1) 1 = num y m 1 + dim y m := by unfold num; omega
    by_cases h : num y (m + 1) 1 ≤ n
    · obtain ⟨m', d', k1, k2, k3⟩ := ih (m + 1) (by omega) (by omega) h
      refine ⟨m', d', k1, k2, Ev.step (fun k => ?_) k3⟩
      simp only [spec_l02Date.l1]
      rw [spec_l02Length y m h1 (by omega), Option.bind_some, if_pos (by omega), Option.bind_some, w64 (by omega) (by omega), w64 (by omega) (by omega)]
      rw [show n - num y m 1 - dim y m = n - num y (m + 1) 1 by omega]
    · exact ⟨m, _, last m h1 (by omega) h3 (by omega)⟩
theorem spec_l02Date_l0 (n : Int) (hn : n ≤ 36524) : ∀ (j : Nat) (y : Int), 1970 ≤ y → y + j = 2069 → yr y ≤ n →
    ∃ y' m' d', Ok y' m' d' ∧ num y' m' d' = n ∧ Ev (fun k => spec_l02Date.l0 k (n - yr y) y 1 1) (y', m', d') := by
  have stop : ∀ y : Int, 1970 ≤ y → y ≤ 2069 → yr y ≤ n → n < yr (y + 1) → ∃ y' m' d', Ok y' m' d' ∧ num y' m' d' = n ∧ Ev (fun k => spec_l02Date.l0 k (n - yr y) y 1 1) (y', m', d') := by
    intro y a b c d
    have e0 : num y 1 1 = yr y := by unfold num; rw [cum_one]; omega
    have e3 := yr_succ y
    have bd := dim_bd y 2
    have yl := yr_bd a (by omega)
    obtain ⟨m', d', k1, k2, k3⟩ := spec_l02Date_l1 n y a b d 11 1 (by omega) (by omega) (by omega)
    rw [e0] at k3
    refine ⟨y, m', d', k1, k2, Ev.step (fun k => ?_) k3⟩
    simp only [spec_l02Date.l0]
    rw [spec_l02Length y 2 (by omega) (by omega), Option.bind_some, w64 (by omega) (by omega), if_neg (by omega)]
  intro j
  induction j with
  | zero =>
    intro y h1 h2 h3
    obtain rfl : y = 2069 := by omega
    exact stop 2069 h1 (by omega) h3 (by rw [show (2069 : Int) + 1 = 2070 by rfl, yr_last]; omega)
  | succ j ih =>
    intro y h1 h2 h3
    by_cases h : yr (y + 1) ≤ n
    · have e3 := yr_succ y
      have bd := dim_bd y 2
      have yl := yr_bd h1 (by omega)
      obtain ⟨y', m', d', k1, k2, k3⟩ := ih (y + 1) (by omega) (by omega) h
      refine ⟨y', m', d', k1, k2, Ev.step (fun k => ?_) k3⟩
      simp only [spec_l02Date.l0]
      rw [spec_l02Length y 2 (by omega) (by omega), Option.bind_some, w64 (x := 337 + dim y 2) (by omega) (by omega), if_pos (by omega), Option.bind_some]
      rw [w64 (x := n - yr y - 337) (by omega) (by omega), w64 (by omega) (by omega), w64 (by omega) (by omega)]
      rw [show n - yr y - 337 - dim y 2 = n - yr (y + 1) by omega]
    · exact stop y h1 (by omega) h3 (by omega)
theorem spec_l02Date (n : Int) (h0 : 0 ≤ n) (hn : n ≤ 36524) : ∃ y m d, Ok y m d ∧ num y m d = n ∧ Ev (fun k => spec_l02Date.f k n) (y, m, d) := by
  unfold spec_l02Date.f
  have h := spec_l02Date_l0 n hn 99 1970 (by omega) (by omega) (by rw [yr_first]; omega)
  rw [yr_first, show n - 0 = n by omega] at h
  exact h
theorem dateOf_both (n : Int) : ∃ y m d c, Ev (fun k => impl_DateOf.f k n) (y, m, d, c) ∧ Ev (fun k => spec_DateOf.f k n) (y, m, d, c) ∧
    ((0 ≤ n ∧ n ≤ 36524 ∧ Ok y m d ∧ num y m d = n ∧ c = 0) ∨ (¬ (0 ≤ n ∧ n ≤ 36524) ∧ y = 0 ∧ m = 0 ∧ d = 0 ∧ c = 2)) := by
  unfold impl_DateOf.f spec_DateOf.f
  simp only [spec_l02Is, Option.bind_some]
  by_cases h : 0 ≤ n ∧ n ≤ 36524
  · obtain ⟨y, m, d, k1, k2, k3⟩ := impl_dateOf n h.1 h.2
    obtain ⟨y', m', d', s1, s2, s3⟩ := spec_l02Date n h.1 h.2
    obtain ⟨rfl, rfl, rfl⟩ := num_inj k1 s1 (k2.trans s2.symm)
    refine ⟨y, m, d, 0, ?_, ?_, .inl ⟨h.1, h.2, k1, k2, rfl⟩⟩
    · refine Ev.bind (impl_isDay n) ?_
      simp only [h, and_self, decide_true, if_true]
      exact Ev.bind k3 (Ev.pure rfl)
    · simp only [h, and_self, decide_true, if_true]
      exact Ev.bind s3 (Ev.pure rfl)
  · refine ⟨0, 0, 0, 2, ?_, ?_, .inr ⟨h, rfl, rfl, rfl, rfl⟩⟩
    · refine Ev.bind (impl_isDay n) ?_
      simp only [h, decide_false, Bool.false_eq_true, if_false]
      exact Ev.pure rfl
    · simp only [h, decide_false, Bool.false_eq_true, if_false]
      exact Ev.pure rfl
end Go.Proofs.Ytccnbjaaaaljoaa.L

