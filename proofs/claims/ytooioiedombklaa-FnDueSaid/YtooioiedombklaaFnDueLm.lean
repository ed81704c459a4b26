/- What the functions of chapter 4 answer (schedules of points, weights, interest, the day when it is reached), in the program and in the reference. Conditions: those of a schedule, and days of the calendar. -/
import Derived.Test.YtooioiedombklaaFnDueLc
namespace Go.Proofs.Ytooioiedombklaa.L
set_option linter.unusedVariables false
set_option linter.unusedSimpArgs false
open Go.RowKit Go.Proofs.Ytooioiedombklaa.P Go.Proofs.YtooioiedombklaaW.PrintWords Go.Proofs.YtooioiedombklaaW.PrintLast Go.Proofs.YtooioiedombklaaW.PrintMore

theorem near_eq {a b : Int} (ha : 0 ≤ a) (hb : 0 < b) : near a b = (2 * a + b) / (2 * b) := by
  have h := Int.mul_ediv_add_emod a b
  have q := quot_bd ha hb
  unfold near
  have h1 : (2 * a + b) / (2 * b) = a / b + (2 * (a % b) + b) / (2 * b) := by
    rw [show 2 * a + b = 2 * (a % b) + b + (a / b) * (2 * b) by
      have : (a / b) * (2 * b) = 2 * (b * (a / b)) := by rw [Int.mul_comm (a / b), Int.mul_assoc]
      omega]
    rw [Int.add_mul_ediv_right _ _ (by omega)]; omega
  rw [h1]
  by_cases h2 : b ≤ 2 * (a % b)
  · rw [if_pos h2, show (2 * (a % b) + b) / (2 * b) = 1 from by
      rw [show 2 * (a % b) + b = (2 * (a % b) - b) + 1 * (2 * b) by omega, Int.add_mul_ediv_right _ _ (by omega), Int.ediv_eq_zero_of_lt (by omega) (by omega)]; rfl]
  · rw [if_neg h2, show (2 * (a % b) + b) / (2 * b) = 0 from Int.ediv_eq_zero_of_lt (by omega) (by omega)]; omega
theorem near_mono {a a' b : Int} (ha : 0 ≤ a) (h : a ≤ a') (hb : 0 < b) : near a b ≤ near a' b := by
  rw [near_eq ha hb, near_eq (by omega) hb]
  exact Int.ediv_le_ediv (by omega) (by omega)

/-- A step as it may be; the order of two. -/
def stepB (x : S37) : Bool := decide (0 ≤ x.f0 ∧ x.f0 ≤ 36524) && decide (0 ≤ x.f1 ∧ x.f1 ≤ 10000)
def stepLt (x y : S37) : Bool := decide (x.f0 < y.f0)
/-- A schedule. -/
def schedB (l : List S37) : Bool := (l.all stepB && X.risesB stepLt l) && decide (1 ≤ (l.length : Int) ∧ (l.length : Int) ≤ 12)
theorem cmp_Compare (a b : Int) : cmp_Compare_int64.f a b = some (if a < b then -1 else if a > b then 1 else 0) := by
  unfold cmp_Compare_int64.f cmp_isNaN_int64.f
  simp only [bne_self_eq_false, Option.bind_some, Bool.false_eq_true, if_false]
  by_cases h : a < b
  · simp [h]
  · by_cases h2 : b < a <;> simp [h, h2]
theorem impl_IsSchedule (l : List S37) : Ev (fun k => impl_IsSchedule.f k l) (schedB l) := by
  unfold impl_IsSchedule.f schedB
  have no : Ev (fun k => impl_IsSchedule.j0 k l true) false := Ev.step (f := fun _ => some false) (fun k => by simp [impl_IsSchedule.j0]) (Ev.pure rfl)
  by_cases h1 : (l.length : Int) < 1
  · simp only [h1, if_true]
    rw [show decide (1 ≤ (l.length : Int) ∧ (l.length : Int) ≤ 12) = false from decide_eq_false (by omega), Bool.and_false]
    exact no
  simp only [h1, if_false]
  by_cases h2 : (l.length : Int) > 12
  · rw [show decide ((l.length : Int) > 12) = true from decide_eq_true h2, show decide (1 ≤ (l.length : Int) ∧ (l.length : Int) ≤ 12) = false from decide_eq_false (by omega), Bool.and_false]
    exact no
  rw [show decide ((l.length : Int) > 12) = false from decide_eq_false h2, show decide (1 ≤ (l.length : Int) ∧ (l.length : Int) ≤ 12) = true from decide_eq_true (by omega), Bool.and_true]
  have ha : Ev (fun k => impl_all_Step__impl_IsSchedule_1.f k l) (l.all stepB) := by
    unfold impl_all_Step__impl_IsSchedule_1.f
    refine X.allM_ev l fun x _ => ?_
    unfold impl_IsSchedule_1.f stepB
    refine Ev.bind (impl_isDay x.f0) ?_
    by_cases h : 0 ≤ x.f0 ∧ x.f0 ≤ 36524
    · simp only [h, and_self, decide_true, if_true, Bool.true_and, impl_isPoints, Option.bind_some]; exact Ev.pure rfl
    · simp only [h, decide_false, Bool.false_eq_true, if_false, Bool.false_and]; exact Ev.pure rfl
  have hr : Ev (fun _ => impl_rising_Step__impl_IsSchedule_2.f l) (X.risesB stepLt l) := by
    unfold impl_rising_Step__impl_IsSchedule_2.f
    refine X.risingM_ev l fun x _ y _ => ⟨_, Ev.pure (by unfold impl_IsSchedule_2.f; rw [cmp_Compare]; rfl), ?_⟩
    unfold stepLt
    by_cases h : x.f0 < y.f0
    · simp [h]
    · by_cases h2 : y.f0 < x.f0 <;> simp [h, h2]
  refine Ev.step (fun k => ?_) (Ev.bind (g := fun k => impl_all_Step__impl_IsSchedule_1.f k l) (f := fun _ t276 => if t276 = true then ((impl_rising_Step__impl_IsSchedule_2.f l).bind fun t277 => some t277) else some false) ha ?_)
  · simp only [impl_IsSchedule.j0, Bool.false_eq_true, if_false]
  · cases l.all stepB
    · simp only [Bool.false_eq_true, if_false, Bool.false_and]; exact Ev.pure rfl
    · simp only [if_true, Bool.true_and]; exact Ev.bind hr (Ev.pure rfl)
theorem spec_IsSchedule_l0 (l : List S37) (hl : l.length ≤ 1048576) : ∀ (j : Nat) (i : Int), 0 ≤ i → i + j = l.length →
    Ev (fun k => spec_IsSchedule.l0 k l i) (((l.drop i.toNat).all stepB && X.risesB stepLt (l.drop (i - 1).toNat)) && decide (1 ≤ (l.length : Int) ∧ (l.length : Int) ≤ 12)) := by
  intro j
  induction j with
  | zero =>
    intro i h0 h1
    refine Ev.step (f := fun _ => some (decide (1 ≤ (l.length : Int) ∧ (l.length : Int) ≤ 12))) (fun k => ?_) (Ev.pure ?_)
    · simp only [spec_IsSchedule.l0]; rw [if_neg (by omega), spec_l01In]; rfl
    · have e : X.risesB stepLt (l.drop (i - 1).toNat) = true := by
        have hlen : (l.drop (i - 1).toNat).length ≤ 1 := by rw [List.length_drop]; omega
        match l.drop (i - 1).toNat, hlen with
        | [], _ => rfl
        | [x], _ => rfl
      rw [drop_end l (by omega), e]; simp
  | succ j ih =>
    intro i h0 h1
    have h := ih (i + 1) (by omega) (by omega)
    have hd : l.drop i.toNat = rd_T37 l i :: l.drop (i + 1).toNat := drop_stepD l z37 h0 (by omega)
    rw [show i + 1 - 1 = i by omega] at h
    by_cases hs : stepB (rd_T37 l i) = true
    · have hs1 : (0 ≤ (rd_T37 l i).f0 ∧ (rd_T37 l i).f0 ≤ 36524) ∧ 0 ≤ (rd_T37 l i).f1 ∧ (rd_T37 l i).f1 ≤ 10000 := by
        simpa [stepB] using hs
      have st : ∀ k, spec_IsSchedule.l0 (k + 1) l i = if i > 0 then (if (rd_T37 l i).f0 ≤ (rd_T37 l (i - 1)).f0 then some false else spec_IsSchedule.l0 k l (i + 1)) else spec_IsSchedule.l0 k l (i + 1) := by
        intro k
        simp only [spec_IsSchedule.l0]
        rw [if_pos (by omega), if_pos h0, spec_l02Is, Option.bind_some, if_pos (decide_eq_true hs1.1), spec_l04Points, Option.bind_some, if_pos (decide_eq_true hs1.2), w64 (x := i - 1) (by omega) (by omega), w64 (x := i + 1) (by omega) (by omega)]
        by_cases hi : i > 0
        · rw [if_pos hi, if_pos hi, if_pos (by omega), if_pos (by omega)]
        · rw [if_neg hi, if_neg hi]
      by_cases hi : i > 0
      · have hd2 : l.drop (i - 1).toNat = rd_T37 l (i - 1) :: l.drop (i - 1 + 1).toNat := drop_stepD l z37 (by omega) (by omega)
        rw [show i - 1 + 1 = i by omega] at hd2
        by_cases hc : (rd_T37 l i).f0 ≤ (rd_T37 l (i - 1)).f0
        · refine Ev.step (f := fun _ => some false) (fun k => (st k).trans (by rw [if_pos hi, if_pos hc])) (Ev.pure ?_)
          rw [hd2, hd]
          simp only [X.risesB, stepLt, show decide ((rd_T37 l (i - 1)).f0 < (rd_T37 l i).f0) = false from decide_eq_false (by omega), Bool.false_and, Bool.and_false]
        · refine Ev.step (fun k => (st k).trans (by rw [if_pos hi, if_neg hc])) ?_
          rw [hd2, hd]
          simp only [X.risesB, stepLt, show decide ((rd_T37 l (i - 1)).f0 < (rd_T37 l i).f0) = true from decide_eq_true (by omega), Bool.true_and, List.all_cons, hs]
          rw [hd] at h
          exact h
      · have e0 : i = 0 := by omega
        refine Ev.step (fun k => (st k).trans (by rw [if_neg hi])) ?_
        rw [show (i - 1).toNat = i.toNat by omega]
        rw [hd] at h ⊢
        simp only [List.all_cons, hs, Bool.true_and]
        exact h
    · refine Ev.step (f := fun _ => some false) (fun k => ?_) (Ev.pure ?_)
      · simp only [spec_IsSchedule.l0]
        rw [if_pos (by omega), if_pos h0, spec_l02Is, Option.bind_some]
        by_cases ha : 0 ≤ (rd_T37 l i).f0 ∧ (rd_T37 l i).f0 ≤ 36524
        · rw [if_pos (decide_eq_true ha), spec_l04Points, Option.bind_some, if_neg]
          intro q
          exact hs (by simp only [stepB, ha, and_self, decide_true, Bool.true_and]; exact q)
        · rw [if_neg (by rw [decide_eq_true_iff]; exact ha)]
      · rw [hd]; simp [Bool.eq_false_iff.2 hs]
theorem spec_IsSchedule (l : List S37) (hl : l.length ≤ 1048576) : Ev (fun k => spec_IsSchedule.f k l) (schedB l) := by
  have h := spec_IsSchedule_l0 l hl l.length 0 (by omega) (by omega)
  unfold spec_IsSchedule.f
  simpa [schedB] using h
/-- The code of a schedule, an amount and days. -/
def schedV (l : List S37) (a : Int) (days : List Int) : Int :=
  if schedB l = false then 1 else if ¬ ((0 ≤ a ∧ a ≤ 1000000000) ∧ ∀ d ∈ days, 0 ≤ d ∧ d ≤ 36524) then 2 else 0
theorem impl_scheduled (l : List S37) (a : Int) (days : List Int) : Ev (fun k => impl_scheduled.f k l a days) (schedV l a days) := by
  unfold impl_scheduled.f schedV
  refine Ev.bind (impl_IsSchedule l) ?_
  cases schedB l
  · simp only [Bool.false_eq_true, if_false, if_true]; exact Ev.pure rfl
  simp only [if_true, Bool.true_eq_false, if_false, impl_IsAmount, Option.bind_some]
  by_cases h1 : 0 ≤ a ∧ a ≤ 1000000000
  · simp only [h1, and_self, decide_true, if_true, true_and]
    have ha : Ev (fun k => impl_all_Int__impl_isDay.f k days) (days.all fun d => decide (0 ≤ d ∧ d ≤ 36524)) := by
      unfold impl_all_Int__impl_isDay.f
      exact X.allM_ev days fun x _ => impl_isDay x
    refine Ev.bind ha ?_
    by_cases h2 : ∀ d ∈ days, 0 ≤ d ∧ d ≤ 36524
    · rw [show (days.all fun d => decide (0 ≤ d ∧ d ≤ 36524)) = true from List.all_eq_true.2 fun d hd => decide_eq_true (h2 d hd), if_neg (not_not_intro h2)]
      exact Ev.pure rfl
    · rw [show (days.all fun d => decide (0 ≤ d ∧ d ≤ 36524)) = false from by
        rw [Bool.eq_false_iff]; intro q; exact h2 fun d hd => of_decide_eq_true (List.all_eq_true.1 q d hd), if_pos h2]
      exact Ev.pure rfl
  · simp only [h1, decide_false, Bool.false_eq_true, if_false, false_and, not_false_eq_true, if_true]; exact Ev.pure rfl
theorem spec_l04Code (l : List S37) (hl : l.length ≤ 1048576) (a d e : Int) : Ev (fun k => spec_l04Code.f k l a d e) (schedV l a [d, e]) := by
  unfold spec_l04Code.f schedV
  refine Ev.bind (spec_IsSchedule l hl) ?_
  cases schedB l
  · simp only [Bool.false_eq_true, if_false, if_true]; exact Ev.pure rfl
  simp only [if_true, Bool.true_eq_false, if_false, spec_IsAmount, spec_l02Is, Option.bind_some]
  refine Ev.pure ?_
  by_cases h1 : 0 ≤ a ∧ a ≤ 1000000000 <;> by_cases h2 : 0 ≤ d ∧ d ≤ 36524 <;> by_cases h3 : 0 ≤ e ∧ e ≤ 36524 <;> simp only [h1, h2, h3, and_self, decide_true, decide_false, if_true, if_false, Bool.false_eq_true, true_and, false_and, and_false, List.mem_cons, List.not_mem_nil, or_false, forall_eq_or_imp, forall_eq, not_true, not_false_eq_true]
theorem schedV_one (l : List S37) (a d : Int) : schedV l a [d, d] = schedV l a [d] := by
  unfold schedV; simp
theorem schedV_zero {l : List S37} {a : Int} {days : List Int} (h : schedV l a days = 0) : schedB l = true ∧ (0 ≤ a ∧ a ≤ 1000000000) ∧ ∀ d ∈ days, 0 ≤ d ∧ d ≤ 36524 := by
  unfold schedV at h
  cases hs : schedB l with
  | false => rw [hs] at h; simp at h
  | true =>
    rw [hs] at h
    simp only [Bool.true_eq_false, if_false] at h
    split at h
    · cases h
    · rename_i h2
      exact ⟨rfl, Decidable.not_not.1 h2⟩
theorem schedB_facts {l : List S37} (h : schedB l = true) : l.length ≤ 12 ∧ 1 ≤ l.length ∧ ∀ x ∈ l, (0 ≤ x.f0 ∧ x.f0 ≤ 36524) ∧ 0 ≤ x.f1 ∧ x.f1 ≤ 10000 := by
  simp only [schedB, Bool.and_eq_true, decide_eq_true_eq, List.all_eq_true] at h
  refine ⟨by omega, by omega, fun x hx => ?_⟩
  have := h.1.1 x hx
  simpa [stepB] using this
/-- The points on a day. -/
def pointsL (d : Int) : Int → List S37 → Int
  | p, [] => p
  | p, x :: l => pointsL d (if x.f0 ≤ d then x.f1 else p) l
theorem impl_pointsOn_l0 (l : List S37) (hl : l.length ≤ 1048576) (d : Int) : ∀ (j : Nat) (i p : Int), 0 ≤ i → i + j = l.length →
    Ev (fun k => impl_pointsOn.l0 k d p l (l.length : Int) i) (pointsL d p (l.drop i.toNat)) := by
  intro j
  induction j with
  | zero =>
    intro i p h0 h1
    refine Ev.step (f := fun _ => some p) (fun k => ?_) (Ev.pure ?_)
    · simp only [impl_pointsOn.l0]; rw [if_neg (by omega)]
    · rw [drop_end l (by omega)]; rfl
  | succ j ih =>
    intro i p h0 h1
    have hd : l.drop i.toNat = rd_T37 l i :: l.drop (i + 1).toNat := drop_stepD l z37 h0 (by omega)
    rw [hd]; simp only [pointsL]
    by_cases hc : (rd_T37 l i).f0 ≤ d
    · rw [if_pos hc]
      refine Ev.step (fun k => ?_) (ih (i + 1) _ (by omega) (by omega))
      simp only [impl_pointsOn.l0]; rw [if_pos (by omega), if_pos h0, if_pos (by omega), if_pos hc, w64 (by omega) (by omega)]
    · rw [if_neg hc]
      refine Ev.step (fun k => ?_) (ih (i + 1) _ (by omega) (by omega))
      simp only [impl_pointsOn.l0]; rw [if_pos (by omega), if_pos h0, if_pos (by omega), if_neg hc, w64 (by omega) (by omega)]
theorem impl_pointsOn (l : List S37) (hl : l.length ≤ 1048576) (d : Int) : Ev (fun k => impl_pointsOn.f k l d) (pointsL d 0 l) := by
  have h := impl_pointsOn_l0 l hl d l.length 0 0 (by omega) (by omega)
  unfold impl_pointsOn.f
  simpa using h
theorem spec_l04On_l0 (l : List S37) (hl : l.length ≤ 1048576) (d : Int) : ∀ (j : Nat) (i p : Int), 0 ≤ i → i + j = l.length →
    Ev (fun k => spec_l04On.l0 k l d p i) (pointsL d p (l.drop i.toNat)) := by
  intro j
  induction j with
  | zero =>
    intro i p h0 h1
    refine Ev.step (f := fun _ => some p) (fun k => ?_) (Ev.pure ?_)
    · simp only [spec_l04On.l0]; rw [if_neg (by omega)]
    · rw [drop_end l (by omega)]; rfl
  | succ j ih =>
    intro i p h0 h1
    have hd : l.drop i.toNat = rd_T37 l i :: l.drop (i + 1).toNat := drop_stepD l z37 h0 (by omega)
    rw [hd]; simp only [pointsL]
    by_cases hc : (rd_T37 l i).f0 ≤ d
    · rw [if_pos hc]
      refine Ev.step (fun k => ?_) (ih (i + 1) _ (by omega) (by omega))
      simp only [spec_l04On.l0]; rw [if_pos (by omega), if_pos h0, if_pos hc, w64 (by omega) (by omega)]
    · rw [if_neg hc]
      refine Ev.step (fun k => ?_) (ih (i + 1) _ (by omega) (by omega))
      simp only [spec_l04On.l0]; rw [if_pos (by omega), if_pos h0, if_neg hc, w64 (by omega) (by omega)]
theorem spec_l04On (l : List S37) (hl : l.length ≤ 1048576) (d : Int) : Ev (fun k => spec_l04On.f k l d) (pointsL d 0 l) := by
  have h := spec_l04On_l0 l hl d l.length 0 0 (by omega) (by omega)
  unfold spec_l04On.f
  simpa using h
/-- What PointsOn answers. -/
def pointsV (l : List S37) (d : Int) : Int × Int := if schedV l 0 [d] = 0 then (pointsL d 0 l, 0) else (0, schedV l 0 [d])
theorem impl_PointsOn (l : List S37) (d : Int) : Ev (fun k => impl_PointsOn.f k l d) (pointsV l d) := by
  unfold impl_PointsOn.f pointsV
  refine Ev.bind (impl_scheduled l 0 [d]) ?_
  by_cases h : schedV l 0 [d] = 0
  · have f := schedB_facts (schedV_zero h).1
    simp only [h, if_true]; exact Ev.bind (impl_pointsOn l (by omega) d) (Ev.pure rfl)
  · simp only [h, if_false]; exact Ev.pure rfl
theorem spec_PointsOn (l : List S37) (hl : l.length ≤ 1048576) (d : Int) : Ev (fun k => spec_PointsOn.f k l d) (pointsV l d) := by
  unfold spec_PointsOn.f pointsV
  refine Ev.bind (spec_l04Code l hl 0 d d) ?_
  rw [schedV_one]
  by_cases h : schedV l 0 [d] = 0
  · simp only [h, if_true]; exact Ev.bind (spec_l04On l hl d) (Ev.pure rfl)
  · simp only [h, if_false]; exact Ev.pure rfl
/-- The part of a step in a weight. -/
def part1 (f t : Int) (x : S37) : Int := x.f1 * mx (t - mx x.f0 f) 0
/-- The weight of a schedule from a day to another. -/
def wt (f t : Int) : List S37 → Int
  | [] => 0
  | [x] => part1 f t x
  | x :: y :: l => part1 f (mn t y.f0) x + wt f t (y :: l)
theorem mx_comm (a b : Int) : mx a b = mx b a := by unfold mx; repeat' split <;> omega
theorem part1_bd {f t : Int} {x : S37} (hx : (0 ≤ x.f0 ∧ x.f0 ≤ 36524) ∧ 0 ≤ x.f1 ∧ x.f1 ≤ 10000) (hf : 0 ≤ f) (ht : t ≤ 36524) : 0 ≤ part1 f t x ∧ part1 f t x ≤ 365240000 := by
  have h1 : 0 ≤ mx (t - mx x.f0 f) 0 ∧ mx (t - mx x.f0 f) 0 ≤ 36524 := by unfold mx; repeat' split <;> omega
  exact mul_bd hx.2.1 hx.2.2 h1.1 h1.2
theorem wt_bd {f t : Int} (hf : 0 ≤ f) (ht : t ≤ 36524) : ∀ {l : List S37}, (∀ x ∈ l, (0 ≤ x.f0 ∧ x.f0 ≤ 36524) ∧ 0 ≤ x.f1 ∧ x.f1 ≤ 10000) → 0 ≤ wt f t l ∧ wt f t l ≤ 365240000 * (l.length : Int)
  | [], _ => by simp [wt]
  | [x], h => by
    have := part1_bd (h x List.mem_cons_self) hf ht
    simpa [wt] using this
  | x :: y :: l, h => by
    have h1 := part1_bd (t := mn t y.f0) (h x List.mem_cons_self) hf (by unfold mn; split <;> omega)
    have h2 := wt_bd hf ht (l := y :: l) fun z hz => h z (List.mem_cons_of_mem _ hz)
    simp only [wt, List.length_cons] at h2 ⊢
    omega
theorem part1_mono {f t t' : Int} {x : S37} (hx : 0 ≤ x.f1) (h : t ≤ t') : part1 f t x ≤ part1 f t' x := by
  unfold part1
  refine Int.mul_le_mul_of_nonneg_left ?_ hx
  unfold mx; repeat' split <;> omega
theorem wt_mono {f t t' : Int} (h : t ≤ t') : ∀ {l : List S37}, (∀ x ∈ l, (0 ≤ x.f0 ∧ x.f0 ≤ 36524) ∧ 0 ≤ x.f1 ∧ x.f1 ≤ 10000) → wt f t l ≤ wt f t' l
  | [], _ => by simp [wt]
  | [x], hl => by simpa [wt] using part1_mono (hl x List.mem_cons_self).2.1 h
  | x :: y :: l, hl => by
    have h1 := part1_mono (f := f) (t := mn t y.f0) (t' := mn t' y.f0) (hl x List.mem_cons_self).2.1 (by unfold mn; repeat' split <;> omega)
    have h2 := wt_mono (f := f) h (l := y :: l) fun z hz => hl z (List.mem_cons_of_mem _ hz)
    simp only [wt]; omega
theorem wt_step (f t : Int) (l : List S37) {i : Int} (h0 : 0 ≤ i) (h1 : i < (l.length : Int)) :
    wt f t (l.drop i.toNat) = (if i + 1 < (l.length : Int) then part1 f (mn t (rd_T37 l (i + 1)).f0) (rd_T37 l i) else part1 f t (rd_T37 l i)) + wt f t (l.drop (i + 1).toNat) := by
  have hd : l.drop i.toNat = rd_T37 l i :: l.drop (i + 1).toNat := drop_stepD l z37 h0 h1
  rw [hd]
  by_cases h2 : i + 1 < (l.length : Int)
  · have hd2 : l.drop (i + 1).toNat = rd_T37 l (i + 1) :: l.drop (i + 1 + 1).toNat := drop_stepD l z37 (by omega) h2
    rw [if_pos h2, hd2]; rfl
  · rw [if_neg h2, drop_end l h2]; simp [wt]
theorem impl_weight_l0 (l : List S37) (hl : l.length ≤ 12) (hs : ∀ x ∈ l, (0 ≤ x.f0 ∧ x.f0 ≤ 36524) ∧ 0 ≤ x.f1 ∧ x.f1 ≤ 10000) (f t : Int) (hf : 0 ≤ f ∧ f ≤ 36524) (ht : 0 ≤ t ∧ t ≤ 36524) : ∀ (j : Nat) (i a : Int), 0 ≤ i → i + j = l.length → 0 ≤ a → a ≤ 365240000 * i →
    Ev (fun k => impl_weight.l0 k l f t a l (l.length : Int) i) (a + wt f t (l.drop i.toNat)) := by
  intro j
  induction j with
  | zero =>
    intro i a h0 h1 h2 h3
    refine Ev.step (f := fun _ => some a) (fun k => ?_) (Ev.pure ?_)
    · simp only [impl_weight.l0]; rw [if_neg (by omega)]
    · rw [drop_end l (by omega)]; simp [wt]
  | succ j ih =>
    intro i a h0 h1 h2 h3
    have hx := hs _ (getD_mem l z37 h0 (show i < (l.length : Int) by omega))
    change (0 ≤ (rd_T37 l i).f0 ∧ (rd_T37 l i).f0 ≤ 36524) ∧ 0 ≤ (rd_T37 l i).f1 ∧ (rd_T37 l i).f1 ≤ 10000 at hx
    rw [wt_step f t l h0 (by omega)]
    have m0 : 0 ≤ mx (rd_T37 l i).f0 f ∧ mx (rd_T37 l i).f0 f ≤ 36524 := by unfold mx; split <;> omega
    by_cases h5 : i + 1 < (l.length : Int)
    · rw [if_pos h5]
      have hy := hs _ (getD_mem l z37 (show 0 ≤ i + 1 by omega) h5)
      change (0 ≤ (rd_T37 l (i + 1)).f0 ∧ (rd_T37 l (i + 1)).f0 ≤ 36524) ∧ _ at hy
      have n0 : 0 ≤ mn t (rd_T37 l (i + 1)).f0 ∧ mn t (rd_T37 l (i + 1)).f0 ≤ 36524 := by unfold mn; split <;> omega
      have pb := part1_bd (t := mn t (rd_T37 l (i + 1)).f0) hx hf.1 n0.2
      have h := ih (i + 1) (a + part1 f (mn t (rd_T37 l (i + 1)).f0) (rd_T37 l i)) (by omega) (by omega) (by omega) (by omega)
      rw [Int.add_assoc] at h
      refine Ev.step (fun k => ?_) h
      simp only [impl_weight.l0]
      rw [if_pos (by omega), if_pos h0, if_pos (by omega), w64 (x := i + 1) (by omega) (by omega), if_pos h5, if_pos (by omega), w64 (x := mn t _ - mx _ f) (by omega) (by omega)]
      unfold part1 at pb ⊢
      rw [w64 (x := _ * mx _ 0) (by omega) (by omega), w64 (by omega) (by omega)]
    · rw [if_neg h5]
      have pb := part1_bd (t := t) hx hf.1 ht.2
      have h := ih (i + 1) (a + part1 f t (rd_T37 l i)) (by omega) (by omega) (by omega) (by omega)
      rw [Int.add_assoc] at h
      refine Ev.step (fun k => ?_) h
      simp only [impl_weight.l0]
      rw [if_pos (by omega), if_pos h0, if_pos (by omega), w64 (x := i + 1) (by omega) (by omega), if_neg h5, w64 (x := t - mx _ f) (by omega) (by omega)]
      unfold part1 at pb ⊢
      rw [w64 (x := _ * mx _ 0) (by omega) (by omega), w64 (by omega) (by omega)]
theorem impl_weight (l : List S37) (h : schedB l = true) (f t : Int) (hf : 0 ≤ f ∧ f ≤ 36524) (ht : 0 ≤ t ∧ t ≤ 36524) : Ev (fun k => impl_weight.f k l f t) (wt f t l) := by
  have g := schedB_facts h
  have e := impl_weight_l0 l g.1 g.2.2 f t hf ht l.length 0 0 (by omega) (by omega) (by omega) (by omega)
  unfold impl_weight.f
  simpa using e
theorem spec_l04Weight_l0 (l : List S37) (hl : l.length ≤ 12) (hs : ∀ x ∈ l, (0 ≤ x.f0 ∧ x.f0 ≤ 36524) ∧ 0 ≤ x.f1 ∧ x.f1 ≤ 10000) (f t : Int) (hf : 0 ≤ f ∧ f ≤ 36524) (ht : 0 ≤ t ∧ t ≤ 36524) : ∀ (j : Nat) (i a : Int), 0 ≤ i → i + j = l.length → 0 ≤ a → a ≤ 365240000 * i →
    Ev (fun k => spec_l04Weight.l0 k l f t a i) (a + wt f t (l.drop i.toNat)) := by
  intro j
  induction j with
  | zero =>
    intro i a h0 h1 h2 h3
    refine Ev.step (f := fun _ => some a) (fun k => ?_) (Ev.pure ?_)
    · simp only [spec_l04Weight.l0]; rw [if_neg (by omega)]
    · rw [drop_end l (by omega)]; simp [wt]
  | succ j ih =>
    intro i a h0 h1 h2 h3
    have hx := hs _ (getD_mem l z37 h0 (show i < (l.length : Int) by omega))
    change (0 ≤ (rd_T37 l i).f0 ∧ (rd_T37 l i).f0 ≤ 36524) ∧ 0 ≤ (rd_T37 l i).f1 ∧ (rd_T37 l i).f1 ≤ 10000 at hx
    rw [wt_step f t l h0 (by omega)]
    have m0 : 0 ≤ mx (rd_T37 l i).f0 f ∧ mx (rd_T37 l i).f0 f ≤ 36524 := by unfold mx; split <;> omega
    by_cases h5 : i + 1 < (l.length : Int)
    · rw [if_pos h5]
      have hy := hs _ (getD_mem l z37 (show 0 ≤ i + 1 by omega) h5)
      change (0 ≤ (rd_T37 l (i + 1)).f0 ∧ (rd_T37 l (i + 1)).f0 ≤ 36524) ∧ _ at hy
      have n0 : 0 ≤ mn t (rd_T37 l (i + 1)).f0 ∧ mn t (rd_T37 l (i + 1)).f0 ≤ 36524 := by unfold mn; split <;> omega
      have pb := part1_bd (t := mn t (rd_T37 l (i + 1)).f0) hx hf.1 n0.2
      have h := ih (i + 1) (a + part1 f (mn t (rd_T37 l (i + 1)).f0) (rd_T37 l i)) (by omega) (by omega) (by omega) (by omega)
      rw [Int.add_assoc] at h
      refine Ev.step (fun k => ?_) h
      simp only [spec_l04Weight.l0]
      rw [if_pos (by omega), if_pos h0, w64 (x := i + 1) (by omega) (by omega), if_pos h5, if_pos (by omega), mx_comm f, w64 (x := mn t _ - mx _ f) (by omega) (by omega), mx_comm 0]
      unfold part1 at pb ⊢
      rw [w64 (x := _ * mx _ 0) (by omega) (by omega), w64 (by omega) (by omega)]
    · rw [if_neg h5]
      have pb := part1_bd (t := t) hx hf.1 ht.2
      have h := ih (i + 1) (a + part1 f t (rd_T37 l i)) (by omega) (by omega) (by omega) (by omega)
      rw [Int.add_assoc] at h
      refine Ev.step (fun k => ?_) h
      simp only [spec_l04Weight.l0]
      rw [if_pos (by omega), if_pos h0, w64 (x := i + 1) (by omega) (by omega), if_neg h5, mx_comm f, w64 (x := t - mx _ f) (by omega) (by omega), mx_comm 0]
      unfold part1 at pb ⊢
      rw [w64 (x := _ * mx _ 0) (by omega) (by omega), w64 (by omega) (by omega)]
theorem spec_l04Weight (l : List S37) (h : schedB l = true) (f t : Int) (hf : 0 ≤ f ∧ f ≤ 36524) (ht : 0 ≤ t ∧ t ≤ 36524) : Ev (fun k => spec_l04Weight.f k l f t) (wt f t l) := by
  have g := schedB_facts h
  have e := spec_l04Weight_l0 l g.1 g.2.2 f t hf ht l.length 0 0 (by omega) (by omega) (by omega) (by omega)
  unfold spec_l04Weight.f
  simpa using e
def amountV (n : Int) : Int × Int := if 0 ≤ n ∧ n ≤ 1000000000 then (n, 0) else (0, 3)
/-- The interest on an amount from a day to another. -/
def intL (l : List S37) (a f t : Int) : Int := near (a * wt f t l) 3650000
theorem prod_bd {l : List S37} (h : schedB l = true) {a f t : Int} (ha : 0 ≤ a ∧ a ≤ 1000000000) (hf : 0 ≤ f) (ht : t ≤ 36524) : 0 ≤ a * wt f t l ∧ a * wt f t l ≤ 4382880000000000000 := by
  have g := schedB_facts h
  have b := wt_bd hf ht g.2.2
  exact mul_bd (B := 4382880000) ha.1 ha.2 b.1 (by omega)
theorem near_bd {a : Int} (h : 0 ≤ a ∧ a ≤ 4382880000000000000) : 0 ≤ near a 3650000 ∧ near a 3650000 ≤ 1200789041097 := by
  rw [near_eq h.1 (by omega)]; omega
theorem intL_mono {l : List S37} (h : schedB l = true) {a f t t' : Int} (ha : 0 ≤ a ∧ a ≤ 1000000000) (hf : 0 ≤ f) (hle : t ≤ t') (ht : t ≤ 36524) : intL l a f t ≤ intL l a f t' := by
  have g := schedB_facts h
  exact near_mono (prod_bd h ha hf ht).1 (Int.mul_le_mul_of_nonneg_left (wt_mono hle g.2.2) ha.1) (by omega)
/-- What InterestBetween answers. -/
def betweenV (l : List S37) (a f t : Int) : Int × Int := if schedV l a [f, t] = 0 then amountV (intL l a f t) else (0, schedV l a [f, t])
theorem impl_InterestBetween (l : List S37) (a f t : Int) : Ev (fun k => impl_InterestBetween.f k l a f t) (betweenV l a f t) := by
  unfold impl_InterestBetween.f betweenV
  refine Ev.bind (impl_scheduled l a [f, t]) ?_
  by_cases h : schedV l a [f, t] = 0
  · obtain ⟨z1, z2, z3⟩ := schedV_zero h
    have hf := z3 f (by simp)
    have ht := z3 t (by simp)
    have b := prod_bd z1 z2 hf.1 ht.2
    simp only [h, if_true]
    refine Ev.bind (impl_weight l z1 f t hf ht) (Ev.pure ?_)
    rw [impl_interest _ _ b.1 (by omega), Option.bind_some, impl_amountOf, Option.bind_some]; rfl
  · simp only [h, if_false]; exact Ev.pure rfl
theorem com_bd {a c : Int} (ha : 0 ≤ a ∧ a ≤ 1000000000) (hc : 0 ≤ c ∧ c ≤ 10000) : (0 ≤ a * c ∧ a * c ≤ 10000000000000) ∧ 0 ≤ near (a * c) 10000 ∧ near (a * c) 10000 ≤ 1000000000 := by
  have m := commission_bd ha hc
  refine ⟨m, ?_⟩
  rw [near_eq m.1 (by omega)]; omega
/-- What TotalDue answers. -/
def totalV (l : List S37) (a c f t : Int) : Int × Int :=
  if schedV l a [f, t] = 0 then (if 0 ≤ c ∧ c ≤ 10000 then amountV (a + near (a * c) 10000 + intL l a f t) else (0, 2)) else (0, schedV l a [f, t])
theorem impl_TotalDue (l : List S37) (a c f t : Int) : Ev (fun k => impl_TotalDue.f k l a c f t) (totalV l a c f t) := by
  unfold impl_TotalDue.f totalV
  refine Ev.bind (impl_scheduled l a [f, t]) ?_
  by_cases h : schedV l a [f, t] = 0
  · obtain ⟨z1, z2, z3⟩ := schedV_zero h
    have hf := z3 f (by simp)
    have ht := z3 t (by simp)
    have b := prod_bd z1 z2 hf.1 ht.2
    have nb := near_bd b
    simp only [h, if_true, impl_isPoints, Option.bind_some]
    by_cases hc : 0 ≤ c ∧ c ≤ 10000
    · have cb := com_bd z2 hc
      simp only [hc, and_self, decide_true, if_true]
      unfold impl_totalDue.f
      simp only [impl_commission a c cb.1.1 (by omega), Option.bind_some]
      refine Ev.bind (a := a + near (a * c) 10000 + intL l a f t) (Ev.bind (impl_weight l z1 f t hf ht) (Ev.pure ?_)) (Ev.pure ?_)
      · rw [impl_interest _ _ b.1 (by omega), Option.bind_some, w64 (x := a + near (a * c) 10000) (by omega) (by omega), w64 (by omega) (by omega)]; rfl
      · rw [impl_amountOf, Option.bind_some]; rfl
    · simp only [hc, decide_false, Bool.false_eq_true, if_false]; exact Ev.pure rfl
  · simp only [h, if_false]; exact Ev.pure rfl
theorem spec_TotalDue (l : List S37) (hl : l.length ≤ 1048576) (a c f t : Int) : Ev (fun k => spec_TotalDue.f k l a c f t) (totalV l a c f t) := by
  unfold spec_TotalDue.f totalV
  have bad : ∀ e : Int, e ≠ 0 → Ev (fun k => spec_TotalDue.j1 k l a c f t e) (0, e) := fun e he => Ev.step (f := fun _ => some (0, e)) (fun k => by simp only [spec_TotalDue.j1]; rw [if_neg he]) (Ev.pure rfl)
  refine Ev.bind (spec_l04Code l hl a f t) ?_
  by_cases h : schedV l a [f, t] = 0
  · obtain ⟨z1, z2, z3⟩ := schedV_zero h
    have hf := z3 f (by simp)
    have ht := z3 t (by simp)
    have b := prod_bd z1 z2 hf.1 ht.2
    have nb := near_bd b
    simp only [h, if_true, spec_l04Points, Option.bind_some]
    by_cases hc : 0 ≤ c ∧ c ≤ 10000
    · have cb := com_bd z2 hc
      simp only [hc, and_self, decide_true, if_true, Bool.not_true]
      refine Ev.step (fun k => by simp only [spec_TotalDue.j0, Bool.false_eq_true, if_false]) (f := fun k => spec_TotalDue.j1 k l a c f t 0) ?_
      refine Ev.step (fun k => ?_) (Ev.bind (g := fun k => spec_l04Weight.f k l f t) (f := fun k t981 => ((spec_l04Interest.f a t981).bind fun t982 => ((spec_l04Result.f (wrap64 ((wrap64 (a + near (a * c) 10000)) + t982))).bind fun bt983 => (some (bt983.1, bt983.2))))) (spec_l04Weight l z1 f t hf ht) (Ev.pure ?_))
      · simp only [spec_TotalDue.j1, if_true]
        rw [spec_l04Commission a c cb.1.1 (by omega), Option.bind_some]
      · rw [spec_l04Interest _ _ b.1 (by omega), Option.bind_some, w64 (x := a + near (a * c) 10000) (by omega) (by omega), w64 (by omega) (by omega), spec_l04Result, Option.bind_some]; rfl
    · simp only [hc, decide_false, Bool.false_eq_true, if_false, Bool.not_false]
      refine Ev.step (fun k => by simp only [spec_TotalDue.j0, if_true]) (f := fun k => spec_TotalDue.j1 k l a c f t 2) ?_
      exact bad 2 (by omega)
  · simp only [h, if_false]
    refine Ev.step (fun k => by simp only [spec_TotalDue.j0, Bool.false_eq_true, if_false]) (f := fun k => spec_TotalDue.j1 k l a c f t (schedV l a [f, t])) ?_
    exact bad _ h
/-- What DayWhenReached answers: the first day on which the interest is reached, or that there is none. -/
def IsDue (l : List S37) (a f g : Int) (r : Int × Int) : Prop :=
  (∃ d, f ≤ d ∧ d ≤ 36524 ∧ g ≤ intL l a f d ∧ (∀ e, f ≤ e → e < d → intL l a f e < g) ∧ r = (d, 0)) ∨ ((∀ e, f ≤ e → e ≤ 36524 → intL l a f e < g) ∧ r = (0, 4))
theorem IsDue.unique {l : List S37} {a f g : Int} {r r' : Int × Int} (h : IsDue l a f g r) (h' : IsDue l a f g r') : r = r' := by
  rcases h with ⟨d, h1, h2, h3, h4, rfl⟩ | ⟨h1, rfl⟩ <;> rcases h' with ⟨d', k1, k2, k3, k4, rfl⟩ | ⟨k1, rfl⟩
  · rcases Int.lt_trichotomy d d' with l | l | l
    · have := k4 d h1 l; omega
    · rw [l]
    · have := h4 d' k1 l; omega
  · have := k1 d h1 h2; omega
  · have := h1 d' k1 k2; omega
  · rfl
theorem impl_DayWhenReached_l0 (l : List S37) (hs : schedB l = true) (a f g : Int) (ha : 0 ≤ a ∧ a ≤ 1000000000) (hf : 0 ≤ f ∧ f ≤ 36524) : ∀ (j : Nat) (d : Int), f ≤ d → d + j = 36525 → (∀ e, f ≤ e → e < d → intL l a f e < g) →
    ∃ r, IsDue l a f g r ∧ Ev (fun k => impl_DayWhenReached.l0 k l a f g d) r := by
  intro j
  induction j with
  | zero =>
    intro d h1 h2 h3
    refine ⟨(0, 4), .inr ⟨fun e k1 k2 => h3 e k1 (by omega), rfl⟩, Ev.step (fun k => by simp only [impl_DayWhenReached.l0]) (Ev.bind (f := fun k t959 => if t959 = true then ((impl_weight.f k l f d).bind fun t960 => ((impl_nearest.f (wrap64 (a * t960)) 3650000).bind fun t961 => (if t961 ≥ g then (some (d, 0)) else (impl_DayWhenReached.l0 k l a f g (wrap64 (d + 1)))))) else (some (0, 4))) (impl_isDay d) ?_)⟩
    simp only [show decide (0 ≤ d ∧ d ≤ 36524) = false from decide_eq_false (by omega), Bool.false_eq_true, if_false]
    exact Ev.pure rfl
  | succ j ih =>
    intro d h1 h2 h3
    have hd : 0 ≤ d ∧ d ≤ 36524 := by omega
    have b := prod_bd (l := l) hs ha hf.1 hd.2
    have st : ∀ r, Ev (fun k => if intL l a f d ≥ g then some (d, 0) else impl_DayWhenReached.l0 k l a f g (d + 1)) r → Ev (fun k => impl_DayWhenReached.l0 k l a f g d) r := by
      intro r hr
      refine Ev.step (fun k => by simp only [impl_DayWhenReached.l0]) (Ev.bind (f := fun k t959 => if t959 = true then ((impl_weight.f k l f d).bind fun t960 => ((impl_nearest.f (wrap64 (a * t960)) 3650000).bind fun t961 => (if t961 ≥ g then (some (d, 0)) else (impl_DayWhenReached.l0 k l a f g (wrap64 (d + 1)))))) else (some (0, 4))) (impl_isDay d) ?_)
      simp only [show decide (0 ≤ d ∧ d ≤ 36524) = true from decide_eq_true hd, if_true]
      refine Ev.bind (impl_weight l hs f d hf hd) ?_
      rw [w64 (x := a * wt f d l) (by omega) (by omega), impl_nearest _ _ b.1 (by omega) (by omega) (by omega), w64 (x := d + 1) (by omega) (by omega)]
      exact hr
    by_cases hg : intL l a f d ≥ g
    · exact ⟨(d, 0), .inl ⟨d, h1, hd.2, hg, h3, rfl⟩, st _ (by simp only [hg, if_true]; exact Ev.pure rfl)⟩
    · obtain ⟨r, r1, r2⟩ := ih (d + 1) (by omega) (by omega) (fun e k1 k2 => by
        by_cases e2 : e = d
        · rw [e2]; omega
        · exact h3 e k1 (by omega))
      exact ⟨r, r1, st _ (by simp only [hg, if_false]; exact r2)⟩
theorem spec_DayWhenReached_l0 (l : List S37) (hs : schedB l = true) (a f g : Int) (ha : 0 ≤ a ∧ a ≤ 1000000000) (hf : 0 ≤ f ∧ f ≤ 36524) : ∀ (n : Nat) (lo hi : Int), f - 1 ≤ lo → lo < hi → hi ≤ 36525 → hi - lo ≤ n → (∀ e, f ≤ e → e ≤ lo → intL l a f e < g) → (hi = 36525 ∨ g ≤ intL l a f hi) →
    ∃ r, IsDue l a f g r ∧ Ev (fun k => spec_DayWhenReached.l0 k l a f g lo hi) r := by
  intro n
  induction n with
  | zero => intro lo hi h1 h2 h3 h4; omega
  | succ n ih =>
    intro lo hi h1 h2 h3 h4 h5 h6
    by_cases hc : hi - lo > 1
    · have hm : lo < (lo + hi) / 2 ∧ (lo + hi) / 2 < hi := by omega
      have hm2 : f ≤ (lo + hi) / 2 ∧ (lo + hi) / 2 ≤ 36524 := by omega
      have st : ∀ r, Ev (fun k => if intL l a f ((lo + hi) / 2) ≥ g then spec_DayWhenReached.l0 k l a f g lo ((lo + hi) / 2) else spec_DayWhenReached.l0 k l a f g ((lo + hi) / 2) hi) r → Ev (fun k => spec_DayWhenReached.l0 k l a f g lo hi) r := by
        intro r hr
        have b := prod_bd (l := l) hs ha hf.1 hm2.2
        refine Ev.step (fun k => ?_) (Ev.bind (g := fun k => spec_l04Weight.f k l f ((lo + hi) / 2)) (f := fun k t952 => ((spec_l04Interest.f a t952).bind fun t953 => (if t953 ≥ g then (spec_DayWhenReached.l0 k l a f g lo ((lo + hi) / 2)) else (spec_DayWhenReached.l0 k l a f g ((lo + hi) / 2) hi)))) (spec_l04Weight l hs f _ hf (by omega)) ?_)
        · simp only [spec_DayWhenReached.l0]
          rw [w64 (x := hi - lo) (by omega) (by omega), if_pos hc, w64 (x := lo + hi) (by omega) (by omega), tdiv_pos (by omega), w64 (x := (lo + hi) / 2) (by omega) (by omega)]
        · rw [spec_l04Interest _ _ b.1 (by omega)]
          exact hr
      generalize (lo + hi) / 2 = m at *
      by_cases hg : intL l a f m ≥ g
      · obtain ⟨r, r1, r2⟩ := ih lo m h1 hm.1 (by omega) (by omega) h5 (.inr hg)
        exact ⟨r, r1, st r (by simp only [hg, if_true]; exact r2)⟩
      · obtain ⟨r, r1, r2⟩ := ih m hi (by omega) hm.2 h3 (by omega) (fun e k1 k2 => by
          have := intL_mono (l := l) hs ha hf.1 k2 (show e ≤ 36524 by omega); omega) h6
        exact ⟨r, r1, st r (by simp only [hg, if_false]; exact r2)⟩
    · have e1 : lo = hi - 1 := by omega
      by_cases hh : 0 ≤ hi ∧ hi ≤ 36524
      · refine ⟨(hi, 0), .inl ⟨hi, by omega, hh.2, by omega, fun e k1 k2 => h5 e k1 (by omega), rfl⟩, Ev.step (f := fun _ => some (hi, 0)) (fun k => ?_) (Ev.pure rfl)⟩
        simp only [spec_DayWhenReached.l0]
        rw [w64 (by omega) (by omega), if_neg hc, spec_l02Is, Option.bind_some, if_pos (decide_eq_true hh)]
      · refine ⟨(0, 4), .inr ⟨fun e k1 k2 => h5 e k1 (by omega), rfl⟩, Ev.step (f := fun _ => some (0, 4)) (fun k => ?_) (Ev.pure rfl)⟩
        simp only [spec_DayWhenReached.l0]
        rw [w64 (by omega) (by omega), if_neg hc, spec_l02Is, Option.bind_some, if_neg (by rw [decide_eq_true_iff]; exact hh)]
theorem dayWhenReached_both (l : List S37) (hl : l.length ≤ 1048576) (a f g : Int) : ∃ r, Ev (fun k => impl_DayWhenReached.f k l a f g) r ∧ Ev (fun k => spec_DayWhenReached.f k l a f g) r ∧
    (r.2 = 0 → schedV l a [f] = 0 ∧ (0 ≤ g ∧ g ≤ 1000000000) ∧ IsDue l a f g r) := by
  have j1 : ∀ e : Int, e ≠ 0 → Ev (fun k => spec_DayWhenReached.j1 k l a f g e) (0, e) := fun e he => Ev.step (f := fun _ => some (0, e)) (fun k => by simp only [spec_DayWhenReached.j1]; rw [if_neg he]) (Ev.pure rfl)
  unfold impl_DayWhenReached.f spec_DayWhenReached.f
  by_cases h : schedV l a [f] = 0
  · obtain ⟨z1, z2, z3⟩ := schedV_zero h
    have hf := z3 f (by simp)
    by_cases hg : 0 ≤ g ∧ g ≤ 1000000000
    · obtain ⟨r, r1, r2⟩ := impl_DayWhenReached_l0 l z1 a f g z2 hf (36525 - f).toNat f (by omega) (by omega) (fun e k1 k2 => by omega)
      obtain ⟨r', r1', r2'⟩ := spec_DayWhenReached_l0 l z1 a f g z2 hf (36526 - f).toNat (f - 1) 36525 (by omega) (by omega) (by omega) (by omega) (fun e k1 k2 => by omega) (.inl rfl)
      obtain rfl := r1.unique r1'
      refine ⟨r, ?_, ?_, fun _ => ⟨h, hg, r1⟩⟩
      · refine Ev.bind (impl_scheduled l a [f]) ?_
        simp only [h, if_true, impl_IsAmount, Option.bind_some, hg, and_self, decide_true]
        exact r2
      · refine Ev.bind (spec_l04Code l hl a f f) ?_
        rw [schedV_one]
        simp only [h, if_true, spec_IsAmount, Option.bind_some, hg, and_self, decide_true, Bool.not_true]
        refine Ev.step (fun k => by simp only [spec_DayWhenReached.j0, Bool.false_eq_true, if_false]) (f := fun k => spec_DayWhenReached.j1 k l a f g 0) (Ev.step (fun k => ?_) r2')
        simp only [spec_DayWhenReached.j1, if_true]
        rw [w64 (by omega) (by omega)]
    · refine ⟨(0, 2), ?_, ?_, fun q => by cases q⟩
      · refine Ev.bind (impl_scheduled l a [f]) ?_
        simp only [h, if_true, impl_IsAmount, Option.bind_some, hg, decide_false, Bool.false_eq_true, if_false]
        exact Ev.pure rfl
      · refine Ev.bind (spec_l04Code l hl a f f) ?_
        rw [schedV_one]
        simp only [h, if_true, spec_IsAmount, Option.bind_some, hg, decide_false, Bool.not_false]
        exact Ev.step (fun k => by simp only [spec_DayWhenReached.j0, if_true]) (f := fun k => spec_DayWhenReached.j1 k l a f g 2) (j1 2 (by omega))
  · refine ⟨(0, schedV l a [f]), ?_, ?_, fun q => absurd q h⟩
    · refine Ev.bind (impl_scheduled l a [f]) ?_
      simp only [h, if_false]
      exact Ev.pure rfl
    · refine Ev.bind (spec_l04Code l hl a f f) ?_
      rw [schedV_one]
      simp only [h, if_false]
      exact Ev.step (fun k => by simp only [spec_DayWhenReached.j0, Bool.false_eq_true, if_false]) (f := fun k => spec_DayWhenReached.j1 k l a f g (schedV l a [f])) (j1 _ h)
end Go.Proofs.Ytooioiedombklaa.L

