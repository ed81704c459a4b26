/- What the functions of chapter 4 answer (schedules of points, weights, interest, the day when it is reached), in the program and in the reference. Conditions: those of a schedule, and days of the calendar. -/
import Derived.Test.YtooioiedombklaaFnInterestLc
namespace Go.Proofs.Ytooioiedombklaa.L
set_option linter.unusedVariables false
set_option linter.unusedSimpArgs false
open Go.RowKit Go.Proofs.Ytooioiedombklaa.P Go.Proofs.YtooioiedombklaaW.PrintWords Go.Proofs.YtooioiedombklaaW.PrintLast Go.Proofs.YtooioiedombklaaW.PrintMore

theorem near_eq {a b : Int} (ha : 0 ≤ a) (hb : 0 < b) : near a b = (2 * a + b) / (2 * b) := by
  have h := Int.mul_ediv_add_emod a b
  have q := quot_bd ha hb
  unfold near
  have h1 : (2 * a + b) / (2 * b) = a / b + (2 * (a % b) + b) / (2 * b) := by
    rw [show 2 * a + b = 2 * (a % b) + b + (a / b) * (2 * b) by
      have : (a / b) * (2 * b) = 2 * (b * (a / b)) := by rw [Int.mul_comm (a / b), Int.mul_assoc]
      omega]
    rw [Int.add_mul_ediv_right _ _ (by omega)]; omega
  rw [h1]
  by_cases h2 : b ≤ 2 * (a % b)
  · rw [if_pos h2, show (2 * (a % b) + b) / (2 * b) = 1 from by
      rw [show 2 * (a % b) + b = (2 * (a % b) - b) + 1 * (2 * b) by omega, Int.add_mul_ediv_right _ _ (by omega), Int.ediv_eq_zero_of_lt (by omega) (by omega)]; rfl]
  · rw [if_neg h2, show (2 * (a % b) + b) / (2 * b) = 0 from Int.ediv_eq_zero_of_lt (by omega) (by omega)]; omega
theorem near_mono {a a' b : Int} (ha : 0 ≤ a) (h : a ≤ a') (hb : 0 < b) : near a b ≤ near a' b := by
  rw [near_eq ha hb, near_eq (by omega) hb]
  exact Int.ediv_le_ediv (by omega) (by omega)

/-- A step as it may be; the order of two. -/
def stepB (x : S37) : Bool := decide (0 ≤ x.f0 ∧ x.f0 ≤ 36524) && decide (0 ≤ x.f1 ∧ x.f1 ≤ 10000)
def stepLt (x y : S37) : Bool := decide (x.f0 < y.f0)
/-- A schedule. -/
def schedB (l : List S37) : Bool := (l.all stepB && X.risesB stepLt l) && decide (1 ≤ (l.length : Int) ∧ (l.length : Int) ≤ 12)
theorem cmp_Compare (a b : Int) : cmp_Compare_int64.f a b = some (if a < b then -1 else if a > b then 1 else 0) := by
  unfold cmp_Compare_int64.f cmp_isNaN_int64.f
  simp only [bne_self_eq_false, Option.bind_some, Bool.false_eq_true, if_false]
  by_cases h : a < b
  · simp [h]
  · by_cases h2 : b < a <;> simp [h, h2]
theorem impl_IsSchedule (l : List S37) : Ev (fun k => impl_IsSchedule.f k l) (schedB l) := by
  unfold impl_IsSchedule.f schedB
  have no : Ev (fun k => impl_IsSchedule.j0 k l true) false := Ev.step (f := fun _ => some false) (fun k => by simp [impl_IsSchedule.j0]) (Ev.pure rfl)
  by_cases h1 : (l.length : Int) < 1
  · simp only [h1, if_true]
    rw [show decide (1 ≤ (l.length : Int) ∧ (l.length : Int) ≤ 12) = false from decide_eq_false (by omega), Bool.and_false]
    exact no
  simp only [h1, if_false]
  by_cases h2 : (l.length : Int) > 12
  · rw [show decide ((l.length : Int) > 12) = true from decide_eq_true h2, show decide (1 ≤ (l.length : Int) ∧ (l.length : Int) ≤ 12) = false from decide_eq_false (by omega), Bool.and_false]
    exact no
  rw [show decide ((l.length : Int) > 12) = false from decide_eq_false h2, show decide (1 ≤ (l.length : Int) ∧ (l.length : Int) ≤ 12) = true from decide_eq_true (by omega), Bool.and_true]
  have ha : Ev (fun k => impl_all_Step__impl_IsSchedule_1.f k l) (l.all stepB) := by
    unfold impl_all_Step__impl_IsSchedule_1.f
    refine X.allM_ev l fun x _ => ?_
    unfold impl_IsSchedule_1.f stepB
    refine Ev.bind (impl_isDay x.f0) ?_
    by_cases h : 0 ≤ x.f0 ∧ x.f0 ≤ 36524
    · simp only [h, and_self, decide_true, if_true, Bool.true_and, impl_isPoints, Option.bind_some]; exact Ev.pure rfl
    · simp only [h, decide_false, Bool.false_eq_true, if_false, Bool.false_and]; exact Ev.pure rfl
  have hr : Ev (fun _ => impl_rising_Step__impl_IsSchedule_2.f l) (X.risesB stepLt l) := by
    unfold impl_rising_Step__impl_IsSchedule_2.f
    refine X.risingM_ev l fun x _ y _ => ⟨_, Ev.pure (by unfold impl_IsSchedule_2.f; rw [cmp_Compare]; rfl), ?_⟩
    unfold stepLt
    by_cases h : x.f0 < y.f0
    · simp [h]
    · by_cases h2 : y.f0 < x.f0 <;> simp [h, h2]
  refine Ev.step (fun k => ?_) (Ev.bind (g := fun k => impl_all_Step__impl_IsSchedule_1.f k l) (f := fun _ t276 => if t276 = true then ((impl_rising_Step__impl_IsSchedule_2.f l).bind fun t277 => some t277) else some false) ha ?_)
  · simp only [impl_IsSchedule.j0, Bool.false_eq_true, if_false]
  · cases l.all stepB
    · simp only [Bool.false_eq_true, if_false, Bool.false_and]; exact Ev.pure rfl
    · simp only [if_true, Bool.true_and]; exact Ev.bind hr (Ev.pure rfl)
theorem spec_IsSchedule_l0 (l : List S37) (hl : l.length ≤ 1048576) : ∀ (j : Nat) (i : Int), 0 ≤ i → i + j = l.length →
    Ev (fun k => spec_IsSchedule.l0 k l i) (((l.drop i.toNat).all stepB && X.risesB stepLt (l.drop (i - 1).toNat)) && decide (1 ≤ (l.length : Int) ∧ (l.length : Int) ≤ 12)) := by
  intro j
  induction j with
  | zero =>
    intro i h0 h1
    refine Ev.step (f := fun _ => some (decide (1 ≤ (l.length : Int) ∧ (l.length : Int) ≤ 12))) (fun k => ?_) (Ev.pure ?_)
    · simp only [spec_IsSchedule.l0]; rw [if_neg (by omega), spec_l01In]; rfl
    · have e : X.risesB stepLt (l.drop (i - 1).toNat) = true := by
        have hlen : (l.drop (i - 1).toNat).length ≤ 1 := by rw [List.length_drop]; omega
        match l.drop (i - 1).toNat, hlen with
        | [], _ => rfl
        | [x], _ => rfl
      rw [drop_end l (by omega), e]; simp
  | succ j ih =>
    intro i h0 h1
    have h := ih (i + 1) (by omega) (by omega)
    have hd : l.drop i.toNat = rd_T37 l i :: l.drop (i + 1).toNat := drop_stepD l z37 h0 (by omega)
    rw [show i + 1 - 1 = i by omega] at h
    by_cases hs : stepB (rd_T37 l i) = true
    · have hs1 : (0 ≤ (rd_T37 l i).f0 ∧ (rd_T37 l i).f0 ≤ 36524) ∧ 0 ≤ (rd_T37 l i).f1 ∧ (rd_T37 l i).f1 ≤ 10000 := by
        simpa [stepB] using hs
      have st : ∀ k, spec_IsSchedule.l0 (k + 1) l i = if i > 0 then (if (rd_T37 l i).f0 ≤ (rd_T37 l (i - 1)).f0 then some false else spec_IsSchedule.l0 k l (i + 1)) else spec_IsSchedule.l0 k l (i + 1) := by
        intro k
        simp only [spec_IsSchedule.l0]
        rw [if_pos (by omega), if_pos h0, spec_l02Is, Option.bind_some, if_pos (decide_eq_true hs1.1), spec_l04Points, Option.bind_some, if_pos (decide_eq_true hs1.2), w64 (x := i - 1) (by omega) (by omega), w64 (x := i + 1) (by omega) (by omega)]
        by_cases hi : i > 0
        · rw [if_pos hi, if_pos hi, if_pos (by omega), if_pos (by omega)]
        · rw [if_neg hi, if_neg hi]
      by_cases hi : i > 0
      · have hd2 : l.drop (i - 1).toNat = rd_T37 l (i - 1) :: l.drop (i - 1 + 1).toNat := drop_stepD l z37 (by omega) (by omega)
        rw [show i - 1 + 1 = i by omega] at hd2
        by_cases hc : (rd_T37 l i).f0 ≤ (rd_T37 l (i - 1)).f0
        · refine Ev.step (f := fun _ => some false) (fun k => (st k).trans (by rw [if_pos hi, if_pos hc])) (Ev.pure ?_)
          rw [hd2, hd]
          simp only [X.risesB, stepLt, show decide ((rd_T37 l (i - 1)).f0 < (rd_T37 l i).f0) = false from decide_eq_false (by omega), Bool.false_and, Bool.and_false]
        · refine Ev.step (fun k => (st k).trans (by rw [if_pos hi, if_neg hc])) ?_
          rw [hd2, hd]
          simp only [X.risesB, stepLt, show decide ((rd_T37 l (i - 1)).f0 < (rd_T37 l i).f0) = true from decide_eq_true (by omega), Bool.true_and, List.all_cons, hs]
          rw [hd] at h
          exact h
      · have e0 : i = 0 := by omega
        refine Ev.step (fun k => (st k).trans (by rw [if_neg hi])) ?_
        rw [show (i - 1).toNat = i.toNat by omega]
        rw [hd] at h ⊢
        simp only [List.all_cons, hs, Bool.true_and]
        exact h
    · refine Ev.step (f := fun _ => some false) (fun k => ?_) (Ev.pure ?_)
      · simp only [spec_IsSchedule.l0]
        rw [if_pos (by omega), if_pos h0, spec_l02Is, Option.bind_some]
        by_cases ha : 0 ≤ (rd_T37 l i).f0 ∧ (rd_T37 l i).f0 ≤ 36524
        · rw [if_pos (decide_eq_true ha), spec_l04Points, Option.bind_some, if_neg]
          intro q
          exact hs (by simp only [stepB, ha, and_self, decide_true, Bool.true_and]; exact q)
        · rw [if_neg (by rw [decide_eq_true_iff]; exact ha)]
      · rw [hd]; simp [Bool.eq_false_iff.2 hs]
theorem spec_IsSchedule (l : List S37) (hl : l.length ≤ 1048576) : Ev (fun k => spec_IsSchedule.f k l) (schedB l) := by
  have h := spec_IsSchedule_l0 l hl l.length 0 (by omega) (by omega)
  unfold spec_IsSchedule.f
  simpa [schedB] using h
/-- The code of a schedule, an amount and days. -/
def schedV (l : List S37) (a : Int) (days : List Int) : Int :=
  if schedB l = false then 1 else if ¬ ((0 ≤ a ∧ a ≤ 1000000000) ∧ ∀ d ∈ days, 0 ≤ d ∧ d ≤ 36524) then 2 else 0
theorem impl_scheduled (l : List S37) (a : Int) (days : List Int) : Ev (fun k => impl_scheduled.f k l a days) (schedV l a days) := by
  unfold impl_scheduled.f schedV
  refine Ev.bind (impl_IsSchedule l) ?_
  cases schedB l
  · simp only [Bool.false_eq_true, if_false, if_true]; exact Ev.pure rfl
  simp only [if_true, Bool.true_eq_false, if_false, impl_IsAmount, Option.bind_some]
  by_cases h1 : 0 ≤ a ∧ a ≤ 1000000000
  · simp only [h1, and_self, decide_true, if_true, true_and]
    have ha : Ev (fun k => impl_all_Int__impl_isDay.f k days) (days.all fun d => decide (0 ≤ d ∧ d ≤ 36524)) := by
      unfold impl_all_Int__impl_isDay.f
      exact X.allM_ev days fun x _ => impl_isDay x
    refine Ev.bind ha ?_
    by_cases h2 : ∀ d ∈ days, 0 ≤ d ∧ d ≤ 36524
    · rw [show (days.all fun d => decide (0 ≤ d ∧ d ≤ 36524)) = true from List.all_eq_true.2 fun d hd => decide_eq_true (h2 d hd), if_neg (not_not_intro h2)]
      exact Ev.pure rfl
    · rw [show (days.all fun d => decide (0 ≤ d ∧ d ≤ 36524)) = false from by
        rw [Bool.eq_false_iff]; intro q; exact h2 fun d hd => of_decide_eq_true (List.all_eq_true.1 q d hd), if_pos h2]
      exact Ev.pure rfl
  · simp only [h1, decide_false, Bool.false_eq_true, if_false, false_and, not_false_eq_true, if_true]; exact Ev.pure rfl
theorem spec_l04Code (l : List S37) (hl : l.length ≤ 1048576) (a d e : Int) : Ev (fun k => spec_l04Code.f k l a d e) (schedV l a [d, e]) := by
  unfold spec_l04Code.f schedV
  refine Ev.bind (spec_IsSchedule l hl) ?_
  cases schedB l
  · simp only [Bool.false_eq_true, if_false, if_true]; exact Ev.pure rfl
  simp only [if_true, Bool.true_eq_false, if_false, spec_IsAmount, spec_l02Is, Option.bind_some]
  refine Ev.pure ?_
  by_cases h1 : 0 ≤ a ∧ a ≤ 1000000000 <;> by_cases h2 : 0 ≤ d ∧ d ≤ 36524 <;> by_cases h3 : 0 ≤ e ∧ e ≤ 36524 <;> simp only [h1, h2, h3, and_self, decide_true, decide_false, if_true, if_false, Bool.false_eq_true, true_and, false_and, and_false, List.mem_cons, List.not_mem_nil, or_false, forall_eq_or_imp, forall_eq, not_true, not_false_eq_true]
theorem schedV_one (l : List S37) (a d : Int) : schedV l a [d, d] = schedV l a [d] := by
  unfold schedV; simp
theorem schedV_zero {l : List S37} {a : Int} {days : List Int} (h : schedV l a days = 0) : schedB l = true ∧ (0 ≤ a ∧ a ≤ 1000000000) ∧ ∀ d ∈ days, 0 ≤ d ∧ d ≤ 36524 := by
  unfold schedV at h
  cases hs : schedB l with
  | false => rw [hs] at h; simp at h
  | true =>
    rw [hs] at h
    simp only [Bool.true_eq_false, if_false] at h
    split at h
    · cases h
    · rename_i h2
      exact ⟨rfl, Decidable.not_not.1 h2⟩
theorem schedB_facts {l : List S37} (h : schedB l = true) : l.length ≤ 12 ∧ 1 ≤ l.length ∧ ∀ x ∈ l, (0 ≤ x.f0 ∧ x.f0 ≤ 36524) ∧ 0 ≤ x.f1 ∧ x.f1 ≤ 10000 := by
  simp only [schedB, Bool.and_eq_true, decide_eq_true_eq, List.all_eq_true] at h
  refine ⟨by omega, by omega, fun x hx => ?_⟩
  have := h.1.1 x hx
  simpa [stepB] using this
/-- The part of a step in a weight. -/
def part1 (f t : Int) (x : S37) : Int := x.f1 * mx (t - mx x.f0 f) 0
/-- The weight of a schedule from a day to another. -/
def wt (f t : Int) : List S37 → Int
  | [] => 0
  | [x] => part1 f t x
  | x :: y :: l => part1 f (mn t y.f0) x + wt f t (y :: l)
theorem mx_comm (a b : Int) : mx a b = mx b a := by unfold mx; repeat' split <;> omega
theorem part1_bd {f t : Int} {x : S37} (hx : (0 ≤ x.f0 ∧ x.f0 ≤ 36524) ∧ 0 ≤ x.f1 ∧ x.f1 ≤ 10000) (hf : 0 ≤ f) (ht : t ≤ 36524) : 0 ≤ part1 f t x ∧ part1 f t x ≤ 365240000 := by
  have h1 : 0 ≤ mx (t - mx x.f0 f) 0 ∧ mx (t - mx x.f0 f) 0 ≤ 36524 := by unfold mx; repeat' split <;> omega
  exact mul_bd hx.2.1 hx.2.2 h1.1 h1.2
theorem wt_bd {f t : Int} (hf : 0 ≤ f) (ht : t ≤ 36524) : ∀ {l : List S37}, (∀ x ∈ l, (0 ≤ x.f0 ∧ x.f0 ≤ 36524) ∧ 0 ≤ x.f1 ∧ x.f1 ≤ 10000) → 0 ≤ wt f t l ∧ wt f t l ≤ 365240000 * (l.length : Int)
  | [], _ => by simp [wt]
  | [x], h => by
    have := part1_bd (h x List.mem_cons_self) hf ht
    simpa [wt] using this
  | x :: y :: l, h => by
    have h1 := part1_bd (t := mn t y.f0) (h x List.mem_cons_self) hf (by unfold mn; split <;> omega)
    have h2 := wt_bd hf ht (l := y :: l) fun z hz => h z (List.mem_cons_of_mem _ hz)
    simp only [wt, List.length_cons] at h2 ⊢
    omega
theorem part1_mono {f t t' : Int} {x : S37} (hx : 0 ≤ x.f1) (h : t ≤ t') : part1 f t x ≤ part1 f t' x := by
  unfold part1
  refine Int.mul_le_mul_of_nonneg_left ?_ hx
  unfold mx; repeat' split <;> omega
theorem wt_mono {f t t' : Int} (h : t ≤ t') : ∀ {l : List S37}, (∀ x ∈ l, (0 ≤ x.f0 ∧ x.f0 ≤ 36524) ∧ 0 ≤ x.f1 ∧ x.f1 ≤ 10000) → wt f t l ≤ wt f t' l
  | [], _ => by simp [wt]
  | [x], hl => by simpa [wt] using part1_mono (hl x List.mem_cons_self).2.1 h
  | x :: y :: l, hl => by
    have h1 := part1_mono (f := f) (t := mn t y.f0) (t' := mn t' y.f0) (hl x List.mem_cons_self).2.1 (by unfold mn; repeat' split <;> omega)
    have h2 := wt_mono (f := f) h (l := y :: l) fun z hz => hl z (List.mem_cons_of_mem _ hz)
    simp only [wt]; omega
theorem wt_step (f t : Int) (l : List S37) {i : Int} (h0 : 0 ≤ i) (h1 : i < (l.length : Int)) :
    wt f t (l.drop i.toNat) = (if i + 1 < (l.length : Int) then part1 f (mn t (rd_T37 l (i + 1)).f0) (rd_T37 l i) else part1 f t (rd_T37 l i)) + wt f t (l.drop (i + 1).toNat) := by
  have hd : l.drop i.toNat = rd_T37 l i :: l.drop (i + 1).toNat := drop_stepD l z37 h0 h1
  rw [hd]
  by_cases h2 : i + 1 < (l.length : Int)
  · have hd2 : l.drop (i + 1).toNat = rd_T37 l (i + 1) :: l.drop (i + 1 + 1).toNat := drop_stepD l z37 (by omega) h2
    rw [if_pos h2, hd2]; rfl
  · rw [if_neg h2, drop_end l h2]; simp [wt]
theorem impl_weight_l0 (l : List S37) (hl : l.length ≤ 12) (hs : ∀ x ∈ l, (0 ≤ x.f0 ∧ x.f0 ≤ 36524) ∧ 0 ≤ x.f1 ∧ x.f1 ≤ 10000) (f t : Int) (hf : 0 ≤ f ∧ f ≤ 36524) (ht : 0 ≤ t ∧ t ≤ 36524) : ∀ (j : Nat) (i a : Int), 0 ≤ i → i + j = l.length → 0 ≤ a → a ≤ 365240000 * i →
    Ev (fun k => impl_weight.l0 k l f t a l (l.length : Int) i) (a + wt f t (l.drop i.toNat)) := by
  intro j
  induction j with
  | zero =>
    intro i a h0 h1 h2 h3
    refine Ev.step (f := fun _ => some a) (fun k => ?_) (Ev.pure ?_)
    · simp only [impl_weight.l0]; rw [if_neg (by omega)]
    · rw [drop_end l (by omega)]; simp [wt]
  | succ j ih =>
    intro i a h0 h1 h2 h3
    have hx := hs _ (getD_mem l z37 h0 (show i < (l.length : Int) by omega))
    change (0 ≤ (rd_T37 l i).f0 ∧ (rd_T37 l i).f0 ≤ 36524) ∧ 0 ≤ (rd_T37 l i).f1 ∧ (rd_T37 l i).f1 ≤ 10000 at hx
    rw [wt_step f t l h0 (by omega)]
    have m0 : 0 ≤ mx (rd_T37 l i).f0 f ∧ mx (rd_T37 l i).f0 f ≤ 36524 := by unfold mx; split <;> omega
    by_cases h5 : i + 1 < (l.length : Int)
    · rw [if_pos h5]
      have hy := hs _ (getD_mem l z37 (show 0 ≤ i + 1 by omega) h5)
      change (0 ≤ (rd_T37 l (i + 1)).f0 ∧ (rd_T37 l (i + 1)).f0 ≤ 36524) ∧ _ at hy
      have n0 : 0 ≤ mn t (rd_T37 l (i + 1)).f0 ∧ mn t (rd_T37 l (i + 1)).f0 ≤ 36524 := by unfold mn; split <;> omega
      have pb := part1_bd (t := mn t (rd_T37 l (i + 1)).f0) hx hf.1 n0.2
      have h := ih (i + 1) (a + part1 f (mn t (rd_T37 l (i + 1)).f0) (rd_T37 l i)) (by omega) (by omega) (by omega) (by omega)
      rw [Int.add_assoc] at h
      refine Ev.step (fun k => ?_) h
      simp only [impl_weight.l0]
      rw [if_pos (by omega), if_pos h0, if_pos (by omega), w64 (x := i + 1) (by omega) (by omega), if_pos h5, if_pos (by omega), w64 (x := mn t _ - mx _ f) (by omega) (by omega)]
      unfold part1 at pb ⊢
      rw [w64 (x := _ * mx _ 0) (by omega) (by omega), w64 (by omega) (by omega)]
    · rw [if_neg h5]
      have pb := part1_bd (t := t) hx hf.1 ht.2
      have h := ih (i + 1) (a + part1 f t (rd_T37 l i)) (by omega) (by omega) (by omega) (by omega)
      rw [Int.add_assoc] at h
      refine Ev.step (fun k => ?_) h
      simp only [impl_weight.l0]
      rw [if_pos (by omega), if_pos h0, if_pos (by omega), w64 (x := i + 1) (by omega) (by omega), if_neg h5, w64 (x := t - mx _ f) (by omega) (by omega)]
      unfold part1 at pb ⊢
      rw [w64 (x := _ * mx _ 0) (by omega) (by omega), w64 (by omega) (by omega)]
theorem impl_weight (l : List S37) (h : schedB l = true) (f t : Int) (hf : 0 ≤ f ∧ f ≤ 36524) (ht : 0 ≤ t ∧ t ≤ 36524) : Ev (fun k => impl_weight.f k l f t) (wt f t l) := by
  have g := schedB_facts h
  have e := impl_weight_l0 l g.1 g.2.2 f t hf ht l.length 0 0 (by omega) (by omega) (by omega) (by omega)
  unfold impl_weight.f
  simpa using e
theorem spec_l04Weight_l0 (l : List S37) (hl : l.length ≤ 12) (hs : ∀ x ∈ l, (0 ≤ x.f0 ∧ x.f0 ≤ 36524) ∧ 0 ≤ x.f1 ∧ x.f1 ≤ 10000) (f t : Int) (hf : 0 ≤ f ∧ f ≤ 36524) (ht : 0 ≤ t ∧ t ≤ 36524) : ∀ (j : Nat) (i a : Int), 0 ≤ i → i + j = l.length → 0 ≤ a → a ≤ 365240000 * i →
    Ev (fun k => spec_l04Weight.l0 k l f t a i) (a + wt f t (l.drop i.toNat)) := by
  intro j
  induction j with
  | zero =>
    intro i a h0 h1 h2 h3
    refine Ev.step (f := fun _ => some a) (fun k => ?_) (Ev.pure ?_)
    · simp only [spec_l04Weight.l0]; rw [if_neg (by omega)]
    · rw [drop_end l (by omega)]; simp [wt]
  | succ j ih =>
    intro i a h0 h1 h2 h3
    have hx := hs _ (getD_mem l z37 h0 (show i < (l.length : Int) by omega))
    change (0 ≤ (rd_T37 l i).f0 ∧ (rd_T37 l i).f0 ≤ 36524) ∧ 0 ≤ (rd_T37 l i).f1 ∧ (rd_T37 l i).f1 ≤ 10000 at hx
    rw [wt_step f t l h0 (by omega)]
    have m0 : 0 ≤ mx (rd_T37 l i).f0 f ∧ mx (rd_T37 l i).f0 f ≤ 36524 := by unfold mx; split <;> omega
    by_cases h5 : i + 1 < (l.length : Int)
    · rw [if_pos h5]
      have hy := hs _ (getD_mem l z37 (show 0 ≤ i + 1 by omega) h5)
      change (0 ≤ (rd_T37 l (i + 1)).f0 ∧ (rd_T37 l (i + 1)).f0 ≤ 36524) ∧ _ at hy
      have n0 : 0 ≤ mn t (rd_T37 l (i + 1)).f0 ∧ mn t (rd_T37 l (i + 1)).f0 ≤ 36524 := by unfold mn; split <;> omega
      have pb := part1_bd (t := mn t (rd_T37 l (i + 1)).f0) hx hf.1 n0.2
      have h := ih (i + 1) (a + part1 f (mn t (rd_T37 l (i + 1)).f0) (rd_T37 l i)) (by omega) (by omega) (by omega) (by omega)
      rw [Int.add_assoc] at h
      refine Ev.step (fun k => ?_) h
      simp only [spec_l04Weight.l0]
      rw [if_pos (by omega), if_pos h0, w64 (x := i + 1) (by omega) (by omega), if_pos h5, if_pos (by omega), mx_comm f, w64 (x := mn t _ - mx _ f) (by omega) (by omega), mx_comm 0]
      unfold part1 at pb ⊢
      rw [w64 (x := _ * mx _ 0) (by omega) (by omega), w64 (by omega) (by omega)]
    · rw [if_neg h5]
      have pb := part1_bd (t := t) hx hf.1 ht.2
      have h := ih (i + 1) (a + part1 f t (rd_T37 l i)) (by omega) (by omega) (by omega) (by omega)
      rw [Int.add_assoc] at h
      refine Ev.step (fun k => ?_) h
      simp only [spec_l04Weight.l0]
      rw [if_pos (by omega), if_pos h0, w64 (x := i + 1) (by omega) (by omega), if_neg h5, mx_comm f, w64 (x := t - mx _ f) (by omega) (by omega), mx_comm 0]
      unfold part1 at pb ⊢
      rw [w64 (x := _ * mx _ 0) (by omega) (by omega), w64 (by omega) (by omega)]
theorem spec_l04Weight (l : List S37) (h : schedB l = true) (f t : Int) (hf : 0 ≤ f ∧ f ≤ 36524) (ht : 0 ≤ t ∧ t ≤ 36524) : Ev (fun k => spec_l04Weight.f k l f t) (wt f t l) := by
  have g := schedB_facts h
  have e := spec_l04Weight_l0 l g.1 g.2.2 f t hf ht l.length 0 0 (by omega) (by omega) (by omega) (by omega)
  unfold spec_l04Weight.f
  simpa using e
/-- What WeightOf answers. -/
def weightV (l : List S37) (f t : Int) : Int × Int := if schedV l 0 [f, t] = 0 then (wt f t l, 0) else (0, schedV l 0 [f, t])
theorem impl_WeightOf (l : List S37) (f t : Int) : Ev (fun k => impl_WeightOf.f k l f t) (weightV l f t) := by
  unfold impl_WeightOf.f weightV
  refine Ev.bind (impl_scheduled l 0 [f, t]) ?_
  by_cases h : schedV l 0 [f, t] = 0
  · have z := schedV_zero h
    simp only [h, if_true]; exact Ev.bind (impl_weight l z.1 f t (z.2.2 f (by simp)) (z.2.2 t (by simp))) (Ev.pure rfl)
  · simp only [h, if_false]; exact Ev.pure rfl
theorem spec_WeightOf (l : List S37) (hl : l.length ≤ 1048576) (f t : Int) : Ev (fun k => spec_WeightOf.f k l f t) (weightV l f t) := by
  unfold spec_WeightOf.f weightV
  refine Ev.bind (spec_l04Code l hl 0 f t) ?_
  by_cases h : schedV l 0 [f, t] = 0
  · have z := schedV_zero h
    simp only [h, if_true]; exact Ev.bind (spec_l04Weight l z.1 f t (z.2.2 f (by simp)) (z.2.2 t (by simp))) (Ev.pure rfl)
  · simp only [h, if_false]; exact Ev.pure rfl
def amountV (n : Int) : Int × Int := if 0 ≤ n ∧ n ≤ 1000000000 then (n, 0) else (0, 3)
/-- The interest on an amount from a day to another. -/
def intL (l : List S37) (a f t : Int) : Int := near (a * wt f t l) 3650000
theorem prod_bd {l : List S37} (h : schedB l = true) {a f t : Int} (ha : 0 ≤ a ∧ a ≤ 1000000000) (hf : 0 ≤ f) (ht : t ≤ 36524) : 0 ≤ a * wt f t l ∧ a * wt f t l ≤ 4382880000000000000 := by
  have g := schedB_facts h
  have b := wt_bd hf ht g.2.2
  exact mul_bd (B := 4382880000) ha.1 ha.2 b.1 (by omega)
theorem near_bd {a : Int} (h : 0 ≤ a ∧ a ≤ 4382880000000000000) : 0 ≤ near a 3650000 ∧ near a 3650000 ≤ 1200789041097 := by
  rw [near_eq h.1 (by omega)]; omega
theorem intL_mono {l : List S37} (h : schedB l = true) {a f t t' : Int} (ha : 0 ≤ a ∧ a ≤ 1000000000) (hf : 0 ≤ f) (hle : t ≤ t') (ht : t ≤ 36524) : intL l a f t ≤ intL l a f t' := by
  have g := schedB_facts h
  exact near_mono (prod_bd h ha hf ht).1 (Int.mul_le_mul_of_nonneg_left (wt_mono hle g.2.2) ha.1) (by omega)
/-- What InterestBetween answers. -/
def betweenV (l : List S37) (a f t : Int) : Int × Int := if schedV l a [f, t] = 0 then amountV (intL l a f t) else (0, schedV l a [f, t])
theorem impl_InterestBetween (l : List S37) (a f t : Int) : Ev (fun k => impl_InterestBetween.f k l a f t) (betweenV l a f t) := by
  unfold impl_InterestBetween.f betweenV
  refine Ev.bind (impl_scheduled l a [f, t]) ?_
  by_cases h : schedV l a [f, t] = 0
  · obtain ⟨z1, z2, z3⟩ := schedV_zero h
    have hf := z3 f (by simp)
    have ht := z3 t (by simp)
    have b := prod_bd z1 z2 hf.1 ht.2
    simp only [h, if_true]
    refine Ev.bind (impl_weight l z1 f t hf ht) (Ev.pure ?_)
    rw [impl_interest _ _ b.1 (by omega), Option.bind_some, impl_amountOf, Option.bind_some]; rfl
  · simp only [h, if_false]; exact Ev.pure rfl
theorem spec_InterestBetween (l : List S37) (hl : l.length ≤ 1048576) (a f t : Int) : Ev (fun k => spec_InterestBetween.f k l a f t) (betweenV l a f t) := by
  unfold spec_InterestBetween.f betweenV
  refine Ev.bind (spec_l04Code l hl a f t) ?_
  by_cases h : schedV l a [f, t] = 0
  · obtain ⟨z1, z2, z3⟩ := schedV_zero h
    have hf := z3 f (by simp)
    have ht := z3 t (by simp)
    have b := prod_bd z1 z2 hf.1 ht.2
    simp only [h, if_true]
    refine Ev.bind (spec_l04Weight l z1 f t hf ht) (Ev.pure ?_)
    rw [spec_l04Interest _ _ b.1 (by omega), Option.bind_some, spec_l04Result, Option.bind_some]; rfl
  · simp only [h, if_false]; exact Ev.pure rfl
end Go.Proofs.Ytooioiedombklaa.L

