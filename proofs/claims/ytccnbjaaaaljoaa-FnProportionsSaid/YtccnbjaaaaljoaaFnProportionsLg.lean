/- What the functions of chapter 1 over lists answer (sums, shares, fair shares, what is taken down), in the program and in the reference. Conditions: amounts, and no more elements than the laws let pass. -/
import Derived.Test.YtccnbjaaaaljoaaFnProportionsLb
namespace Go.Proofs.Ytccnbjaaaaljoaa.L
set_option linter.unusedVariables false
set_option linter.unusedSimpArgs false
open Go.RowKit Go.Proofs.Ytccnbjaaaaljoaa.P Go.Proofs.YtccnbjaaaaljoaaW.PrintWords Go.Proofs.YtccnbjaaaaljoaaW.PrintLast Go.Proofs.YtccnbjaaaaljoaaW.PrintMore

theorem sum_nonneg {l : List Int} (h : ∀ x ∈ l, 0 ≤ x) : 0 ≤ l.sum := by
  induction l with
  | nil => simp
  | cons x xs ih => rw [List.sum_cons]; have := ih fun y hy => h y (List.mem_cons_of_mem _ hy); have := h x List.mem_cons_self; omega
theorem mn_comm (a b : Int) : mn a b = mn b a := by unfold mn; repeat' split <;> omega
theorem drop_mem {α : Type} {l : List α} {n : Nat} {x : α} (h : x ∈ l.drop n) : x ∈ l := List.mem_of_mem_drop h
theorem impl_sum_l0 (l : List Int) (hl : l.length ≤ 1048576) (hp : ∀ x ∈ l, 0 ≤ x) : ∀ (j : Nat) (i x : Int), 0 ≤ i → i + j = l.length → 0 ≤ x → x + (l.drop i.toNat).sum ≤ 4000000000000000000 →
    Ev (fun k => impl_sum.l0 k x l (l.length : Int) i) (x + (l.drop i.toNat).sum) := by
  intro j
  induction j with
  | zero =>
    intro i x h0 h1 h2 h3
    refine Ev.step (f := fun _ => some x) (fun k => ?_) (Ev.pure ?_)
    · simp only [impl_sum.l0]; rw [if_neg (by omega)]
    · rw [drop_end l (by omega)]; simp
  | succ j ih =>
    intro i x h0 h1 h2 h3
    have hr : 0 ≤ rd l i := hp _ (rd_mem l h0 (by omega))
    have hs := sum_nonneg (l := l.drop (i + 1).toNat) fun y hy => hp y (drop_mem hy)
    rw [drop_step l h0 (by omega), List.sum_cons] at h3 ⊢
    have h := ih (i + 1) (x + rd l i) (by omega) (by omega) (by omega) (by omega)
    refine Ev.step (fun k => ?_) (f := fun k => impl_sum.l0 k (x + rd l i) l (l.length : Int) (i + 1)) ?_
    · simp only [impl_sum.l0]
      rw [if_pos (by omega), if_pos h0, if_pos (by omega), w64 (by omega) (by omega), w64 (by omega) (by omega)]
    · rw [show x + (rd l i + (l.drop (i + 1).toNat).sum) = x + rd l i + (l.drop (i + 1).toNat).sum by omega]; exact h
theorem impl_sum (l : List Int) (hl : l.length ≤ 1048576) (hp : ∀ x ∈ l, 0 ≤ x) (hs : l.sum ≤ 4000000000000000000) : Ev (fun k => impl_sum.f k l) l.sum := by
  have h := impl_sum_l0 l hl hp l.length 0 0 (by omega) (by omega) (by omega) (by simpa using hs)
  unfold impl_sum.f
  simpa using h
theorem amounts_sum {l : List Int} (h : Amounts l) (hl : l.length ≤ 1048576) : 0 ≤ l.sum ∧ l.sum ≤ 1048576000000000 := by
  have := sum_bd h; omega
theorem amounts_pos {l : List Int} (h : Amounts l) : ∀ x ∈ l, 0 ≤ x := fun x hx => (h x hx).1
theorem spec_l01Amounts_l0 (l : List Int) (hl : l.length ≤ 1048576) : ∀ (j : Nat) (i : Int), 0 ≤ i → i + j = l.length →
    Ev (fun k => spec_l01Amounts.l0 k l i) (decide (Amounts (l.drop i.toNat))) := by
  intro j
  induction j with
  | zero =>
    intro i h0 h1
    refine Ev.step (f := fun _ => some true) (fun k => ?_) (Ev.pure ?_)
    · simp only [spec_l01Amounts.l0]; rw [if_neg (by omega)]
    · rw [drop_end l (by omega)]; simp [Amounts]
  | succ j ih =>
    intro i h0 h1
    have h := ih (i + 1) (by omega) (by omega)
    rw [drop_step l h0 (by omega)]
    by_cases ha : 0 ≤ rd l i ∧ rd l i ≤ 1000000000
    · refine Ev.step (fun k => ?_) (f := fun k => spec_l01Amounts.l0 k l (i + 1)) ?_
      · simp only [spec_l01Amounts.l0]
        rw [if_pos (by omega), if_pos h0, spec_IsAmount, Option.bind_some, if_pos (decide_eq_true ha), w64 (by omega) (by omega)]
      · rw [show decide (Amounts (rd l i :: l.drop (i + 1).toNat)) = decide (Amounts (l.drop (i + 1).toNat)) by rw [decide_eq_decide]; unfold Amounts; simp [ha]]
        exact h
    · refine Ev.step (f := fun _ => some false) (fun k => ?_) (Ev.pure ?_)
      · simp only [spec_l01Amounts.l0]
        rw [if_pos (by omega), if_pos h0, spec_IsAmount, Option.bind_some, if_neg (by simp [ha])]
      · rw [decide_eq_false]; intro q; exact ha (q _ List.mem_cons_self)
theorem spec_l01Amounts (l : List Int) (hl : l.length ≤ 1048576) : Ev (fun k => spec_l01Amounts.f k l) (decide (Amounts l)) := by
  have h := spec_l01Amounts_l0 l hl l.length 0 (by omega) (by omega)
  unfold spec_l01Amounts.f
  simpa using h
theorem impl_allAmounts (l : List Int) : impl_all_Int__impl_IsAmount.f l = some (decide (Amounts l)) := by
  unfold impl_all_Int__impl_IsAmount.f
  rw [X.allM_some (q := fun x => decide (0 ≤ x ∧ x ≤ 1000000000)) l (fun x _ => impl_IsAmount x)]
  congr 1
  rw [Bool.eq_iff_iff, decide_eq_true_iff]; simp [Amounts]
/-- What SumAmounts answers. -/
def sumV (l : List Int) : Int × Int := if ¬ Amounts l then (0, 2) else if l.sum ≤ 1000000000 then (l.sum, 0) else (0, 3)
theorem impl_SumAmounts (l : List Int) (hl : l.length ≤ 1048576) : Ev (fun k => impl_SumAmounts.f k l) (sumV l) := by
  unfold impl_SumAmounts.f sumV
  simp only [impl_allAmounts, Option.bind_some]
  by_cases h : Amounts l
  · have b := amounts_sum h hl
    simp only [h, decide_true, if_true, not_true, if_false, impl_amountOf, Option.bind_some]
    refine Ev.bind (impl_sum l hl (amounts_pos h) (by omega)) (Ev.pure ?_)
    by_cases h2 : l.sum ≤ 1000000000
    · rw [if_pos ⟨b.1, h2⟩, if_pos h2]
    · rw [if_neg (fun q => h2 q.2), if_neg h2]
  · simp only [h, decide_false, Bool.false_eq_true, if_false, not_false_eq_true, if_true]; exact Ev.pure rfl
theorem spec_SumAmounts_l0 (l : List Int) (hl : l.length ≤ 1048576) (ha : Amounts l) : ∀ (j : Nat) (i x : Int), 0 ≤ i → i + j = l.length → 0 ≤ x → x ≤ 1000000000 →
    Ev (fun k => spec_SumAmounts.l0 k l x i) (if x + (l.drop i.toNat).sum ≤ 1000000000 then (x + (l.drop i.toNat).sum, 0) else (0, 3)) := by
  intro j
  induction j with
  | zero =>
    intro i x h0 h1 h2 h3
    refine Ev.step (f := fun _ => some (x, 0)) (fun k => ?_) (Ev.pure ?_)
    · simp only [spec_SumAmounts.l0]; rw [if_neg (by omega)]
    · rw [drop_end l (by omega)]; simp [h3]
  | succ j ih =>
    intro i x h0 h1 h2 h3
    have hr := ha _ (rd_mem l h0 (show i < (l.length : Int) by omega))
    have hs := sum_nonneg (l := l.drop (i + 1).toNat) fun y hy => (ha y (drop_mem hy)).1
    rw [drop_step l h0 (by omega), List.sum_cons]
    by_cases hx : x + rd l i ≤ 1000000000
    · have h := ih (i + 1) (x + rd l i) (by omega) (by omega) (by omega) hx
      refine Ev.step (fun k => ?_) (f := fun k => spec_SumAmounts.l0 k l (x + rd l i) (i + 1)) ?_
      · simp only [spec_SumAmounts.l0]
        rw [if_pos (by omega), if_pos h0, w64 (x := x + rd l i) (by omega) (by omega), spec_IsAmount, Option.bind_some, if_pos (decide_eq_true ⟨by omega, hx⟩), w64 (by omega) (by omega)]
      · rw [show x + (rd l i + (l.drop (i + 1).toNat).sum) = x + rd l i + (l.drop (i + 1).toNat).sum by omega]; exact h
    · refine Ev.step (f := fun _ => some (0, 3)) (fun k => ?_) (Ev.pure ?_)
      · simp only [spec_SumAmounts.l0]
        rw [if_pos (by omega), if_pos h0, w64 (x := x + rd l i) (by omega) (by omega), spec_IsAmount, Option.bind_some, if_neg (by simp; omega)]
      · rw [if_neg (by omega)]
theorem spec_SumAmounts (l : List Int) (hl : l.length ≤ 1048576) : Ev (fun k => spec_SumAmounts.f k l) (sumV l) := by
  unfold spec_SumAmounts.f sumV
  refine Ev.bind (spec_l01Amounts l hl) ?_
  by_cases h : Amounts l
  · simp only [h, decide_true, if_true, not_true, if_false]
    have h := spec_SumAmounts_l0 l hl h l.length 0 0 (by omega) (by omega) (by omega) (by omega)
    simpa using h
  · simp only [h, decide_false, Bool.false_eq_true, if_false, not_false_eq_true, if_true]; exact Ev.pure rfl
/-- What each one gets, one after the other. -/
def takeL : Int → List Int → List Int
  | _, [] => []
  | a, p :: ps => mn a p :: takeL (a - mn a p) ps
theorem takeL_length : ∀ (l : List Int) (a : Int), (takeL a l).length = l.length
  | [], _ => rfl
  | p :: ps, a => by simp [takeL, takeL_length ps]
theorem mn_bd {a b : Int} (ha : 0 ≤ a) (hb : 0 ≤ b) : 0 ≤ mn a b ∧ mn a b ≤ a ∧ mn a b ≤ b := by unfold mn; split <;> omega
theorem impl_takeDown_l0 (l : List Int) (hl : l.length ≤ 12) (ha : Amounts l) : ∀ (j : Nat) (i a : Int) (o : List Int), 0 ≤ i → i + j = l.length → 0 ≤ a → a ≤ 1000000000 → o.length + j ≤ 100 →
    Ev (fun k => impl_takeDown.l0 k a o l (l.length : Int) i) (o ++ takeL a (l.drop i.toNat)) := by
  intro j
  induction j with
  | zero =>
    intro i a o h0 h1 h2 h3 h4
    refine Ev.step (f := fun _ => some o) (fun k => ?_) (Ev.pure ?_)
    · simp only [impl_takeDown.l0]; rw [if_neg (by omega)]
    · rw [drop_end l (by omega)]; simp [takeL]
  | succ j ih =>
    intro i a o h0 h1 h2 h3 h4
    have hr := ha _ (rd_mem l h0 (show i < (l.length : Int) by omega))
    have hm := mn_bd h2 hr.1
    rw [drop_step l h0 (by omega)]
    have h := ih (i + 1) (a - mn a (rd l i)) (o ++ [mn a (rd l i)]) (by omega) (by omega) (by omega) (by omega) (by simp; omega)
    refine Ev.step (fun k => ?_) (f := fun k => impl_takeDown.l0 k (a - mn a (rd l i)) (o ++ [mn a (rd l i)]) l (l.length : Int) (i + 1)) ?_
    · simp only [impl_takeDown.l0]
      rw [if_pos (by omega), if_pos h0, if_pos (by omega), if_pos (by omega), mn_comm (rd l i) a, w64 (by omega) (by omega), w64 (by omega) (by omega)]
    · simpa [takeL] using h
theorem impl_takeDown (a : Int) (l : List Int) (hl : l.length ≤ 12) (ha : Amounts l) (h2 : 0 ≤ a) (h3 : a ≤ 1000000000) : Ev (fun k => impl_takeDown.f k a l) (takeL a l) := by
  have h := impl_takeDown_l0 l hl ha l.length 0 a [] (by omega) (by omega) h2 h3 (by simp; omega)
  unfold impl_takeDown.f
  simpa using h
theorem spec_l01Take_l0 (l : List Int) (hl : l.length ≤ 12) (ha : Amounts l) : ∀ (j : Nat) (i a : Int) (o : List Int), 0 ≤ i → i + j = l.length → 0 ≤ a → a ≤ 1000000000 → o.length + j ≤ 100 →
    Ev (fun k => spec_l01Take.l0 k a l o i) (o ++ takeL a (l.drop i.toNat)) := by
  intro j
  induction j with
  | zero =>
    intro i a o h0 h1 h2 h3 h4
    refine Ev.step (f := fun _ => some o) (fun k => ?_) (Ev.pure ?_)
    · simp only [spec_l01Take.l0]; rw [if_neg (by omega)]
    · rw [drop_end l (by omega)]; simp [takeL]
  | succ j ih =>
    intro i a o h0 h1 h2 h3 h4
    have hr := ha _ (rd_mem l h0 (show i < (l.length : Int) by omega))
    have hm := mn_bd h2 hr.1
    rw [drop_step l h0 (by omega)]
    have h := ih (i + 1) (a - mn a (rd l i)) (o ++ [mn a (rd l i)]) (by omega) (by omega) (by omega) (by omega) (by simp; omega)
    refine Ev.step (fun k => ?_) (f := fun k => spec_l01Take.l0 k (a - mn a (rd l i)) l (o ++ [mn a (rd l i)]) (i + 1)) ?_
    · simp only [spec_l01Take.l0]
      rw [if_pos (by omega), if_pos h0, if_pos (by omega), w64 (by omega) (by omega), w64 (by omega) (by omega)]
    · simpa [takeL] using h
theorem spec_l01Take (a : Int) (l : List Int) (hl : l.length ≤ 12) (ha : Amounts l) (h2 : 0 ≤ a) (h3 : a ≤ 1000000000) : Ev (fun k => spec_l01Take.f k a l) (takeL a l) := by
  have h := spec_l01Take_l0 l hl ha l.length 0 a [] (by omega) (by omega) h2 h3 (by simp; omega)
  unfold spec_l01Take.f
  simpa using h
theorem impl_fewAmounts (l : List Int) : impl_fewAmounts.f l = some (decide (l.length ≤ 12 ∧ Amounts l)) := by
  unfold impl_fewAmounts.f
  simp only [impl_allAmounts, Option.bind_some]
  by_cases h : l.length ≤ 12
  · rw [if_pos (by omega)]; simp [h]
  · rw [if_neg (by omega)]; simp [h]
/-- What TakeDown answers. -/
def takeV (a : Int) (l : List Int) : List Int × Int := if (0 ≤ a ∧ a ≤ 1000000000) ∧ l.length ≤ 12 ∧ Amounts l then (takeL a l, 0) else ([], 2)
theorem impl_TakeDown (a : Int) (l : List Int) : Ev (fun k => impl_TakeDown.f k a l) (takeV a l) := by
  unfold impl_TakeDown.f takeV
  simp only [impl_IsAmount, impl_fewAmounts, Option.bind_some]
  by_cases h1 : 0 ≤ a ∧ a ≤ 1000000000
  · by_cases h2 : l.length ≤ 12 ∧ Amounts l
    · simp only [h1, h2, and_self, decide_true, if_true]
      exact Ev.bind (impl_takeDown a l h2.1 h2.2 h1.1 h1.2) (Ev.pure rfl)
    · simp only [h1, h2, and_self, decide_true, if_true, decide_false, Bool.false_eq_true, if_false, and_false]; exact Ev.pure rfl
  · simp only [h1, decide_false, Bool.false_eq_true, if_false, false_and]; exact Ev.pure rfl
theorem spec_TakeDown (a : Int) (l : List Int) (hl : l.length ≤ 1048576) : Ev (fun k => spec_TakeDown.f k a l) (takeV a l) := by
  unfold spec_TakeDown.f takeV
  simp only [spec_IsAmount, Option.bind_some]
  by_cases h1 : 0 ≤ a ∧ a ≤ 1000000000
  · simp only [h1, and_self, decide_true, if_true, true_and]
    refine Ev.bind (spec_l01Amounts l hl) ?_
    by_cases h2 : Amounts l
    · simp only [h2, decide_true, if_true, and_true]
      by_cases h3 : l.length ≤ 12
      · rw [if_pos h3]; simp only [if_neg (show ¬ ((l.length : Int) > 12) by omega)]
        exact Ev.bind (spec_l01Take a l h3 h2 h1.1 h1.2) (Ev.pure rfl)
      · rw [if_neg h3]; simp only [if_pos (show (l.length : Int) > 12 by omega)]; exact Ev.pure rfl
    · simp only [h2, decide_false, Bool.false_eq_true, if_false, and_false]; exact Ev.pure rfl
  · simp only [h1, decide_false, Bool.false_eq_true, if_false, false_and]; exact Ev.pure rfl
/-- The code of a total and weights. -/
def sharesV (t : Int) (l : List Int) : Int := if ¬ ((0 ≤ t ∧ t ≤ 1000000000) ∧ l.length ≤ 12 ∧ Amounts l) then 2 else if l.sum = 0 then 5 else 0
theorem impl_shares (t : Int) (l : List Int) : Ev (fun k => impl_shares.f k t l) (sharesV t l) := by
  unfold impl_shares.f sharesV
  simp only [impl_IsAmount, impl_fewAmounts, Option.bind_some]
  by_cases h1 : 0 ≤ t ∧ t ≤ 1000000000
  · by_cases h2 : l.length ≤ 12 ∧ Amounts l
    · have b := amounts_sum h2.2 (by omega)
      simp only [h1, h2, and_self, decide_true, if_true, Bool.not_true, not_true, if_false]
      refine Ev.step (fun k => ?_) (Ev.bind (g := fun k => impl_sum.f k l) (f := fun k t211 => if t211 = 0 then some 5 else some 0) (impl_sum l (by omega) (amounts_pos h2.2) (by omega)) (Ev.pure ?_))
      · simp only [impl_shares.j0, Bool.false_eq_true, if_false]
      · split <;> rfl
    · simp only [h1, h2, and_self, decide_true, if_true, decide_false, Bool.not_false, and_false, not_false_eq_true]
      exact Ev.step (f := fun _ => some 2) (fun k => by simp [impl_shares.j0]) (Ev.pure rfl)
  · simp only [h1, decide_false, Bool.false_eq_true, if_false, false_and, not_false_eq_true, if_true]
    exact Ev.step (f := fun _ => some 2) (fun k => by simp [impl_shares.j0]) (Ev.pure rfl)
/-- A part is a fair one. -/
def Fair1 (t s w p : Int) : Prop := p = t * w / s ∨ (t * w % s ≠ 0 ∧ p = t * w / s + 1)
instance (t s w p : Int) : Decidable (Fair1 t s w p) := by unfold Fair1; infer_instance
def fairL (t s : Int) : List Int → List Int → Bool
  | w :: ws, p :: ps => decide (Fair1 t s w p) && fairL t s ws ps
  | _, _ => true
/-- What IsFairShare answers. -/
def fairV (t : Int) (w p : List Int) : Bool × Int :=
  if ¬ Amounts p then (false, 2) else if ¬ sharesV t w = 0 then (false, sharesV t w) else if ¬ (p.length = w.length ∧ p.sum = t) then (false, 0) else (fairL t w.sum w p, 0)
theorem share_bd {t w s : Int} (ht : 0 ≤ t ∧ t ≤ 1000000000) (hw : 0 ≤ w ∧ w ≤ 1000000000) (hs : 0 < s) : (0 ≤ t * w ∧ t * w ≤ 1000000000000000000) ∧ 0 ≤ t * w / s ∧ t * w / s ≤ 1000000000000000000 ∧ 0 ≤ t * w % s ∧ t * w % s < s := by
  have m := proportion_bd ht hw
  have q := quot_bd m.1 hs
  exact ⟨m, q.1, by omega, q.2.2.1, q.2.2.2⟩
theorem sharesV_zero {t : Int} {l : List Int} (h : sharesV t l = 0) : (0 ≤ t ∧ t ≤ 1000000000) ∧ l.length ≤ 12 ∧ Amounts l ∧ 0 < l.sum := by
  unfold sharesV at h
  split at h
  · cases h
  · rename_i h1
    split at h
    · cases h
    · rename_i h2
      have h1 := Decidable.not_not.1 h1
      have b := amounts_sum h1.2.2 (by omega)
      exact ⟨h1.1, h1.2.1, h1.2.2, by omega⟩
end Go.Proofs.Ytccnbjaaaaljoaa.L

