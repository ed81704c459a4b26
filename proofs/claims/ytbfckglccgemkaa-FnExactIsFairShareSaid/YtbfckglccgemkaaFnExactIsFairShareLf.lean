/- What the laws' own helpers answer (copies of lists, comparisons, marks): a copy is equal, a comparison tells equality, marks are found again. Condition: no more than 2^40 elements. -/
import Derived.Test.YtbfckglccgemkaaFnExactIsFairShareLb
namespace Go.Proofs.Ytbfckglccgemkaa.L
set_option linter.unusedVariables false
set_option linter.unusedSimpArgs false
open Go.RowKit Go.Proofs.Ytbfckglccgemkaa.P Go.Proofs.YtbfckglccgemkaaW.PrintWords Go.Proofs.YtbfckglccgemkaaW.PrintLast Go.Proofs.YtbfckglccgemkaaW.PrintMore

theorem laws_toInt64S_l0 (l : List Int) (hl : l.length ≤ 1048576) : ∀ (j : Nat) (i : Int) (x : List Int), 0 ≤ i → i + j = l.length → x.length = l.length → x.take i.toNat = l.take i.toNat →
    Ev (fun k => laws_toInt64S.l0 k l x i) l := by
  intro j
  induction j with
  | zero =>
    intro i x h0 h1 h2 h3
    refine Ev.step (f := fun _ => some x) (fun k => ?_) (Ev.pure ?_)
    · simp only [laws_toInt64S.l0]; rw [if_neg (by omega)]
    · rw [List.take_of_length_le (by omega), List.take_of_length_le (by omega)] at h3; rw [h3]
  | succ j ih =>
    intro i x h0 h1 h2 h3
    refine Ev.step (fun k => ?_) (ih (i + 1) (x.set i.toNat (rd l i)) (by omega) (by omega) (by rw [List.length_set]; exact h2) ?_)
    · simp only [laws_toInt64S.l0]
      rw [if_pos (by omega), if_pos h0, if_pos (by omega), w64 (by omega) (by omega)]
    · rw [show (i + 1).toNat = i.toNat + 1 by omega, set_drop _ _ _ (by omega), h3, List.take_succ_eq_append_getElem (by omega)]
      congr 2
      unfold rd; rw [List.getD_eq_getElem?_getD, List.getElem?_eq_getElem (by omega), Option.getD_some]
theorem laws_toInt64S (l : List Int) (hl : l.length ≤ 1048576) : Ev (fun k => laws_toInt64S.f k l) l := by
  unfold laws_toInt64S.f
  simp only [show (0 : Int) ≤ (l.length : Int) by omega, show ((l.length : Int)).toNat ≤ 35184372088832 by omega, if_true]
  exact laws_toInt64S_l0 l hl l.length 0 _ (by omega) (by omega) (by simp) (by simp)
theorem laws_eqInt64S_l0 (a b : List Int) (hl : a.length ≤ 1048576) (hb : a.length = b.length) : ∀ (j : Nat) (i : Int), 0 ≤ i → i + j = a.length →
    Ev (fun k => laws_eqInt64S.l0 k a b i) (decide (a.drop i.toNat = b.drop i.toNat)) := by
  intro j
  induction j with
  | zero =>
    intro i h0 h1
    refine Ev.step (f := fun _ => some true) (fun k => ?_) (Ev.pure ?_)
    · simp only [laws_eqInt64S.l0]; rw [if_neg (by omega)]
    · rw [drop_end a (by omega), drop_end b (by omega)]; rfl
  | succ j ih =>
    intro i h0 h1
    rw [drop_step a h0 (by omega), drop_step b h0 (by omega)]
    by_cases h : rd a i = rd b i
    · refine Ev.step (fun k => ?_) (f := fun k => laws_eqInt64S.l0 k a b (i + 1)) ?_
      · simp only [laws_eqInt64S.l0]
        rw [if_pos (by omega), if_pos h0, if_pos (by omega), if_pos h, w64 (by omega) (by omega)]
      · have := ih (i + 1) (by omega) (by omega)
        rw [show decide (rd a i :: a.drop (i + 1).toNat = rd b i :: b.drop (i + 1).toNat) = decide (a.drop (i + 1).toNat = b.drop (i + 1).toNat) by simp [h]]
        exact this
    · refine Ev.step (f := fun _ => some false) (fun k => ?_) (Ev.pure (by simp [h]))
      simp only [laws_eqInt64S.l0]
      rw [if_pos (by omega), if_pos h0, if_pos (by omega), if_neg h]
theorem laws_eqInt64S (a b : List Int) (hl : a.length ≤ 1048576) : Ev (fun k => laws_eqInt64S.f k a b) (decide (a = b)) := by
  unfold laws_eqInt64S.f
  by_cases h : (a.length : Int) = (b.length : Int)
  · simp only [h, if_true]
    have := laws_eqInt64S_l0 a b hl (by omega) a.length 0 (by omega) (by omega)
    simpa using this
  · simp only [h, if_false]
    exact Ev.pure (by rw [decide_eq_false]; intro q; rw [q] at h; exact h rfl)
end Go.Proofs.Ytbfckglccgemkaa.L

