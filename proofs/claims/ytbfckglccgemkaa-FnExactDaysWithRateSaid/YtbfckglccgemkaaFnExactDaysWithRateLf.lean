/- What the laws' own helpers answer (copies of lists, comparisons, marks): a copy is equal, a comparison tells equality, marks are found again. Condition: no more than 2^40 elements. -/
import Derived.Test.YtbfckglccgemkaaFnExactDaysWithRateLd
namespace Go.Proofs.Ytbfckglccgemkaa.L
set_option linter.unusedVariables false
set_option linter.unusedSimpArgs false
open Go.RowKit Go.Proofs.Ytbfckglccgemkaa.P Go.Proofs.YtbfckglccgemkaaW.PrintWords Go.Proofs.YtbfckglccgemkaaW.PrintLast Go.Proofs.YtbfckglccgemkaaW.PrintMore

theorem laws_eqInt64S_l0 (a b : List Int) (hl : a.length ≤ 1048576) (hb : a.length = b.length) : ∀ (j : Nat) (i : Int), 0 ≤ i → i + j = a.length →
    Ev (fun k => laws_eqInt64S.l0 k a b i) (decide (a.drop i.toNat = b.drop i.toNat)) := by
  intro j
  induction j with
  | zero =>
    intro i h0 h1
    refine Ev.step (f := fun _ => some true) (fun k => ?_) (Ev.pure ?_)
    · simp only [laws_eqInt64S.l0]; rw [if_neg (by omega)]
    · rw [drop_end a (by omega), drop_end b (by omega)]; rfl
  | succ j ih =>
    intro i h0 h1
    rw [drop_step a h0 (by omega), drop_step b h0 (by omega)]
    by_cases h : rd a i = rd b i
    · refine Ev.step (fun k => ?_) (f := fun k => laws_eqInt64S.l0 k a b (i + 1)) ?_
      · simp only [laws_eqInt64S.l0]
        rw [if_pos (by omega), if_pos h0, if_pos (by omega), if_pos h, w64 (by omega) (by omega)]
      · have := ih (i + 1) (by omega) (by omega)
        rw [show decide (rd a i :: a.drop (i + 1).toNat = rd b i :: b.drop (i + 1).toNat) = decide (a.drop (i + 1).toNat = b.drop (i + 1).toNat) by simp [h]]
        exact this
    · refine Ev.step (f := fun _ => some false) (fun k => ?_) (Ev.pure (by simp [h]))
      simp only [laws_eqInt64S.l0]
      rw [if_pos (by omega), if_pos h0, if_pos (by omega), if_neg h]
theorem laws_eqInt64S (a b : List Int) (hl : a.length ≤ 1048576) : Ev (fun k => laws_eqInt64S.f k a b) (decide (a = b)) := by
  unfold laws_eqInt64S.f
  by_cases h : (a.length : Int) = (b.length : Int)
  · simp only [h, if_true]
    have := laws_eqInt64S_l0 a b hl (by omega) a.length 0 (by omega) (by omega)
    simpa using this
  · simp only [h, if_false]
    exact Ev.pure (by rw [decide_eq_false]; intro q; rw [q] at h; exact h rfl)
theorem laws_markInt64S_l0 (l0 : List Int) (hl : l0.length ≤ 1048576) : ∀ (j : Nat) (i m : Int) (x : List Int), 0 ≤ i → i + j = l0.length → x.length = l0.length → 0 ≤ m → m + j ≤ 100000000 →
    Ev (fun k => laws_markInt64S.l0 k x m i) (m + j, x.take i.toNat ++ seqI m j) := by
  intro j
  induction j with
  | zero =>
    intro i m x h0 h1 h2 h3 h4
    refine Ev.step (f := fun _ => some (m, x)) (fun k => ?_) (Ev.pure ?_)
    · simp only [laws_markInt64S.l0]; rw [if_neg (by omega)]
    · rw [List.take_of_length_le (by omega)]; simp [seqI]
  | succ j ih =>
    intro i m x h0 h1 h2 h3 h4
    have h := ih (i + 1) (m + 1) (x.set i.toNat m) (by omega) (by omega) (by rw [List.length_set]; exact h2) (by omega) (by omega)
    rw [show (i + 1).toNat = i.toNat + 1 by omega, set_drop _ _ _ (by omega)] at h
    refine Ev.step (fun k => ?_) (f := fun k => laws_markInt64S.l0 k (x.set i.toNat m) (m + 1) (i + 1)) ?_
    · simp only [laws_markInt64S.l0]
      rw [if_pos (by omega), if_pos h0, w64 (by omega) (by omega), w64 (by omega) (by omega)]
    · rw [show (m + ((j + 1 : Nat) : Int), x.take i.toNat ++ seqI m (j + 1)) = (m + 1 + (j : Int), x.take i.toNat ++ [m] ++ seqI (m + 1) j) by simp [seqI]; omega]
      exact h
theorem laws_markInt64S (l : List Int) (hl : l.length ≤ 1048576) : Ev (fun k => laws_markInt64S.f k l 1) (1 + (l.length : Int), seqI 1 l.length) := by
  have h := laws_markInt64S_l0 l hl l.length 0 1 l (by omega) (by omega) rfl (by omega) (by omega)
  unfold laws_markInt64S.f
  simpa using h
theorem laws_heldInt64S_l0 (l : List Int) (hl : l.length ≤ 1048576) : ∀ (j : Nat) (i m : Int), 0 ≤ i → i + j = l.length → 0 ≤ m → m + j ≤ 100000000 → l.drop i.toNat = seqI m j →
    Ev (fun k => laws_heldInt64S.l0 k l m i) (m + j) := by
  intro j
  induction j with
  | zero =>
    intro i m h0 h1 h2 h3 h4
    refine Ev.step (f := fun _ => some m) (fun k => ?_) (Ev.pure (by simp))
    simp only [laws_heldInt64S.l0]; rw [if_neg (by omega)]
  | succ j ih =>
    intro i m h0 h1 h2 h3 h4
    rw [drop_step l h0 (by omega)] at h4
    obtain ⟨h5, h6⟩ := List.cons.inj h4
    have h := ih (i + 1) (m + 1) (by omega) (by omega) (by omega) (by omega) h6
    refine Ev.step (fun k => ?_) (f := fun k => laws_heldInt64S.l0 k l (m + 1) (i + 1)) ?_
    · simp only [laws_heldInt64S.l0]
      rw [if_pos (by omega), if_pos h0, if_pos h5, w64 (by omega) (by omega), w64 (by omega) (by omega)]
    · rw [show m + ((j + 1 : Nat) : Int) = m + 1 + (j : Int) by omega]; exact h
theorem laws_heldInt64S (n : Nat) (hn : n ≤ 1048576) : Ev (fun k => laws_heldInt64S.f k (seqI 1 n) 1) (1 + (n : Int)) :=
  laws_heldInt64S_l0 (seqI 1 n) (by rw [seqI_length]; exact hn) n 0 1 (by omega) (by rw [seqI_length]; omega) (by omega) (by omega) rfl
end Go.Proofs.Ytbfckglccgemkaa.L

