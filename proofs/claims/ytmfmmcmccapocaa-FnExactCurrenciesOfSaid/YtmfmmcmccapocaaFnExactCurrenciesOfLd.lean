/- What the functions answer that look at the letters of a text (codes of currencies and of parties), in the program and in the reference. Condition: the text is no longer than 2^47 bytes. -/
import Derived.Test.YtmfmmcmccapocaaFnExactCurrenciesOfLc
namespace Go.Proofs.Ytmfmmcmccapocaa.L
set_option linter.unusedVariables false
set_option linter.unusedSimpArgs false
open Go.RowKit Go.Proofs.Ytmfmmcmccapocaa.P Go.Proofs.YtmfmmcmccapocaaW.PrintWords Go.Proofs.YtmfmmcmccapocaaW.PrintLast Go.Proofs.YtmfmmcmccapocaaW.PrintMore

/-- All bytes of a text lie in a range. -/
def AllIn (s : ByteArray) (lo hi : Int) : Prop := ∀ j : Nat, j < s.size → lo ≤ bt s j ∧ bt s j ≤ hi
instance (s : ByteArray) (lo hi : Int) : Decidable (AllIn s lo hi) := by unfold AllIn; infer_instance

theorem not_allIn {s : ByteArray} {lo hi : Int} {i : Nat} (h : i < s.size) (h2 : ¬ (lo ≤ bt s i ∧ bt s i ≤ hi)) : ¬ AllIn s lo hi := fun q => h2 (q i h)

/-- A text of some letters. -/
def spelledV (s : ByteArray) (least most lo hi : Int) : Bool := decide (AllIn s lo hi) && decide (least ≤ (s.size : Int) ∧ (s.size : Int) ≤ most)
theorem impl_spelled_l0 (s : ByteArray) (least most lo hi : Int) (hs : s.size ≤ 140737488351232) : ∀ (j i : Nat), i + j = s.size → (∀ q : Nat, q < i → lo ≤ bt s q ∧ bt s q ≤ hi) →
    Ev (fun k => impl_spelled.l0 k s least most lo hi (s.size : Int) (i : Int)) (spelledV s least most lo hi) := by
  intro j
  induction j with
  | zero =>
    intro i h1 h2
    refine Ev.step (f := fun _ => some (decide (least ≤ (s.size : Int) ∧ (s.size : Int) ≤ most))) (fun k => ?_) (Ev.pure ?_)
    · simp only [impl_spelled.l0]
      rw [if_neg (by omega)]
      by_cases h : least ≤ (s.size : Int) <;> simp [h]
    · have a : AllIn s lo hi := fun q hq => h2 q (by omega)
      simp [spelledV, a]
  | succ j ih =>
    intro i h1 h2
    by_cases hb : lo ≤ bt s i ∧ bt s i ≤ hi
    · refine Ev.step (fun k => ?_) (ih (i + 1) (by omega) ?_)
      · simp only [impl_spelled.l0]
        rw [if_pos (by omega), if_pos (by omega), if_pos (by omega), if_neg (by omega), if_neg (by omega), w64 (by omega) (by omega)]; rfl
      · intro q hq
        by_cases e : q = i
        · subst e; exact hb
        · exact h2 q (by omega)
    · refine Ev.step (f := fun _ => some false) (fun k => ?_) (Ev.pure ?_)
      · simp only [impl_spelled.l0]
        rw [if_pos (by omega), if_pos (by omega), if_pos (by omega)]
        by_cases hl : bt s i < lo
        · rw [if_pos hl]
        · rw [if_neg hl, if_pos (by omega)]
      · have a := not_allIn (by omega) hb
        simp [spelledV, a]
theorem impl_spelled (s : ByteArray) (least most lo hi : Int) (hs : s.size ≤ 140737488351232) :
    Ev (fun k => impl_spelled.f k s least most lo hi) (spelledV s least most lo hi) :=
  impl_spelled_l0 s least most lo hi hs s.size 0 (by omega) (fun q hq => by omega)
theorem impl_IsCode (s : ByteArray) (hs : s.size ≤ 140737488351232) : Ev (fun k => impl_IsCode.f k s) (spelledV s 3 3 65 90) := by
  unfold impl_IsCode.f
  exact Ev.bind (impl_spelled s 3 3 65 90 hs) (Ev.pure rfl)
theorem spec_IsCode_l0 (s : ByteArray) (hs : s.size ≤ 140737488351232) : ∀ (j i : Nat), i + j = s.size → (∀ q : Nat, q < i → 65 ≤ bt s q ∧ bt s q ≤ 90) →
    Ev (fun k => spec_IsCode.l0 k s (i : Int)) (spelledV s 3 3 65 90) := by
  intro j
  induction j with
  | zero =>
    intro i h1 h2
    refine Ev.step (f := fun _ => some ((s.size : Int) == 3)) (fun k => ?_) (Ev.pure ?_)
    · simp only [spec_IsCode.l0]
      rw [if_neg (by omega)]
    · have a : AllIn s 65 90 := fun q hq => h2 q (by omega)
      simp only [spelledV, a, decide_true, Bool.true_and]
      congr 1
      by_cases h : (s.size : Int) = 3
      · simp [h]
      · rw [beq_eq_false_iff_ne.2 h, decide_eq_false (by omega)]
  | succ j ih =>
    intro i h1 h2
    by_cases hb : 65 ≤ bt s i ∧ bt s i ≤ 90
    · refine Ev.step (fun k => ?_) (ih (i + 1) (by omega) ?_)
      · simp only [spec_IsCode.l0]
        rw [if_pos (by omega), if_pos (by omega), if_neg (by omega), if_neg (by omega), w64 (by omega) (by omega)]; rfl
      · intro q hq
        by_cases e : q = i
        · subst e; exact hb
        · exact h2 q (by omega)
    · refine Ev.step (f := fun _ => some false) (fun k => ?_) (Ev.pure ?_)
      · simp only [spec_IsCode.l0]
        rw [if_pos (by omega), if_pos (by omega)]
        by_cases hl : bt s i < 65
        · rw [if_pos hl]
        · rw [if_neg hl, if_pos (by omega)]
      · have a := not_allIn (by omega) hb
        simp [spelledV, a]
theorem spec_IsCode (s : ByteArray) (hs : s.size ≤ 140737488351232) : Ev (fun k => spec_IsCode.f k s) (spelledV s 3 3 65 90) :=
  spec_IsCode_l0 s hs s.size 0 (by omega) (fun q hq => by omega)
end Go.Proofs.Ytmfmmcmccapocaa.L

