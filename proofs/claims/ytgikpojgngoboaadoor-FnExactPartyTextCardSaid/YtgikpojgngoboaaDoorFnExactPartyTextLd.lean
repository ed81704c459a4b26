/- What the functions answer that look at the letters of a text (codes of currencies and of parties), in the program and in the reference. Condition: the text is no longer than 2^47 bytes. -/
import Derived.Test.YtgikpojgngoboaaDoorFnExactPartyTextLb
namespace Go.Proofs.YtgikpojgngoboaaDoor.L
set_option linter.unusedVariables false
set_option linter.unusedSimpArgs false
open Go.RowKit Go.Proofs.YtgikpojgngoboaaDoor.P Go.Proofs.YtgikpojgngoboaaDoorW.PrintWords Go.Proofs.YtgikpojgngoboaaDoorW.PrintLast Go.Proofs.YtgikpojgngoboaaDoorW.PrintMore

/-- All bytes of a text lie in a range. -/
def AllIn (s : ByteArray) (lo hi : Int) : Prop := ∀ j : Nat, j < s.size → lo ≤ bt s j ∧ bt s j ≤ hi
instance (s : ByteArray) (lo hi : Int) : Decidable (AllIn s lo hi) := by unfold AllIn; infer_instance

theorem not_allIn {s : ByteArray} {lo hi : Int} {i : Nat} (h : i < s.size) (h2 : ¬ (lo ≤ bt s i ∧ bt s i ≤ hi)) : ¬ AllIn s lo hi := fun q => h2 (q i h)

/-- A text of some letters. -/
def spelledV (s : ByteArray) (least most lo hi : Int) : Bool := decide (AllIn s lo hi) && decide (least ≤ (s.size : Int) ∧ (s.size : Int) ≤ most)
theorem impl_spelled_l0 (s : ByteArray) (least most lo hi : Int) (hs : s.size ≤ 140737488351232) : ∀ (j i : Nat), i + j = s.size → (∀ q : Nat, q < i → lo ≤ bt s q ∧ bt s q ≤ hi) →
    Ev (fun k => impl_spelled.l0 k s least most lo hi (s.size : Int) (i : Int)) (spelledV s least most lo hi) := by
  intro j
  induction j with
  | zero =>
    intro i h1 h2
    refine Ev.step (f := fun _ => some (decide (least ≤ (s.size : Int) ∧ (s.size : Int) ≤ most))) (fun k => ?_) (Ev.pure ?_)
    · simp only [impl_spelled.l0]
      rw [if_neg (by omega)]
      by_cases h : least ≤ (s.size : Int) <;> simp [h]
    · have a : AllIn s lo hi := fun q hq => h2 q (by omega)
      simp [spelledV, a]
  | succ j ih =>
    intro i h1 h2
    by_cases hb : lo ≤ bt s i ∧ bt s i ≤ hi
    · refine Ev.step (fun k => ?_) (ih (i + 1) (by omega) ?_)
      · simp only [impl_spelled.l0]
        rw [if_pos (by omega), if_pos (by omega), if_pos (by omega), if_neg (by omega), if_neg (by omega), w64 (by omega) (by omega)]; rfl
      · intro q hq
        by_cases e : q = i
        · subst e; exact hb
        · exact h2 q (by omega)
    · refine Ev.step (f := fun _ => some false) (fun k => ?_) (Ev.pure ?_)
      · simp only [impl_spelled.l0]
        rw [if_pos (by omega), if_pos (by omega), if_pos (by omega)]
        by_cases hl : bt s i < lo
        · rw [if_pos hl]
        · rw [if_neg hl, if_pos (by omega)]
      · have a := not_allIn (by omega) hb
        simp [spelledV, a]
theorem impl_spelled (s : ByteArray) (least most lo hi : Int) (hs : s.size ≤ 140737488351232) :
    Ev (fun k => impl_spelled.f k s least most lo hi) (spelledV s least most lo hi) :=
  impl_spelled_l0 s least most lo hi hs s.size 0 (by omega) (fun q hq => by omega)
theorem impl_IsPartyCode (s : ByteArray) (hs : s.size ≤ 140737488351232) : Ev (fun k => impl_IsPartyCode.f k s) (spelledV s 1 6 97 122) := by
  unfold impl_IsPartyCode.f
  exact Ev.bind (impl_spelled s 1 6 97 122 hs) (Ev.pure rfl)
theorem spec_IsPartyCode_l0 (s : ByteArray) (hs : s.size ≤ 140737488351232) : ∀ (j i : Nat), i + j = s.size → (∀ q : Nat, q < i → 97 ≤ bt s q ∧ bt s q ≤ 122) →
    Ev (fun k => spec_IsPartyCode.l0 k s (i : Int)) (spelledV s 1 6 97 122) := by
  intro j
  induction j with
  | zero =>
    intro i h1 h2
    refine Ev.step (f := fun _ => some (decide (1 ≤ (s.size : Int) ∧ (s.size : Int) ≤ 6))) (fun k => ?_) (Ev.pure ?_)
    · simp only [spec_IsPartyCode.l0]
      rw [if_neg (by omega), spec_l01In]; rfl
    · have a : AllIn s 97 122 := fun q hq => h2 q (by omega)
      simp only [spelledV, a, decide_true, Bool.true_and]
  | succ j ih =>
    intro i h1 h2
    by_cases hb : 97 ≤ bt s i ∧ bt s i ≤ 122
    · refine Ev.step (fun k => ?_) (ih (i + 1) (by omega) ?_)
      · simp only [spec_IsPartyCode.l0]
        rw [if_pos (by omega), if_pos (by omega), if_neg (by omega), if_neg (by omega), w64 (by omega) (by omega)]; rfl
      · intro q hq
        by_cases e : q = i
        · subst e; exact hb
        · exact h2 q (by omega)
    · refine Ev.step (f := fun _ => some false) (fun k => ?_) (Ev.pure ?_)
      · simp only [spec_IsPartyCode.l0]
        rw [if_pos (by omega), if_pos (by omega)]
        by_cases hl : bt s i < 97
        · rw [if_pos hl]
        · rw [if_neg hl, if_pos (by omega)]
      · have a := not_allIn (by omega) hb
        simp [spelledV, a]
theorem spec_IsPartyCode (s : ByteArray) (hs : s.size ≤ 140737488351232) : Ev (fun k => spec_IsPartyCode.f k s) (spelledV s 1 6 97 122) :=
  spec_IsPartyCode_l0 s hs s.size 0 (by omega) (fun q hq => by omega)
end Go.Proofs.YtgikpojgngoboaaDoor.L

