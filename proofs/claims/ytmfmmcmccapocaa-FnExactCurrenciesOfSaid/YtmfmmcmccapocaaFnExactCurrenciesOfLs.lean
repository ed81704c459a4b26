/- What the laws' own helpers over lists of structs answer: a copy holds the same fields, a list equals itself. Condition: no more than 2^20 elements. -/
import Derived.Test.YtmfmmcmccapocaaFnExactCurrenciesOfL1
namespace Go.Proofs.Ytmfmmcmccapocaa.L
set_option linter.unusedVariables false
set_option linter.unusedSimpArgs false
open Go.RowKit Go.Proofs.Ytmfmmcmccapocaa.P Go.Proofs.YtmfmmcmccapocaaW.PrintWords Go.Proofs.YtmfmmcmccapocaaW.PrintLast Go.Proofs.YtmfmmcmccapocaaW.PrintMore

/-- The struct of the program with the same fields. -/
def convRate (x : S52) : S53 := ⟨x.f0, x.f1, x.f2, x.f3⟩
theorem laws_toRateS_l0 (l : List S52) (hl : l.length ≤ 1048576) : ∀ (j : Nat) (i : Int) (x : List S53), 0 ≤ i → i + j = l.length → x.length = l.length → x.take i.toNat = (l.take i.toNat).map convRate →
    Ev (fun k => laws_toRateS.l0 k l x i) (l.map convRate) := by
  intro j
  induction j with
  | zero =>
    intro i x h0 h1 h2 h3
    refine Ev.step (f := fun _ => some x) (fun k => ?_) (Ev.pure ?_)
    · simp only [laws_toRateS.l0]; rw [if_neg (by omega)]
    · rw [List.take_of_length_le (by omega), List.take_of_length_le (by omega)] at h3; rw [h3]
  | succ j ih =>
    intro i x h0 h1 h2 h3
    refine Ev.step (fun k => ?_) (ih (i + 1) (x.set i.toNat (convRate (rd_T52 l i))) (by omega) (by omega) (by rw [List.length_set]; exact h2) ?_)
    · simp only [laws_toRateS.l0, laws_toRate.f, Option.bind_some]
      rw [if_pos (by omega), if_pos h0, if_pos (by omega), w64 (by omega) (by omega)]; rfl
    · rw [show (i + 1).toNat = i.toNat + 1 by omega, set_drop _ _ _ (by omega), h3, List.take_succ_eq_append_getElem (by omega), List.map_append]
      congr 1
      simp only [List.map_cons, List.map_nil]
      congr 2
      unfold rd_T52; rw [List.getD_eq_getElem?_getD, List.getElem?_eq_getElem (by omega), Option.getD_some]
theorem laws_toRateS (l : List S52) (hl : l.length ≤ 1048576) : Ev (fun k => laws_toRateS.f k l) (l.map convRate) := by
  rw [show (fun k => laws_toRateS.f k l) = fun k => laws_toRateS.l0 k l (List.replicate ((l.length : Int)).toNat z53) 0 from funext fun k => by unfold laws_toRateS.f; rw [if_pos (by omega), if_pos (by omega)]]
  exact laws_toRateS_l0 l hl l.length 0 _ (by omega) (by omega) (by simp) (by simp)
theorem laws_eqRateS_l0 (a : List S53) (hl : a.length ≤ 1048576) : ∀ (j : Nat) (i : Int), 0 ≤ i → i + j = a.length → Ev (fun k => laws_eqRateS.l0 k a a i) true := by
  intro j
  induction j with
  | zero =>
    intro i h0 h1
    refine Ev.step (f := fun _ => some true) (fun k => ?_) (Ev.pure rfl)
    simp only [laws_eqRateS.l0]; rw [if_neg (by omega)]
  | succ j ih =>
    intro i h0 h1
    refine Ev.step (fun k => ?_) (ih (i + 1) (by omega) (by omega))
    simp only [laws_eqRateS.l0, laws_eqRate.f, if_true, Option.bind_some]
    rw [if_pos (by omega), if_pos h0, if_pos (by omega), w64 (by omega) (by omega)]
theorem laws_eqRateS (a : List S53) (hl : a.length ≤ 1048576) : Ev (fun k => laws_eqRateS.f k a a) true := by
  unfold laws_eqRateS.f
  simp only [if_true]
  exact laws_eqRateS_l0 a hl a.length 0 (by omega) (by omega)
end Go.Proofs.Ytmfmmcmccapocaa.L

