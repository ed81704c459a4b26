/- The plain laws of chapter 1 over lists: what the printed law of each function comes to is 'true', for all arguments of their kinds. -/
import Derived.Test.YtbfckglccgemkaaFnExactShareOutLh
namespace Go.Proofs.Ytbfckglccgemkaa.Pure
set_option linter.unusedVariables false
set_option linter.unusedSimpArgs false
open Go.RowKit Go.Proofs.Ytbfckglccgemkaa.P Go.Proofs.Ytbfckglccgemkaa.L Go.Proofs.YtbfckglccgemkaaW.PrintWords Go.Proofs.YtbfckglccgemkaaW.PrintLast Go.Proofs.YtbfckglccgemkaaW.PrintMore

theorem FnExactShareOut_tail (a : Int) (l q : List Int) (c : Int) (hl : l.length ≤ 1048576) (hq : q.length ≤ 1048576) (him : Ev (fun k => impl_ShareOut.f k a l) (q, c)) :
    Ev (fun k => laws_FnExactShareOut.j0 k a l q c l q c false) true := by
  have j2 : Ev (fun k => laws_FnExactShareOut.j2 k (seqI 1 q.length) (1 + (q.length : Int)) false) true :=
    Ev.step (f := fun k => (laws_heldInt64S.f k (seqI 1 q.length) 1).bind fun t195 => if t195 < 0 then some false else if t195 = 1 + (q.length : Int) then some true else some false) (fun k => by simp only [laws_FnExactShareOut.j2, Bool.false_eq_true, if_false])
      (Ev.bind (L.laws_heldInt64S q.length hq) (Ev.pure (by rw [if_neg (by omega), if_pos rfl])))
  have j1 : Ev (fun k => laws_FnExactShareOut.j1 k a l q c q false) true := by
    refine Ev.step (fun k => by simp only [laws_FnExactShareOut.j1, Bool.false_eq_true, if_false]) (Ev.bind (L.laws_markInt64S q hq) (f := fun k (bt184 : Int × List Int) => (laws_heldInt64S.f k bt184.2 1).bind fun t186 => (if t186 < 0 then (some false) else (if t186 = bt184.1 then ((laws_toInt64S.f k l).bind fun t187 => ((impl_ShareOut.f k a t187).bind fun bt190 => ((laws_eqInt64S.f k bt190.1 q).bind fun t194 => (if t194 = true then (laws_FnExactShareOut.j2 k bt184.2 bt184.1 (bt190.2 != c)) else (laws_FnExactShareOut.j2 k bt184.2 bt184.1 true))))) else (some false)))) ?_)
    refine Ev.bind (L.laws_heldInt64S q.length hq) ?_
    simp only [show ¬ (1 + (q.length : Int) < 0) by omega, if_false, if_true]
    refine Ev.bind (L.laws_toInt64S l hl) (Ev.bind him (Ev.bind (L.laws_eqInt64S q q hq) ?_))
    simp only [decide_true, if_true, bne_self_eq_false]
    exact j2
  refine Ev.step (fun k => by simp only [laws_FnExactShareOut.j0, Bool.false_eq_true, if_false]) (Ev.bind (L.laws_toInt64S l hl) (f := fun k t177 => (laws_eqInt64S.f k l t177).bind fun t180 => (if t180 = true then ((laws_markInt64S.f k l 1).bind fun bt181 => (if bt181.1 < 0 then (laws_FnExactShareOut.j1 k a l q c q true) else ((laws_eqInt64S.f k q q).bind fun t183 => (if t183 = true then (laws_FnExactShareOut.j1 k a l q c q (c != c)) else (laws_FnExactShareOut.j1 k a l q c q true))))) else (some false))) ?_)
  refine Ev.bind (L.laws_eqInt64S l l hl) ?_
  simp only [decide_true, if_true]
  refine Ev.bind (L.laws_markInt64S l hl) ?_
  simp only [show ¬ (1 + (l.length : Int) < 0) by omega, if_false]
  refine Ev.bind (L.laws_eqInt64S q q hq) ?_
  simp only [decide_true, if_true, bne_self_eq_false]
  exact j1
theorem FnExactShareOut' (a : Int) (l : List Int) (_ : (Lit.int .i64 a).wf = true) (_ : l.length * 8 ≤ 140737488351232) (_ : ∀ x ∈ l, (Lit.int .i64 x).wf = true) : ∃ k, laws_FnExactShareOut.f k a l = some true := by
  unfold laws_FnExactShareOut.f
  by_cases h : (l.length : Int) > 1048576
  · exact ⟨0, by rw [if_pos h]⟩
  have hl : l.length ≤ 1048576 := by omega
  obtain ⟨⟨q, c⟩, him, hsp, hc, hg, hn⟩ := L.shareOut_all a l hl
  have hq : q.length ≤ 1048576 := by
    by_cases e : sharesV a l = 0
    · have := (hg e).length; rw [this]; simp [lows]; omega
    · have := hn e; simp only at this; rw [this]; simp
  simp only [h, if_false]
  refine (Ev.bind (L.laws_toInt64S l hl) (Ev.bind hsp (Ev.bind (L.laws_toInt64S l hl) (Ev.bind him (Ev.bind (L.laws_eqInt64S q q hq) ?_))))).rounds
  simp only [decide_true, if_true, bne_self_eq_false]
  exact FnExactShareOut_tail a l q c hl hq him
end Go.Proofs.Ytbfckglccgemkaa.Pure

