/- The plain laws of chapter 6 (manifests of interests): what the printed law of each function comes to is 'true', for all arguments of their kinds. -/
import Derived.Test.YtccnbjaaaaljoaaFnExactFindInterestL3
namespace Go.Proofs.Ytccnbjaaaaljoaa.Pure
set_option linter.unusedVariables false
set_option linter.unusedSimpArgs false
open Go.RowKit Go.Proofs.Ytccnbjaaaaljoaa.P Go.Proofs.Ytccnbjaaaaljoaa.L Go.Proofs.YtccnbjaaaaljoaaW.PrintWords Go.Proofs.YtccnbjaaaaljoaaW.PrintLast Go.Proofs.YtccnbjaaaaljoaaW.PrintMore

theorem tailI (l : List S101) (hl : l.length ≤ 1048576) : Ev (fun k => (laws_toInterestS.f k l).bind fun t => (laws_eqInterestS.f k (l.map L.convInterest) t).bind fun u => if u = true then some true else some false) true :=
  Ev.bind (L.laws_toInterestS l hl) (Ev.bind (L.laws_eqInterestS _ (by rw [List.length_map]; exact hl)) (Ev.pure (by simp)))
/-- What is known of an interest that can be read as data. -/
def ReadI (x : S101) : Prop := x.f0.size ≤ maxLen ∧ (Lit.int .i64 x.f1).wf = true ∧ x.f2.size ≤ maxLen ∧ (Lit.int .i64 x.f3).wf = true ∧ (Lit.int .i64 x.f4).wf = true
/-- A law of a manifest begins so: too large a manifest is out of its reach. -/
theorem beginI {f : Nat → Int → Option Bool} (l : List S101) (hb : l.length * 56 ≤ 140737488351232) (hq : ∀ x ∈ l, ReadI x) (h0 : ∀ k t, t < 0 → f k t = some true)
    (h : l.length ≤ 1048576 → (∀ x ∈ l.map L.convInterest, x.f0.size ≤ 1048576 ∧ x.f2.size ≤ 1048576) → ∀ r, ¬ (r < 0) → Ev (fun k => f k r) true) : ∃ k, (laws_szInterestS.f k l 1048576).bind (f k) = some true := by
  obtain ⟨r, r1, r2⟩ := L.laws_szInterestS l hb (fun x hx => ⟨Nat.le_trans (hq x hx).1 (by decide), Nat.le_trans (hq x hx).2.2.1 (by decide)⟩)
  by_cases hr : r < 0
  · exact (Ev.bind (f := f) r1 (by simp only [h0 _ r hr]; exact Ev.pure rfl)).rounds
  · obtain ⟨q1, q2⟩ := r2 (by omega)
    exact (Ev.bind (f := f) r1 (h q1 (fun x hx => by obtain ⟨y, hy, rfl⟩ := List.mem_map.1 hx; exact q2 y hy) r hr)).rounds
theorem FnExactFindInterest' (l : List S101) (c : ByteArray) (hb : l.length * 56 ≤ 140737488351232) (hq : ∀ x ∈ l, ReadI x) (_ : c.size ≤ 140737488351232) : ∃ k, laws_FnExactFindInterest.f k l c = some true := by
  unfold laws_FnExactFindInterest.f
  by_cases hc : (c.size : Int) > 1048576
  · exact ⟨0, by rw [if_pos hc]⟩
  simp only [hc, if_false]
  refine beginI l hb hq (fun k t h => by rw [if_pos h]) (fun hl hs r hn => ?_)
  have hm : (l.map L.convInterest).length ≤ 1048576 := by rw [List.length_map]; exact hl
  simp only [hn, if_false]
  refine Ev.bind (L.laws_toInterestS l hl) (Ev.bind (L.spec_FindInterest _ hm hs c (by omega)) (Ev.bind (L.laws_toInterestS l hl) (Ev.bind (L.impl_FindInterest _ hs c (by omega)) ?_)))
  simp only [if_true, bne_self_eq_false]
  exact Ev.step (fun k => by simp only [laws_FnExactFindInterest.j0, Bool.false_eq_true, if_false]) (tailI l hl)
end Go.Proofs.Ytccnbjaaaaljoaa.Pure

