/- The plain laws over drawn arguments (shares, proportions, days): what the printed law comes to is 'true', for all codes. -/
import Derived.Test.YtccnbjaaaaljoaaFnSharesLq
namespace Go.Proofs.Ytccnbjaaaaljoaa.Pure
set_option linter.unusedVariables false
set_option linter.unusedSimpArgs false
open Go.RowKit Go.Proofs.Ytccnbjaaaaljoaa.P Go.Proofs.Ytccnbjaaaaljoaa.L Go.Proofs.YtccnbjaaaaljoaaW.PrintWords Go.Proofs.YtccnbjaaaaljoaaW.PrintLast Go.Proofs.YtccnbjaaaaljoaaW.PrintMore

/-- A law over a code begins so: too long a code is out of its reach. -/
theorem beginC {f : Nat → Option Bool} (l : List Int) (hq : ∀ x ∈ l, (Lit.int .u8 x).wf = true) (h : l.length ≤ 4096 → (∀ x ∈ l, 0 ≤ x ∧ x ≤ 255) → Ev f true) :
    ∃ k, ((laws_big.f l).bind fun t => if t = true then some true else f k) = some true := by
  have e : laws_big.f l = some (decide ((l.length : Int) > 4096)) := rfl
  by_cases hl : (l.length : Int) > 4096
  · exact ⟨0, by rw [e, Option.bind_some, decide_eq_true hl, if_pos rfl]⟩
  · obtain ⟨k, hk⟩ := (h (by omega) fun x hx => bounds_u8 (hq x hx)).rounds
    exact ⟨k, by rw [e, Option.bind_some, decide_eq_false hl, if_neg (by decide)]; exact hk⟩
theorem FnShares' (l : List Int) (hb : l.length * 1 ≤ 140737488351232) (hq : ∀ x ∈ l, (Lit.int .u8 x).wf = true) : ∃ k, laws_FnShares.f k l = some true := by
  unfold laws_FnShares.f
  refine beginC l hq fun h1 h2 => ?_
  obtain ⟨t, w, e1, hw⟩ := drawShareOut l h1 h2
  obtain ⟨⟨q, c⟩, him, hsp, hc, hg, hno⟩ := shareOut_all t w (by omega)
  obtain ⟨a, b, d, e2, ha, hd⟩ := drawIsFairShare l h1 h2
  simp only at hc hg hno
  have hql : q.length ≤ 60 := by
    by_cases e : sharesV t w = 0
    · rw [(hg e).length]; simp [lows]; omega
    · rw [hno e]; simp
  refine Ev.bind e1 (Ev.bind him (Ev.bind hsp (Ev.bind e2 (Ev.bind (L.impl_IsFairShare a b d (by omega)) (Ev.bind (L.spec_IsFairShare a b d (by omega) (by omega)) ?_)))))
  simp only [if_true]
  refine Ev.bind (L.laws_likeInts q q (by omega)) ?_
  simp only [decide_true, if_true, bne_self_eq_false]
  by_cases c0 : c = 0
  · obtain ⟨g1, g2, g3, g4⟩ := shares_fair t w q (by omega) (hg (by omega))
    have hf := L.impl_IsFairShare t w q (by omega)
    rw [g4] at hf
    have hsum := L.laws_sum q (by omega) (amounts_pos g3) (by have := amounts_sum g3 (by omega); omega)
    refine Ev.step (fun k => by simp only [laws_FnShares.j0, Bool.false_eq_true, if_false, c0, if_true]) (Ev.bind hf (f := fun k (bt465 : Bool × Int) => if bt465.2 = 0 then (if bt465.1 = true then ((laws_sum.f k q).bind fun t467 => (some (t467 == t))) else (some false)) else (some false)) ?_)
    simp only [if_true]
    exact Ev.bind hsum (Ev.pure (by rw [g2, BEq.rfl]))
  · exact Ev.step (f := fun _ => some true) (fun k => by simp only [laws_FnShares.j0, Bool.false_eq_true, if_false, c0]) (Ev.pure rfl)
end Go.Proofs.Ytccnbjaaaaljoaa.Pure

