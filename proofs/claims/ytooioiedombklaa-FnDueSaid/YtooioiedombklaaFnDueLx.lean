/- The plain laws over drawn arguments (shares, proportions, days): what the printed law comes to is 'true', for all codes. -/
import Derived.Test.YtooioiedombklaaFnDueLr
namespace Go.Proofs.Ytooioiedombklaa.Pure
set_option linter.unusedVariables false
set_option linter.unusedSimpArgs false
open Go.RowKit Go.Proofs.Ytooioiedombklaa.P Go.Proofs.Ytooioiedombklaa.L Go.Proofs.YtooioiedombklaaW.PrintWords Go.Proofs.YtooioiedombklaaW.PrintLast Go.Proofs.YtooioiedombklaaW.PrintMore

/-- A law over a code begins so: too long a code is out of its reach. -/
theorem beginC {f : Nat → Option Bool} (l : List Int) (hq : ∀ x ∈ l, (Lit.int .u8 x).wf = true) (h : l.length ≤ 4096 → (∀ x ∈ l, 0 ≤ x ∧ x ≤ 255) → Ev f true) :
    ∃ k, ((laws_big.f l).bind fun t => if t = true then some true else f k) = some true := by
  have e : laws_big.f l = some (decide ((l.length : Int) > 4096)) := rfl
  by_cases hl : (l.length : Int) > 4096
  · exact ⟨0, by rw [e, Option.bind_some, decide_eq_true hl, if_pos rfl]⟩
  · obtain ⟨k, hk⟩ := (h (by omega) fun x hx => bounds_u8 (hq x hx)).rounds
    exact ⟨k, by rw [e, Option.bind_some, decide_eq_false hl, if_neg (by decide)]; exact hk⟩
end Go.Proofs.Ytooioiedombklaa.Pure

