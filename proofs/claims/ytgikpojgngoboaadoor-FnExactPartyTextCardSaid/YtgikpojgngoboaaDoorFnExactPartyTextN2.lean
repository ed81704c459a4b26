/- The plain laws of texts: what the printed law of each function comes to is 'true', for all arguments of their kinds. -/
import Derived.Test.YtgikpojgngoboaaDoorFnExactPartyTextN1
namespace Go.Proofs.YtgikpojgngoboaaDoor.Pure
set_option linter.unusedVariables false
set_option linter.unusedSimpArgs false
open Go.RowKit Go.Proofs.YtgikpojgngoboaaDoor.P Go.Proofs.YtgikpojgngoboaaDoor.L Go.Proofs.YtgikpojgngoboaaDoorW.PrintWords Go.Proofs.YtgikpojgngoboaaDoorW.PrintLast Go.Proofs.YtgikpojgngoboaaDoorW.PrintMore

theorem FnExactPartyText' (c : ByteArray) (n : Int) (a : ByteArray) (hq : c.size ≤ maxLen ∧ (Lit.int .i64 n).wf = true ∧ a.size ≤ maxLen) : ∃ k, laws_FnExactPartyText.f k c n a = some true := by
  have hc : c.size ≤ 9223372036854775807 := Nat.le_trans hq.1 (by decide)
  have ha : a.size ≤ 9223372036854775807 := Nat.le_trans hq.2.2 (by decide)
  refine Ev.rounds ?_
  unfold laws_FnExactPartyText.f laws_szParty.f laws_toParty.f
  rw [w64 (x := 1048576 - (c.size : Int)) (by omega) (by omega)]
  by_cases h1 : 1048576 - (c.size : Int) < 0
  · simp only [h1, if_true, Option.bind_some]
    exact Ev.pure (by first | rfl | rw [if_pos (by decide)])
  rw [w64 (x := 1048576 - (c.size : Int) - (a.size : Int)) (by omega) (by omega)]
  simp only [h1, if_false]
  by_cases h2 : 1048576 - (c.size : Int) - (a.size : Int) < 0
  · simp only [h2, if_true, Option.bind_some]
    exact Ev.pure (by first | rfl | rw [if_pos (by decide)])
  simp only [h2, if_false, Option.bind_some]
  refine Ev.bind (L.spec_PartyText c n a (by omega) (by omega)) (Ev.bind (L.impl_PartyText c n a (by omega) (by omega)) ?_)
  simp only [if_true]
  exact Ev.pure rfl
end Go.Proofs.YtgikpojgngoboaaDoor.Pure

