/- The plain laws of chapter 5 (registers of parties): what the printed law of each function comes to is 'true', for all arguments of their kinds. -/
import Derived.Test.YtccnbjaaaaljoaaFnExactClientsOfLy
namespace Go.Proofs.Ytccnbjaaaaljoaa.Pure
set_option linter.unusedVariables false
set_option linter.unusedSimpArgs false
open Go.RowKit Go.Proofs.Ytccnbjaaaaljoaa.P Go.Proofs.Ytccnbjaaaaljoaa.L Go.Proofs.YtccnbjaaaaljoaaW.PrintWords Go.Proofs.YtccnbjaaaaljoaaW.PrintLast Go.Proofs.YtccnbjaaaaljoaaW.PrintMore

theorem tailP (l : List S112) (hl : l.length ≤ 1048576) : Ev (fun k => (laws_toPartyS.f k l).bind fun t => (laws_eqPartyS.f k (l.map L.convParty) t).bind fun u => if u = true then some true else some false) true :=
  Ev.bind (L.laws_toPartyS l hl) (Ev.bind (L.laws_eqPartyS _ (by rw [List.length_map]; exact hl)) (Ev.pure (by simp)))
/-- What is known of a party that can be read as data. -/
def ReadP (x : S112) : Prop := x.f0.size ≤ maxLen ∧ (Lit.int .i64 x.f1).wf = true ∧ x.f2.size ≤ maxLen
/-- A law of a register begins so: too large a register is out of its reach. -/
theorem beginP {f : Nat → Int → Option Bool} (l : List S112) (hb : l.length * 40 ≤ 140737488351232) (hq : ∀ x ∈ l, ReadP x) (h0 : ∀ k t, t < 0 → f k t = some true)
    (h : l.length ≤ 1048576 → (∀ x ∈ l.map L.convParty, x.f0.size ≤ 1048576 ∧ x.f2.size ≤ 1048576) → ∀ r, ¬ (r < 0) → Ev (fun k => f k r) true) : ∃ k, (laws_szPartyS.f k l 1048576).bind (f k) = some true := by
  obtain ⟨r, r1, r2⟩ := L.laws_szPartyS l hb (fun x hx => ⟨Nat.le_trans (hq x hx).1 (by decide), Nat.le_trans (hq x hx).2.2 (by decide)⟩)
  by_cases hr : r < 0
  · exact (Ev.bind (f := f) r1 (by simp only [h0 _ r hr]; exact Ev.pure rfl)).rounds
  · obtain ⟨q1, q2⟩ := r2 (by omega)
    exact (Ev.bind (f := f) r1 (h q1 (fun x hx => by obtain ⟨y, hy, rfl⟩ := List.mem_map.1 hx; exact q2 y hy) r hr)).rounds
end Go.Proofs.Ytccnbjaaaaljoaa.Pure

