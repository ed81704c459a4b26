/- The plain laws of chapter 3 (tables of rates): what the printed law of each function comes to is 'true', for all arguments of their kinds. -/
import Derived.Test.YtmfmmcmccapocaaFnExactCurrenciesOfLq
namespace Go.Proofs.Ytmfmmcmccapocaa.Pure
set_option linter.unusedVariables false
set_option linter.unusedSimpArgs false
open Go.RowKit Go.Proofs.Ytmfmmcmccapocaa.P Go.Proofs.Ytmfmmcmccapocaa.L Go.Proofs.YtmfmmcmccapocaaW.PrintWords Go.Proofs.YtmfmmcmccapocaaW.PrintLast Go.Proofs.YtmfmmcmccapocaaW.PrintMore

theorem tailR (l : List S52) (hl : l.length ≤ 1048576) : Ev (fun k => (laws_toRateS.f k l).bind fun t => (laws_eqRateS.f k (l.map L.convRate) t).bind fun u => if u = true then some true else some false) true :=
  Ev.bind (L.laws_toRateS l hl) (Ev.bind (L.laws_eqRateS _ (by rw [List.length_map]; exact hl)) (Ev.pure (by simp)))
/-- What is known of a rate that can be read as data. -/
def Read1 (x : S52) : Prop := x.f0.size ≤ maxLen ∧ (Lit.int .i64 x.f1).wf = true ∧ (Lit.int .i64 x.f2).wf = true ∧ (Lit.int .i64 x.f3).wf = true
/-- A law of a table begins so: too large a table is out of its reach. -/
theorem beginR {f : Nat → Int → Option Bool} (l : List S52) (hb : l.length * 40 ≤ 140737488351232) (hq : ∀ x ∈ l, Read1 x) (h0 : ∀ k t, t < 0 → f k t = some true)
    (h : l.length ≤ 1048576 → (∀ x ∈ l.map L.convRate, x.f0.size ≤ 1048576) → ∀ r, ¬ (r < 0) → Ev (fun k => f k r) true) : ∃ k, (laws_szRateS.f k l 1048576).bind (f k) = some true := by
  obtain ⟨r, r1, r2⟩ := L.laws_szRateS l hb (fun x hx => Nat.le_trans (hq x hx).1 (by decide))
  by_cases hr : r < 0
  · exact (Ev.bind (f := f) r1 (by simp only [h0 _ r hr]; exact Ev.pure rfl)).rounds
  · obtain ⟨q1, q2⟩ := r2 (by omega)
    exact (Ev.bind (f := f) r1 (h q1 (fun x hx => by obtain ⟨y, hy, rfl⟩ := List.mem_map.1 hx; exact q2 y hy) r hr)).rounds
end Go.Proofs.Ytmfmmcmccapocaa.Pure

