/- How the struct types of the laws' arguments read: a struct that can be read as data holds values of its fields' kinds. No condition beyond that. -/
import Derived.Test.YtmfmmcmccapocaaFnExactCurrenciesOfP0
import Derived.Test.YtmfmmcmccapocaaR
namespace Go.Proofs.Ytmfmmcmccapocaa.El
set_option linter.unusedVariables false
set_option linter.unusedSimpArgs false
open Go.RowKit Go.ChangeShapes Go.WideShapes Go.Deep Go.Proofs.Ytmfmmcmccapocaa.P Go.Proofs.YtmfmmcmccapocaaW.PrintWords Go.Proofs.YtmfmmcmccapocaaW.PrintLast Go.Proofs.YtmfmmcmccapocaaW.PrintMore

set_option maxRecDepth 100000 in
theorem elemV52 {H : Type} {enc : TypeId × Value → H} {W : World} (n : Nat) (cs : List Value) (y : DataW H × List MemPlace) (h : DataW.trod enc Try.prog W 0 (fun _ => true) true n 52 cs = some y) :
    ∃ (a0 : ByteArray) (a1 : Int) (a2 : Int) (a3 : Int), cs = [.string a0, .int .i64 a1, .int .i64 a2, .int .i64 a3] ∧ a0.size ≤ maxLen ∧ (Lit.int .i64 a1).wf = true ∧ (Lit.int .i64 a2).wf = true ∧ (Lit.int .i64 a3).wf = true := by
  obtain ⟨xs, n', rfl, hy, hlen, hxl, hf⟩ := DataW.trod_struct Try.underlying52 h
  have hcell : Try.prog.cellsOf 52 = 4 := by kernel_rfl
  rw [hcell] at hlen
  match cs, hlen, xs, hxl with
  | [c0, c1, c2, c3], _, [y0, y1, y2, y3], _ =>
    have g0 : DataW.trod enc Try.prog W 0 (fun _ => true) true n' 9 [c0] = some y0 := hf 0 _ rfl
    obtain ⟨a0, e0, _, w0⟩ := DataW.trod_string Try.underlying9 g0
    obtain rfl := (List.cons.inj e0).1
    have g1 : DataW.trod enc Try.prog W 0 (fun _ => true) true n' 2 [c1] = some y1 := hf 1 _ rfl
    obtain ⟨a1, e1, _, w1⟩ := DataW.trod_int Try.underlying2 g1
    obtain rfl := (List.cons.inj e1).1
    have g2 : DataW.trod enc Try.prog W 0 (fun _ => true) true n' 2 [c2] = some y2 := hf 2 _ rfl
    obtain ⟨a2, e2, _, w2⟩ := DataW.trod_int Try.underlying2 g2
    obtain rfl := (List.cons.inj e2).1
    have g3 : DataW.trod enc Try.prog W 0 (fun _ => true) true n' 2 [c3] = some y3 := hf 3 _ rfl
    obtain ⟨a3, e3, _, w3⟩ := DataW.trod_int Try.underlying2 g3
    obtain rfl := (List.cons.inj e3).1
    exact ⟨a0, a1, a2, a3, rfl, w0, w1, w2, w3⟩

def W52 (x : S52) : Prop := x.f0.size ≤ maxLen ∧ (Lit.int .i64 x.f1).wf = true ∧ (Lit.int .i64 x.f2).wf = true ∧ (Lit.int .i64 x.f3).wf = true
theorem elem52 {H : Type} {enc : TypeId × Value → H} {W : World} (n : Nat) (cs : List Value) (y : DataW H × List MemPlace) (h : DataW.trod enc Try.prog W 0 (fun _ => true) true n 52 cs = some y) : ∃ x : S52, k52.K W x cs ∧ W52 x := by
  obtain ⟨a0, a1, a2, a3, rfl, hq⟩ := elemV52 n cs y h
  exact ⟨⟨a0, a1, a2, a3⟩, k52_mk W ⟨a0, a1, a2, a3⟩, hq⟩

end Go.Proofs.Ytmfmmcmccapocaa.El
