/- How the struct types of the laws' arguments read: a struct that can be read as data holds values of its fields' kinds. No condition beyond that. -/
import Derived.Test.YtccnbjaaaaljoaaFnExactFindInterestP0
import Derived.Test.YtccnbjaaaaljoaaR
namespace Go.Proofs.Ytccnbjaaaaljoaa.El
set_option linter.unusedVariables false
set_option linter.unusedSimpArgs false
open Go.RowKit Go.ChangeShapes Go.WideShapes Go.Deep Go.Proofs.Ytccnbjaaaaljoaa.P Go.Proofs.YtccnbjaaaaljoaaW.PrintWords Go.Proofs.YtccnbjaaaaljoaaW.PrintLast Go.Proofs.YtccnbjaaaaljoaaW.PrintMore

set_option maxRecDepth 100000 in
theorem elemV101 {H : Type} {enc : TypeId × Value → H} {W : World} (n : Nat) (cs : List Value) (y : DataW H × List MemPlace) (h : DataW.trod enc Try.prog W 0 (fun _ => true) true n 101 cs = some y) :
    ∃ (a0 : ByteArray) (a1 : Int) (a2 : ByteArray) (a3 : Int) (a4 : Int), cs = [.string a0, .int .i64 a1, .string a2, .int .i64 a3, .int .i64 a4] ∧ a0.size ≤ maxLen ∧ (Lit.int .i64 a1).wf = true ∧ a2.size ≤ maxLen ∧ (Lit.int .i64 a3).wf = true ∧ (Lit.int .i64 a4).wf = true := by
  obtain ⟨xs, n', rfl, hy, hlen, hxl, hf⟩ := DataW.trod_struct Try.underlying101 h
  have hcell : Try.prog.cellsOf 101 = 5 := by kernel_rfl
  rw [hcell] at hlen
  match cs, hlen, xs, hxl with
  | [c0, c1, c2, c3, c4], _, [y0, y1, y2, y3, y4], _ =>
    have g0 : DataW.trod enc Try.prog W 0 (fun _ => true) true n' 9 [c0] = some y0 := hf 0 _ rfl
    obtain ⟨a0, e0, _, w0⟩ := DataW.trod_string Try.underlying9 g0
    obtain rfl := (List.cons.inj e0).1
    have g1 : DataW.trod enc Try.prog W 0 (fun _ => true) true n' 2 [c1] = some y1 := hf 1 _ rfl
    obtain ⟨a1, e1, _, w1⟩ := DataW.trod_int Try.underlying2 g1
    obtain rfl := (List.cons.inj e1).1
    have g2 : DataW.trod enc Try.prog W 0 (fun _ => true) true n' 9 [c2] = some y2 := hf 2 _ rfl
    obtain ⟨a2, e2, _, w2⟩ := DataW.trod_string Try.underlying9 g2
    obtain rfl := (List.cons.inj e2).1
    have g3 : DataW.trod enc Try.prog W 0 (fun _ => true) true n' 2 [c3] = some y3 := hf 3 _ rfl
    obtain ⟨a3, e3, _, w3⟩ := DataW.trod_int Try.underlying2 g3
    obtain rfl := (List.cons.inj e3).1
    have g4 : DataW.trod enc Try.prog W 0 (fun _ => true) true n' 2 [c4] = some y4 := hf 4 _ rfl
    obtain ⟨a4, e4, _, w4⟩ := DataW.trod_int Try.underlying2 g4
    obtain rfl := (List.cons.inj e4).1
    exact ⟨a0, a1, a2, a3, a4, rfl, w0, w1, w2, w3, w4⟩

def W101 (x : S101) : Prop := x.f0.size ≤ maxLen ∧ (Lit.int .i64 x.f1).wf = true ∧ x.f2.size ≤ maxLen ∧ (Lit.int .i64 x.f3).wf = true ∧ (Lit.int .i64 x.f4).wf = true
theorem elem101 {H : Type} {enc : TypeId × Value → H} {W : World} (n : Nat) (cs : List Value) (y : DataW H × List MemPlace) (h : DataW.trod enc Try.prog W 0 (fun _ => true) true n 101 cs = some y) : ∃ x : S101, k101.K W x cs ∧ W101 x := by
  obtain ⟨a0, a1, a2, a3, a4, rfl, hq⟩ := elemV101 n cs y h
  exact ⟨⟨a0, a1, a2, a3, a4⟩, k101_mk W ⟨a0, a1, a2, a3, a4⟩, hq⟩

end Go.Proofs.Ytccnbjaaaaljoaa.El
