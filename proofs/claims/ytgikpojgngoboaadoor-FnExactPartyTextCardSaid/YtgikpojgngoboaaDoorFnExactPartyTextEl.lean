/- How the struct types of the laws' arguments read: a struct that can be read as data holds values of its fields' kinds. No condition beyond that. -/
import Derived.Test.YtgikpojgngoboaaDoorFnExactPartyTextP0
import Derived.Test.YtgikpojgngoboaaDoorR
namespace Go.Proofs.YtgikpojgngoboaaDoor.El
set_option linter.unusedVariables false
set_option linter.unusedSimpArgs false
open Go.RowKit Go.ChangeShapes Go.WideShapes Go.Deep Go.Proofs.YtgikpojgngoboaaDoor.P Go.Proofs.YtgikpojgngoboaaDoorW.PrintWords Go.Proofs.YtgikpojgngoboaaDoorW.PrintLast Go.Proofs.YtgikpojgngoboaaDoorW.PrintMore

set_option maxRecDepth 100000 in
theorem elemV23 {H : Type} {enc : TypeId × Value → H} {W : World} (n : Nat) (cs : List Value) (y : DataW H × List MemPlace) (h : DataW.trod enc Tryd.prog W 0 (fun _ => true) true n 23 cs = some y) :
    ∃ (a0 : ByteArray) (a1 : Int) (a2 : ByteArray), cs = [.string a0, .int .i64 a1, .string a2] ∧ a0.size ≤ maxLen ∧ (Lit.int .i64 a1).wf = true ∧ a2.size ≤ maxLen := by
  obtain ⟨xs, n', rfl, hy, hlen, hxl, hf⟩ := DataW.trod_struct Tryd.underlying23 h
  have hcell : Tryd.prog.cellsOf 23 = 3 := by kernel_rfl
  rw [hcell] at hlen
  match cs, hlen, xs, hxl with
  | [c0, c1, c2], _, [y0, y1, y2], _ =>
    have g0 : DataW.trod enc Tryd.prog W 0 (fun _ => true) true n' 9 [c0] = some y0 := hf 0 _ rfl
    obtain ⟨a0, e0, _, w0⟩ := DataW.trod_string Tryd.underlying9 g0
    obtain rfl := (List.cons.inj e0).1
    have g1 : DataW.trod enc Tryd.prog W 0 (fun _ => true) true n' 2 [c1] = some y1 := hf 1 _ rfl
    obtain ⟨a1, e1, _, w1⟩ := DataW.trod_int Tryd.underlying2 g1
    obtain rfl := (List.cons.inj e1).1
    have g2 : DataW.trod enc Tryd.prog W 0 (fun _ => true) true n' 9 [c2] = some y2 := hf 2 _ rfl
    obtain ⟨a2, e2, _, w2⟩ := DataW.trod_string Tryd.underlying9 g2
    obtain rfl := (List.cons.inj e2).1
    exact ⟨a0, a1, a2, rfl, w0, w1, w2⟩

end Go.Proofs.YtgikpojgngoboaaDoor.El
