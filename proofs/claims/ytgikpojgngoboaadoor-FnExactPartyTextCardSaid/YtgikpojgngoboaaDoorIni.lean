/- What the list of the roots of this seat says, and what follows of the program's make. No condition. -/
import Derived.Test.YtgikpojgngoboaaDoorRows
import Derived.JoinedOf
import Derived.WalkKit
namespace Go.Proofs.YtgikpojgngoboaaDoor.Ini
open Go Go.RowKit
set_option maxRecDepth 100000
def signs : List Char := ['h', 'a', 'r', 'n', 'e', 's', 's', ' ', '3', 'a', 'f', '1', 'd', '2', '3', '1', 'c', '6', '6', 'e', '5', 'd', '6', '0', '3', '9', 'e', '9', '5', '6', '8', '1', '3', '0', '2', '9', '4', 'd', '1', '9', '5', '7', '8', 'e', 'd', '7', '0', '3', 'c', 'f', 'a', '8', '2', 'a', 'b', '5', 'a', 'e', 'b', 'd', '7', 'd', 'a', '5', '6', '7', '7', 'e', 'd', '3', '6', '0', ' ', 'c', 'u', 't', ' ', 'a', 't', ' ', 'l', 'o', 'o', 'p', '.', 'e', 'x', 'a', 'm', 'p', 'l', 'e', '/', 'g', '0', '1', '0', '1', '0', '/', 'l', 'a', 'w', 's', '.', 'F', 'n', 'E', 'x', 'a', 'c', 't', 'P', 'a', 'r', 't', 'y', 'T', 'e', 'x', 't']
def rest : List (List Char) := [['a', 't'], ['l', 'o', 'o', 'p', '.', 'e', 'x', 'a', 'm', 'p', 'l', 'e', '/', 'g', '0', '1', '0', '1', '0', '/', 'l', 'a', 'w', 's', '.', 'F', 'n', 'E', 'x', 'a', 'c', 't', 'P', 'a', 'r', 't', 'y', 'T', 'e', 'x', 't']]
theorem ini0 : Tryd.prog.initOrder = String.ofList signs := by kernel_rfl
theorem ini : Tryd.prog.initOrder.toList = signs := by rw [ini0, String.toList_ofList]
theorem behind : behindMainWord (wordsSigns signs) = ['c', 'u', 't'] :: rest := by kernel_rfl
theorem make_of {P : Program} {r : List (List Char)} (h : behindMainWord (wordsSigns P.initOrder.toList) = ['c', 'u', 't'] :: r) : P.make = some .cut := by
  unfold Program.make; rw [h]; rfl
theorem lifts_of {P : Program} {r : List (List Char)} (h : behindMainWord (wordsSigns P.initOrder.toList) = ['c', 'u', 't'] :: r) : P.liftsFinal = false := by
  unfold Program.liftsFinal Program.headLifts; simp only [h]; rfl
theorem behindP : behindMainWord (wordsSigns Tryd.prog.initOrder.toList) = ['c', 'u', 't'] :: rest := (congrArg (fun l => behindMainWord (wordsSigns l)) ini).trans behind
theorem make : Tryd.prog.make = some .cut := make_of behindP
theorem lifts : Tryd.prog.liftsFinal = false := lifts_of behindP
theorem may_of {P : Program} {r : List (List Char)} (h : behindMainWord (wordsSigns P.initOrder.toList) = ['c', 'u', 't'] :: r) (h1 : P.laysLater = false) (h2 : P.bearsReflect = false) (h3 : P.doorFits [] = true) : P.mayEnter = true := by
  have e : stripLifts liftWords (['c', 'u', 't'] :: r) = ([], ['c', 'u', 't'] :: r) := rfl
  unfold Program.mayEnter; rw [h]; simp only [e, h1, h2, h3]; rfl
theorem may : Tryd.prog.mayEnter = true := may_of behindP (by kernel_rfl) (by kernel_rfl) (by kernel_rfl)
end Go.Proofs.YtgikpojgngoboaaDoor.Ini
