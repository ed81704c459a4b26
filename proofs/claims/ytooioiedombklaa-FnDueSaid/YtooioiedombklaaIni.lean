/- What the list of the roots of this seat says, and what follows of the program's make. No condition. -/
import Derived.Test.YtooioiedombklaaRows
import Derived.JoinedOf
import Derived.WalkKit
namespace Go.Proofs.Ytooioiedombklaa.Ini
open Go Go.RowKit
set_option maxRecDepth 100000
def signs : List Char := ['h', 'a', 'r', 'n', 'e', 's', 's', ' ', 'f', '5', '9', 'e', '1', '0', '4', '9', 'd', 'f', '6', '8', '8', 'd', '1', '3', 'f', 'f', 'f', '0', '4', 'a', 'e', '1', 'd', '5', '4', '1', 'a', 'c', 'd', '0', '2', '0', 'd', 'e', 'a', '1', 'b', '7', '9', '8', 'c', '0', '6', '2', '1', '4', '8', '2', '0', '9', '5', 'c', 'c', 'a', '7', 'd', '2', 'c', '9', '6', 'd', '0', ' ', 'c', 'u', 't', ' ', 'a', 't', ' ', 'l', 'o', 'o', 'p', '.', 'e', 'x', 'a', 'm', 'p', 'l', 'e', '/', 'g', '0', '1', '0', '1', '0', '/', 'l', 'a', 'w', 's', '.', 'F', 'n', 'I', 'n', 't', 'e', 'r', 'e', 's', 't', ' ', 'l', 'o', 'o', 'p', '.', 'e', 'x', 'a', 'm', 'p', 'l', 'e', '/', 'g', '0', '1', '0', '1', '0', '/', 'l', 'a', 'w', 's', '.', 'F', 'n', 'D', 'u', 'e']
def rest : List (List Char) := [['a', 't'], ['l', 'o', 'o', 'p', '.', 'e', 'x', 'a', 'm', 'p', 'l', 'e', '/', 'g', '0', '1', '0', '1', '0', '/', 'l', 'a', 'w', 's', '.', 'F', 'n', 'I', 'n', 't', 'e', 'r', 'e', 's', 't'], ['l', 'o', 'o', 'p', '.', 'e', 'x', 'a', 'm', 'p', 'l', 'e', '/', 'g', '0', '1', '0', '1', '0', '/', 'l', 'a', 'w', 's', '.', 'F', 'n', 'D', 'u', 'e']]
theorem ini0 : Try.prog.initOrder = String.ofList signs := by kernel_rfl
theorem ini : Try.prog.initOrder.toList = signs := by rw [ini0, String.toList_ofList]
theorem behind : behindMainWord (wordsSigns signs) = ['c', 'u', 't'] :: rest := by kernel_rfl
theorem make_of {P : Program} {r : List (List Char)} (h : behindMainWord (wordsSigns P.initOrder.toList) = ['c', 'u', 't'] :: r) : P.make = some .cut := by
  unfold Program.make; rw [h]; rfl
theorem lifts_of {P : Program} {r : List (List Char)} (h : behindMainWord (wordsSigns P.initOrder.toList) = ['c', 'u', 't'] :: r) : P.liftsFinal = false := by
  unfold Program.liftsFinal Program.headLifts; simp only [h]; rfl
theorem behindP : behindMainWord (wordsSigns Try.prog.initOrder.toList) = ['c', 'u', 't'] :: rest := (congrArg (fun l => behindMainWord (wordsSigns l)) ini).trans behind
theorem make : Try.prog.make = some .cut := make_of behindP
theorem lifts : Try.prog.liftsFinal = false := lifts_of behindP
theorem may_of {P : Program} {r : List (List Char)} (h : behindMainWord (wordsSigns P.initOrder.toList) = ['c', 'u', 't'] :: r) (h1 : P.laysLater = false) (h2 : P.bearsReflect = false) (h3 : P.doorFits [] = true) : P.mayEnter = true := by
  have e : stripLifts liftWords (['c', 'u', 't'] :: r) = ([], ['c', 'u', 't'] :: r) := rfl
  unfold Program.mayEnter; rw [h]; simp only [e, h1, h2, h3]; rfl
theorem may : Try.prog.mayEnter = true := may_of behindP (by kernel_rfl) (by kernel_rfl) (by kernel_rfl)
end Go.Proofs.Ytooioiedombklaa.Ini
