/- What the list of the roots of this seat says, and what follows of the program's make. No condition. -/
import Derived.Test.YtmfmmcmccapocaaRows
import Derived.JoinedOf
import Derived.WalkKit
namespace Go.Proofs.Ytmfmmcmccapocaa.Ini
open Go Go.RowKit
set_option maxRecDepth 100000
def signs : List Char := ['h', 'a', 'r', 'n', 'e', 's', 's', ' ', '5', 'd', '2', '9', '2', 'b', '7', '2', '3', 'b', '2', 'e', 'f', 'e', '1', '6', 'c', 'b', '0', 'd', 'b', 'c', 'd', '4', 'b', '3', '0', '6', '9', 'e', 'a', '7', '0', 'b', '4', '9', '1', '7', '9', 'b', 'a', '7', '3', 'f', '2', '7', '0', '5', 'f', '4', '9', '1', '1', 'd', 'd', '4', 'a', '2', '3', 'd', '3', '9', 'a', '7', ' ', 'c', 'u', 't', ' ', 'a', 't', ' ', 'l', 'o', 'o', 'p', '.', 'e', 'x', 'a', 'm', 'p', 'l', 'e', '/', 'g', '0', '1', '0', '1', '0', '/', 'l', 'a', 'w', 's', '.', 'F', 'n', 'E', 'x', 'a', 'c', 't', 'C', 'u', 'r', 'r', 'e', 'n', 'c', 'i', 'e', 's', 'O', 'f', ' ', 'l', 'o', 'o', 'p', '.', 'e', 'x', 'a', 'm', 'p', 'l', 'e', '/', 'g', '0', '1', '0', '1', '0', '/', 'l', 'a', 'w', 's', '.', 'F', 'n', 'T', 'a', 'b', 'l', 'e', 's']
def rest : List (List Char) := [['a', 't'], ['l', 'o', 'o', 'p', '.', 'e', 'x', 'a', 'm', 'p', 'l', 'e', '/', 'g', '0', '1', '0', '1', '0', '/', 'l', 'a', 'w', 's', '.', 'F', 'n', 'E', 'x', 'a', 'c', 't', 'C', 'u', 'r', 'r', 'e', 'n', 'c', 'i', 'e', 's', 'O', 'f'], ['l', 'o', 'o', 'p', '.', 'e', 'x', 'a', 'm', 'p', 'l', 'e', '/', 'g', '0', '1', '0', '1', '0', '/', 'l', 'a', 'w', 's', '.', 'F', 'n', 'T', 'a', 'b', 'l', 'e', 's']]
theorem ini0 : Try.prog.initOrder = String.ofList signs := by kernel_rfl
theorem ini : Try.prog.initOrder.toList = signs := by rw [ini0, String.toList_ofList]
theorem behind : behindMainWord (wordsSigns signs) = ['c', 'u', 't'] :: rest := by kernel_rfl
theorem make_of {P : Program} {r : List (List Char)} (h : behindMainWord (wordsSigns P.initOrder.toList) = ['c', 'u', 't'] :: r) : P.make = some .cut := by
  unfold Program.make; rw [h]; rfl
theorem lifts_of {P : Program} {r : List (List Char)} (h : behindMainWord (wordsSigns P.initOrder.toList) = ['c', 'u', 't'] :: r) : P.liftsFinal = false := by
  unfold Program.liftsFinal Program.headLifts; simp only [h]; rfl
theorem behindP : behindMainWord (wordsSigns Try.prog.initOrder.toList) = ['c', 'u', 't'] :: rest := (congrArg (fun l => behindMainWord (wordsSigns l)) ini).trans behind
theorem make : Try.prog.make = some .cut := make_of behindP
theorem lifts : Try.prog.liftsFinal = false := lifts_of behindP
theorem may_of {P : Program} {r : List (List Char)} (h : behindMainWord (wordsSigns P.initOrder.toList) = ['c', 'u', 't'] :: r) (h1 : P.laysLater = false) (h2 : P.bearsReflect = false) (h3 : P.doorFits [] = true) : P.mayEnter = true := by
  have e : stripLifts liftWords (['c', 'u', 't'] :: r) = ([], ['c', 'u', 't'] :: r) := rfl
  unfold Program.mayEnter; rw [h]; simp only [e, h1, h2, h3]; rfl
theorem may : Try.prog.mayEnter = true := may_of behindP (by kernel_rfl) (by kernel_rfl) (by kernel_rfl)
end Go.Proofs.Ytmfmmcmccapocaa.Ini
