/-
  No cell of these rows narrows 'for every input' (looked for: loops, veiled, ifaces, maps, wideKeys, modest, calm, conditions, laid).
  DERIVED. THE GIVEN ROWS OF THIS SEAT. 14 by the template 'for every input the law returns true; each argument reads behind the call as it read before'; 0 by the template 'total and deterministic' (their statements: YtbfckglccgemkaaTotals.lean).
  GIVEN WITH THE SEED: the statements are not yours to turn. If you find one false, say at which input.
  Laid BY PROGRAM, IN A SANDBOX (cutbox-rows.mjs): the forced cells as the released guide's own fill.sh prints them over the translation 9b6957fb45d83cd2… (all of the seat's roots in one cut). By AI agents, Wed Nov 11 2026. No macro, syntax, notation, axiom, sorry.
-/
import Derived.Test.YtbfckglccgemkaaChecked
import GoSem.Claim
import GoSem.ClaimJoined
import GoSem.ClaimMapViews
import Derived.JoinedTies
import Derived.KernelRfl
namespace Go.Proofs.Ytbfckglccgemkaa
/- THE CELL 'sum', in the pinned program and in every row, IS THE sha256 OF THE DUMP (.gsa) THAT YtbfckglccgemkaaProg.lean LOADS. Nothing in Lean hashes anything: it is a label: what it is worth is what the hold of that sum in a sandbox is worth. -/
noncomputable def Try.pinned : Pinned := { name := "ytbfckglccgemkaa", sum := "9b6957fb45d83cd2736ecf774c2aba55b678fcdf0ebbcddd59f554af0a32e01c", checked := Try.checked }
namespace Rows
def none {H : Type} : Left H := { results := [], args := [] }

/-- 'laws.FnExactSumAmounts': WHATEVER THE INPUT: true; the input reads as it did. -/
def fnExactSumAmountsSpec : ChangeSpec := { name := "fnExactSumAmounts", fn := fun _ => fun
  | [d] => { results := [.lit (.bool true)], args := [d] }
  | _ => none }
def fnExactSumAmountsRow : OpenClaim := { program := "ytbfckglccgemkaa", sum := "9b6957fb45d83cd2736ecf774c2aba55b678fcdf0ebbcddd59f554af0a32e01c", func := "loop.example/g01010/laws.FnExactSumAmounts", spec := "fnExactSumAmounts", unfollowed := true, recurses := true, apart := false }
def FnExactSumAmountsSaid : Prop := fnExactSumAmountsRow.holds Try.pinned (OpenSpec.ofChange fnExactSumAmountsSpec)

/-- ITS FALSE NEIGHBOUR: 'it returns false'. Refute it at one input. -/
def fnExactSumAmountsWrong : ChangeSpec := { name := "fnExactSumAmounts", fn := fun _ => fun
  | [d] => { results := [.lit (.bool false)], args := [d] }
  | _ => none }
def FnExactSumAmountsWrongFalsely : Prop := fnExactSumAmountsRow.holds Try.pinned (OpenSpec.ofChange fnExactSumAmountsWrong)

/-- 'laws.FnExactTakeDown': WHATEVER THE INPUT: true; the input reads as it did. -/
def fnExactTakeDownSpec : ChangeSpec := { name := "fnExactTakeDown", fn := fun _ => fun
  | [d1, d2] => { results := [.lit (.bool true)], args := [d1, d2] }
  | _ => none }
def fnExactTakeDownRow : OpenClaim := { program := "ytbfckglccgemkaa", sum := "9b6957fb45d83cd2736ecf774c2aba55b678fcdf0ebbcddd59f554af0a32e01c", func := "loop.example/g01010/laws.FnExactTakeDown", spec := "fnExactTakeDown", unfollowed := true, recurses := true, apart := false }
def FnExactTakeDownSaid : Prop := fnExactTakeDownRow.holds Try.pinned (OpenSpec.ofChange fnExactTakeDownSpec)

/-- ITS FALSE NEIGHBOUR: 'it returns false'. Refute it at one input. -/
def fnExactTakeDownWrong : ChangeSpec := { name := "fnExactTakeDown", fn := fun _ => fun
  | [d1, d2] => { results := [.lit (.bool false)], args := [d1, d2] }
  | _ => none }
def FnExactTakeDownWrongFalsely : Prop := fnExactTakeDownRow.holds Try.pinned (OpenSpec.ofChange fnExactTakeDownWrong)

/-- 'laws.FnExactIsFairShare': WHATEVER THE INPUT: true; the input reads as it did. -/
def fnExactIsFairShareSpec : ChangeSpec := { name := "fnExactIsFairShare", fn := fun _ => fun
  | [d1, d2, d3] => { results := [.lit (.bool true)], args := [d1, d2, d3] }
  | _ => none }
def fnExactIsFairShareRow : OpenClaim := { program := "ytbfckglccgemkaa", sum := "9b6957fb45d83cd2736ecf774c2aba55b678fcdf0ebbcddd59f554af0a32e01c", func := "loop.example/g01010/laws.FnExactIsFairShare", spec := "fnExactIsFairShare", unfollowed := true, recurses := true, apart := false }
def FnExactIsFairShareSaid : Prop := fnExactIsFairShareRow.holds Try.pinned (OpenSpec.ofChange fnExactIsFairShareSpec)

/-- ITS FALSE NEIGHBOUR: 'it returns false'. Refute it at one input. -/
def fnExactIsFairShareWrong : ChangeSpec := { name := "fnExactIsFairShare", fn := fun _ => fun
  | [d1, d2, d3] => { results := [.lit (.bool false)], args := [d1, d2, d3] }
  | _ => none }
def FnExactIsFairShareWrongFalsely : Prop := fnExactIsFairShareRow.holds Try.pinned (OpenSpec.ofChange fnExactIsFairShareWrong)

/-- 'laws.FnExactShareOut': WHATEVER THE INPUT: true; the input reads as it did. -/
def fnExactShareOutSpec : ChangeSpec := { name := "fnExactShareOut", fn := fun _ => fun
  | [d1, d2] => { results := [.lit (.bool true)], args := [d1, d2] }
  | _ => none }
def fnExactShareOutRow : OpenClaim := { program := "ytbfckglccgemkaa", sum := "9b6957fb45d83cd2736ecf774c2aba55b678fcdf0ebbcddd59f554af0a32e01c", func := "loop.example/g01010/laws.FnExactShareOut", spec := "fnExactShareOut", unfollowed := true, recurses := true, apart := false }
def FnExactShareOutSaid : Prop := fnExactShareOutRow.holds Try.pinned (OpenSpec.ofChange fnExactShareOutSpec)

/-- ITS FALSE NEIGHBOUR: 'it returns false'. Refute it at one input. -/
def fnExactShareOutWrong : ChangeSpec := { name := "fnExactShareOut", fn := fun _ => fun
  | [d1, d2] => { results := [.lit (.bool false)], args := [d1, d2] }
  | _ => none }
def FnExactShareOutWrongFalsely : Prop := fnExactShareOutRow.holds Try.pinned (OpenSpec.ofChange fnExactShareOutWrong)

/-- 'laws.FnExactIsSchedule': WHATEVER THE INPUT: true; the input reads as it did. -/
def fnExactIsScheduleSpec : ChangeSpec := { name := "fnExactIsSchedule", fn := fun _ => fun
  | [d] => { results := [.lit (.bool true)], args := [d] }
  | _ => none }
def fnExactIsScheduleRow : OpenClaim := { program := "ytbfckglccgemkaa", sum := "9b6957fb45d83cd2736ecf774c2aba55b678fcdf0ebbcddd59f554af0a32e01c", func := "loop.example/g01010/laws.FnExactIsSchedule", spec := "fnExactIsSchedule", unfollowed := true, recurses := true, apart := false }
def FnExactIsScheduleSaid : Prop := fnExactIsScheduleRow.holds Try.pinned (OpenSpec.ofChange fnExactIsScheduleSpec)

/-- ITS FALSE NEIGHBOUR: 'it returns false'. Refute it at one input. -/
def fnExactIsScheduleWrong : ChangeSpec := { name := "fnExactIsSchedule", fn := fun _ => fun
  | [d] => { results := [.lit (.bool false)], args := [d] }
  | _ => none }
def FnExactIsScheduleWrongFalsely : Prop := fnExactIsScheduleRow.holds Try.pinned (OpenSpec.ofChange fnExactIsScheduleWrong)

/-- 'laws.FnExactPointsOn': WHATEVER THE INPUT: true; the input reads as it did. -/
def fnExactPointsOnSpec : ChangeSpec := { name := "fnExactPointsOn", fn := fun _ => fun
  | [d1, d2] => { results := [.lit (.bool true)], args := [d1, d2] }
  | _ => none }
def fnExactPointsOnRow : OpenClaim := { program := "ytbfckglccgemkaa", sum := "9b6957fb45d83cd2736ecf774c2aba55b678fcdf0ebbcddd59f554af0a32e01c", func := "loop.example/g01010/laws.FnExactPointsOn", spec := "fnExactPointsOn", unfollowed := true, recurses := true, apart := false }
def FnExactPointsOnSaid : Prop := fnExactPointsOnRow.holds Try.pinned (OpenSpec.ofChange fnExactPointsOnSpec)

/-- ITS FALSE NEIGHBOUR: 'it returns false'. Refute it at one input. -/
def fnExactPointsOnWrong : ChangeSpec := { name := "fnExactPointsOn", fn := fun _ => fun
  | [d1, d2] => { results := [.lit (.bool false)], args := [d1, d2] }
  | _ => none }
def FnExactPointsOnWrongFalsely : Prop := fnExactPointsOnRow.holds Try.pinned (OpenSpec.ofChange fnExactPointsOnWrong)

/-- 'laws.FnExactWeightOf': WHATEVER THE INPUT: true; the input reads as it did. -/
def fnExactWeightOfSpec : ChangeSpec := { name := "fnExactWeightOf", fn := fun _ => fun
  | [d1, d2, d3] => { results := [.lit (.bool true)], args := [d1, d2, d3] }
  | _ => none }
def fnExactWeightOfRow : OpenClaim := { program := "ytbfckglccgemkaa", sum := "9b6957fb45d83cd2736ecf774c2aba55b678fcdf0ebbcddd59f554af0a32e01c", func := "loop.example/g01010/laws.FnExactWeightOf", spec := "fnExactWeightOf", unfollowed := true, recurses := true, apart := false }
def FnExactWeightOfSaid : Prop := fnExactWeightOfRow.holds Try.pinned (OpenSpec.ofChange fnExactWeightOfSpec)

/-- ITS FALSE NEIGHBOUR: 'it returns false'. Refute it at one input. -/
def fnExactWeightOfWrong : ChangeSpec := { name := "fnExactWeightOf", fn := fun _ => fun
  | [d1, d2, d3] => { results := [.lit (.bool false)], args := [d1, d2, d3] }
  | _ => none }
def FnExactWeightOfWrongFalsely : Prop := fnExactWeightOfRow.holds Try.pinned (OpenSpec.ofChange fnExactWeightOfWrong)

/-- 'laws.FnExactInterestBetween': WHATEVER THE INPUT: true; the input reads as it did. -/
def fnExactInterestBetweenSpec : ChangeSpec := { name := "fnExactInterestBetween", fn := fun _ => fun
  | [d1, d2, d3, d4] => { results := [.lit (.bool true)], args := [d1, d2, d3, d4] }
  | _ => none }
def fnExactInterestBetweenRow : OpenClaim := { program := "ytbfckglccgemkaa", sum := "9b6957fb45d83cd2736ecf774c2aba55b678fcdf0ebbcddd59f554af0a32e01c", func := "loop.example/g01010/laws.FnExactInterestBetween", spec := "fnExactInterestBetween", unfollowed := true, recurses := true, apart := false }
def FnExactInterestBetweenSaid : Prop := fnExactInterestBetweenRow.holds Try.pinned (OpenSpec.ofChange fnExactInterestBetweenSpec)

/-- ITS FALSE NEIGHBOUR: 'it returns false'. Refute it at one input. -/
def fnExactInterestBetweenWrong : ChangeSpec := { name := "fnExactInterestBetween", fn := fun _ => fun
  | [d1, d2, d3, d4] => { results := [.lit (.bool false)], args := [d1, d2, d3, d4] }
  | _ => none }
def FnExactInterestBetweenWrongFalsely : Prop := fnExactInterestBetweenRow.holds Try.pinned (OpenSpec.ofChange fnExactInterestBetweenWrong)

/-- 'laws.FnExactDayWhenReached': WHATEVER THE INPUT: true; the input reads as it did. -/
def fnExactDayWhenReachedSpec : ChangeSpec := { name := "fnExactDayWhenReached", fn := fun _ => fun
  | [d1, d2, d3, d4] => { results := [.lit (.bool true)], args := [d1, d2, d3, d4] }
  | _ => none }
def fnExactDayWhenReachedRow : OpenClaim := { program := "ytbfckglccgemkaa", sum := "9b6957fb45d83cd2736ecf774c2aba55b678fcdf0ebbcddd59f554af0a32e01c", func := "loop.example/g01010/laws.FnExactDayWhenReached", spec := "fnExactDayWhenReached", unfollowed := true, recurses := true, apart := false }
def FnExactDayWhenReachedSaid : Prop := fnExactDayWhenReachedRow.holds Try.pinned (OpenSpec.ofChange fnExactDayWhenReachedSpec)

/-- ITS FALSE NEIGHBOUR: 'it returns false'. Refute it at one input. -/
def fnExactDayWhenReachedWrong : ChangeSpec := { name := "fnExactDayWhenReached", fn := fun _ => fun
  | [d1, d2, d3, d4] => { results := [.lit (.bool false)], args := [d1, d2, d3, d4] }
  | _ => none }
def FnExactDayWhenReachedWrongFalsely : Prop := fnExactDayWhenReachedRow.holds Try.pinned (OpenSpec.ofChange fnExactDayWhenReachedWrong)

/-- 'laws.FnExactTotalDue': WHATEVER THE INPUT: true; the input reads as it did. -/
def fnExactTotalDueSpec : ChangeSpec := { name := "fnExactTotalDue", fn := fun _ => fun
  | [d1, d2, d3, d4, d5] => { results := [.lit (.bool true)], args := [d1, d2, d3, d4, d5] }
  | _ => none }
def fnExactTotalDueRow : OpenClaim := { program := "ytbfckglccgemkaa", sum := "9b6957fb45d83cd2736ecf774c2aba55b678fcdf0ebbcddd59f554af0a32e01c", func := "loop.example/g01010/laws.FnExactTotalDue", spec := "fnExactTotalDue", unfollowed := true, recurses := true, apart := false }
def FnExactTotalDueSaid : Prop := fnExactTotalDueRow.holds Try.pinned (OpenSpec.ofChange fnExactTotalDueSpec)

/-- ITS FALSE NEIGHBOUR: 'it returns false'. Refute it at one input. -/
def fnExactTotalDueWrong : ChangeSpec := { name := "fnExactTotalDue", fn := fun _ => fun
  | [d1, d2, d3, d4, d5] => { results := [.lit (.bool false)], args := [d1, d2, d3, d4, d5] }
  | _ => none }
def FnExactTotalDueWrongFalsely : Prop := fnExactTotalDueRow.holds Try.pinned (OpenSpec.ofChange fnExactTotalDueWrong)

/-- 'laws.FnExactIsTable': WHATEVER THE INPUT: true; the input reads as it did. -/
def fnExactIsTableSpec : ChangeSpec := { name := "fnExactIsTable", fn := fun _ => fun
  | [d] => { results := [.lit (.bool true)], args := [d] }
  | _ => none }
def fnExactIsTableRow : OpenClaim := { program := "ytbfckglccgemkaa", sum := "9b6957fb45d83cd2736ecf774c2aba55b678fcdf0ebbcddd59f554af0a32e01c", func := "loop.example/g01010/laws.FnExactIsTable", spec := "fnExactIsTable", unfollowed := true, recurses := true, apart := false }
def FnExactIsTableSaid : Prop := fnExactIsTableRow.holds Try.pinned (OpenSpec.ofChange fnExactIsTableSpec)

/-- ITS FALSE NEIGHBOUR: 'it returns false'. Refute it at one input. -/
def fnExactIsTableWrong : ChangeSpec := { name := "fnExactIsTable", fn := fun _ => fun
  | [d] => { results := [.lit (.bool false)], args := [d] }
  | _ => none }
def FnExactIsTableWrongFalsely : Prop := fnExactIsTableRow.holds Try.pinned (OpenSpec.ofChange fnExactIsTableWrong)

/-- 'laws.FnExactRateOn': WHATEVER THE INPUT: true; the input reads as it did. -/
def fnExactRateOnSpec : ChangeSpec := { name := "fnExactRateOn", fn := fun _ => fun
  | [d1, d2, d3] => { results := [.lit (.bool true)], args := [d1, d2, d3] }
  | _ => none }
def fnExactRateOnRow : OpenClaim := { program := "ytbfckglccgemkaa", sum := "9b6957fb45d83cd2736ecf774c2aba55b678fcdf0ebbcddd59f554af0a32e01c", func := "loop.example/g01010/laws.FnExactRateOn", spec := "fnExactRateOn", unfollowed := true, recurses := true, apart := false }
def FnExactRateOnSaid : Prop := fnExactRateOnRow.holds Try.pinned (OpenSpec.ofChange fnExactRateOnSpec)

/-- ITS FALSE NEIGHBOUR: 'it returns false'. Refute it at one input. -/
def fnExactRateOnWrong : ChangeSpec := { name := "fnExactRateOn", fn := fun _ => fun
  | [d1, d2, d3] => { results := [.lit (.bool false)], args := [d1, d2, d3] }
  | _ => none }
def FnExactRateOnWrongFalsely : Prop := fnExactRateOnRow.holds Try.pinned (OpenSpec.ofChange fnExactRateOnWrong)

/-- 'laws.FnExactDaysWithRate': WHATEVER THE INPUT: true; the input reads as it did. -/
def fnExactDaysWithRateSpec : ChangeSpec := { name := "fnExactDaysWithRate", fn := fun _ => fun
  | [d1, d2] => { results := [.lit (.bool true)], args := [d1, d2] }
  | _ => none }
def fnExactDaysWithRateRow : OpenClaim := { program := "ytbfckglccgemkaa", sum := "9b6957fb45d83cd2736ecf774c2aba55b678fcdf0ebbcddd59f554af0a32e01c", func := "loop.example/g01010/laws.FnExactDaysWithRate", spec := "fnExactDaysWithRate", unfollowed := true, recurses := true, apart := false }
def FnExactDaysWithRateSaid : Prop := fnExactDaysWithRateRow.holds Try.pinned (OpenSpec.ofChange fnExactDaysWithRateSpec)

/-- ITS FALSE NEIGHBOUR: 'it returns false'. Refute it at one input. -/
def fnExactDaysWithRateWrong : ChangeSpec := { name := "fnExactDaysWithRate", fn := fun _ => fun
  | [d1, d2] => { results := [.lit (.bool false)], args := [d1, d2] }
  | _ => none }
def FnExactDaysWithRateWrongFalsely : Prop := fnExactDaysWithRateRow.holds Try.pinned (OpenSpec.ofChange fnExactDaysWithRateWrong)

/-- 'laws.FnExactCrossRate': WHATEVER THE INPUT: true; the input reads as it did. -/
def fnExactCrossRateSpec : ChangeSpec := { name := "fnExactCrossRate", fn := fun _ => fun
  | [d1, d2, d3, d4] => { results := [.lit (.bool true)], args := [d1, d2, d3, d4] }
  | _ => none }
def fnExactCrossRateRow : OpenClaim := { program := "ytbfckglccgemkaa", sum := "9b6957fb45d83cd2736ecf774c2aba55b678fcdf0ebbcddd59f554af0a32e01c", func := "loop.example/g01010/laws.FnExactCrossRate", spec := "fnExactCrossRate", unfollowed := true, recurses := true, apart := false }
def FnExactCrossRateSaid : Prop := fnExactCrossRateRow.holds Try.pinned (OpenSpec.ofChange fnExactCrossRateSpec)

/-- ITS FALSE NEIGHBOUR: 'it returns false'. Refute it at one input. -/
def fnExactCrossRateWrong : ChangeSpec := { name := "fnExactCrossRate", fn := fun _ => fun
  | [d1, d2, d3, d4] => { results := [.lit (.bool false)], args := [d1, d2, d3, d4] }
  | _ => none }
def FnExactCrossRateWrongFalsely : Prop := fnExactCrossRateRow.holds Try.pinned (OpenSpec.ofChange fnExactCrossRateWrong)

/- THE SECOND FORM. 'bulk': how many values and letters a reading holds, each counted each time it is reached (what is shared counts as often as it is met; a slice's spare places count too). A statement '..UptoSaid' is the law's where the arguments, and the package variables that the reading takes, are together of bulk at most 1048576: NARROWER than '..Said'. Prove '..Said' where nothing that the law and all that it calls make is longer than what came in: it says more and counts as full. Else prove '..UptoSaid'. A law counts once. -/
mutual
def uptoBulk {H : Type} : DataW H → Nat
  | .lit (.string bytes) => bytes.length + 1
  | .lit _ => 1
  | .nil => 1
  | .ptr d => uptoBulk d + 1
  | .slice elems spare => uptoBulkAll elems + uptoBulkAll spare + 1
  | .agg parts => uptoBulkAll parts + 1
  | .iface _ d => uptoBulk d + 1
  | .map entries => uptoBulkEntries entries + 1
  | .held _ => 1
def uptoBulkAll {H : Type} : List (DataW H) → Nat
  | [] => 0
  | d :: r => uptoBulk d + uptoBulkAll r
def uptoBulkEntries {H : Type} : List (Lit × DataW H) → Nat
  | [] => 0
  | x :: r => uptoBulkEntry x + uptoBulkEntries r
def uptoBulkEntry {H : Type} : Lit × DataW H → Nat
  | (.string bytes, d) => bytes.length + uptoBulk d + 1
  | (_, d) => uptoBulk d + 1
 end
def uptoSmall : (H : Type) → List (DataW H) → Bool := fun _ ds => decide (uptoBulkAll ds ≤ 1048576)
def OpenSpec.upto (s : _root_.Go.ChangeSpec) : _root_.Go.OpenSpec := { _root_.Go.OpenSpec.ofChange s with cond := some uptoSmall }

/-- 'laws.FnExactSumAmounts', WHERE WHAT IT READS IS OF BULK AT MOST 1048576: true; the input reads as it did. -/
def fnExactSumAmountsUptoRow : OpenClaim := { program := "ytbfckglccgemkaa", sum := "9b6957fb45d83cd2736ecf774c2aba55b678fcdf0ebbcddd59f554af0a32e01c", func := "loop.example/g01010/laws.FnExactSumAmounts", spec := "fnExactSumAmounts", unfollowed := true, recurses := true, apart := false, narrowed := true }
def FnExactSumAmountsUptoSaid : Prop := fnExactSumAmountsUptoRow.holds Try.pinned (OpenSpec.upto fnExactSumAmountsSpec)

/-- 'laws.FnExactTakeDown', WHERE WHAT IT READS IS OF BULK AT MOST 1048576: true; the input reads as it did. -/
def fnExactTakeDownUptoRow : OpenClaim := { program := "ytbfckglccgemkaa", sum := "9b6957fb45d83cd2736ecf774c2aba55b678fcdf0ebbcddd59f554af0a32e01c", func := "loop.example/g01010/laws.FnExactTakeDown", spec := "fnExactTakeDown", unfollowed := true, recurses := true, apart := false, narrowed := true }
def FnExactTakeDownUptoSaid : Prop := fnExactTakeDownUptoRow.holds Try.pinned (OpenSpec.upto fnExactTakeDownSpec)

/-- 'laws.FnExactIsFairShare', WHERE WHAT IT READS IS OF BULK AT MOST 1048576: true; the input reads as it did. -/
def fnExactIsFairShareUptoRow : OpenClaim := { program := "ytbfckglccgemkaa", sum := "9b6957fb45d83cd2736ecf774c2aba55b678fcdf0ebbcddd59f554af0a32e01c", func := "loop.example/g01010/laws.FnExactIsFairShare", spec := "fnExactIsFairShare", unfollowed := true, recurses := true, apart := false, narrowed := true }
def FnExactIsFairShareUptoSaid : Prop := fnExactIsFairShareUptoRow.holds Try.pinned (OpenSpec.upto fnExactIsFairShareSpec)

/-- 'laws.FnExactShareOut', WHERE WHAT IT READS IS OF BULK AT MOST 1048576: true; the input reads as it did. -/
def fnExactShareOutUptoRow : OpenClaim := { program := "ytbfckglccgemkaa", sum := "9b6957fb45d83cd2736ecf774c2aba55b678fcdf0ebbcddd59f554af0a32e01c", func := "loop.example/g01010/laws.FnExactShareOut", spec := "fnExactShareOut", unfollowed := true, recurses := true, apart := false, narrowed := true }
def FnExactShareOutUptoSaid : Prop := fnExactShareOutUptoRow.holds Try.pinned (OpenSpec.upto fnExactShareOutSpec)

/-- 'laws.FnExactIsSchedule', WHERE WHAT IT READS IS OF BULK AT MOST 1048576: true; the input reads as it did. -/
def fnExactIsScheduleUptoRow : OpenClaim := { program := "ytbfckglccgemkaa", sum := "9b6957fb45d83cd2736ecf774c2aba55b678fcdf0ebbcddd59f554af0a32e01c", func := "loop.example/g01010/laws.FnExactIsSchedule", spec := "fnExactIsSchedule", unfollowed := true, recurses := true, apart := false, narrowed := true }
def FnExactIsScheduleUptoSaid : Prop := fnExactIsScheduleUptoRow.holds Try.pinned (OpenSpec.upto fnExactIsScheduleSpec)

/-- 'laws.FnExactPointsOn', WHERE WHAT IT READS IS OF BULK AT MOST 1048576: true; the input reads as it did. -/
def fnExactPointsOnUptoRow : OpenClaim := { program := "ytbfckglccgemkaa", sum := "9b6957fb45d83cd2736ecf774c2aba55b678fcdf0ebbcddd59f554af0a32e01c", func := "loop.example/g01010/laws.FnExactPointsOn", spec := "fnExactPointsOn", unfollowed := true, recurses := true, apart := false, narrowed := true }
def FnExactPointsOnUptoSaid : Prop := fnExactPointsOnUptoRow.holds Try.pinned (OpenSpec.upto fnExactPointsOnSpec)

/-- 'laws.FnExactWeightOf', WHERE WHAT IT READS IS OF BULK AT MOST 1048576: true; the input reads as it did. -/
def fnExactWeightOfUptoRow : OpenClaim := { program := "ytbfckglccgemkaa", sum := "9b6957fb45d83cd2736ecf774c2aba55b678fcdf0ebbcddd59f554af0a32e01c", func := "loop.example/g01010/laws.FnExactWeightOf", spec := "fnExactWeightOf", unfollowed := true, recurses := true, apart := false, narrowed := true }
def FnExactWeightOfUptoSaid : Prop := fnExactWeightOfUptoRow.holds Try.pinned (OpenSpec.upto fnExactWeightOfSpec)

/-- 'laws.FnExactInterestBetween', WHERE WHAT IT READS IS OF BULK AT MOST 1048576: true; the input reads as it did. -/
def fnExactInterestBetweenUptoRow : OpenClaim := { program := "ytbfckglccgemkaa", sum := "9b6957fb45d83cd2736ecf774c2aba55b678fcdf0ebbcddd59f554af0a32e01c", func := "loop.example/g01010/laws.FnExactInterestBetween", spec := "fnExactInterestBetween", unfollowed := true, recurses := true, apart := false, narrowed := true }
def FnExactInterestBetweenUptoSaid : Prop := fnExactInterestBetweenUptoRow.holds Try.pinned (OpenSpec.upto fnExactInterestBetweenSpec)

/-- 'laws.FnExactDayWhenReached', WHERE WHAT IT READS IS OF BULK AT MOST 1048576: true; the input reads as it did. -/
def fnExactDayWhenReachedUptoRow : OpenClaim := { program := "ytbfckglccgemkaa", sum := "9b6957fb45d83cd2736ecf774c2aba55b678fcdf0ebbcddd59f554af0a32e01c", func := "loop.example/g01010/laws.FnExactDayWhenReached", spec := "fnExactDayWhenReached", unfollowed := true, recurses := true, apart := false, narrowed := true }
def FnExactDayWhenReachedUptoSaid : Prop := fnExactDayWhenReachedUptoRow.holds Try.pinned (OpenSpec.upto fnExactDayWhenReachedSpec)

/-- 'laws.FnExactTotalDue', WHERE WHAT IT READS IS OF BULK AT MOST 1048576: true; the input reads as it did. -/
def fnExactTotalDueUptoRow : OpenClaim := { program := "ytbfckglccgemkaa", sum := "9b6957fb45d83cd2736ecf774c2aba55b678fcdf0ebbcddd59f554af0a32e01c", func := "loop.example/g01010/laws.FnExactTotalDue", spec := "fnExactTotalDue", unfollowed := true, recurses := true, apart := false, narrowed := true }
def FnExactTotalDueUptoSaid : Prop := fnExactTotalDueUptoRow.holds Try.pinned (OpenSpec.upto fnExactTotalDueSpec)

/-- 'laws.FnExactIsTable', WHERE WHAT IT READS IS OF BULK AT MOST 1048576: true; the input reads as it did. -/
def fnExactIsTableUptoRow : OpenClaim := { program := "ytbfckglccgemkaa", sum := "9b6957fb45d83cd2736ecf774c2aba55b678fcdf0ebbcddd59f554af0a32e01c", func := "loop.example/g01010/laws.FnExactIsTable", spec := "fnExactIsTable", unfollowed := true, recurses := true, apart := false, narrowed := true }
def FnExactIsTableUptoSaid : Prop := fnExactIsTableUptoRow.holds Try.pinned (OpenSpec.upto fnExactIsTableSpec)

/-- 'laws.FnExactRateOn', WHERE WHAT IT READS IS OF BULK AT MOST 1048576: true; the input reads as it did. -/
def fnExactRateOnUptoRow : OpenClaim := { program := "ytbfckglccgemkaa", sum := "9b6957fb45d83cd2736ecf774c2aba55b678fcdf0ebbcddd59f554af0a32e01c", func := "loop.example/g01010/laws.FnExactRateOn", spec := "fnExactRateOn", unfollowed := true, recurses := true, apart := false, narrowed := true }
def FnExactRateOnUptoSaid : Prop := fnExactRateOnUptoRow.holds Try.pinned (OpenSpec.upto fnExactRateOnSpec)

/-- 'laws.FnExactDaysWithRate', WHERE WHAT IT READS IS OF BULK AT MOST 1048576: true; the input reads as it did. -/
def fnExactDaysWithRateUptoRow : OpenClaim := { program := "ytbfckglccgemkaa", sum := "9b6957fb45d83cd2736ecf774c2aba55b678fcdf0ebbcddd59f554af0a32e01c", func := "loop.example/g01010/laws.FnExactDaysWithRate", spec := "fnExactDaysWithRate", unfollowed := true, recurses := true, apart := false, narrowed := true }
def FnExactDaysWithRateUptoSaid : Prop := fnExactDaysWithRateUptoRow.holds Try.pinned (OpenSpec.upto fnExactDaysWithRateSpec)

/-- 'laws.FnExactCrossRate', WHERE WHAT IT READS IS OF BULK AT MOST 1048576: true; the input reads as it did. -/
def fnExactCrossRateUptoRow : OpenClaim := { program := "ytbfckglccgemkaa", sum := "9b6957fb45d83cd2736ecf774c2aba55b678fcdf0ebbcddd59f554af0a32e01c", func := "loop.example/g01010/laws.FnExactCrossRate", spec := "fnExactCrossRate", unfollowed := true, recurses := true, apart := false, narrowed := true }
def FnExactCrossRateUptoSaid : Prop := fnExactCrossRateUptoRow.holds Try.pinned (OpenSpec.upto fnExactCrossRateSpec)

end Rows
end Go.Proofs.Ytbfckglccgemkaa
