/-
  No cell of these rows narrows 'for every input' (looked for: loops, veiled, ifaces, maps, wideKeys, modest, calm, conditions, laid).
  DERIVED. THE GIVEN ROWS OF THIS SEAT. 14 by the template 'for every input the law returns true; each argument reads behind the call as it read before'; 0 by the template 'total and deterministic' (their statements: YtgadnnfecilfcaaTotals.lean).
  GIVEN WITH THE SEED: the statements are not yours to turn. If you find one false, say at which input.
  Laid BY PROGRAM, IN A SANDBOX (cutbox-rows.mjs): the forced cells as the released guide's own fill.sh prints them over the translation 14f8d0063edd80bf… (all of the seat's roots in one cut). By AI agents, Wed Nov 11 2026. No macro, syntax, notation, axiom, sorry.
-/
import Derived.Test.YtgadnnfecilfcaaChecked
import GoSem.Claim
import GoSem.ClaimJoined
import GoSem.ClaimMapViews
import Derived.JoinedTies
import Derived.KernelRfl
namespace Go.Proofs.Ytgadnnfecilfcaa
/- THE CELL 'sum', in the pinned program and in every row, IS THE sha256 OF THE DUMP (.gsa) THAT YtgadnnfecilfcaaProg.lean LOADS. Nothing in Lean hashes anything: it is a label: what it is worth is what the hold of that sum in a sandbox is worth. -/
noncomputable def Try.pinned : Pinned := { name := "ytgadnnfecilfcaa", sum := "14f8d0063edd80bfa1708ee6dc8576a711542f77425c5e2b146df49ba629ca91", checked := Try.checked }
namespace Rows
def none {H : Type} : Left H := { results := [], args := [] }

/-- 'laws.FnExactConstants': WHATEVER THE INPUT: true; the input reads as it did. -/
def fnExactConstantsSpec : ChangeSpec := { name := "fnExactConstants", fn := fun _ => fun
  | [] => { results := [.lit (.bool true)], args := [] }
  | _ => none }
def fnExactConstantsRow : OpenClaim := { program := "ytgadnnfecilfcaa", sum := "14f8d0063edd80bfa1708ee6dc8576a711542f77425c5e2b146df49ba629ca91", func := "loop.example/g01010/laws.FnExactConstants", spec := "fnExactConstants", apart := false }
def FnExactConstantsSaid : Prop := fnExactConstantsRow.holds Try.pinned (OpenSpec.ofChange fnExactConstantsSpec)

/-- ITS FALSE NEIGHBOUR: 'it returns false'. Refute it at one input. -/
def fnExactConstantsWrong : ChangeSpec := { name := "fnExactConstants", fn := fun _ => fun
  | [] => { results := [.lit (.bool false)], args := [] }
  | _ => none }
def FnExactConstantsWrongFalsely : Prop := fnExactConstantsRow.holds Try.pinned (OpenSpec.ofChange fnExactConstantsWrong)

/-- 'laws.FnExactIsAmount': WHATEVER THE INPUT: true; the input reads as it did. -/
def fnExactIsAmountSpec : ChangeSpec := { name := "fnExactIsAmount", fn := fun _ => fun
  | [d] => { results := [.lit (.bool true)], args := [d] }
  | _ => none }
def fnExactIsAmountRow : OpenClaim := { program := "ytgadnnfecilfcaa", sum := "14f8d0063edd80bfa1708ee6dc8576a711542f77425c5e2b146df49ba629ca91", func := "loop.example/g01010/laws.FnExactIsAmount", spec := "fnExactIsAmount", apart := false }
def FnExactIsAmountSaid : Prop := fnExactIsAmountRow.holds Try.pinned (OpenSpec.ofChange fnExactIsAmountSpec)

/-- ITS FALSE NEIGHBOUR: 'it returns false'. Refute it at one input. -/
def fnExactIsAmountWrong : ChangeSpec := { name := "fnExactIsAmount", fn := fun _ => fun
  | [d] => { results := [.lit (.bool false)], args := [d] }
  | _ => none }
def FnExactIsAmountWrongFalsely : Prop := fnExactIsAmountRow.holds Try.pinned (OpenSpec.ofChange fnExactIsAmountWrong)

/-- 'laws.FnExactIsCode': WHATEVER THE INPUT: true; the input reads as it did. -/
def fnExactIsCodeSpec : ChangeSpec := { name := "fnExactIsCode", fn := fun _ => fun
  | [d] => { results := [.lit (.bool true)], args := [d] }
  | _ => none }
def fnExactIsCodeRow : OpenClaim := { program := "ytgadnnfecilfcaa", sum := "14f8d0063edd80bfa1708ee6dc8576a711542f77425c5e2b146df49ba629ca91", func := "loop.example/g01010/laws.FnExactIsCode", spec := "fnExactIsCode", apart := false }
def FnExactIsCodeSaid : Prop := fnExactIsCodeRow.holds Try.pinned (OpenSpec.ofChange fnExactIsCodeSpec)

/-- ITS FALSE NEIGHBOUR: 'it returns false'. Refute it at one input. -/
def fnExactIsCodeWrong : ChangeSpec := { name := "fnExactIsCode", fn := fun _ => fun
  | [d] => { results := [.lit (.bool false)], args := [d] }
  | _ => none }
def FnExactIsCodeWrongFalsely : Prop := fnExactIsCodeRow.holds Try.pinned (OpenSpec.ofChange fnExactIsCodeWrong)

/-- 'laws.FnExactIsPartyCode': WHATEVER THE INPUT: true; the input reads as it did. -/
def fnExactIsPartyCodeSpec : ChangeSpec := { name := "fnExactIsPartyCode", fn := fun _ => fun
  | [d] => { results := [.lit (.bool true)], args := [d] }
  | _ => none }
def fnExactIsPartyCodeRow : OpenClaim := { program := "ytgadnnfecilfcaa", sum := "14f8d0063edd80bfa1708ee6dc8576a711542f77425c5e2b146df49ba629ca91", func := "loop.example/g01010/laws.FnExactIsPartyCode", spec := "fnExactIsPartyCode", apart := false }
def FnExactIsPartyCodeSaid : Prop := fnExactIsPartyCodeRow.holds Try.pinned (OpenSpec.ofChange fnExactIsPartyCodeSpec)

/-- ITS FALSE NEIGHBOUR: 'it returns false'. Refute it at one input. -/
def fnExactIsPartyCodeWrong : ChangeSpec := { name := "fnExactIsPartyCode", fn := fun _ => fun
  | [d] => { results := [.lit (.bool false)], args := [d] }
  | _ => none }
def FnExactIsPartyCodeWrongFalsely : Prop := fnExactIsPartyCodeRow.holds Try.pinned (OpenSpec.ofChange fnExactIsPartyCodeWrong)

/-- 'laws.FnExactIsDate': WHATEVER THE INPUT: true; the input reads as it did. -/
def fnExactIsDateSpec : ChangeSpec := { name := "fnExactIsDate", fn := fun _ => fun
  | [d] => { results := [.lit (.bool true)], args := [d] }
  | _ => none }
def fnExactIsDateRow : OpenClaim := { program := "ytgadnnfecilfcaa", sum := "14f8d0063edd80bfa1708ee6dc8576a711542f77425c5e2b146df49ba629ca91", func := "loop.example/g01010/laws.FnExactIsDate", spec := "fnExactIsDate", apart := false }
def FnExactIsDateSaid : Prop := fnExactIsDateRow.holds Try.pinned (OpenSpec.ofChange fnExactIsDateSpec)

/-- ITS FALSE NEIGHBOUR: 'it returns false'. Refute it at one input. -/
def fnExactIsDateWrong : ChangeSpec := { name := "fnExactIsDate", fn := fun _ => fun
  | [d] => { results := [.lit (.bool false)], args := [d] }
  | _ => none }
def FnExactIsDateWrongFalsely : Prop := fnExactIsDateRow.holds Try.pinned (OpenSpec.ofChange fnExactIsDateWrong)

/-- 'laws.FnExactWeekdayOf': WHATEVER THE INPUT: true; the input reads as it did. -/
def fnExactWeekdayOfSpec : ChangeSpec := { name := "fnExactWeekdayOf", fn := fun _ => fun
  | [d] => { results := [.lit (.bool true)], args := [d] }
  | _ => none }
def fnExactWeekdayOfRow : OpenClaim := { program := "ytgadnnfecilfcaa", sum := "14f8d0063edd80bfa1708ee6dc8576a711542f77425c5e2b146df49ba629ca91", func := "loop.example/g01010/laws.FnExactWeekdayOf", spec := "fnExactWeekdayOf", apart := false }
def FnExactWeekdayOfSaid : Prop := fnExactWeekdayOfRow.holds Try.pinned (OpenSpec.ofChange fnExactWeekdayOfSpec)

/-- ITS FALSE NEIGHBOUR: 'it returns false'. Refute it at one input. -/
def fnExactWeekdayOfWrong : ChangeSpec := { name := "fnExactWeekdayOf", fn := fun _ => fun
  | [d] => { results := [.lit (.bool false)], args := [d] }
  | _ => none }
def FnExactWeekdayOfWrongFalsely : Prop := fnExactWeekdayOfRow.holds Try.pinned (OpenSpec.ofChange fnExactWeekdayOfWrong)

/-- 'laws.FnExactProportionOf': WHATEVER THE INPUT: true; the input reads as it did. -/
def fnExactProportionOfSpec : ChangeSpec := { name := "fnExactProportionOf", fn := fun _ => fun
  | [d1, d2, d3] => { results := [.lit (.bool true)], args := [d1, d2, d3] }
  | _ => none }
def fnExactProportionOfRow : OpenClaim := { program := "ytgadnnfecilfcaa", sum := "14f8d0063edd80bfa1708ee6dc8576a711542f77425c5e2b146df49ba629ca91", func := "loop.example/g01010/laws.FnExactProportionOf", spec := "fnExactProportionOf", apart := false }
def FnExactProportionOfSaid : Prop := fnExactProportionOfRow.holds Try.pinned (OpenSpec.ofChange fnExactProportionOfSpec)

/-- ITS FALSE NEIGHBOUR: 'it returns false'. Refute it at one input. -/
def fnExactProportionOfWrong : ChangeSpec := { name := "fnExactProportionOf", fn := fun _ => fun
  | [d1, d2, d3] => { results := [.lit (.bool false)], args := [d1, d2, d3] }
  | _ => none }
def FnExactProportionOfWrongFalsely : Prop := fnExactProportionOfRow.holds Try.pinned (OpenSpec.ofChange fnExactProportionOfWrong)

/-- 'laws.FnExactCommissionOf': WHATEVER THE INPUT: true; the input reads as it did. -/
def fnExactCommissionOfSpec : ChangeSpec := { name := "fnExactCommissionOf", fn := fun _ => fun
  | [d1, d2] => { results := [.lit (.bool true)], args := [d1, d2] }
  | _ => none }
def fnExactCommissionOfRow : OpenClaim := { program := "ytgadnnfecilfcaa", sum := "14f8d0063edd80bfa1708ee6dc8576a711542f77425c5e2b146df49ba629ca91", func := "loop.example/g01010/laws.FnExactCommissionOf", spec := "fnExactCommissionOf", apart := false }
def FnExactCommissionOfSaid : Prop := fnExactCommissionOfRow.holds Try.pinned (OpenSpec.ofChange fnExactCommissionOfSpec)

/-- ITS FALSE NEIGHBOUR: 'it returns false'. Refute it at one input. -/
def fnExactCommissionOfWrong : ChangeSpec := { name := "fnExactCommissionOf", fn := fun _ => fun
  | [d1, d2] => { results := [.lit (.bool false)], args := [d1, d2] }
  | _ => none }
def FnExactCommissionOfWrongFalsely : Prop := fnExactCommissionOfRow.holds Try.pinned (OpenSpec.ofChange fnExactCommissionOfWrong)

/-- 'laws.FnExactSimpleInterest': WHATEVER THE INPUT: true; the input reads as it did. -/
def fnExactSimpleInterestSpec : ChangeSpec := { name := "fnExactSimpleInterest", fn := fun _ => fun
  | [d1, d2, d3] => { results := [.lit (.bool true)], args := [d1, d2, d3] }
  | _ => none }
def fnExactSimpleInterestRow : OpenClaim := { program := "ytgadnnfecilfcaa", sum := "14f8d0063edd80bfa1708ee6dc8576a711542f77425c5e2b146df49ba629ca91", func := "loop.example/g01010/laws.FnExactSimpleInterest", spec := "fnExactSimpleInterest", apart := false }
def FnExactSimpleInterestSaid : Prop := fnExactSimpleInterestRow.holds Try.pinned (OpenSpec.ofChange fnExactSimpleInterestSpec)

/-- ITS FALSE NEIGHBOUR: 'it returns false'. Refute it at one input. -/
def fnExactSimpleInterestWrong : ChangeSpec := { name := "fnExactSimpleInterest", fn := fun _ => fun
  | [d1, d2, d3] => { results := [.lit (.bool false)], args := [d1, d2, d3] }
  | _ => none }
def FnExactSimpleInterestWrongFalsely : Prop := fnExactSimpleInterestRow.holds Try.pinned (OpenSpec.ofChange fnExactSimpleInterestWrong)

/-- 'laws.FnExactIsInterest': WHATEVER THE INPUT: true; the input reads as it did. -/
def fnExactIsInterestSpec : ChangeSpec := { name := "fnExactIsInterest", fn := fun _ => fun
  | [d] => { results := [.lit (.bool true)], args := [d] }
  | _ => none }
def fnExactIsInterestRow : OpenClaim := { program := "ytgadnnfecilfcaa", sum := "14f8d0063edd80bfa1708ee6dc8576a711542f77425c5e2b146df49ba629ca91", func := "loop.example/g01010/laws.FnExactIsInterest", spec := "fnExactIsInterest", apart := false }
def FnExactIsInterestSaid : Prop := fnExactIsInterestRow.holds Try.pinned (OpenSpec.ofChange fnExactIsInterestSpec)

/-- ITS FALSE NEIGHBOUR: 'it returns false'. Refute it at one input. -/
def fnExactIsInterestWrong : ChangeSpec := { name := "fnExactIsInterest", fn := fun _ => fun
  | [d] => { results := [.lit (.bool false)], args := [d] }
  | _ => none }
def FnExactIsInterestWrongFalsely : Prop := fnExactIsInterestRow.holds Try.pinned (OpenSpec.ofChange fnExactIsInterestWrong)

/-- 'laws.FnExactDayOf': WHATEVER THE INPUT: true; the input reads as it did. -/
def fnExactDayOfSpec : ChangeSpec := { name := "fnExactDayOf", fn := fun _ => fun
  | [d] => { results := [.lit (.bool true)], args := [d] }
  | _ => none }
def fnExactDayOfRow : OpenClaim := { program := "ytgadnnfecilfcaa", sum := "14f8d0063edd80bfa1708ee6dc8576a711542f77425c5e2b146df49ba629ca91", func := "loop.example/g01010/laws.FnExactDayOf", spec := "fnExactDayOf", apart := false }
def FnExactDayOfSaid : Prop := fnExactDayOfRow.holds Try.pinned (OpenSpec.ofChange fnExactDayOfSpec)

/-- ITS FALSE NEIGHBOUR: 'it returns false'. Refute it at one input. -/
def fnExactDayOfWrong : ChangeSpec := { name := "fnExactDayOf", fn := fun _ => fun
  | [d] => { results := [.lit (.bool false)], args := [d] }
  | _ => none }
def FnExactDayOfWrongFalsely : Prop := fnExactDayOfRow.holds Try.pinned (OpenSpec.ofChange fnExactDayOfWrong)

/-- 'laws.FnExactNextBusinessDay': WHATEVER THE INPUT: true; the input reads as it did. -/
def fnExactNextBusinessDaySpec : ChangeSpec := { name := "fnExactNextBusinessDay", fn := fun _ => fun
  | [d1, d2] => { results := [.lit (.bool true)], args := [d1, d2] }
  | _ => none }
def fnExactNextBusinessDayRow : OpenClaim := { program := "ytgadnnfecilfcaa", sum := "14f8d0063edd80bfa1708ee6dc8576a711542f77425c5e2b146df49ba629ca91", func := "loop.example/g01010/laws.FnExactNextBusinessDay", spec := "fnExactNextBusinessDay", apart := false }
def FnExactNextBusinessDaySaid : Prop := fnExactNextBusinessDayRow.holds Try.pinned (OpenSpec.ofChange fnExactNextBusinessDaySpec)

/-- ITS FALSE NEIGHBOUR: 'it returns false'. Refute it at one input. -/
def fnExactNextBusinessDayWrong : ChangeSpec := { name := "fnExactNextBusinessDay", fn := fun _ => fun
  | [d1, d2] => { results := [.lit (.bool false)], args := [d1, d2] }
  | _ => none }
def FnExactNextBusinessDayWrongFalsely : Prop := fnExactNextBusinessDayRow.holds Try.pinned (OpenSpec.ofChange fnExactNextBusinessDayWrong)

/-- 'laws.FnExactAddMonths': WHATEVER THE INPUT: true; the input reads as it did. -/
def fnExactAddMonthsSpec : ChangeSpec := { name := "fnExactAddMonths", fn := fun _ => fun
  | [d1, d2] => { results := [.lit (.bool true)], args := [d1, d2] }
  | _ => none }
def fnExactAddMonthsRow : OpenClaim := { program := "ytgadnnfecilfcaa", sum := "14f8d0063edd80bfa1708ee6dc8576a711542f77425c5e2b146df49ba629ca91", func := "loop.example/g01010/laws.FnExactAddMonths", spec := "fnExactAddMonths", apart := false }
def FnExactAddMonthsSaid : Prop := fnExactAddMonthsRow.holds Try.pinned (OpenSpec.ofChange fnExactAddMonthsSpec)

/-- ITS FALSE NEIGHBOUR: 'it returns false'. Refute it at one input. -/
def fnExactAddMonthsWrong : ChangeSpec := { name := "fnExactAddMonths", fn := fun _ => fun
  | [d1, d2] => { results := [.lit (.bool false)], args := [d1, d2] }
  | _ => none }
def FnExactAddMonthsWrongFalsely : Prop := fnExactAddMonthsRow.holds Try.pinned (OpenSpec.ofChange fnExactAddMonthsWrong)

/-- 'laws.FnExactDateOf': WHATEVER THE INPUT: true; the input reads as it did. -/
def fnExactDateOfSpec : ChangeSpec := { name := "fnExactDateOf", fn := fun _ => fun
  | [d] => { results := [.lit (.bool true)], args := [d] }
  | _ => none }
def fnExactDateOfRow : OpenClaim := { program := "ytgadnnfecilfcaa", sum := "14f8d0063edd80bfa1708ee6dc8576a711542f77425c5e2b146df49ba629ca91", func := "loop.example/g01010/laws.FnExactDateOf", spec := "fnExactDateOf", apart := false }
def FnExactDateOfSaid : Prop := fnExactDateOfRow.holds Try.pinned (OpenSpec.ofChange fnExactDateOfSpec)

/-- ITS FALSE NEIGHBOUR: 'it returns false'. Refute it at one input. -/
def fnExactDateOfWrong : ChangeSpec := { name := "fnExactDateOf", fn := fun _ => fun
  | [d] => { results := [.lit (.bool false)], args := [d] }
  | _ => none }
def FnExactDateOfWrongFalsely : Prop := fnExactDateOfRow.holds Try.pinned (OpenSpec.ofChange fnExactDateOfWrong)

/- THE SECOND FORM. 'bulk': how many values and letters a reading holds, each counted each time it is reached (what is shared counts as often as it is met; a slice's spare places count too). A statement '..UptoSaid' is the law's where the arguments, and the package variables that the reading takes, are together of bulk at most 1048576: NARROWER than '..Said'. Prove '..Said' where nothing that the law and all that it calls make is longer than what came in: it says more and counts as full. Else prove '..UptoSaid'. A law counts once. -/
mutual
def uptoBulk {H : Type} : DataW H → Nat
  | .lit (.string bytes) => bytes.length + 1
  | .lit _ => 1
  | .nil => 1
  | .ptr d => uptoBulk d + 1
  | .slice elems spare => uptoBulkAll elems + uptoBulkAll spare + 1
  | .agg parts => uptoBulkAll parts + 1
  | .iface _ d => uptoBulk d + 1
  | .map entries => uptoBulkEntries entries + 1
  | .held _ => 1
def uptoBulkAll {H : Type} : List (DataW H) → Nat
  | [] => 0
  | d :: r => uptoBulk d + uptoBulkAll r
def uptoBulkEntries {H : Type} : List (Lit × DataW H) → Nat
  | [] => 0
  | x :: r => uptoBulkEntry x + uptoBulkEntries r
def uptoBulkEntry {H : Type} : Lit × DataW H → Nat
  | (.string bytes, d) => bytes.length + uptoBulk d + 1
  | (_, d) => uptoBulk d + 1
 end
def uptoSmall : (H : Type) → List (DataW H) → Bool := fun _ ds => decide (uptoBulkAll ds ≤ 1048576)
def OpenSpec.upto (s : _root_.Go.ChangeSpec) : _root_.Go.OpenSpec := { _root_.Go.OpenSpec.ofChange s with cond := some uptoSmall }

/-- 'laws.FnExactConstants', WHERE WHAT IT READS IS OF BULK AT MOST 1048576: true; the input reads as it did. -/
def fnExactConstantsUptoRow : OpenClaim := { program := "ytgadnnfecilfcaa", sum := "14f8d0063edd80bfa1708ee6dc8576a711542f77425c5e2b146df49ba629ca91", func := "loop.example/g01010/laws.FnExactConstants", spec := "fnExactConstants", apart := false, narrowed := true }
def FnExactConstantsUptoSaid : Prop := fnExactConstantsUptoRow.holds Try.pinned (OpenSpec.upto fnExactConstantsSpec)

/-- 'laws.FnExactIsAmount', WHERE WHAT IT READS IS OF BULK AT MOST 1048576: true; the input reads as it did. -/
def fnExactIsAmountUptoRow : OpenClaim := { program := "ytgadnnfecilfcaa", sum := "14f8d0063edd80bfa1708ee6dc8576a711542f77425c5e2b146df49ba629ca91", func := "loop.example/g01010/laws.FnExactIsAmount", spec := "fnExactIsAmount", apart := false, narrowed := true }
def FnExactIsAmountUptoSaid : Prop := fnExactIsAmountUptoRow.holds Try.pinned (OpenSpec.upto fnExactIsAmountSpec)

/-- 'laws.FnExactIsCode', WHERE WHAT IT READS IS OF BULK AT MOST 1048576: true; the input reads as it did. -/
def fnExactIsCodeUptoRow : OpenClaim := { program := "ytgadnnfecilfcaa", sum := "14f8d0063edd80bfa1708ee6dc8576a711542f77425c5e2b146df49ba629ca91", func := "loop.example/g01010/laws.FnExactIsCode", spec := "fnExactIsCode", apart := false, narrowed := true }
def FnExactIsCodeUptoSaid : Prop := fnExactIsCodeUptoRow.holds Try.pinned (OpenSpec.upto fnExactIsCodeSpec)

/-- 'laws.FnExactIsPartyCode', WHERE WHAT IT READS IS OF BULK AT MOST 1048576: true; the input reads as it did. -/
def fnExactIsPartyCodeUptoRow : OpenClaim := { program := "ytgadnnfecilfcaa", sum := "14f8d0063edd80bfa1708ee6dc8576a711542f77425c5e2b146df49ba629ca91", func := "loop.example/g01010/laws.FnExactIsPartyCode", spec := "fnExactIsPartyCode", apart := false, narrowed := true }
def FnExactIsPartyCodeUptoSaid : Prop := fnExactIsPartyCodeUptoRow.holds Try.pinned (OpenSpec.upto fnExactIsPartyCodeSpec)

/-- 'laws.FnExactIsDate', WHERE WHAT IT READS IS OF BULK AT MOST 1048576: true; the input reads as it did. -/
def fnExactIsDateUptoRow : OpenClaim := { program := "ytgadnnfecilfcaa", sum := "14f8d0063edd80bfa1708ee6dc8576a711542f77425c5e2b146df49ba629ca91", func := "loop.example/g01010/laws.FnExactIsDate", spec := "fnExactIsDate", apart := false, narrowed := true }
def FnExactIsDateUptoSaid : Prop := fnExactIsDateUptoRow.holds Try.pinned (OpenSpec.upto fnExactIsDateSpec)

/-- 'laws.FnExactWeekdayOf', WHERE WHAT IT READS IS OF BULK AT MOST 1048576: true; the input reads as it did. -/
def fnExactWeekdayOfUptoRow : OpenClaim := { program := "ytgadnnfecilfcaa", sum := "14f8d0063edd80bfa1708ee6dc8576a711542f77425c5e2b146df49ba629ca91", func := "loop.example/g01010/laws.FnExactWeekdayOf", spec := "fnExactWeekdayOf", apart := false, narrowed := true }
def FnExactWeekdayOfUptoSaid : Prop := fnExactWeekdayOfUptoRow.holds Try.pinned (OpenSpec.upto fnExactWeekdayOfSpec)

/-- 'laws.FnExactProportionOf', WHERE WHAT IT READS IS OF BULK AT MOST 1048576: true; the input reads as it did. -/
def fnExactProportionOfUptoRow : OpenClaim := { program := "ytgadnnfecilfcaa", sum := "14f8d0063edd80bfa1708ee6dc8576a711542f77425c5e2b146df49ba629ca91", func := "loop.example/g01010/laws.FnExactProportionOf", spec := "fnExactProportionOf", apart := false, narrowed := true }
def FnExactProportionOfUptoSaid : Prop := fnExactProportionOfUptoRow.holds Try.pinned (OpenSpec.upto fnExactProportionOfSpec)

/-- 'laws.FnExactCommissionOf', WHERE WHAT IT READS IS OF BULK AT MOST 1048576: true; the input reads as it did. -/
def fnExactCommissionOfUptoRow : OpenClaim := { program := "ytgadnnfecilfcaa", sum := "14f8d0063edd80bfa1708ee6dc8576a711542f77425c5e2b146df49ba629ca91", func := "loop.example/g01010/laws.FnExactCommissionOf", spec := "fnExactCommissionOf", apart := false, narrowed := true }
def FnExactCommissionOfUptoSaid : Prop := fnExactCommissionOfUptoRow.holds Try.pinned (OpenSpec.upto fnExactCommissionOfSpec)

/-- 'laws.FnExactSimpleInterest', WHERE WHAT IT READS IS OF BULK AT MOST 1048576: true; the input reads as it did. -/
def fnExactSimpleInterestUptoRow : OpenClaim := { program := "ytgadnnfecilfcaa", sum := "14f8d0063edd80bfa1708ee6dc8576a711542f77425c5e2b146df49ba629ca91", func := "loop.example/g01010/laws.FnExactSimpleInterest", spec := "fnExactSimpleInterest", apart := false, narrowed := true }
def FnExactSimpleInterestUptoSaid : Prop := fnExactSimpleInterestUptoRow.holds Try.pinned (OpenSpec.upto fnExactSimpleInterestSpec)

/-- 'laws.FnExactIsInterest', WHERE WHAT IT READS IS OF BULK AT MOST 1048576: true; the input reads as it did. -/
def fnExactIsInterestUptoRow : OpenClaim := { program := "ytgadnnfecilfcaa", sum := "14f8d0063edd80bfa1708ee6dc8576a711542f77425c5e2b146df49ba629ca91", func := "loop.example/g01010/laws.FnExactIsInterest", spec := "fnExactIsInterest", apart := false, narrowed := true }
def FnExactIsInterestUptoSaid : Prop := fnExactIsInterestUptoRow.holds Try.pinned (OpenSpec.upto fnExactIsInterestSpec)

/-- 'laws.FnExactDayOf', WHERE WHAT IT READS IS OF BULK AT MOST 1048576: true; the input reads as it did. -/
def fnExactDayOfUptoRow : OpenClaim := { program := "ytgadnnfecilfcaa", sum := "14f8d0063edd80bfa1708ee6dc8576a711542f77425c5e2b146df49ba629ca91", func := "loop.example/g01010/laws.FnExactDayOf", spec := "fnExactDayOf", apart := false, narrowed := true }
def FnExactDayOfUptoSaid : Prop := fnExactDayOfUptoRow.holds Try.pinned (OpenSpec.upto fnExactDayOfSpec)

/-- 'laws.FnExactNextBusinessDay', WHERE WHAT IT READS IS OF BULK AT MOST 1048576: true; the input reads as it did. -/
def fnExactNextBusinessDayUptoRow : OpenClaim := { program := "ytgadnnfecilfcaa", sum := "14f8d0063edd80bfa1708ee6dc8576a711542f77425c5e2b146df49ba629ca91", func := "loop.example/g01010/laws.FnExactNextBusinessDay", spec := "fnExactNextBusinessDay", apart := false, narrowed := true }
def FnExactNextBusinessDayUptoSaid : Prop := fnExactNextBusinessDayUptoRow.holds Try.pinned (OpenSpec.upto fnExactNextBusinessDaySpec)

/-- 'laws.FnExactAddMonths', WHERE WHAT IT READS IS OF BULK AT MOST 1048576: true; the input reads as it did. -/
def fnExactAddMonthsUptoRow : OpenClaim := { program := "ytgadnnfecilfcaa", sum := "14f8d0063edd80bfa1708ee6dc8576a711542f77425c5e2b146df49ba629ca91", func := "loop.example/g01010/laws.FnExactAddMonths", spec := "fnExactAddMonths", apart := false, narrowed := true }
def FnExactAddMonthsUptoSaid : Prop := fnExactAddMonthsUptoRow.holds Try.pinned (OpenSpec.upto fnExactAddMonthsSpec)

/-- 'laws.FnExactDateOf', WHERE WHAT IT READS IS OF BULK AT MOST 1048576: true; the input reads as it did. -/
def fnExactDateOfUptoRow : OpenClaim := { program := "ytgadnnfecilfcaa", sum := "14f8d0063edd80bfa1708ee6dc8576a711542f77425c5e2b146df49ba629ca91", func := "loop.example/g01010/laws.FnExactDateOf", spec := "fnExactDateOf", apart := false, narrowed := true }
def FnExactDateOfUptoSaid : Prop := fnExactDateOfUptoRow.holds Try.pinned (OpenSpec.upto fnExactDateOfSpec)

end Rows
end Go.Proofs.Ytgadnnfecilfcaa
