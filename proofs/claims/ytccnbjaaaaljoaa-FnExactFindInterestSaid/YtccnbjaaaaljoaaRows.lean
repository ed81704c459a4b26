/-
  No cell of these rows narrows 'for every input' (looked for: loops, veiled, ifaces, maps, wideKeys, modest, calm, conditions, laid).
  DERIVED. THE GIVEN ROWS OF THIS SEAT. 11 by the template 'for every input the law returns true; each argument reads behind the call as it read before'; 0 by the template 'total and deterministic' (their statements: YtccnbjaaaaljoaaTotals.lean).
  GIVEN WITH THE SEED: the statements are not yours to turn. If you find one false, say at which input.
  Laid BY PROGRAM, IN A SANDBOX (cutbox-rows.mjs): the forced cells as the released guide's own fill.sh prints them over the translation 2c778731fe395b18… (all of the seat's roots in one cut). By AI agents, Wed Nov 11 2026. No macro, syntax, notation, axiom, sorry.
-/
import Derived.Test.YtccnbjaaaaljoaaChecked
import GoSem.Claim
import GoSem.ClaimJoined
import GoSem.ClaimMapViews
import Derived.JoinedTies
import Derived.KernelRfl
namespace Go.Proofs.Ytccnbjaaaaljoaa
/- THE CELL 'sum', in the pinned program and in every row, IS THE sha256 OF THE DUMP (.gsa) THAT YtccnbjaaaaljoaaProg.lean LOADS. Nothing in Lean hashes anything: it is a label: what it is worth is what the hold of that sum in a sandbox is worth. -/
noncomputable def Try.pinned : Pinned := { name := "ytccnbjaaaaljoaa", sum := "2c778731fe395b18bef27f407b0ecd0185d44419492741f146410c106cb93f20", checked := Try.checked }
namespace Rows
def none {H : Type} : Left H := { results := [], args := [] }

/-- 'laws.FnProportions': WHATEVER THE INPUT: true; the input reads as it did. -/
def fnProportionsSpec : ChangeSpec := { name := "fnProportions", fn := fun _ => fun
  | [d] => { results := [.lit (.bool true)], args := [d] }
  | _ => none }
def fnProportionsRow : OpenClaim := { program := "ytccnbjaaaaljoaa", sum := "2c778731fe395b18bef27f407b0ecd0185d44419492741f146410c106cb93f20", func := "loop.example/g01010/laws.FnProportions", spec := "fnProportions", unfollowed := true, recurses := true, apart := false }
def FnProportionsSaid : Prop := fnProportionsRow.holds Try.pinned (OpenSpec.ofChange fnProportionsSpec)

/-- ITS FALSE NEIGHBOUR: 'it returns false'. Refute it at one input. -/
def fnProportionsWrong : ChangeSpec := { name := "fnProportions", fn := fun _ => fun
  | [d] => { results := [.lit (.bool false)], args := [d] }
  | _ => none }
def FnProportionsWrongFalsely : Prop := fnProportionsRow.holds Try.pinned (OpenSpec.ofChange fnProportionsWrong)

/-- 'laws.FnShares': WHATEVER THE INPUT: true; the input reads as it did. -/
def fnSharesSpec : ChangeSpec := { name := "fnShares", fn := fun _ => fun
  | [d] => { results := [.lit (.bool true)], args := [d] }
  | _ => none }
def fnSharesRow : OpenClaim := { program := "ytccnbjaaaaljoaa", sum := "2c778731fe395b18bef27f407b0ecd0185d44419492741f146410c106cb93f20", func := "loop.example/g01010/laws.FnShares", spec := "fnShares", unfollowed := true, recurses := true, apart := false }
def FnSharesSaid : Prop := fnSharesRow.holds Try.pinned (OpenSpec.ofChange fnSharesSpec)

/-- ITS FALSE NEIGHBOUR: 'it returns false'. Refute it at one input. -/
def fnSharesWrong : ChangeSpec := { name := "fnShares", fn := fun _ => fun
  | [d] => { results := [.lit (.bool false)], args := [d] }
  | _ => none }
def FnSharesWrongFalsely : Prop := fnSharesRow.holds Try.pinned (OpenSpec.ofChange fnSharesWrong)

/-- 'laws.FnDays': WHATEVER THE INPUT: true; the input reads as it did. -/
def fnDaysSpec : ChangeSpec := { name := "fnDays", fn := fun _ => fun
  | [d] => { results := [.lit (.bool true)], args := [d] }
  | _ => none }
def fnDaysRow : OpenClaim := { program := "ytccnbjaaaaljoaa", sum := "2c778731fe395b18bef27f407b0ecd0185d44419492741f146410c106cb93f20", func := "loop.example/g01010/laws.FnDays", spec := "fnDays", apart := false }
def FnDaysSaid : Prop := fnDaysRow.holds Try.pinned (OpenSpec.ofChange fnDaysSpec)

/-- ITS FALSE NEIGHBOUR: 'it returns false'. Refute it at one input. -/
def fnDaysWrong : ChangeSpec := { name := "fnDays", fn := fun _ => fun
  | [d] => { results := [.lit (.bool false)], args := [d] }
  | _ => none }
def FnDaysWrongFalsely : Prop := fnDaysRow.holds Try.pinned (OpenSpec.ofChange fnDaysWrong)

/-- 'laws.FnExactIsManifest': WHATEVER THE INPUT: true; the input reads as it did. -/
def fnExactIsManifestSpec : ChangeSpec := { name := "fnExactIsManifest", fn := fun _ => fun
  | [d] => { results := [.lit (.bool true)], args := [d] }
  | _ => none }
def fnExactIsManifestRow : OpenClaim := { program := "ytccnbjaaaaljoaa", sum := "2c778731fe395b18bef27f407b0ecd0185d44419492741f146410c106cb93f20", func := "loop.example/g01010/laws.FnExactIsManifest", spec := "fnExactIsManifest", inPlace := ["internal/bytealg.abigen_runtime_cmpstring"], unfollowed := true, recurses := true, apart := false }
def FnExactIsManifestSaid : Prop := fnExactIsManifestRow.holds Try.pinned (OpenSpec.ofChange fnExactIsManifestSpec)

/-- ITS FALSE NEIGHBOUR: 'it returns false'. Refute it at one input. -/
def fnExactIsManifestWrong : ChangeSpec := { name := "fnExactIsManifest", fn := fun _ => fun
  | [d] => { results := [.lit (.bool false)], args := [d] }
  | _ => none }
def FnExactIsManifestWrongFalsely : Prop := fnExactIsManifestRow.holds Try.pinned (OpenSpec.ofChange fnExactIsManifestWrong)

/-- 'laws.FnExactTotalValue': WHATEVER THE INPUT: true; the input reads as it did. -/
def fnExactTotalValueSpec : ChangeSpec := { name := "fnExactTotalValue", fn := fun _ => fun
  | [d] => { results := [.lit (.bool true)], args := [d] }
  | _ => none }
def fnExactTotalValueRow : OpenClaim := { program := "ytccnbjaaaaljoaa", sum := "2c778731fe395b18bef27f407b0ecd0185d44419492741f146410c106cb93f20", func := "loop.example/g01010/laws.FnExactTotalValue", spec := "fnExactTotalValue", inPlace := ["internal/bytealg.abigen_runtime_cmpstring"], unfollowed := true, recurses := true, apart := false }
def FnExactTotalValueSaid : Prop := fnExactTotalValueRow.holds Try.pinned (OpenSpec.ofChange fnExactTotalValueSpec)

/-- ITS FALSE NEIGHBOUR: 'it returns false'. Refute it at one input. -/
def fnExactTotalValueWrong : ChangeSpec := { name := "fnExactTotalValue", fn := fun _ => fun
  | [d] => { results := [.lit (.bool false)], args := [d] }
  | _ => none }
def FnExactTotalValueWrongFalsely : Prop := fnExactTotalValueRow.holds Try.pinned (OpenSpec.ofChange fnExactTotalValueWrong)

/-- 'laws.FnExactFindInterest': WHATEVER THE INPUT: true; the input reads as it did. -/
def fnExactFindInterestSpec : ChangeSpec := { name := "fnExactFindInterest", fn := fun _ => fun
  | [d1, d2] => { results := [.lit (.bool true)], args := [d1, d2] }
  | _ => none }
def fnExactFindInterestRow : OpenClaim := { program := "ytccnbjaaaaljoaa", sum := "2c778731fe395b18bef27f407b0ecd0185d44419492741f146410c106cb93f20", func := "loop.example/g01010/laws.FnExactFindInterest", spec := "fnExactFindInterest", inPlace := ["internal/bytealg.abigen_runtime_cmpstring"], unfollowed := true, recurses := true, apart := false }
def FnExactFindInterestSaid : Prop := fnExactFindInterestRow.holds Try.pinned (OpenSpec.ofChange fnExactFindInterestSpec)

/-- ITS FALSE NEIGHBOUR: 'it returns false'. Refute it at one input. -/
def fnExactFindInterestWrong : ChangeSpec := { name := "fnExactFindInterest", fn := fun _ => fun
  | [d1, d2] => { results := [.lit (.bool false)], args := [d1, d2] }
  | _ => none }
def FnExactFindInterestWrongFalsely : Prop := fnExactFindInterestRow.holds Try.pinned (OpenSpec.ofChange fnExactFindInterestWrong)

/-- 'laws.FnExactIsRegister': WHATEVER THE INPUT: true; the input reads as it did. -/
def fnExactIsRegisterSpec : ChangeSpec := { name := "fnExactIsRegister", fn := fun _ => fun
  | [d] => { results := [.lit (.bool true)], args := [d] }
  | _ => none }
def fnExactIsRegisterRow : OpenClaim := { program := "ytccnbjaaaaljoaa", sum := "2c778731fe395b18bef27f407b0ecd0185d44419492741f146410c106cb93f20", func := "loop.example/g01010/laws.FnExactIsRegister", spec := "fnExactIsRegister", inPlace := ["internal/bytealg.abigen_runtime_cmpstring"], unfollowed := true, recurses := true, apart := false }
def FnExactIsRegisterSaid : Prop := fnExactIsRegisterRow.holds Try.pinned (OpenSpec.ofChange fnExactIsRegisterSpec)

/-- ITS FALSE NEIGHBOUR: 'it returns false'. Refute it at one input. -/
def fnExactIsRegisterWrong : ChangeSpec := { name := "fnExactIsRegister", fn := fun _ => fun
  | [d] => { results := [.lit (.bool false)], args := [d] }
  | _ => none }
def FnExactIsRegisterWrongFalsely : Prop := fnExactIsRegisterRow.holds Try.pinned (OpenSpec.ofChange fnExactIsRegisterWrong)

/-- 'laws.FnExactFindParty': WHATEVER THE INPUT: true; the input reads as it did. -/
def fnExactFindPartySpec : ChangeSpec := { name := "fnExactFindParty", fn := fun _ => fun
  | [d1, d2] => { results := [.lit (.bool true)], args := [d1, d2] }
  | _ => none }
def fnExactFindPartyRow : OpenClaim := { program := "ytccnbjaaaaljoaa", sum := "2c778731fe395b18bef27f407b0ecd0185d44419492741f146410c106cb93f20", func := "loop.example/g01010/laws.FnExactFindParty", spec := "fnExactFindParty", inPlace := ["internal/bytealg.abigen_runtime_cmpstring"], unfollowed := true, recurses := true, apart := false }
def FnExactFindPartySaid : Prop := fnExactFindPartyRow.holds Try.pinned (OpenSpec.ofChange fnExactFindPartySpec)

/-- ITS FALSE NEIGHBOUR: 'it returns false'. Refute it at one input. -/
def fnExactFindPartyWrong : ChangeSpec := { name := "fnExactFindParty", fn := fun _ => fun
  | [d1, d2] => { results := [.lit (.bool false)], args := [d1, d2] }
  | _ => none }
def FnExactFindPartyWrongFalsely : Prop := fnExactFindPartyRow.holds Try.pinned (OpenSpec.ofChange fnExactFindPartyWrong)

/-- 'laws.FnExactActsFor': WHATEVER THE INPUT: true; the input reads as it did. -/
def fnExactActsForSpec : ChangeSpec := { name := "fnExactActsFor", fn := fun _ => fun
  | [d1, d2] => { results := [.lit (.bool true)], args := [d1, d2] }
  | _ => none }
def fnExactActsForRow : OpenClaim := { program := "ytccnbjaaaaljoaa", sum := "2c778731fe395b18bef27f407b0ecd0185d44419492741f146410c106cb93f20", func := "loop.example/g01010/laws.FnExactActsFor", spec := "fnExactActsFor", inPlace := ["internal/bytealg.abigen_runtime_cmpstring"], unfollowed := true, recurses := true, apart := false }
def FnExactActsForSaid : Prop := fnExactActsForRow.holds Try.pinned (OpenSpec.ofChange fnExactActsForSpec)

/-- ITS FALSE NEIGHBOUR: 'it returns false'. Refute it at one input. -/
def fnExactActsForWrong : ChangeSpec := { name := "fnExactActsFor", fn := fun _ => fun
  | [d1, d2] => { results := [.lit (.bool false)], args := [d1, d2] }
  | _ => none }
def FnExactActsForWrongFalsely : Prop := fnExactActsForRow.holds Try.pinned (OpenSpec.ofChange fnExactActsForWrong)

/-- 'laws.FnExactPartiesOf': WHATEVER THE INPUT: true; the input reads as it did. -/
def fnExactPartiesOfSpec : ChangeSpec := { name := "fnExactPartiesOf", fn := fun _ => fun
  | [d1, d2] => { results := [.lit (.bool true)], args := [d1, d2] }
  | _ => none }
def fnExactPartiesOfRow : OpenClaim := { program := "ytccnbjaaaaljoaa", sum := "2c778731fe395b18bef27f407b0ecd0185d44419492741f146410c106cb93f20", func := "loop.example/g01010/laws.FnExactPartiesOf", spec := "fnExactPartiesOf", inPlace := ["internal/bytealg.abigen_runtime_cmpstring"], unfollowed := true, recurses := true, apart := false }
def FnExactPartiesOfSaid : Prop := fnExactPartiesOfRow.holds Try.pinned (OpenSpec.ofChange fnExactPartiesOfSpec)

/-- ITS FALSE NEIGHBOUR: 'it returns false'. Refute it at one input. -/
def fnExactPartiesOfWrong : ChangeSpec := { name := "fnExactPartiesOf", fn := fun _ => fun
  | [d1, d2] => { results := [.lit (.bool false)], args := [d1, d2] }
  | _ => none }
def FnExactPartiesOfWrongFalsely : Prop := fnExactPartiesOfRow.holds Try.pinned (OpenSpec.ofChange fnExactPartiesOfWrong)

/-- 'laws.FnExactClientsOf': WHATEVER THE INPUT: true; the input reads as it did. -/
def fnExactClientsOfSpec : ChangeSpec := { name := "fnExactClientsOf", fn := fun _ => fun
  | [d1, d2] => { results := [.lit (.bool true)], args := [d1, d2] }
  | _ => none }
def fnExactClientsOfRow : OpenClaim := { program := "ytccnbjaaaaljoaa", sum := "2c778731fe395b18bef27f407b0ecd0185d44419492741f146410c106cb93f20", func := "loop.example/g01010/laws.FnExactClientsOf", spec := "fnExactClientsOf", inPlace := ["internal/bytealg.abigen_runtime_cmpstring"], unfollowed := true, recurses := true, apart := false }
def FnExactClientsOfSaid : Prop := fnExactClientsOfRow.holds Try.pinned (OpenSpec.ofChange fnExactClientsOfSpec)

/-- ITS FALSE NEIGHBOUR: 'it returns false'. Refute it at one input. -/
def fnExactClientsOfWrong : ChangeSpec := { name := "fnExactClientsOf", fn := fun _ => fun
  | [d1, d2] => { results := [.lit (.bool false)], args := [d1, d2] }
  | _ => none }
def FnExactClientsOfWrongFalsely : Prop := fnExactClientsOfRow.holds Try.pinned (OpenSpec.ofChange fnExactClientsOfWrong)

/- THE SECOND FORM. 'bulk': how many values and letters a reading holds, each counted each time it is reached (what is shared counts as often as it is met; a slice's spare places count too). A statement '..UptoSaid' is the law's where the arguments, and the package variables that the reading takes, are together of bulk at most 1048576: NARROWER than '..Said'. Prove '..Said' where nothing that the law and all that it calls make is longer than what came in: it says more and counts as full. Else prove '..UptoSaid'. A law counts once. -/
mutual
def uptoBulk {H : Type} : DataW H → Nat
  | .lit (.string bytes) => bytes.length + 1
  | .lit _ => 1
  | .nil => 1
  | .ptr d => uptoBulk d + 1
  | .slice elems spare => uptoBulkAll elems + uptoBulkAll spare + 1
  | .agg parts => uptoBulkAll parts + 1
  | .iface _ d => uptoBulk d + 1
  | .map entries => uptoBulkEntries entries + 1
  | .held _ => 1
def uptoBulkAll {H : Type} : List (DataW H) → Nat
  | [] => 0
  | d :: r => uptoBulk d + uptoBulkAll r
def uptoBulkEntries {H : Type} : List (Lit × DataW H) → Nat
  | [] => 0
  | x :: r => uptoBulkEntry x + uptoBulkEntries r
def uptoBulkEntry {H : Type} : Lit × DataW H → Nat
  | (.string bytes, d) => bytes.length + uptoBulk d + 1
  | (_, d) => uptoBulk d + 1
 end
def uptoSmall : (H : Type) → List (DataW H) → Bool := fun _ ds => decide (uptoBulkAll ds ≤ 1048576)
def OpenSpec.upto (s : _root_.Go.ChangeSpec) : _root_.Go.OpenSpec := { _root_.Go.OpenSpec.ofChange s with cond := some uptoSmall }

/-- 'laws.FnProportions', WHERE WHAT IT READS IS OF BULK AT MOST 1048576: true; the input reads as it did. -/
def fnProportionsUptoRow : OpenClaim := { program := "ytccnbjaaaaljoaa", sum := "2c778731fe395b18bef27f407b0ecd0185d44419492741f146410c106cb93f20", func := "loop.example/g01010/laws.FnProportions", spec := "fnProportions", unfollowed := true, recurses := true, apart := false, narrowed := true }
def FnProportionsUptoSaid : Prop := fnProportionsUptoRow.holds Try.pinned (OpenSpec.upto fnProportionsSpec)

/-- 'laws.FnShares', WHERE WHAT IT READS IS OF BULK AT MOST 1048576: true; the input reads as it did. -/
def fnSharesUptoRow : OpenClaim := { program := "ytccnbjaaaaljoaa", sum := "2c778731fe395b18bef27f407b0ecd0185d44419492741f146410c106cb93f20", func := "loop.example/g01010/laws.FnShares", spec := "fnShares", unfollowed := true, recurses := true, apart := false, narrowed := true }
def FnSharesUptoSaid : Prop := fnSharesUptoRow.holds Try.pinned (OpenSpec.upto fnSharesSpec)

/-- 'laws.FnDays', WHERE WHAT IT READS IS OF BULK AT MOST 1048576: true; the input reads as it did. -/
def fnDaysUptoRow : OpenClaim := { program := "ytccnbjaaaaljoaa", sum := "2c778731fe395b18bef27f407b0ecd0185d44419492741f146410c106cb93f20", func := "loop.example/g01010/laws.FnDays", spec := "fnDays", apart := false, narrowed := true }
def FnDaysUptoSaid : Prop := fnDaysUptoRow.holds Try.pinned (OpenSpec.upto fnDaysSpec)

/-- 'laws.FnExactIsManifest', WHERE WHAT IT READS IS OF BULK AT MOST 1048576: true; the input reads as it did. -/
def fnExactIsManifestUptoRow : OpenClaim := { program := "ytccnbjaaaaljoaa", sum := "2c778731fe395b18bef27f407b0ecd0185d44419492741f146410c106cb93f20", func := "loop.example/g01010/laws.FnExactIsManifest", spec := "fnExactIsManifest", inPlace := ["internal/bytealg.abigen_runtime_cmpstring"], unfollowed := true, recurses := true, apart := false, narrowed := true }
def FnExactIsManifestUptoSaid : Prop := fnExactIsManifestUptoRow.holds Try.pinned (OpenSpec.upto fnExactIsManifestSpec)

/-- 'laws.FnExactTotalValue', WHERE WHAT IT READS IS OF BULK AT MOST 1048576: true; the input reads as it did. -/
def fnExactTotalValueUptoRow : OpenClaim := { program := "ytccnbjaaaaljoaa", sum := "2c778731fe395b18bef27f407b0ecd0185d44419492741f146410c106cb93f20", func := "loop.example/g01010/laws.FnExactTotalValue", spec := "fnExactTotalValue", inPlace := ["internal/bytealg.abigen_runtime_cmpstring"], unfollowed := true, recurses := true, apart := false, narrowed := true }
def FnExactTotalValueUptoSaid : Prop := fnExactTotalValueUptoRow.holds Try.pinned (OpenSpec.upto fnExactTotalValueSpec)

/-- 'laws.FnExactFindInterest', WHERE WHAT IT READS IS OF BULK AT MOST 1048576: true; the input reads as it did. -/
def fnExactFindInterestUptoRow : OpenClaim := { program := "ytccnbjaaaaljoaa", sum := "2c778731fe395b18bef27f407b0ecd0185d44419492741f146410c106cb93f20", func := "loop.example/g01010/laws.FnExactFindInterest", spec := "fnExactFindInterest", inPlace := ["internal/bytealg.abigen_runtime_cmpstring"], unfollowed := true, recurses := true, apart := false, narrowed := true }
def FnExactFindInterestUptoSaid : Prop := fnExactFindInterestUptoRow.holds Try.pinned (OpenSpec.upto fnExactFindInterestSpec)

/-- 'laws.FnExactIsRegister', WHERE WHAT IT READS IS OF BULK AT MOST 1048576: true; the input reads as it did. -/
def fnExactIsRegisterUptoRow : OpenClaim := { program := "ytccnbjaaaaljoaa", sum := "2c778731fe395b18bef27f407b0ecd0185d44419492741f146410c106cb93f20", func := "loop.example/g01010/laws.FnExactIsRegister", spec := "fnExactIsRegister", inPlace := ["internal/bytealg.abigen_runtime_cmpstring"], unfollowed := true, recurses := true, apart := false, narrowed := true }
def FnExactIsRegisterUptoSaid : Prop := fnExactIsRegisterUptoRow.holds Try.pinned (OpenSpec.upto fnExactIsRegisterSpec)

/-- 'laws.FnExactFindParty', WHERE WHAT IT READS IS OF BULK AT MOST 1048576: true; the input reads as it did. -/
def fnExactFindPartyUptoRow : OpenClaim := { program := "ytccnbjaaaaljoaa", sum := "2c778731fe395b18bef27f407b0ecd0185d44419492741f146410c106cb93f20", func := "loop.example/g01010/laws.FnExactFindParty", spec := "fnExactFindParty", inPlace := ["internal/bytealg.abigen_runtime_cmpstring"], unfollowed := true, recurses := true, apart := false, narrowed := true }
def FnExactFindPartyUptoSaid : Prop := fnExactFindPartyUptoRow.holds Try.pinned (OpenSpec.upto fnExactFindPartySpec)

/-- 'laws.FnExactActsFor', WHERE WHAT IT READS IS OF BULK AT MOST 1048576: true; the input reads as it did. -/
def fnExactActsForUptoRow : OpenClaim := { program := "ytccnbjaaaaljoaa", sum := "2c778731fe395b18bef27f407b0ecd0185d44419492741f146410c106cb93f20", func := "loop.example/g01010/laws.FnExactActsFor", spec := "fnExactActsFor", inPlace := ["internal/bytealg.abigen_runtime_cmpstring"], unfollowed := true, recurses := true, apart := false, narrowed := true }
def FnExactActsForUptoSaid : Prop := fnExactActsForUptoRow.holds Try.pinned (OpenSpec.upto fnExactActsForSpec)

/-- 'laws.FnExactPartiesOf', WHERE WHAT IT READS IS OF BULK AT MOST 1048576: true; the input reads as it did. -/
def fnExactPartiesOfUptoRow : OpenClaim := { program := "ytccnbjaaaaljoaa", sum := "2c778731fe395b18bef27f407b0ecd0185d44419492741f146410c106cb93f20", func := "loop.example/g01010/laws.FnExactPartiesOf", spec := "fnExactPartiesOf", inPlace := ["internal/bytealg.abigen_runtime_cmpstring"], unfollowed := true, recurses := true, apart := false, narrowed := true }
def FnExactPartiesOfUptoSaid : Prop := fnExactPartiesOfUptoRow.holds Try.pinned (OpenSpec.upto fnExactPartiesOfSpec)

/-- 'laws.FnExactClientsOf', WHERE WHAT IT READS IS OF BULK AT MOST 1048576: true; the input reads as it did. -/
def fnExactClientsOfUptoRow : OpenClaim := { program := "ytccnbjaaaaljoaa", sum := "2c778731fe395b18bef27f407b0ecd0185d44419492741f146410c106cb93f20", func := "loop.example/g01010/laws.FnExactClientsOf", spec := "fnExactClientsOf", inPlace := ["internal/bytealg.abigen_runtime_cmpstring"], unfollowed := true, recurses := true, apart := false, narrowed := true }
def FnExactClientsOfUptoSaid : Prop := fnExactClientsOfUptoRow.holds Try.pinned (OpenSpec.upto fnExactClientsOfSpec)

end Rows
end Go.Proofs.Ytccnbjaaaaljoaa
