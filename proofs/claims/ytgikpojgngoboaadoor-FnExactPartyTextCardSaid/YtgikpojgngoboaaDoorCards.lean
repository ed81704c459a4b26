/-
  DERIVED. GIVEN WITH THE SEED: THE CARDS: each row of YtgikpojgngoboaaDoorRows.lean that lists a variable, with what it lists TIED to the program's text (the seventh form; the later family's looks); each row that meets fmt, with fmt's text TOLD by the authors' own Lean function (tested against real Go, not proved from fmt's source: count such statements apart). THE CARD IS WHAT COUNTS. Prove the row's statement (the work); the ties are given (YtgikpojgngoboaaDoorTie.lean); close each card by the builder's one call (the guide's Derived/Test/ToyasCard.lean, 'card_holds'). Laid BY PROGRAM, IN A SANDBOX (cutbox-door.mjs). By AI agents, Wed Nov 11 2026. No macro, syntax, notation, axiom, sorry.
-/
import Derived.Test.YtgikpojgngoboaaDoorRows
import GoSem.ClaimSeven
namespace Go.Proofs.YtgikpojgngoboaaDoor
namespace Rows

/-- THE TIED CARD OF 'laws.FnExactPartyText'. -/
def fnExactPartyTextCard : Claim7 := { stood := { row := fnExactPartyTextRow, standIns := [], harness := (true, "3af1d231c66e5d6039e9568130294d19578ed703cfa82ab5aebd7da5677ed360"), looks := false }, kinds := [], alts := [], laidByText := true, laidKinds := [.data, .data, .data], laidTests := true, laidLooks := .later }
def FnExactPartyTextCardSaid : Prop := Claim7.holds Tryd.pinned (.plain (OpenSpec.ofChange fnExactPartyTextSpec)) fnExactPartyTextCard

/-- THE SECOND FORM's CARD OF 'laws.FnExactPartyText'. -/
def fnExactPartyTextUptoCard : Claim7 := { stood := { row := fnExactPartyTextUptoRow, standIns := [], harness := (true, "3af1d231c66e5d6039e9568130294d19578ed703cfa82ab5aebd7da5677ed360"), looks := false }, kinds := [], alts := [], laidByText := true, laidKinds := [.data, .data, .data], laidTests := true, laidLooks := .later }
def FnExactPartyTextUptoCardSaid : Prop := Claim7.holds Tryd.pinned (.plain (OpenSpec.upto fnExactPartyTextSpec)) fnExactPartyTextUptoCard
end Rows
end Go.Proofs.YtgikpojgngoboaaDoor
