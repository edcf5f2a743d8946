/-
  DERIVED. GIVEN WITH THE SEED: THE CARDS: each row of YtemcfhlbmhbjeaaGreatDoorRows.lean that lists a variable, with what it lists TIED to the program's text (the seventh form; the later family's looks); each row that meets fmt, with fmt's text TOLD by the authors' own Lean function (tested against real Go, not proved from fmt's source: count such statements apart). THE CARD IS WHAT COUNTS. Prove the row's statement (the work); the ties are given (YtemcfhlbmhbjeaaGreatDoorTie.lean); close each card by the builder's one call (the guide's Derived/Test/ToyasCard.lean, 'card_holds'). Laid BY PROGRAM, IN A SANDBOX (cutbox-door.mjs). By AI agents, Wed Nov 11 2026. No macro, syntax, notation, axiom, sorry.
-/
import Derived.Test.YtemcfhlbmhbjeaaGreatDoorRows
import GoSem.ClaimSeven
namespace Go.Proofs.YtemcfhlbmhbjeaaGreatDoor
namespace Rows

/-- THE TIED CARD OF 'leattop.TopWhole'. -/
def topWholeCard : Claim7 := { stood := { row := topWholeRow, standIns := [], harness := (true, "4e451dbc6703a830ba0eb6c128f88aa9269f7a8f7c9d83b364fc593aa1f7f7b1"), looks := false }, kinds := [], alts := [], laidByText := true, laidKinds := [.funcs, .funcs, .funcs], laidTests := true, laidLooks := .later }
def TopWholeCardSaid : Prop := Claim7.holds Tryz.pinned (.plain (OpenSpec.ofChange topWholeSpec)) topWholeCard

/-- THE SECOND FORM's CARD OF 'leattop.TopWhole'. -/
def topWholeUptoCard : Claim7 := { stood := { row := topWholeUptoRow, standIns := [], harness := (true, "4e451dbc6703a830ba0eb6c128f88aa9269f7a8f7c9d83b364fc593aa1f7f7b1"), looks := false }, kinds := [], alts := [], laidByText := true, laidKinds := [.funcs, .funcs, .funcs], laidTests := true, laidLooks := .later }
def TopWholeUptoCardSaid : Prop := Claim7.holds Tryz.pinned (.plain (OpenSpec.upto topWholeSpec)) topWholeUptoCard
end Rows
end Go.Proofs.YtemcfhlbmhbjeaaGreatDoor
