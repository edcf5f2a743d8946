/-
  No cell of these rows narrows 'for every input' (looked for: loops, veiled, ifaces, maps, wideKeys, modest, calm, conditions, laid).
  DERIVED. THE GIVEN ROWS OF THIS SEAT. 6 by the template 'for every input the law returns true; each argument reads behind the call as it read before'; 0 by the template 'total and deterministic' (their statements: YtgannlbhhanflaaTotals.lean).
  GIVEN WITH THE SEED: the statements are not yours to turn. If you find one false, say at which input.
  Laid BY PROGRAM, IN A SANDBOX (cutbox-rows.mjs): the forced cells as the released guide's own fill.sh prints them over the translation 0bc558e65b4fe399… (all of the seat's roots in one cut). By AI agents, Wed Nov 11 2026. No macro, syntax, notation, axiom, sorry.
-/
import Derived.Test.YtgannlbhhanflaaChecked
import GoSem.Claim
import GoSem.ClaimJoined
import GoSem.ClaimMapViews
import Derived.JoinedTies
import Derived.KernelRfl
namespace Go.Proofs.Ytgannlbhhanflaa
/- THE CELL 'sum', in the pinned program and in every row, IS THE sha256 OF THE DUMP (.gsa) THAT YtgannlbhhanflaaProg.lean LOADS. Nothing in Lean hashes anything: it is a label: what it is worth is what the hold of that sum in a sandbox is worth. -/
noncomputable def Try.pinned : Pinned := { name := "ytgannlbhhanflaa", sum := "0bc558e65b4fe399ed2188353a6f43e1f90738db8a80590ab932dcf966804b82", checked := Try.checked }
namespace Rows
def none {H : Type} : Left H := { results := [], args := [] }

/-- 'leatlaw06.VectorPlays': WHATEVER THE INPUT: true; the input reads as it did. -/
def vectorPlaysSpec : ChangeSpec := { name := "vectorPlays", fn := fun _ => fun
  | [d1, d2, d3, d4, d5] => { results := [.lit (.bool true)], args := [d1, d2, d3, d4, d5] }
  | _ => none }
def vectorPlaysRow : OpenClaim := { program := "ytgannlbhhanflaa", sum := "0bc558e65b4fe399ed2188353a6f43e1f90738db8a80590ab932dcf966804b82", func := "leat/leatlaw06.VectorPlays", spec := "vectorPlays", inPlace := ["math/bits.Sub64"], unfollowed := true, recurses := true, apart := false }
def VectorPlaysSaid : Prop := vectorPlaysRow.holds Try.pinned (OpenSpec.ofChange vectorPlaysSpec)

/-- ITS FALSE NEIGHBOUR: 'it returns false'. Refute it at one input. -/
def vectorPlaysWrong : ChangeSpec := { name := "vectorPlays", fn := fun _ => fun
  | [d1, d2, d3, d4, d5] => { results := [.lit (.bool false)], args := [d1, d2, d3, d4, d5] }
  | _ => none }
def VectorPlaysWrongFalsely : Prop := vectorPlaysRow.holds Try.pinned (OpenSpec.ofChange vectorPlaysWrong)

/-- 'leatlaw08.EventIds': WHATEVER THE INPUT: true; the input reads as it did. -/
def eventIdsSpec : ChangeSpec := { name := "eventIds", fn := fun _ => fun
  | [d1, d2] => { results := [.lit (.bool true)], args := [d1, d2] }
  | _ => none }
def eventIdsRow : OpenClaim := { program := "ytgannlbhhanflaa", sum := "0bc558e65b4fe399ed2188353a6f43e1f90738db8a80590ab932dcf966804b82", func := "leat/leatlaw08.EventIds", spec := "eventIds", unfollowed := true, recurses := true, apart := false }
def EventIdsSaid : Prop := eventIdsRow.holds Try.pinned (OpenSpec.ofChange eventIdsSpec)

/-- ITS FALSE NEIGHBOUR: 'it returns false'. Refute it at one input. -/
def eventIdsWrong : ChangeSpec := { name := "eventIds", fn := fun _ => fun
  | [d1, d2] => { results := [.lit (.bool false)], args := [d1, d2] }
  | _ => none }
def EventIdsWrongFalsely : Prop := eventIdsRow.holds Try.pinned (OpenSpec.ofChange eventIdsWrong)

/-- 'leatlaw08.EventTurned': WHATEVER THE INPUT: true; the input reads as it did. -/
def eventTurnedSpec : ChangeSpec := { name := "eventTurned", fn := fun _ => fun
  | [d1, d2, d3] => { results := [.lit (.bool true)], args := [d1, d2, d3] }
  | _ => none }
def eventTurnedRow : OpenClaim := { program := "ytgannlbhhanflaa", sum := "0bc558e65b4fe399ed2188353a6f43e1f90738db8a80590ab932dcf966804b82", func := "leat/leatlaw08.EventTurned", spec := "eventTurned", unfollowed := true, recurses := true, apart := false }
def EventTurnedSaid : Prop := eventTurnedRow.holds Try.pinned (OpenSpec.ofChange eventTurnedSpec)

/-- ITS FALSE NEIGHBOUR: 'it returns false'. Refute it at one input. -/
def eventTurnedWrong : ChangeSpec := { name := "eventTurned", fn := fun _ => fun
  | [d1, d2, d3] => { results := [.lit (.bool false)], args := [d1, d2, d3] }
  | _ => none }
def EventTurnedWrongFalsely : Prop := eventTurnedRow.holds Try.pinned (OpenSpec.ofChange eventTurnedWrong)

/-- 'leatlaw08.EventPlays': WHATEVER THE INPUT: true; the input reads as it did. -/
def eventPlaysSpec : ChangeSpec := { name := "eventPlays", fn := fun _ => fun
  | [d1, d2, d3] => { results := [.lit (.bool true)], args := [d1, d2, d3] }
  | _ => none }
def eventPlaysRow : OpenClaim := { program := "ytgannlbhhanflaa", sum := "0bc558e65b4fe399ed2188353a6f43e1f90738db8a80590ab932dcf966804b82", func := "leat/leatlaw08.EventPlays", spec := "eventPlays", unfollowed := true, recurses := true, apart := false }
def EventPlaysSaid : Prop := eventPlaysRow.holds Try.pinned (OpenSpec.ofChange eventPlaysSpec)

/-- ITS FALSE NEIGHBOUR: 'it returns false'. Refute it at one input. -/
def eventPlaysWrong : ChangeSpec := { name := "eventPlays", fn := fun _ => fun
  | [d1, d2, d3] => { results := [.lit (.bool false)], args := [d1, d2, d3] }
  | _ => none }
def EventPlaysWrongFalsely : Prop := eventPlaysRow.holds Try.pinned (OpenSpec.ofChange eventPlaysWrong)

/-- 'leatlaw08.EventBack': WHATEVER THE INPUT: true; the input reads as it did. -/
def eventBackSpec : ChangeSpec := { name := "eventBack", fn := fun _ => fun
  | [d1, d2, d3, d4] => { results := [.lit (.bool true)], args := [d1, d2, d3, d4] }
  | _ => none }
def eventBackRow : OpenClaim := { program := "ytgannlbhhanflaa", sum := "0bc558e65b4fe399ed2188353a6f43e1f90738db8a80590ab932dcf966804b82", func := "leat/leatlaw08.EventBack", spec := "eventBack", unfollowed := true, recurses := true, apart := false }
def EventBackSaid : Prop := eventBackRow.holds Try.pinned (OpenSpec.ofChange eventBackSpec)

/-- ITS FALSE NEIGHBOUR: 'it returns false'. Refute it at one input. -/
def eventBackWrong : ChangeSpec := { name := "eventBack", fn := fun _ => fun
  | [d1, d2, d3, d4] => { results := [.lit (.bool false)], args := [d1, d2, d3, d4] }
  | _ => none }
def EventBackWrongFalsely : Prop := eventBackRow.holds Try.pinned (OpenSpec.ofChange eventBackWrong)

/-- 'leatlaw08.EventRows': WHATEVER THE INPUT: true; the input reads as it did. -/
def eventRowsSpec : ChangeSpec := { name := "eventRows", fn := fun _ => fun
  | [d1, d2] => { results := [.lit (.bool true)], args := [d1, d2] }
  | _ => none }
def eventRowsRow : OpenClaim := { program := "ytgannlbhhanflaa", sum := "0bc558e65b4fe399ed2188353a6f43e1f90738db8a80590ab932dcf966804b82", func := "leat/leatlaw08.EventRows", spec := "eventRows", unfollowed := true, recurses := true, apart := false }
def EventRowsSaid : Prop := eventRowsRow.holds Try.pinned (OpenSpec.ofChange eventRowsSpec)

/-- ITS FALSE NEIGHBOUR: 'it returns false'. Refute it at one input. -/
def eventRowsWrong : ChangeSpec := { name := "eventRows", fn := fun _ => fun
  | [d1, d2] => { results := [.lit (.bool false)], args := [d1, d2] }
  | _ => none }
def EventRowsWrongFalsely : Prop := eventRowsRow.holds Try.pinned (OpenSpec.ofChange eventRowsWrong)

/- THE SECOND FORM. 'bulk': how many values and letters a reading holds, each counted each time it is reached (what is shared counts as often as it is met; a slice's spare places count too). A statement '..UptoSaid' is the law's where the arguments, and the package variables that the reading takes, are together of bulk at most 1048576: NARROWER than '..Said'. Prove '..Said' where nothing that the law and all that it calls make is longer than what came in: it says more and counts as full. Else prove '..UptoSaid'. A law counts once. -/
mutual
def uptoBulk {H : Type} : DataW H → Nat
  | .lit (.string bytes) => bytes.length + 1
  | .lit _ => 1
  | .nil => 1
  | .ptr d => uptoBulk d + 1
  | .slice elems spare => uptoBulkAll elems + uptoBulkAll spare + 1
  | .agg parts => uptoBulkAll parts + 1
  | .iface _ d => uptoBulk d + 1
  | .map entries => uptoBulkEntries entries + 1
  | .held _ => 1
def uptoBulkAll {H : Type} : List (DataW H) → Nat
  | [] => 0
  | d :: r => uptoBulk d + uptoBulkAll r
def uptoBulkEntries {H : Type} : List (Lit × DataW H) → Nat
  | [] => 0
  | x :: r => uptoBulkEntry x + uptoBulkEntries r
def uptoBulkEntry {H : Type} : Lit × DataW H → Nat
  | (.string bytes, d) => bytes.length + uptoBulk d + 1
  | (_, d) => uptoBulk d + 1
 end
def uptoSmall : (H : Type) → List (DataW H) → Bool := fun _ ds => decide (uptoBulkAll ds ≤ 1048576)
def OpenSpec.upto (s : _root_.Go.ChangeSpec) : _root_.Go.OpenSpec := { _root_.Go.OpenSpec.ofChange s with cond := some uptoSmall }

/-- 'leatlaw06.VectorPlays', WHERE WHAT IT READS IS OF BULK AT MOST 1048576: true; the input reads as it did. -/
def vectorPlaysUptoRow : OpenClaim := { program := "ytgannlbhhanflaa", sum := "0bc558e65b4fe399ed2188353a6f43e1f90738db8a80590ab932dcf966804b82", func := "leat/leatlaw06.VectorPlays", spec := "vectorPlays", inPlace := ["math/bits.Sub64"], unfollowed := true, recurses := true, apart := false, narrowed := true }
def VectorPlaysUptoSaid : Prop := vectorPlaysUptoRow.holds Try.pinned (OpenSpec.upto vectorPlaysSpec)

/-- 'leatlaw08.EventIds', WHERE WHAT IT READS IS OF BULK AT MOST 1048576: true; the input reads as it did. -/
def eventIdsUptoRow : OpenClaim := { program := "ytgannlbhhanflaa", sum := "0bc558e65b4fe399ed2188353a6f43e1f90738db8a80590ab932dcf966804b82", func := "leat/leatlaw08.EventIds", spec := "eventIds", unfollowed := true, recurses := true, apart := false, narrowed := true }
def EventIdsUptoSaid : Prop := eventIdsUptoRow.holds Try.pinned (OpenSpec.upto eventIdsSpec)

/-- 'leatlaw08.EventTurned', WHERE WHAT IT READS IS OF BULK AT MOST 1048576: true; the input reads as it did. -/
def eventTurnedUptoRow : OpenClaim := { program := "ytgannlbhhanflaa", sum := "0bc558e65b4fe399ed2188353a6f43e1f90738db8a80590ab932dcf966804b82", func := "leat/leatlaw08.EventTurned", spec := "eventTurned", unfollowed := true, recurses := true, apart := false, narrowed := true }
def EventTurnedUptoSaid : Prop := eventTurnedUptoRow.holds Try.pinned (OpenSpec.upto eventTurnedSpec)

/-- 'leatlaw08.EventPlays', WHERE WHAT IT READS IS OF BULK AT MOST 1048576: true; the input reads as it did. -/
def eventPlaysUptoRow : OpenClaim := { program := "ytgannlbhhanflaa", sum := "0bc558e65b4fe399ed2188353a6f43e1f90738db8a80590ab932dcf966804b82", func := "leat/leatlaw08.EventPlays", spec := "eventPlays", unfollowed := true, recurses := true, apart := false, narrowed := true }
def EventPlaysUptoSaid : Prop := eventPlaysUptoRow.holds Try.pinned (OpenSpec.upto eventPlaysSpec)

/-- 'leatlaw08.EventBack', WHERE WHAT IT READS IS OF BULK AT MOST 1048576: true; the input reads as it did. -/
def eventBackUptoRow : OpenClaim := { program := "ytgannlbhhanflaa", sum := "0bc558e65b4fe399ed2188353a6f43e1f90738db8a80590ab932dcf966804b82", func := "leat/leatlaw08.EventBack", spec := "eventBack", unfollowed := true, recurses := true, apart := false, narrowed := true }
def EventBackUptoSaid : Prop := eventBackUptoRow.holds Try.pinned (OpenSpec.upto eventBackSpec)

/-- 'leatlaw08.EventRows', WHERE WHAT IT READS IS OF BULK AT MOST 1048576: true; the input reads as it did. -/
def eventRowsUptoRow : OpenClaim := { program := "ytgannlbhhanflaa", sum := "0bc558e65b4fe399ed2188353a6f43e1f90738db8a80590ab932dcf966804b82", func := "leat/leatlaw08.EventRows", spec := "eventRows", unfollowed := true, recurses := true, apart := false, narrowed := true }
def EventRowsUptoSaid : Prop := eventRowsUptoRow.holds Try.pinned (OpenSpec.upto eventRowsSpec)

end Rows
end Go.Proofs.Ytgannlbhhanflaa
