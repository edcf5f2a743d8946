/-
  No cell of these rows narrows 'for every input' (looked for: loops, veiled, ifaces, maps, wideKeys, modest, calm, conditions, laid).
  DERIVED. THE GIVEN ROWS OF THIS SEAT. 7 by the template 'for every input the law returns true; each argument reads behind the call as it read before'; 0 by the template 'total and deterministic' (their statements: YtolfnilickfneaaTotals.lean).
  GIVEN WITH THE SEED: the statements are not yours to turn. If you find one false, say at which input.
  Laid BY PROGRAM, IN A SANDBOX (cutbox-rows.mjs): the forced cells as the released guide's own fill.sh prints them over the translation 07e76ff497c83ce9… (all of the seat's roots in one cut). By AI agents, Wed Nov 11 2026. No macro, syntax, notation, axiom, sorry.
-/
import Derived.Test.YtolfnilickfneaaChecked
import GoSem.Claim
import GoSem.ClaimJoined
import GoSem.ClaimMapViews
import Derived.JoinedTies
import Derived.KernelRfl
namespace Go.Proofs.Ytolfnilickfneaa
/- THE CELL 'sum', in the pinned program and in every row, IS THE sha256 OF THE DUMP (.gsa) THAT YtolfnilickfneaaProg.lean LOADS. Nothing in Lean hashes anything: it is a label: what it is worth is what the hold of that sum in a sandbox is worth. -/
noncomputable def Try.pinned : Pinned := { name := "ytolfnilickfneaa", sum := "07e76ff497c83ce918208e83b611c7440ae402641377687a9e1b6848524742d7", checked := Try.checked }
namespace Rows
def none {H : Type} : Left H := { results := [], args := [] }

/-- 'leatlaw06.VectorPlays': WHATEVER THE INPUT: true; the input reads as it did. -/
def vectorPlaysSpec : ChangeSpec := { name := "vectorPlays", fn := fun _ => fun
  | [d1, d2, d3, d4, d5] => { results := [.lit (.bool true)], args := [d1, d2, d3, d4, d5] }
  | _ => none }
def vectorPlaysRow : OpenClaim := { program := "ytolfnilickfneaa", sum := "07e76ff497c83ce918208e83b611c7440ae402641377687a9e1b6848524742d7", func := "leat/leatlaw06.VectorPlays", spec := "vectorPlays", inPlace := ["math/bits.Sub64"], unfollowed := true, recurses := true, apart := false }
def VectorPlaysSaid : Prop := vectorPlaysRow.holds Try.pinned (OpenSpec.ofChange vectorPlaysSpec)

/-- ITS FALSE NEIGHBOUR: 'it returns false'. Refute it at one input. -/
def vectorPlaysWrong : ChangeSpec := { name := "vectorPlays", fn := fun _ => fun
  | [d1, d2, d3, d4, d5] => { results := [.lit (.bool false)], args := [d1, d2, d3, d4, d5] }
  | _ => none }
def VectorPlaysWrongFalsely : Prop := vectorPlaysRow.holds Try.pinned (OpenSpec.ofChange vectorPlaysWrong)

/-- 'leatlaw06.VectorNext': WHATEVER THE INPUT: true; the input reads as it did. -/
def vectorNextSpec : ChangeSpec := { name := "vectorNext", fn := fun _ => fun
  | [d1, d2] => { results := [.lit (.bool true)], args := [d1, d2] }
  | _ => none }
def vectorNextRow : OpenClaim := { program := "ytolfnilickfneaa", sum := "07e76ff497c83ce918208e83b611c7440ae402641377687a9e1b6848524742d7", func := "leat/leatlaw06.VectorNext", spec := "vectorNext", inPlace := ["math/bits.Sub64"], unfollowed := true, recurses := true, apart := false }
def VectorNextSaid : Prop := vectorNextRow.holds Try.pinned (OpenSpec.ofChange vectorNextSpec)

/-- ITS FALSE NEIGHBOUR: 'it returns false'. Refute it at one input. -/
def vectorNextWrong : ChangeSpec := { name := "vectorNext", fn := fun _ => fun
  | [d1, d2] => { results := [.lit (.bool false)], args := [d1, d2] }
  | _ => none }
def VectorNextWrongFalsely : Prop := vectorNextRow.holds Try.pinned (OpenSpec.ofChange vectorNextWrong)

/-- 'leatlaw08.EventPlays': WHATEVER THE INPUT: true; the input reads as it did. -/
def eventPlaysSpec : ChangeSpec := { name := "eventPlays", fn := fun _ => fun
  | [d1, d2, d3] => { results := [.lit (.bool true)], args := [d1, d2, d3] }
  | _ => none }
def eventPlaysRow : OpenClaim := { program := "ytolfnilickfneaa", sum := "07e76ff497c83ce918208e83b611c7440ae402641377687a9e1b6848524742d7", func := "leat/leatlaw08.EventPlays", spec := "eventPlays", unfollowed := true, recurses := true, apart := false }
def EventPlaysSaid : Prop := eventPlaysRow.holds Try.pinned (OpenSpec.ofChange eventPlaysSpec)

/-- ITS FALSE NEIGHBOUR: 'it returns false'. Refute it at one input. -/
def eventPlaysWrong : ChangeSpec := { name := "eventPlays", fn := fun _ => fun
  | [d1, d2, d3] => { results := [.lit (.bool false)], args := [d1, d2, d3] }
  | _ => none }
def EventPlaysWrongFalsely : Prop := eventPlaysRow.holds Try.pinned (OpenSpec.ofChange eventPlaysWrong)

/-- 'leatlaw20.MessagePlays': WHATEVER THE INPUT: true; the input reads as it did. -/
def messagePlaysSpec : ChangeSpec := { name := "messagePlays", fn := fun _ => fun
  | [d1, d2] => { results := [.lit (.bool true)], args := [d1, d2] }
  | _ => none }
def messagePlaysRow : OpenClaim := { program := "ytolfnilickfneaa", sum := "07e76ff497c83ce918208e83b611c7440ae402641377687a9e1b6848524742d7", func := "leat/leatlaw20.MessagePlays", spec := "messagePlays", unfollowed := true, recurses := true, apart := false }
def MessagePlaysSaid : Prop := messagePlaysRow.holds Try.pinned (OpenSpec.ofChange messagePlaysSpec)

/-- ITS FALSE NEIGHBOUR: 'it returns false'. Refute it at one input. -/
def messagePlaysWrong : ChangeSpec := { name := "messagePlays", fn := fun _ => fun
  | [d1, d2] => { results := [.lit (.bool false)], args := [d1, d2] }
  | _ => none }
def MessagePlaysWrongFalsely : Prop := messagePlaysRow.holds Try.pinned (OpenSpec.ofChange messagePlaysWrong)

/-- 'leatlaw20.MessageBack': WHATEVER THE INPUT: true; the input reads as it did. -/
def messageBackSpec : ChangeSpec := { name := "messageBack", fn := fun _ => fun
  | [d1, d2] => { results := [.lit (.bool true)], args := [d1, d2] }
  | _ => none }
def messageBackRow : OpenClaim := { program := "ytolfnilickfneaa", sum := "07e76ff497c83ce918208e83b611c7440ae402641377687a9e1b6848524742d7", func := "leat/leatlaw20.MessageBack", spec := "messageBack", unfollowed := true, recurses := true, apart := false }
def MessageBackSaid : Prop := messageBackRow.holds Try.pinned (OpenSpec.ofChange messageBackSpec)

/-- ITS FALSE NEIGHBOUR: 'it returns false'. Refute it at one input. -/
def messageBackWrong : ChangeSpec := { name := "messageBack", fn := fun _ => fun
  | [d1, d2] => { results := [.lit (.bool false)], args := [d1, d2] }
  | _ => none }
def MessageBackWrongFalsely : Prop := messageBackRow.holds Try.pinned (OpenSpec.ofChange messageBackWrong)

/-- 'leatlaw20.MessageSizes': WHATEVER THE INPUT: true; the input reads as it did. -/
def messageSizesSpec : ChangeSpec := { name := "messageSizes", fn := fun _ => fun
  | [d1, d2, d3] => { results := [.lit (.bool true)], args := [d1, d2, d3] }
  | _ => none }
def messageSizesRow : OpenClaim := { program := "ytolfnilickfneaa", sum := "07e76ff497c83ce918208e83b611c7440ae402641377687a9e1b6848524742d7", func := "leat/leatlaw20.MessageSizes", spec := "messageSizes", unfollowed := true, recurses := true, apart := false }
def MessageSizesSaid : Prop := messageSizesRow.holds Try.pinned (OpenSpec.ofChange messageSizesSpec)

/-- ITS FALSE NEIGHBOUR: 'it returns false'. Refute it at one input. -/
def messageSizesWrong : ChangeSpec := { name := "messageSizes", fn := fun _ => fun
  | [d1, d2, d3] => { results := [.lit (.bool false)], args := [d1, d2, d3] }
  | _ => none }
def MessageSizesWrongFalsely : Prop := messageSizesRow.holds Try.pinned (OpenSpec.ofChange messageSizesWrong)

/-- 'leatlaw20.MessageOwn': WHATEVER THE INPUT: true; the input reads as it did. -/
def messageOwnSpec : ChangeSpec := { name := "messageOwn", fn := fun _ => fun
  | [d] => { results := [.lit (.bool true)], args := [d] }
  | _ => none }
def messageOwnRow : OpenClaim := { program := "ytolfnilickfneaa", sum := "07e76ff497c83ce918208e83b611c7440ae402641377687a9e1b6848524742d7", func := "leat/leatlaw20.MessageOwn", spec := "messageOwn", unfollowed := true, recurses := true, apart := false }
def MessageOwnSaid : Prop := messageOwnRow.holds Try.pinned (OpenSpec.ofChange messageOwnSpec)

/-- ITS FALSE NEIGHBOUR: 'it returns false'. Refute it at one input. -/
def messageOwnWrong : ChangeSpec := { name := "messageOwn", fn := fun _ => fun
  | [d] => { results := [.lit (.bool false)], args := [d] }
  | _ => none }
def MessageOwnWrongFalsely : Prop := messageOwnRow.holds Try.pinned (OpenSpec.ofChange messageOwnWrong)

/- THE SECOND FORM. 'bulk': how many values and letters a reading holds, each counted each time it is reached (what is shared counts as often as it is met; a slice's spare places count too). A statement '..UptoSaid' is the law's where the arguments, and the package variables that the reading takes, are together of bulk at most 1048576: NARROWER than '..Said'. Prove '..Said' where nothing that the law and all that it calls make is longer than what came in: it says more and counts as full. Else prove '..UptoSaid'. A law counts once. -/
mutual
def uptoBulk {H : Type} : DataW H → Nat
  | .lit (.string bytes) => bytes.length + 1
  | .lit _ => 1
  | .nil => 1
  | .ptr d => uptoBulk d + 1
  | .slice elems spare => uptoBulkAll elems + uptoBulkAll spare + 1
  | .agg parts => uptoBulkAll parts + 1
  | .iface _ d => uptoBulk d + 1
  | .map entries => uptoBulkEntries entries + 1
  | .held _ => 1
def uptoBulkAll {H : Type} : List (DataW H) → Nat
  | [] => 0
  | d :: r => uptoBulk d + uptoBulkAll r
def uptoBulkEntries {H : Type} : List (Lit × DataW H) → Nat
  | [] => 0
  | x :: r => uptoBulkEntry x + uptoBulkEntries r
def uptoBulkEntry {H : Type} : Lit × DataW H → Nat
  | (.string bytes, d) => bytes.length + uptoBulk d + 1
  | (_, d) => uptoBulk d + 1
 end
def uptoSmall : (H : Type) → List (DataW H) → Bool := fun _ ds => decide (uptoBulkAll ds ≤ 1048576)
def OpenSpec.upto (s : _root_.Go.ChangeSpec) : _root_.Go.OpenSpec := { _root_.Go.OpenSpec.ofChange s with cond := some uptoSmall }

/-- 'leatlaw06.VectorPlays', WHERE WHAT IT READS IS OF BULK AT MOST 1048576: true; the input reads as it did. -/
def vectorPlaysUptoRow : OpenClaim := { program := "ytolfnilickfneaa", sum := "07e76ff497c83ce918208e83b611c7440ae402641377687a9e1b6848524742d7", func := "leat/leatlaw06.VectorPlays", spec := "vectorPlays", inPlace := ["math/bits.Sub64"], unfollowed := true, recurses := true, apart := false, narrowed := true }
def VectorPlaysUptoSaid : Prop := vectorPlaysUptoRow.holds Try.pinned (OpenSpec.upto vectorPlaysSpec)

/-- 'leatlaw06.VectorNext', WHERE WHAT IT READS IS OF BULK AT MOST 1048576: true; the input reads as it did. -/
def vectorNextUptoRow : OpenClaim := { program := "ytolfnilickfneaa", sum := "07e76ff497c83ce918208e83b611c7440ae402641377687a9e1b6848524742d7", func := "leat/leatlaw06.VectorNext", spec := "vectorNext", inPlace := ["math/bits.Sub64"], unfollowed := true, recurses := true, apart := false, narrowed := true }
def VectorNextUptoSaid : Prop := vectorNextUptoRow.holds Try.pinned (OpenSpec.upto vectorNextSpec)

/-- 'leatlaw08.EventPlays', WHERE WHAT IT READS IS OF BULK AT MOST 1048576: true; the input reads as it did. -/
def eventPlaysUptoRow : OpenClaim := { program := "ytolfnilickfneaa", sum := "07e76ff497c83ce918208e83b611c7440ae402641377687a9e1b6848524742d7", func := "leat/leatlaw08.EventPlays", spec := "eventPlays", unfollowed := true, recurses := true, apart := false, narrowed := true }
def EventPlaysUptoSaid : Prop := eventPlaysUptoRow.holds Try.pinned (OpenSpec.upto eventPlaysSpec)

/-- 'leatlaw20.MessagePlays', WHERE WHAT IT READS IS OF BULK AT MOST 1048576: true; the input reads as it did. -/
def messagePlaysUptoRow : OpenClaim := { program := "ytolfnilickfneaa", sum := "07e76ff497c83ce918208e83b611c7440ae402641377687a9e1b6848524742d7", func := "leat/leatlaw20.MessagePlays", spec := "messagePlays", unfollowed := true, recurses := true, apart := false, narrowed := true }
def MessagePlaysUptoSaid : Prop := messagePlaysUptoRow.holds Try.pinned (OpenSpec.upto messagePlaysSpec)

/-- 'leatlaw20.MessageBack', WHERE WHAT IT READS IS OF BULK AT MOST 1048576: true; the input reads as it did. -/
def messageBackUptoRow : OpenClaim := { program := "ytolfnilickfneaa", sum := "07e76ff497c83ce918208e83b611c7440ae402641377687a9e1b6848524742d7", func := "leat/leatlaw20.MessageBack", spec := "messageBack", unfollowed := true, recurses := true, apart := false, narrowed := true }
def MessageBackUptoSaid : Prop := messageBackUptoRow.holds Try.pinned (OpenSpec.upto messageBackSpec)

/-- 'leatlaw20.MessageSizes', WHERE WHAT IT READS IS OF BULK AT MOST 1048576: true; the input reads as it did. -/
def messageSizesUptoRow : OpenClaim := { program := "ytolfnilickfneaa", sum := "07e76ff497c83ce918208e83b611c7440ae402641377687a9e1b6848524742d7", func := "leat/leatlaw20.MessageSizes", spec := "messageSizes", unfollowed := true, recurses := true, apart := false, narrowed := true }
def MessageSizesUptoSaid : Prop := messageSizesUptoRow.holds Try.pinned (OpenSpec.upto messageSizesSpec)

/-- 'leatlaw20.MessageOwn', WHERE WHAT IT READS IS OF BULK AT MOST 1048576: true; the input reads as it did. -/
def messageOwnUptoRow : OpenClaim := { program := "ytolfnilickfneaa", sum := "07e76ff497c83ce918208e83b611c7440ae402641377687a9e1b6848524742d7", func := "leat/leatlaw20.MessageOwn", spec := "messageOwn", unfollowed := true, recurses := true, apart := false, narrowed := true }
def MessageOwnUptoSaid : Prop := messageOwnUptoRow.holds Try.pinned (OpenSpec.upto messageOwnSpec)

end Rows
end Go.Proofs.Ytolfnilickfneaa
