/-
  No cell of these rows narrows 'for every input' (looked for: loops, veiled, ifaces, maps, wideKeys, modest, calm, conditions, laid).
  DERIVED. THE GIVEN ROWS OF THIS SEAT. 7 by the template 'for every input the law returns true; each argument reads behind the call as it read before'; 0 by the template 'total and deterministic' (their statements: YtnhjphmcdamoaaaTotals.lean).
  GIVEN WITH THE SEED: the statements are not yours to turn. If you find one false, say at which input.
  Laid BY PROGRAM, IN A SANDBOX (cutbox-rows.mjs): the forced cells as the released guide's own fill.sh prints them over the translation 187c1d3c6bb29f47… (all of the seat's roots in one cut). By AI agents, Wed Nov 11 2026. No macro, syntax, notation, axiom, sorry.
-/
import Derived.Test.YtnhjphmcdamoaaaChecked
import GoSem.Claim
import GoSem.ClaimJoined
import GoSem.ClaimMapViews
import Derived.JoinedTies
import Derived.KernelRfl
namespace Go.Proofs.Ytnhjphmcdamoaaa
/- THE CELL 'sum', in the pinned program and in every row, IS THE sha256 OF THE DUMP (.gsa) THAT YtnhjphmcdamoaaaProg.lean LOADS. Nothing in Lean hashes anything: it is a label: what it is worth is what the hold of that sum in a sandbox is worth. -/
noncomputable def Try.pinned : Pinned := { name := "ytnhjphmcdamoaaa", sum := "187c1d3c6bb29f474ed853f3a4e8dfac4ec564926812c498674b86e63ed8abc7", checked := Try.checked }
namespace Rows
def none {H : Type} : Left H := { results := [], args := [] }

/-- 'leatlaw06.VectorPlays': WHATEVER THE INPUT: true; the input reads as it did. -/
def vectorPlaysSpec : ChangeSpec := { name := "vectorPlays", fn := fun _ => fun
  | [d1, d2, d3, d4, d5] => { results := [.lit (.bool true)], args := [d1, d2, d3, d4, d5] }
  | _ => none }
def vectorPlaysRow : OpenClaim := { program := "ytnhjphmcdamoaaa", sum := "187c1d3c6bb29f474ed853f3a4e8dfac4ec564926812c498674b86e63ed8abc7", func := "leat/leatlaw06.VectorPlays", spec := "vectorPlays", inPlace := ["math/bits.Sub64"], unfollowed := true, recurses := true, apart := false }
def VectorPlaysSaid : Prop := vectorPlaysRow.holds Try.pinned (OpenSpec.ofChange vectorPlaysSpec)

/-- ITS FALSE NEIGHBOUR: 'it returns false'. Refute it at one input. -/
def vectorPlaysWrong : ChangeSpec := { name := "vectorPlays", fn := fun _ => fun
  | [d1, d2, d3, d4, d5] => { results := [.lit (.bool false)], args := [d1, d2, d3, d4, d5] }
  | _ => none }
def VectorPlaysWrongFalsely : Prop := vectorPlaysRow.holds Try.pinned (OpenSpec.ofChange vectorPlaysWrong)

/-- 'leatlaw06.VectorNext': WHATEVER THE INPUT: true; the input reads as it did. -/
def vectorNextSpec : ChangeSpec := { name := "vectorNext", fn := fun _ => fun
  | [d1, d2] => { results := [.lit (.bool true)], args := [d1, d2] }
  | _ => none }
def vectorNextRow : OpenClaim := { program := "ytnhjphmcdamoaaa", sum := "187c1d3c6bb29f474ed853f3a4e8dfac4ec564926812c498674b86e63ed8abc7", func := "leat/leatlaw06.VectorNext", spec := "vectorNext", inPlace := ["math/bits.Sub64"], unfollowed := true, recurses := true, apart := false }
def VectorNextSaid : Prop := vectorNextRow.holds Try.pinned (OpenSpec.ofChange vectorNextSpec)

/-- ITS FALSE NEIGHBOUR: 'it returns false'. Refute it at one input. -/
def vectorNextWrong : ChangeSpec := { name := "vectorNext", fn := fun _ => fun
  | [d1, d2] => { results := [.lit (.bool false)], args := [d1, d2] }
  | _ => none }
def VectorNextWrongFalsely : Prop := vectorNextRow.holds Try.pinned (OpenSpec.ofChange vectorNextWrong)

/-- 'leatlaw06.VectorBytes': WHATEVER THE INPUT: true; the input reads as it did. -/
def vectorBytesSpec : ChangeSpec := { name := "vectorBytes", fn := fun _ => fun
  | [d1, d2] => { results := [.lit (.bool true)], args := [d1, d2] }
  | _ => none }
def vectorBytesRow : OpenClaim := { program := "ytnhjphmcdamoaaa", sum := "187c1d3c6bb29f474ed853f3a4e8dfac4ec564926812c498674b86e63ed8abc7", func := "leat/leatlaw06.VectorBytes", spec := "vectorBytes", inPlace := ["math/bits.Sub64"], unfollowed := true, recurses := true, apart := false }
def VectorBytesSaid : Prop := vectorBytesRow.holds Try.pinned (OpenSpec.ofChange vectorBytesSpec)

/-- ITS FALSE NEIGHBOUR: 'it returns false'. Refute it at one input. -/
def vectorBytesWrong : ChangeSpec := { name := "vectorBytes", fn := fun _ => fun
  | [d1, d2] => { results := [.lit (.bool false)], args := [d1, d2] }
  | _ => none }
def VectorBytesWrongFalsely : Prop := vectorBytesRow.holds Try.pinned (OpenSpec.ofChange vectorBytesWrong)

/-- 'leatlaw23.NetFull': WHATEVER THE INPUT: true; the input reads as it did. -/
def netFullSpec : ChangeSpec := { name := "netFull", fn := fun _ => fun
  | [d1, d2] => { results := [.lit (.bool true)], args := [d1, d2] }
  | _ => none }
def netFullRow : OpenClaim := { program := "ytnhjphmcdamoaaa", sum := "187c1d3c6bb29f474ed853f3a4e8dfac4ec564926812c498674b86e63ed8abc7", func := "leat/leatlaw23.NetFull", spec := "netFull", unfollowed := true, recurses := true, apart := false }
def NetFullSaid : Prop := netFullRow.holds Try.pinned (OpenSpec.ofChange netFullSpec)

/-- ITS FALSE NEIGHBOUR: 'it returns false'. Refute it at one input. -/
def netFullWrong : ChangeSpec := { name := "netFull", fn := fun _ => fun
  | [d1, d2] => { results := [.lit (.bool false)], args := [d1, d2] }
  | _ => none }
def NetFullWrongFalsely : Prop := netFullRow.holds Try.pinned (OpenSpec.ofChange netFullWrong)

/-- 'leatlaw23.NetPlays': WHATEVER THE INPUT: true; the input reads as it did. -/
def netPlaysSpec : ChangeSpec := { name := "netPlays", fn := fun _ => fun
  | [d] => { results := [.lit (.bool true)], args := [d] }
  | _ => none }
def netPlaysRow : OpenClaim := { program := "ytnhjphmcdamoaaa", sum := "187c1d3c6bb29f474ed853f3a4e8dfac4ec564926812c498674b86e63ed8abc7", func := "leat/leatlaw23.NetPlays", spec := "netPlays", unfollowed := true, recurses := true, apart := false }
def NetPlaysSaid : Prop := netPlaysRow.holds Try.pinned (OpenSpec.ofChange netPlaysSpec)

/-- ITS FALSE NEIGHBOUR: 'it returns false'. Refute it at one input. -/
def netPlaysWrong : ChangeSpec := { name := "netPlays", fn := fun _ => fun
  | [d] => { results := [.lit (.bool false)], args := [d] }
  | _ => none }
def NetPlaysWrongFalsely : Prop := netPlaysRow.holds Try.pinned (OpenSpec.ofChange netPlaysWrong)

/-- 'leatlaw23.NetCounts': WHATEVER THE INPUT: true; the input reads as it did. -/
def netCountsSpec : ChangeSpec := { name := "netCounts", fn := fun _ => fun
  | [d] => { results := [.lit (.bool true)], args := [d] }
  | _ => none }
def netCountsRow : OpenClaim := { program := "ytnhjphmcdamoaaa", sum := "187c1d3c6bb29f474ed853f3a4e8dfac4ec564926812c498674b86e63ed8abc7", func := "leat/leatlaw23.NetCounts", spec := "netCounts", unfollowed := true, recurses := true, apart := false }
def NetCountsSaid : Prop := netCountsRow.holds Try.pinned (OpenSpec.ofChange netCountsSpec)

/-- ITS FALSE NEIGHBOUR: 'it returns false'. Refute it at one input. -/
def netCountsWrong : ChangeSpec := { name := "netCounts", fn := fun _ => fun
  | [d] => { results := [.lit (.bool false)], args := [d] }
  | _ => none }
def NetCountsWrongFalsely : Prop := netCountsRow.holds Try.pinned (OpenSpec.ofChange netCountsWrong)

/-- 'leatlaw23.NetNil': WHATEVER THE INPUT: true; the input reads as it did. -/
def netNilSpec : ChangeSpec := { name := "netNil", fn := fun _ => fun
  | [d1, d2] => { results := [.lit (.bool true)], args := [d1, d2] }
  | _ => none }
def netNilRow : OpenClaim := { program := "ytnhjphmcdamoaaa", sum := "187c1d3c6bb29f474ed853f3a4e8dfac4ec564926812c498674b86e63ed8abc7", func := "leat/leatlaw23.NetNil", spec := "netNil", unfollowed := true, recurses := true, apart := false }
def NetNilSaid : Prop := netNilRow.holds Try.pinned (OpenSpec.ofChange netNilSpec)

/-- ITS FALSE NEIGHBOUR: 'it returns false'. Refute it at one input. -/
def netNilWrong : ChangeSpec := { name := "netNil", fn := fun _ => fun
  | [d1, d2] => { results := [.lit (.bool false)], args := [d1, d2] }
  | _ => none }
def NetNilWrongFalsely : Prop := netNilRow.holds Try.pinned (OpenSpec.ofChange netNilWrong)

/- THE SECOND FORM. 'bulk': how many values and letters a reading holds, each counted each time it is reached (what is shared counts as often as it is met; a slice's spare places count too). A statement '..UptoSaid' is the law's where the arguments, and the package variables that the reading takes, are together of bulk at most 1048576: NARROWER than '..Said'. Prove '..Said' where nothing that the law and all that it calls make is longer than what came in: it says more and counts as full. Else prove '..UptoSaid'. A law counts once. -/
mutual
def uptoBulk {H : Type} : DataW H → Nat
  | .lit (.string bytes) => bytes.length + 1
  | .lit _ => 1
  | .nil => 1
  | .ptr d => uptoBulk d + 1
  | .slice elems spare => uptoBulkAll elems + uptoBulkAll spare + 1
  | .agg parts => uptoBulkAll parts + 1
  | .iface _ d => uptoBulk d + 1
  | .map entries => uptoBulkEntries entries + 1
  | .held _ => 1
def uptoBulkAll {H : Type} : List (DataW H) → Nat
  | [] => 0
  | d :: r => uptoBulk d + uptoBulkAll r
def uptoBulkEntries {H : Type} : List (Lit × DataW H) → Nat
  | [] => 0
  | x :: r => uptoBulkEntry x + uptoBulkEntries r
def uptoBulkEntry {H : Type} : Lit × DataW H → Nat
  | (.string bytes, d) => bytes.length + uptoBulk d + 1
  | (_, d) => uptoBulk d + 1
 end
def uptoSmall : (H : Type) → List (DataW H) → Bool := fun _ ds => decide (uptoBulkAll ds ≤ 1048576)
def OpenSpec.upto (s : _root_.Go.ChangeSpec) : _root_.Go.OpenSpec := { _root_.Go.OpenSpec.ofChange s with cond := some uptoSmall }

/-- 'leatlaw06.VectorPlays', WHERE WHAT IT READS IS OF BULK AT MOST 1048576: true; the input reads as it did. -/
def vectorPlaysUptoRow : OpenClaim := { program := "ytnhjphmcdamoaaa", sum := "187c1d3c6bb29f474ed853f3a4e8dfac4ec564926812c498674b86e63ed8abc7", func := "leat/leatlaw06.VectorPlays", spec := "vectorPlays", inPlace := ["math/bits.Sub64"], unfollowed := true, recurses := true, apart := false, narrowed := true }
def VectorPlaysUptoSaid : Prop := vectorPlaysUptoRow.holds Try.pinned (OpenSpec.upto vectorPlaysSpec)

/-- 'leatlaw06.VectorNext', WHERE WHAT IT READS IS OF BULK AT MOST 1048576: true; the input reads as it did. -/
def vectorNextUptoRow : OpenClaim := { program := "ytnhjphmcdamoaaa", sum := "187c1d3c6bb29f474ed853f3a4e8dfac4ec564926812c498674b86e63ed8abc7", func := "leat/leatlaw06.VectorNext", spec := "vectorNext", inPlace := ["math/bits.Sub64"], unfollowed := true, recurses := true, apart := false, narrowed := true }
def VectorNextUptoSaid : Prop := vectorNextUptoRow.holds Try.pinned (OpenSpec.upto vectorNextSpec)

/-- 'leatlaw06.VectorBytes', WHERE WHAT IT READS IS OF BULK AT MOST 1048576: true; the input reads as it did. -/
def vectorBytesUptoRow : OpenClaim := { program := "ytnhjphmcdamoaaa", sum := "187c1d3c6bb29f474ed853f3a4e8dfac4ec564926812c498674b86e63ed8abc7", func := "leat/leatlaw06.VectorBytes", spec := "vectorBytes", inPlace := ["math/bits.Sub64"], unfollowed := true, recurses := true, apart := false, narrowed := true }
def VectorBytesUptoSaid : Prop := vectorBytesUptoRow.holds Try.pinned (OpenSpec.upto vectorBytesSpec)

/-- 'leatlaw23.NetFull', WHERE WHAT IT READS IS OF BULK AT MOST 1048576: true; the input reads as it did. -/
def netFullUptoRow : OpenClaim := { program := "ytnhjphmcdamoaaa", sum := "187c1d3c6bb29f474ed853f3a4e8dfac4ec564926812c498674b86e63ed8abc7", func := "leat/leatlaw23.NetFull", spec := "netFull", unfollowed := true, recurses := true, apart := false, narrowed := true }
def NetFullUptoSaid : Prop := netFullUptoRow.holds Try.pinned (OpenSpec.upto netFullSpec)

/-- 'leatlaw23.NetPlays', WHERE WHAT IT READS IS OF BULK AT MOST 1048576: true; the input reads as it did. -/
def netPlaysUptoRow : OpenClaim := { program := "ytnhjphmcdamoaaa", sum := "187c1d3c6bb29f474ed853f3a4e8dfac4ec564926812c498674b86e63ed8abc7", func := "leat/leatlaw23.NetPlays", spec := "netPlays", unfollowed := true, recurses := true, apart := false, narrowed := true }
def NetPlaysUptoSaid : Prop := netPlaysUptoRow.holds Try.pinned (OpenSpec.upto netPlaysSpec)

/-- 'leatlaw23.NetCounts', WHERE WHAT IT READS IS OF BULK AT MOST 1048576: true; the input reads as it did. -/
def netCountsUptoRow : OpenClaim := { program := "ytnhjphmcdamoaaa", sum := "187c1d3c6bb29f474ed853f3a4e8dfac4ec564926812c498674b86e63ed8abc7", func := "leat/leatlaw23.NetCounts", spec := "netCounts", unfollowed := true, recurses := true, apart := false, narrowed := true }
def NetCountsUptoSaid : Prop := netCountsUptoRow.holds Try.pinned (OpenSpec.upto netCountsSpec)

/-- 'leatlaw23.NetNil', WHERE WHAT IT READS IS OF BULK AT MOST 1048576: true; the input reads as it did. -/
def netNilUptoRow : OpenClaim := { program := "ytnhjphmcdamoaaa", sum := "187c1d3c6bb29f474ed853f3a4e8dfac4ec564926812c498674b86e63ed8abc7", func := "leat/leatlaw23.NetNil", spec := "netNil", unfollowed := true, recurses := true, apart := false, narrowed := true }
def NetNilUptoSaid : Prop := netNilUptoRow.holds Try.pinned (OpenSpec.upto netNilSpec)

end Rows
end Go.Proofs.Ytnhjphmcdamoaaa
