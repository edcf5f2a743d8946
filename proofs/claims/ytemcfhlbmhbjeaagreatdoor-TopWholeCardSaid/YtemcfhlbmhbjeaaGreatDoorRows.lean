/-
  NARROWER THAN 'FOR EVERY INPUT', by the rows' own cells (each row's printed sentence says how): TopWhole: laid.
  DERIVED. THE GIVEN ROWS OF THIS SEAT. 1 by the template 'for every input the law returns true; each argument reads behind the call as it read before'; 0 by the template 'total and deterministic' (their statements: YtemcfhlbmhbjeaaGreatDoorTotals.lean).
  GIVEN WITH THE SEED: the statements are not yours to turn. If you find one false, say at which input.
  Laid BY PROGRAM, IN A SANDBOX (cutbox-rows.mjs): the forced cells as the released guide's own fill.sh prints them over the translation 7f3be24cbd23605e… (all of the seat's roots in one cut). By AI agents, Wed Nov 11 2026. No macro, syntax, notation, axiom, sorry.
-/
import Derived.Test.YtemcfhlbmhbjeaaGreatDoorChecked
import GoSem.Claim
import GoSem.ClaimJoined
import GoSem.ClaimMapViews
import Derived.JoinedTies
import Derived.KernelRfl
namespace Go.Proofs.YtemcfhlbmhbjeaaGreatDoor
/- THE CELL 'sum', in the pinned program and in every row, IS THE sha256 OF THE DUMP (.gsa) THAT YtemcfhlbmhbjeaaGreatDoorProg.lean LOADS. Nothing in Lean hashes anything: it is a label: what it is worth is what the hold of that sum in a sandbox is worth. -/
noncomputable def Tryz.pinned : Pinned := { name := "ytemcfhlbmhbjeaagreatdoor", sum := "7f3be24cbd23605eeea5045401c561ea5b2f2c58f1faef0faca38e13f4866e2b", checked := Tryz.checked }
namespace Rows
def none {H : Type} : Left H := { results := [], args := [] }

/- WHAT THE LISTED PACKAGE-LEVEL VARIABLES READ AS WHEN THE CALL BEGINS. Each datum BY PROGRAM (the guide's laid-datum.mjs) off the statement by which the dump's own 'gosem.cut.vars' lays the variable. In a bare row this is a premise. The card (YtemcfhlbmhbjeaaGreatDoorCards.lean) ties it to the program's text. -/
def laid_leat_ledger_kinds {H : Type} : DataW H := .iface "func table" (.agg [.nil, .iface "func" (.lit (.string [40, 42, 108, 101, 97, 116, 47, 108, 101, 100, 103, 101, 114, 46, 76, 101, 100, 103, 101, 114, 41, 46, 109, 97, 107, 101, 115])), .iface "func" (.lit (.string [40, 42, 108, 101, 97, 116, 47, 108, 101, 100, 103, 101, 114, 46, 76, 101, 100, 103, 101, 114, 41, 46, 114, 97, 105, 115, 101, 115])), .iface "func" (.lit (.string [40, 42, 108, 101, 97, 116, 47, 108, 101, 100, 103, 101, 114, 46, 76, 101, 100, 103, 101, 114, 41, 46, 116, 97, 107, 101, 115])), .iface "func" (.lit (.string [40, 42, 108, 101, 97, 116, 47, 108, 101, 100, 103, 101, 114, 46, 76, 101, 100, 103, 101, 114, 41, 46, 102, 114, 101, 101, 115])), .iface "func" (.lit (.string [40, 42, 108, 101, 97, 116, 47, 108, 101, 100, 103, 101, 114, 46, 76, 101, 100, 103, 101, 114, 41, 46, 109, 111, 118, 101, 115])), .iface "func" (.lit (.string [40, 42, 108, 101, 97, 116, 47, 108, 101, 100, 103, 101, 114, 46, 76, 101, 100, 103, 101, 114, 41, 46, 106, 111, 105, 110, 115])), .iface "func" (.lit (.string [40, 42, 108, 101, 97, 116, 47, 108, 101, 100, 103, 101, 114, 46, 76, 101, 100, 103, 101, 114, 41, 46, 108, 101, 97, 118, 101, 115]))])
def laid_leat_cluster_doings {H : Type} : DataW H := .iface "func table" (.agg [.agg [.nil, .lit (.bool false)], .agg [.iface "func" (.lit (.string [40, 42, 108, 101, 97, 116, 47, 99, 108, 117, 115, 116, 101, 114, 46, 67, 108, 117, 115, 116, 101, 114, 41, 46, 97, 115, 107])), .lit (.bool false)], .agg [.iface "func" (.lit (.string [40, 42, 108, 101, 97, 116, 47, 99, 108, 117, 115, 116, 101, 114, 46, 67, 108, 117, 115, 116, 101, 114, 41, 46, 116, 105, 99, 107])), .lit (.bool false)], .agg [.iface "func" (.lit (.string [40, 42, 108, 101, 97, 116, 47, 99, 108, 117, 115, 116, 101, 114, 46, 67, 108, 117, 115, 116, 101, 114, 41, 46, 116, 105, 109, 101])), .lit (.bool true)], .agg [.iface "func" (.lit (.string [40, 42, 108, 101, 97, 116, 47, 99, 108, 117, 115, 116, 101, 114, 46, 67, 108, 117, 115, 116, 101, 114, 41, 46, 100, 101, 108, 105, 118, 101, 114])), .lit (.bool true)], .agg [.iface "func" (.lit (.string [40, 42, 108, 101, 97, 116, 47, 99, 108, 117, 115, 116, 101, 114, 46, 67, 108, 117, 115, 116, 101, 114, 41, 46, 100, 114, 111, 112])), .lit (.bool true)], .agg [.iface "func" (.lit (.string [40, 42, 108, 101, 97, 116, 47, 99, 108, 117, 115, 116, 101, 114, 46, 67, 108, 117, 115, 116, 101, 114, 41, 46, 116, 119, 105, 99, 101])), .lit (.bool true)], .agg [.iface "func" (.lit (.string [40, 42, 108, 101, 97, 116, 47, 99, 108, 117, 115, 116, 101, 114, 46, 67, 108, 117, 115, 116, 101, 114, 41, 46, 99, 117, 116])), .lit (.bool false)], .agg [.iface "func" (.lit (.string [40, 42, 108, 101, 97, 116, 47, 99, 108, 117, 115, 116, 101, 114, 46, 67, 108, 117, 115, 116, 101, 114, 41, 46, 104, 101, 97, 108])), .lit (.bool true)], .agg [.iface "func" (.lit (.string [40, 42, 108, 101, 97, 116, 47, 99, 108, 117, 115, 116, 101, 114, 46, 67, 108, 117, 115, 116, 101, 114, 41, 46, 102, 117, 115, 101])), .lit (.bool false)], .agg [.iface "func" (.lit (.string [40, 42, 108, 101, 97, 116, 47, 99, 108, 117, 115, 116, 101, 114, 46, 67, 108, 117, 115, 116, 101, 114, 41, 46, 111, 102, 102])), .lit (.bool false)], .agg [.iface "func" (.lit (.string [40, 42, 108, 101, 97, 116, 47, 99, 108, 117, 115, 116, 101, 114, 46, 67, 108, 117, 115, 116, 101, 114, 41, 46, 111, 110])), .lit (.bool false)], .agg [.iface "func" (.lit (.string [40, 42, 108, 101, 97, 116, 47, 99, 108, 117, 115, 116, 101, 114, 46, 67, 108, 117, 115, 116, 101, 114, 41, 46, 108, 101, 97, 118, 101])), .lit (.bool false)]])
def laid_leat_drill_makers {H : Type} : DataW H := .iface "func table" (.agg [.nil, .iface "func" (.lit (.string [108, 101, 97, 116, 47, 100, 114, 105, 108, 108, 46, 109, 97, 107, 101, 114, 115, 36, 49])), .iface "func" (.lit (.string [108, 101, 97, 116, 47, 100, 114, 105, 108, 108, 46, 109, 97, 107, 101, 114, 115, 36, 50])), .iface "func" (.lit (.string [108, 101, 97, 116, 47, 100, 114, 105, 108, 108, 46, 109, 97, 107, 101, 114, 115, 36, 51])), .iface "func" (.lit (.string [108, 101, 97, 116, 47, 100, 114, 105, 108, 108, 46, 109, 97, 107, 101, 114, 115, 36, 52])), .iface "func" (.lit (.string [108, 101, 97, 116, 47, 100, 114, 105, 108, 108, 46, 109, 97, 107, 101, 114, 115, 36, 53])), .iface "func" (.lit (.string [108, 101, 97, 116, 47, 100, 114, 105, 108, 108, 46, 109, 97, 107, 101, 114, 115, 36, 54])), .iface "func" (.lit (.string [108, 101, 97, 116, 47, 100, 114, 105, 108, 108, 46, 109, 97, 107, 101, 114, 115, 36, 55])), .iface "func" (.lit (.string [108, 101, 97, 116, 47, 100, 114, 105, 108, 108, 46, 109, 97, 107, 101, 114, 115, 36, 56])), .iface "func" (.lit (.string [108, 101, 97, 116, 47, 100, 114, 105, 108, 108, 46, 109, 97, 107, 101, 114, 115, 36, 57]))])

/-- 'leattop.TopWhole': WHATEVER THE INPUT: true; the input reads as it did. -/
def topWholeSpec : ChangeSpec := { name := "topWhole", fn := fun _ => fun
  | [d1, d2, d3] => { results := [.lit (.bool true)], args := [d1, d2, d3] }
  | _ => none }
def topWholeRow : OpenClaim := { program := "ytemcfhlbmhbjeaagreatdoor", sum := "7f3be24cbd23605eeea5045401c561ea5b2f2c58f1faef0faca38e13f4866e2b", func := "leat/leattop.TopWhole", spec := "topWhole", unfollowed := true, recurses := true, named := ["leat/ledger.kinds", "leat/cluster.doings", "leat/drill.makers"], plainKeys := false, apart := false, laid := [("leat/ledger.kinds", laid_leat_ledger_kinds), ("leat/cluster.doings", laid_leat_cluster_doings), ("leat/drill.makers", laid_leat_drill_makers)] }
def TopWholeSaid : Prop := topWholeRow.holds Tryz.pinned (OpenSpec.ofChange topWholeSpec)

/-- ITS FALSE NEIGHBOUR: 'it returns false'. Refute it at one input. -/
def topWholeWrong : ChangeSpec := { name := "topWhole", fn := fun _ => fun
  | [d1, d2, d3] => { results := [.lit (.bool false)], args := [d1, d2, d3] }
  | _ => none }
def TopWholeWrongFalsely : Prop := topWholeRow.holds Tryz.pinned (OpenSpec.ofChange topWholeWrong)

/- THE SECOND FORM. 'bulk': how many values and letters a reading holds, each counted each time it is reached (what is shared counts as often as it is met; a slice's spare places count too). A statement '..UptoSaid' is the law's where the arguments, and the package variables that the reading takes, are together of bulk at most 1048576: NARROWER than '..Said'. Prove '..Said' where nothing that the law and all that it calls make is longer than what came in: it says more and counts as full. Else prove '..UptoSaid'. A law counts once. -/
mutual
def uptoBulk {H : Type} : DataW H → Nat
  | .lit (.string bytes) => bytes.length + 1
  | .lit _ => 1
  | .nil => 1
  | .ptr d => uptoBulk d + 1
  | .slice elems spare => uptoBulkAll elems + uptoBulkAll spare + 1
  | .agg parts => uptoBulkAll parts + 1
  | .iface _ d => uptoBulk d + 1
  | .map entries => uptoBulkEntries entries + 1
  | .held _ => 1
def uptoBulkAll {H : Type} : List (DataW H) → Nat
  | [] => 0
  | d :: r => uptoBulk d + uptoBulkAll r
def uptoBulkEntries {H : Type} : List (Lit × DataW H) → Nat
  | [] => 0
  | x :: r => uptoBulkEntry x + uptoBulkEntries r
def uptoBulkEntry {H : Type} : Lit × DataW H → Nat
  | (.string bytes, d) => bytes.length + uptoBulk d + 1
  | (_, d) => uptoBulk d + 1
 end
def uptoSmall : (H : Type) → List (DataW H) → Bool := fun _ ds => decide (uptoBulkAll ds ≤ 1048576)
def OpenSpec.upto (s : _root_.Go.ChangeSpec) : _root_.Go.OpenSpec := { _root_.Go.OpenSpec.ofChange s with cond := some uptoSmall }

/-- 'leattop.TopWhole', WHERE WHAT IT READS IS OF BULK AT MOST 1048576: true; the input reads as it did. -/
def topWholeUptoRow : OpenClaim := { program := "ytemcfhlbmhbjeaagreatdoor", sum := "7f3be24cbd23605eeea5045401c561ea5b2f2c58f1faef0faca38e13f4866e2b", func := "leat/leattop.TopWhole", spec := "topWhole", unfollowed := true, recurses := true, named := ["leat/ledger.kinds", "leat/cluster.doings", "leat/drill.makers"], plainKeys := false, apart := false, laid := [("leat/ledger.kinds", laid_leat_ledger_kinds), ("leat/cluster.doings", laid_leat_cluster_doings), ("leat/drill.makers", laid_leat_drill_makers)], narrowed := true }
def TopWholeUptoSaid : Prop := topWholeUptoRow.holds Tryz.pinned (OpenSpec.upto topWholeSpec)

end Rows
end Go.Proofs.YtemcfhlbmhbjeaaGreatDoor
