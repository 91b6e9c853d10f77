/-
  NARROWER THAN 'FOR EVERY INPUT', by the rows' own cells (each row's printed sentence says how): KvBytes: laid · KvOpens: laid · KvCommits: laid · KvWhole: laid · KvSnaps: laid · KvKeys: laid · KvAsks: laid.
  DERIVED. THE GIVEN ROWS OF THIS SEAT. 7 by the template 'for every input the law returns true; each argument reads behind the call as it read before'; 0 by the template 'total and deterministic' (their statements: YtaijompnohkmaaaGreatDoorTotals.lean).
  GIVEN WITH THE SEED: the statements are not yours to turn. If you find one false, say at which input.
  Laid BY PROGRAM, IN A SANDBOX (cutbox-rows.mjs): the forced cells as the released guide's own fill.sh prints them over the translation 5755e17120c5e271… (all of the seat's roots in one cut). By AI agents, Wed Nov 11 2026. No macro, syntax, notation, axiom, sorry.
-/
import Derived.Test.YtaijompnohkmaaaGreatDoorChecked
import GoSem.Claim
import GoSem.ClaimJoined
import GoSem.ClaimMapViews
import Derived.JoinedTies
import Derived.KernelRfl
namespace Go.Proofs.YtaijompnohkmaaaGreatDoor
/- THE CELL 'sum', in the pinned program and in every row, IS THE sha256 OF THE DUMP (.gsa) THAT YtaijompnohkmaaaGreatDoorProg.lean LOADS. Nothing in Lean hashes anything: it is a label: what it is worth is what the hold of that sum in a sandbox is worth. -/
noncomputable def Tryz.pinned : Pinned := { name := "ytaijompnohkmaaagreatdoor", sum := "5755e17120c5e2712af31393bfff13ec7e8903c26d08b327a63dec8601b57b93", checked := Tryz.checked }
namespace Rows
def none {H : Type} : Left H := { results := [], args := [] }

/- WHAT THE LISTED PACKAGE-LEVEL VARIABLES READ AS WHEN THE CALL BEGINS. Each datum BY PROGRAM (the guide's laid-datum.mjs) off the statement by which the dump's own 'gosem.cut.vars' lays the variable. In a bare row this is a premise. The card (YtaijompnohkmaaaGreatDoorCards.lean) ties it to the program's text. -/
def laid_escheat_sum_turned {H : Type} : DataW H := .agg [.lit (.int .u32 0), .lit (.int .u32 498536548), .lit (.int .u32 997073096), .lit (.int .u32 651767980), .lit (.int .u32 1994146192), .lit (.int .u32 1802195444), .lit (.int .u32 1303535960), .lit (.int .u32 1342533948), .lit (.int .u32 3988292384), .lit (.int .u32 4027552580), .lit (.int .u32 3604390888), .lit (.int .u32 3412177804), .lit (.int .u32 2607071920), .lit (.int .u32 2262029012), .lit (.int .u32 2685067896), .lit (.int .u32 3183342108)]

/-- 'escheatlaw06.KvBytes': WHATEVER THE INPUT: true; the input reads as it did. -/
def kvBytesSpec : ChangeSpec := { name := "kvBytes", fn := fun _ => fun
  | [d1, d2] => { results := [.lit (.bool true)], args := [d1, d2] }
  | _ => none }
def kvBytesRow : OpenClaim := { program := "ytaijompnohkmaaagreatdoor", sum := "5755e17120c5e2712af31393bfff13ec7e8903c26d08b327a63dec8601b57b93", func := "escheat/escheatlaw06.KvBytes", spec := "kvBytes", inPlace := ["internal/bytealg.abigen_runtime_cmpstring"], unfollowed := true, recurses := true, named := ["escheat/sum.turned"], apart := false, laid := [("escheat/sum.turned", laid_escheat_sum_turned)] }
def KvBytesSaid : Prop := kvBytesRow.holds Tryz.pinned (OpenSpec.ofChange kvBytesSpec)

/-- ITS FALSE NEIGHBOUR: 'it returns false'. Refute it at one input. -/
def kvBytesWrong : ChangeSpec := { name := "kvBytes", fn := fun _ => fun
  | [d1, d2] => { results := [.lit (.bool false)], args := [d1, d2] }
  | _ => none }
def KvBytesWrongFalsely : Prop := kvBytesRow.holds Tryz.pinned (OpenSpec.ofChange kvBytesWrong)

/-- 'escheatlaw06.KvOpens': WHATEVER THE INPUT: true; the input reads as it did. -/
def kvOpensSpec : ChangeSpec := { name := "kvOpens", fn := fun _ => fun
  | [d] => { results := [.lit (.bool true)], args := [d] }
  | _ => none }
def kvOpensRow : OpenClaim := { program := "ytaijompnohkmaaagreatdoor", sum := "5755e17120c5e2712af31393bfff13ec7e8903c26d08b327a63dec8601b57b93", func := "escheat/escheatlaw06.KvOpens", spec := "kvOpens", inPlace := ["internal/bytealg.abigen_runtime_cmpstring"], unfollowed := true, recurses := true, named := ["escheat/sum.turned"], apart := false, laid := [("escheat/sum.turned", laid_escheat_sum_turned)] }
def KvOpensSaid : Prop := kvOpensRow.holds Tryz.pinned (OpenSpec.ofChange kvOpensSpec)

/-- ITS FALSE NEIGHBOUR: 'it returns false'. Refute it at one input. -/
def kvOpensWrong : ChangeSpec := { name := "kvOpens", fn := fun _ => fun
  | [d] => { results := [.lit (.bool false)], args := [d] }
  | _ => none }
def KvOpensWrongFalsely : Prop := kvOpensRow.holds Tryz.pinned (OpenSpec.ofChange kvOpensWrong)

/-- 'escheatlaw06.KvCommits': WHATEVER THE INPUT: true; the input reads as it did. -/
def kvCommitsSpec : ChangeSpec := { name := "kvCommits", fn := fun _ => fun
  | [d1, d2, d3] => { results := [.lit (.bool true)], args := [d1, d2, d3] }
  | _ => none }
def kvCommitsRow : OpenClaim := { program := "ytaijompnohkmaaagreatdoor", sum := "5755e17120c5e2712af31393bfff13ec7e8903c26d08b327a63dec8601b57b93", func := "escheat/escheatlaw06.KvCommits", spec := "kvCommits", inPlace := ["internal/bytealg.abigen_runtime_cmpstring"], unfollowed := true, recurses := true, named := ["escheat/sum.turned"], apart := false, laid := [("escheat/sum.turned", laid_escheat_sum_turned)] }
def KvCommitsSaid : Prop := kvCommitsRow.holds Tryz.pinned (OpenSpec.ofChange kvCommitsSpec)

/-- ITS FALSE NEIGHBOUR: 'it returns false'. Refute it at one input. -/
def kvCommitsWrong : ChangeSpec := { name := "kvCommits", fn := fun _ => fun
  | [d1, d2, d3] => { results := [.lit (.bool false)], args := [d1, d2, d3] }
  | _ => none }
def KvCommitsWrongFalsely : Prop := kvCommitsRow.holds Tryz.pinned (OpenSpec.ofChange kvCommitsWrong)

/-- 'escheatlaw06.KvWhole': WHATEVER THE INPUT: true; the input reads as it did. -/
def kvWholeSpec : ChangeSpec := { name := "kvWhole", fn := fun _ => fun
  | [d] => { results := [.lit (.bool true)], args := [d] }
  | _ => none }
def kvWholeRow : OpenClaim := { program := "ytaijompnohkmaaagreatdoor", sum := "5755e17120c5e2712af31393bfff13ec7e8903c26d08b327a63dec8601b57b93", func := "escheat/escheatlaw06.KvWhole", spec := "kvWhole", inPlace := ["internal/bytealg.abigen_runtime_cmpstring"], unfollowed := true, recurses := true, named := ["escheat/sum.turned"], apart := false, laid := [("escheat/sum.turned", laid_escheat_sum_turned)] }
def KvWholeSaid : Prop := kvWholeRow.holds Tryz.pinned (OpenSpec.ofChange kvWholeSpec)

/-- ITS FALSE NEIGHBOUR: 'it returns false'. Refute it at one input. -/
def kvWholeWrong : ChangeSpec := { name := "kvWhole", fn := fun _ => fun
  | [d] => { results := [.lit (.bool false)], args := [d] }
  | _ => none }
def KvWholeWrongFalsely : Prop := kvWholeRow.holds Tryz.pinned (OpenSpec.ofChange kvWholeWrong)

/-- 'escheatlaw06.KvSnaps': WHATEVER THE INPUT: true; the input reads as it did. -/
def kvSnapsSpec : ChangeSpec := { name := "kvSnaps", fn := fun _ => fun
  | [d] => { results := [.lit (.bool true)], args := [d] }
  | _ => none }
def kvSnapsRow : OpenClaim := { program := "ytaijompnohkmaaagreatdoor", sum := "5755e17120c5e2712af31393bfff13ec7e8903c26d08b327a63dec8601b57b93", func := "escheat/escheatlaw06.KvSnaps", spec := "kvSnaps", inPlace := ["internal/bytealg.abigen_runtime_cmpstring"], unfollowed := true, recurses := true, named := ["escheat/sum.turned"], apart := false, laid := [("escheat/sum.turned", laid_escheat_sum_turned)] }
def KvSnapsSaid : Prop := kvSnapsRow.holds Tryz.pinned (OpenSpec.ofChange kvSnapsSpec)

/-- ITS FALSE NEIGHBOUR: 'it returns false'. Refute it at one input. -/
def kvSnapsWrong : ChangeSpec := { name := "kvSnaps", fn := fun _ => fun
  | [d] => { results := [.lit (.bool false)], args := [d] }
  | _ => none }
def KvSnapsWrongFalsely : Prop := kvSnapsRow.holds Tryz.pinned (OpenSpec.ofChange kvSnapsWrong)

/-- 'escheatlaw06.KvKeys': WHATEVER THE INPUT: true; the input reads as it did. -/
def kvKeysSpec : ChangeSpec := { name := "kvKeys", fn := fun _ => fun
  | [d1, d2, d3] => { results := [.lit (.bool true)], args := [d1, d2, d3] }
  | _ => none }
def kvKeysRow : OpenClaim := { program := "ytaijompnohkmaaagreatdoor", sum := "5755e17120c5e2712af31393bfff13ec7e8903c26d08b327a63dec8601b57b93", func := "escheat/escheatlaw06.KvKeys", spec := "kvKeys", inPlace := ["internal/bytealg.abigen_runtime_cmpstring"], unfollowed := true, recurses := true, named := ["escheat/sum.turned"], apart := false, laid := [("escheat/sum.turned", laid_escheat_sum_turned)] }
def KvKeysSaid : Prop := kvKeysRow.holds Tryz.pinned (OpenSpec.ofChange kvKeysSpec)

/-- ITS FALSE NEIGHBOUR: 'it returns false'. Refute it at one input. -/
def kvKeysWrong : ChangeSpec := { name := "kvKeys", fn := fun _ => fun
  | [d1, d2, d3] => { results := [.lit (.bool false)], args := [d1, d2, d3] }
  | _ => none }
def KvKeysWrongFalsely : Prop := kvKeysRow.holds Tryz.pinned (OpenSpec.ofChange kvKeysWrong)

/-- 'escheatlaw06.KvAsks': WHATEVER THE INPUT: true; the input reads as it did. -/
def kvAsksSpec : ChangeSpec := { name := "kvAsks", fn := fun _ => fun
  | [d1, d2, d3] => { results := [.lit (.bool true)], args := [d1, d2, d3] }
  | _ => none }
def kvAsksRow : OpenClaim := { program := "ytaijompnohkmaaagreatdoor", sum := "5755e17120c5e2712af31393bfff13ec7e8903c26d08b327a63dec8601b57b93", func := "escheat/escheatlaw06.KvAsks", spec := "kvAsks", inPlace := ["internal/bytealg.abigen_runtime_cmpstring"], unfollowed := true, recurses := true, named := ["escheat/sum.turned"], apart := false, laid := [("escheat/sum.turned", laid_escheat_sum_turned)] }
def KvAsksSaid : Prop := kvAsksRow.holds Tryz.pinned (OpenSpec.ofChange kvAsksSpec)

/-- ITS FALSE NEIGHBOUR: 'it returns false'. Refute it at one input. -/
def kvAsksWrong : ChangeSpec := { name := "kvAsks", fn := fun _ => fun
  | [d1, d2, d3] => { results := [.lit (.bool false)], args := [d1, d2, d3] }
  | _ => none }
def KvAsksWrongFalsely : Prop := kvAsksRow.holds Tryz.pinned (OpenSpec.ofChange kvAsksWrong)

/- THE SECOND FORM. 'bulk': how many values and letters a reading holds, each counted each time it is reached (what is shared counts as often as it is met; a slice's spare places count too). A statement '..UptoSaid' is the law's where the arguments, and the package variables that the reading takes, are together of bulk at most 1048576: NARROWER than '..Said'. Prove '..Said' where nothing that the law and all that it calls make is longer than what came in: it says more and counts as full. Else prove '..UptoSaid'. A law counts once. -/
mutual
def uptoBulk {H : Type} : DataW H → Nat
  | .lit (.string bytes) => bytes.length + 1
  | .lit _ => 1
  | .nil => 1
  | .ptr d => uptoBulk d + 1
  | .slice elems spare => uptoBulkAll elems + uptoBulkAll spare + 1
  | .agg parts => uptoBulkAll parts + 1
  | .iface _ d => uptoBulk d + 1
  | .map entries => uptoBulkEntries entries + 1
  | .held _ => 1
def uptoBulkAll {H : Type} : List (DataW H) → Nat
  | [] => 0
  | d :: r => uptoBulk d + uptoBulkAll r
def uptoBulkEntries {H : Type} : List (Lit × DataW H) → Nat
  | [] => 0
  | x :: r => uptoBulkEntry x + uptoBulkEntries r
def uptoBulkEntry {H : Type} : Lit × DataW H → Nat
  | (.string bytes, d) => bytes.length + uptoBulk d + 1
  | (_, d) => uptoBulk d + 1
 end
def uptoSmall : (H : Type) → List (DataW H) → Bool := fun _ ds => decide (uptoBulkAll ds ≤ 1048576)
def OpenSpec.upto (s : _root_.Go.ChangeSpec) : _root_.Go.OpenSpec := { _root_.Go.OpenSpec.ofChange s with cond := some uptoSmall }

/-- 'escheatlaw06.KvBytes', WHERE WHAT IT READS IS OF BULK AT MOST 1048576: true; the input reads as it did. -/
def kvBytesUptoRow : OpenClaim := { program := "ytaijompnohkmaaagreatdoor", sum := "5755e17120c5e2712af31393bfff13ec7e8903c26d08b327a63dec8601b57b93", func := "escheat/escheatlaw06.KvBytes", spec := "kvBytes", inPlace := ["internal/bytealg.abigen_runtime_cmpstring"], unfollowed := true, recurses := true, named := ["escheat/sum.turned"], apart := false, laid := [("escheat/sum.turned", laid_escheat_sum_turned)], narrowed := true }
def KvBytesUptoSaid : Prop := kvBytesUptoRow.holds Tryz.pinned (OpenSpec.upto kvBytesSpec)

/-- 'escheatlaw06.KvOpens', WHERE WHAT IT READS IS OF BULK AT MOST 1048576: true; the input reads as it did. -/
def kvOpensUptoRow : OpenClaim := { program := "ytaijompnohkmaaagreatdoor", sum := "5755e17120c5e2712af31393bfff13ec7e8903c26d08b327a63dec8601b57b93", func := "escheat/escheatlaw06.KvOpens", spec := "kvOpens", inPlace := ["internal/bytealg.abigen_runtime_cmpstring"], unfollowed := true, recurses := true, named := ["escheat/sum.turned"], apart := false, laid := [("escheat/sum.turned", laid_escheat_sum_turned)], narrowed := true }
def KvOpensUptoSaid : Prop := kvOpensUptoRow.holds Tryz.pinned (OpenSpec.upto kvOpensSpec)

/-- 'escheatlaw06.KvCommits', WHERE WHAT IT READS IS OF BULK AT MOST 1048576: true; the input reads as it did. -/
def kvCommitsUptoRow : OpenClaim := { program := "ytaijompnohkmaaagreatdoor", sum := "5755e17120c5e2712af31393bfff13ec7e8903c26d08b327a63dec8601b57b93", func := "escheat/escheatlaw06.KvCommits", spec := "kvCommits", inPlace := ["internal/bytealg.abigen_runtime_cmpstring"], unfollowed := true, recurses := true, named := ["escheat/sum.turned"], apart := false, laid := [("escheat/sum.turned", laid_escheat_sum_turned)], narrowed := true }
def KvCommitsUptoSaid : Prop := kvCommitsUptoRow.holds Tryz.pinned (OpenSpec.upto kvCommitsSpec)

/-- 'escheatlaw06.KvWhole', WHERE WHAT IT READS IS OF BULK AT MOST 1048576: true; the input reads as it did. -/
def kvWholeUptoRow : OpenClaim := { program := "ytaijompnohkmaaagreatdoor", sum := "5755e17120c5e2712af31393bfff13ec7e8903c26d08b327a63dec8601b57b93", func := "escheat/escheatlaw06.KvWhole", spec := "kvWhole", inPlace := ["internal/bytealg.abigen_runtime_cmpstring"], unfollowed := true, recurses := true, named := ["escheat/sum.turned"], apart := false, laid := [("escheat/sum.turned", laid_escheat_sum_turned)], narrowed := true }
def KvWholeUptoSaid : Prop := kvWholeUptoRow.holds Tryz.pinned (OpenSpec.upto kvWholeSpec)

/-- 'escheatlaw06.KvSnaps', WHERE WHAT IT READS IS OF BULK AT MOST 1048576: true; the input reads as it did. -/
def kvSnapsUptoRow : OpenClaim := { program := "ytaijompnohkmaaagreatdoor", sum := "5755e17120c5e2712af31393bfff13ec7e8903c26d08b327a63dec8601b57b93", func := "escheat/escheatlaw06.KvSnaps", spec := "kvSnaps", inPlace := ["internal/bytealg.abigen_runtime_cmpstring"], unfollowed := true, recurses := true, named := ["escheat/sum.turned"], apart := false, laid := [("escheat/sum.turned", laid_escheat_sum_turned)], narrowed := true }
def KvSnapsUptoSaid : Prop := kvSnapsUptoRow.holds Tryz.pinned (OpenSpec.upto kvSnapsSpec)

/-- 'escheatlaw06.KvKeys', WHERE WHAT IT READS IS OF BULK AT MOST 1048576: true; the input reads as it did. -/
def kvKeysUptoRow : OpenClaim := { program := "ytaijompnohkmaaagreatdoor", sum := "5755e17120c5e2712af31393bfff13ec7e8903c26d08b327a63dec8601b57b93", func := "escheat/escheatlaw06.KvKeys", spec := "kvKeys", inPlace := ["internal/bytealg.abigen_runtime_cmpstring"], unfollowed := true, recurses := true, named := ["escheat/sum.turned"], apart := false, laid := [("escheat/sum.turned", laid_escheat_sum_turned)], narrowed := true }
def KvKeysUptoSaid : Prop := kvKeysUptoRow.holds Tryz.pinned (OpenSpec.upto kvKeysSpec)

/-- 'escheatlaw06.KvAsks', WHERE WHAT IT READS IS OF BULK AT MOST 1048576: true; the input reads as it did. -/
def kvAsksUptoRow : OpenClaim := { program := "ytaijompnohkmaaagreatdoor", sum := "5755e17120c5e2712af31393bfff13ec7e8903c26d08b327a63dec8601b57b93", func := "escheat/escheatlaw06.KvAsks", spec := "kvAsks", inPlace := ["internal/bytealg.abigen_runtime_cmpstring"], unfollowed := true, recurses := true, named := ["escheat/sum.turned"], apart := false, laid := [("escheat/sum.turned", laid_escheat_sum_turned)], narrowed := true }
def KvAsksUptoSaid : Prop := kvAsksUptoRow.holds Tryz.pinned (OpenSpec.upto kvAsksSpec)

end Rows
end Go.Proofs.YtaijompnohkmaaaGreatDoor
