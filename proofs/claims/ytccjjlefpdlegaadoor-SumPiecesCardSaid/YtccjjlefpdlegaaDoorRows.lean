/-
  NARROWER THAN 'FOR EVERY INPUT', by the rows' own cells (each row's printed sentence says how): SumSums: laid · SumPieces: laid · SumOther: laid · SumSwap: laid.
  DERIVED. THE GIVEN ROWS OF THIS SEAT. 4 by the template 'for every input the law returns true; each argument reads behind the call as it read before'; 0 by the template 'total and deterministic' (their statements: YtccjjlefpdlegaaDoorTotals.lean).
  GIVEN WITH THE SEED: the statements are not yours to turn. If you find one false, say at which input.
  Laid BY PROGRAM, IN A SANDBOX (cutbox-rows.mjs): the forced cells as the released guide's own fill.sh prints them over the translation 7a1d52b39357379c… (all of the seat's roots in one cut). By AI agents, Wed Nov 11 2026. No macro, syntax, notation, axiom, sorry.
-/
import Derived.Test.YtccjjlefpdlegaaDoorChecked
import GoSem.Claim
import GoSem.ClaimJoined
import GoSem.ClaimMapViews
import Derived.JoinedTies
import Derived.KernelRfl
namespace Go.Proofs.YtccjjlefpdlegaaDoor
/- THE CELL 'sum', in the pinned program and in every row, IS THE sha256 OF THE DUMP (.gsa) THAT YtccjjlefpdlegaaDoorProg.lean LOADS. Nothing in Lean hashes anything: it is a label: what it is worth is what the hold of that sum in a sandbox is worth. -/
noncomputable def Tryd.pinned : Pinned := { name := "ytccjjlefpdlegaadoor", sum := "7a1d52b39357379c689e41cb2adfc6f28a42132cb8009c9947821eb18b095c4e", checked := Tryd.checked }
namespace Rows
def none {H : Type} : Left H := { results := [], args := [] }

/- WHAT THE LISTED PACKAGE-LEVEL VARIABLES READ AS WHEN THE CALL BEGINS. Each datum BY PROGRAM (the guide's laid-datum.mjs) off the statement by which the dump's own 'gosem.cut.vars' lays the variable. In a bare row this is a premise. The card (YtccjjlefpdlegaaDoorCards.lean) ties it to the program's text. -/
def laid_escheat_sum_turned {H : Type} : DataW H := .agg [.lit (.int .u32 0), .lit (.int .u32 498536548), .lit (.int .u32 997073096), .lit (.int .u32 651767980), .lit (.int .u32 1994146192), .lit (.int .u32 1802195444), .lit (.int .u32 1303535960), .lit (.int .u32 1342533948), .lit (.int .u32 3988292384), .lit (.int .u32 4027552580), .lit (.int .u32 3604390888), .lit (.int .u32 3412177804), .lit (.int .u32 2607071920), .lit (.int .u32 2262029012), .lit (.int .u32 2685067896), .lit (.int .u32 3183342108)]

/-- 'escheatlaw02.SumSums': WHATEVER THE INPUT: true; the input reads as it did. -/
def sumSumsSpec : ChangeSpec := { name := "sumSums", fn := fun _ => fun
  | [d1, d2] => { results := [.lit (.bool true)], args := [d1, d2] }
  | _ => none }
def sumSumsRow : OpenClaim := { program := "ytccjjlefpdlegaadoor", sum := "7a1d52b39357379c689e41cb2adfc6f28a42132cb8009c9947821eb18b095c4e", func := "escheat/escheatlaw02.SumSums", spec := "sumSums", named := ["escheat/sum.turned"], apart := false, laid := [("escheat/sum.turned", laid_escheat_sum_turned)] }
def SumSumsSaid : Prop := sumSumsRow.holds Tryd.pinned (OpenSpec.ofChange sumSumsSpec)

/-- ITS FALSE NEIGHBOUR: 'it returns false'. Refute it at one input. -/
def sumSumsWrong : ChangeSpec := { name := "sumSums", fn := fun _ => fun
  | [d1, d2] => { results := [.lit (.bool false)], args := [d1, d2] }
  | _ => none }
def SumSumsWrongFalsely : Prop := sumSumsRow.holds Tryd.pinned (OpenSpec.ofChange sumSumsWrong)

/-- 'escheatlaw02.SumPieces': WHATEVER THE INPUT: true; the input reads as it did. -/
def sumPiecesSpec : ChangeSpec := { name := "sumPieces", fn := fun _ => fun
  | [d] => { results := [.lit (.bool true)], args := [d] }
  | _ => none }
def sumPiecesRow : OpenClaim := { program := "ytccjjlefpdlegaadoor", sum := "7a1d52b39357379c689e41cb2adfc6f28a42132cb8009c9947821eb18b095c4e", func := "escheat/escheatlaw02.SumPieces", spec := "sumPieces", named := ["escheat/sum.turned"], apart := false, laid := [("escheat/sum.turned", laid_escheat_sum_turned)] }
def SumPiecesSaid : Prop := sumPiecesRow.holds Tryd.pinned (OpenSpec.ofChange sumPiecesSpec)

/-- ITS FALSE NEIGHBOUR: 'it returns false'. Refute it at one input. -/
def sumPiecesWrong : ChangeSpec := { name := "sumPieces", fn := fun _ => fun
  | [d] => { results := [.lit (.bool false)], args := [d] }
  | _ => none }
def SumPiecesWrongFalsely : Prop := sumPiecesRow.holds Tryd.pinned (OpenSpec.ofChange sumPiecesWrong)

/-- 'escheatlaw02.SumOther': WHATEVER THE INPUT: true; the input reads as it did. -/
def sumOtherSpec : ChangeSpec := { name := "sumOther", fn := fun _ => fun
  | [d1, d2, d3] => { results := [.lit (.bool true)], args := [d1, d2, d3] }
  | _ => none }
def sumOtherRow : OpenClaim := { program := "ytccjjlefpdlegaadoor", sum := "7a1d52b39357379c689e41cb2adfc6f28a42132cb8009c9947821eb18b095c4e", func := "escheat/escheatlaw02.SumOther", spec := "sumOther", named := ["escheat/sum.turned"], apart := false, laid := [("escheat/sum.turned", laid_escheat_sum_turned)] }
def SumOtherSaid : Prop := sumOtherRow.holds Tryd.pinned (OpenSpec.ofChange sumOtherSpec)

/-- ITS FALSE NEIGHBOUR: 'it returns false'. Refute it at one input. -/
def sumOtherWrong : ChangeSpec := { name := "sumOther", fn := fun _ => fun
  | [d1, d2, d3] => { results := [.lit (.bool false)], args := [d1, d2, d3] }
  | _ => none }
def SumOtherWrongFalsely : Prop := sumOtherRow.holds Tryd.pinned (OpenSpec.ofChange sumOtherWrong)

/-- 'escheatlaw02.SumSwap': WHATEVER THE INPUT: true; the input reads as it did. -/
def sumSwapSpec : ChangeSpec := { name := "sumSwap", fn := fun _ => fun
  | [d1, d2] => { results := [.lit (.bool true)], args := [d1, d2] }
  | _ => none }
def sumSwapRow : OpenClaim := { program := "ytccjjlefpdlegaadoor", sum := "7a1d52b39357379c689e41cb2adfc6f28a42132cb8009c9947821eb18b095c4e", func := "escheat/escheatlaw02.SumSwap", spec := "sumSwap", named := ["escheat/sum.turned"], apart := false, laid := [("escheat/sum.turned", laid_escheat_sum_turned)] }
def SumSwapSaid : Prop := sumSwapRow.holds Tryd.pinned (OpenSpec.ofChange sumSwapSpec)

/-- ITS FALSE NEIGHBOUR: 'it returns false'. Refute it at one input. -/
def sumSwapWrong : ChangeSpec := { name := "sumSwap", fn := fun _ => fun
  | [d1, d2] => { results := [.lit (.bool false)], args := [d1, d2] }
  | _ => none }
def SumSwapWrongFalsely : Prop := sumSwapRow.holds Tryd.pinned (OpenSpec.ofChange sumSwapWrong)

/- THE SECOND FORM. 'bulk': how many values and letters a reading holds, each counted each time it is reached (what is shared counts as often as it is met; a slice's spare places count too). A statement '..UptoSaid' is the law's where the arguments, and the package variables that the reading takes, are together of bulk at most 1048576: NARROWER than '..Said'. Prove '..Said' where nothing that the law and all that it calls make is longer than what came in: it says more and counts as full. Else prove '..UptoSaid'. A law counts once. -/
mutual
def uptoBulk {H : Type} : DataW H → Nat
  | .lit (.string bytes) => bytes.length + 1
  | .lit _ => 1
  | .nil => 1
  | .ptr d => uptoBulk d + 1
  | .slice elems spare => uptoBulkAll elems + uptoBulkAll spare + 1
  | .agg parts => uptoBulkAll parts + 1
  | .iface _ d => uptoBulk d + 1
  | .map entries => uptoBulkEntries entries + 1
  | .held _ => 1
def uptoBulkAll {H : Type} : List (DataW H) → Nat
  | [] => 0
  | d :: r => uptoBulk d + uptoBulkAll r
def uptoBulkEntries {H : Type} : List (Lit × DataW H) → Nat
  | [] => 0
  | x :: r => uptoBulkEntry x + uptoBulkEntries r
def uptoBulkEntry {H : Type} : Lit × DataW H → Nat
  | (.string bytes, d) => bytes.length + uptoBulk d + 1
  | (_, d) => uptoBulk d + 1
 end
def uptoSmall : (H : Type) → List (DataW H) → Bool := fun _ ds => decide (uptoBulkAll ds ≤ 1048576)
def OpenSpec.upto (s : _root_.Go.ChangeSpec) : _root_.Go.OpenSpec := { _root_.Go.OpenSpec.ofChange s with cond := some uptoSmall }

/-- 'escheatlaw02.SumSums', WHERE WHAT IT READS IS OF BULK AT MOST 1048576: true; the input reads as it did. -/
def sumSumsUptoRow : OpenClaim := { program := "ytccjjlefpdlegaadoor", sum := "7a1d52b39357379c689e41cb2adfc6f28a42132cb8009c9947821eb18b095c4e", func := "escheat/escheatlaw02.SumSums", spec := "sumSums", named := ["escheat/sum.turned"], apart := false, laid := [("escheat/sum.turned", laid_escheat_sum_turned)], narrowed := true }
def SumSumsUptoSaid : Prop := sumSumsUptoRow.holds Tryd.pinned (OpenSpec.upto sumSumsSpec)

/-- 'escheatlaw02.SumPieces', WHERE WHAT IT READS IS OF BULK AT MOST 1048576: true; the input reads as it did. -/
def sumPiecesUptoRow : OpenClaim := { program := "ytccjjlefpdlegaadoor", sum := "7a1d52b39357379c689e41cb2adfc6f28a42132cb8009c9947821eb18b095c4e", func := "escheat/escheatlaw02.SumPieces", spec := "sumPieces", named := ["escheat/sum.turned"], apart := false, laid := [("escheat/sum.turned", laid_escheat_sum_turned)], narrowed := true }
def SumPiecesUptoSaid : Prop := sumPiecesUptoRow.holds Tryd.pinned (OpenSpec.upto sumPiecesSpec)

/-- 'escheatlaw02.SumOther', WHERE WHAT IT READS IS OF BULK AT MOST 1048576: true; the input reads as it did. -/
def sumOtherUptoRow : OpenClaim := { program := "ytccjjlefpdlegaadoor", sum := "7a1d52b39357379c689e41cb2adfc6f28a42132cb8009c9947821eb18b095c4e", func := "escheat/escheatlaw02.SumOther", spec := "sumOther", named := ["escheat/sum.turned"], apart := false, laid := [("escheat/sum.turned", laid_escheat_sum_turned)], narrowed := true }
def SumOtherUptoSaid : Prop := sumOtherUptoRow.holds Tryd.pinned (OpenSpec.upto sumOtherSpec)

/-- 'escheatlaw02.SumSwap', WHERE WHAT IT READS IS OF BULK AT MOST 1048576: true; the input reads as it did. -/
def sumSwapUptoRow : OpenClaim := { program := "ytccjjlefpdlegaadoor", sum := "7a1d52b39357379c689e41cb2adfc6f28a42132cb8009c9947821eb18b095c4e", func := "escheat/escheatlaw02.SumSwap", spec := "sumSwap", named := ["escheat/sum.turned"], apart := false, laid := [("escheat/sum.turned", laid_escheat_sum_turned)], narrowed := true }
def SumSwapUptoSaid : Prop := sumSwapUptoRow.holds Tryd.pinned (OpenSpec.upto sumSwapSpec)

end Rows
end Go.Proofs.YtccjjlefpdlegaaDoor
