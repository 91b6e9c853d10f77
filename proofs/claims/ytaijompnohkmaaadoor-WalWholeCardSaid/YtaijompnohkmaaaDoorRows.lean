/-
  NARROWER THAN 'FOR EVERY INPUT', by the rows' own cells (each row's printed sentence says how): WalOpens: laid · WalAppends: laid · WalWhole: laid · WalBack: laid · WalRooms: laid · WalGens: laid.
  DERIVED. THE GIVEN ROWS OF THIS SEAT. 6 by the template 'for every input the law returns true; each argument reads behind the call as it read before'; 0 by the template 'total and deterministic' (their statements: YtaijompnohkmaaaDoorTotals.lean).
  GIVEN WITH THE SEED: the statements are not yours to turn. If you find one false, say at which input.
  Laid BY PROGRAM, IN A SANDBOX (cutbox-rows.mjs): the forced cells as the released guide's own fill.sh prints them over the translation f3112cea87201b96… (all of the seat's roots in one cut). By AI agents, Wed Nov 11 2026. No macro, syntax, notation, axiom, sorry.
-/
import Derived.Test.YtaijompnohkmaaaDoorChecked
import GoSem.Claim
import GoSem.ClaimJoined
import GoSem.ClaimMapViews
import Derived.JoinedTies
import Derived.KernelRfl
namespace Go.Proofs.YtaijompnohkmaaaDoor
/- THE CELL 'sum', in the pinned program and in every row, IS THE sha256 OF THE DUMP (.gsa) THAT YtaijompnohkmaaaDoorProg.lean LOADS. Nothing in Lean hashes anything: it is a label: what it is worth is what the hold of that sum in a sandbox is worth. -/
noncomputable def Tryd.pinned : Pinned := { name := "ytaijompnohkmaaadoor", sum := "f3112cea87201b96a292832537861a514bf6a0378ef206a40870b1774efd0007", checked := Tryd.checked }
namespace Rows
def none {H : Type} : Left H := { results := [], args := [] }

/- WHAT THE LISTED PACKAGE-LEVEL VARIABLES READ AS WHEN THE CALL BEGINS. Each datum BY PROGRAM (the guide's laid-datum.mjs) off the statement by which the dump's own 'gosem.cut.vars' lays the variable. In a bare row this is a premise. The card (YtaijompnohkmaaaDoorCards.lean) ties it to the program's text. -/
def laid_escheat_sum_turned {H : Type} : DataW H := .agg [.lit (.int .u32 0), .lit (.int .u32 498536548), .lit (.int .u32 997073096), .lit (.int .u32 651767980), .lit (.int .u32 1994146192), .lit (.int .u32 1802195444), .lit (.int .u32 1303535960), .lit (.int .u32 1342533948), .lit (.int .u32 3988292384), .lit (.int .u32 4027552580), .lit (.int .u32 3604390888), .lit (.int .u32 3412177804), .lit (.int .u32 2607071920), .lit (.int .u32 2262029012), .lit (.int .u32 2685067896), .lit (.int .u32 3183342108)]

/-- 'escheatlaw05.WalOpens': WHATEVER THE INPUT: true; the input reads as it did. -/
def walOpensSpec : ChangeSpec := { name := "walOpens", fn := fun _ => fun
  | [d1, d2, d3] => { results := [.lit (.bool true)], args := [d1, d2, d3] }
  | _ => none }
def walOpensRow : OpenClaim := { program := "ytaijompnohkmaaadoor", sum := "f3112cea87201b96a292832537861a514bf6a0378ef206a40870b1774efd0007", func := "escheat/escheatlaw05.WalOpens", spec := "walOpens", unfollowed := true, recurses := true, named := ["escheat/sum.turned"], apart := false, laid := [("escheat/sum.turned", laid_escheat_sum_turned)] }
def WalOpensSaid : Prop := walOpensRow.holds Tryd.pinned (OpenSpec.ofChange walOpensSpec)

/-- ITS FALSE NEIGHBOUR: 'it returns false'. Refute it at one input. -/
def walOpensWrong : ChangeSpec := { name := "walOpens", fn := fun _ => fun
  | [d1, d2, d3] => { results := [.lit (.bool false)], args := [d1, d2, d3] }
  | _ => none }
def WalOpensWrongFalsely : Prop := walOpensRow.holds Tryd.pinned (OpenSpec.ofChange walOpensWrong)

/-- 'escheatlaw05.WalAppends': WHATEVER THE INPUT: true; the input reads as it did. -/
def walAppendsSpec : ChangeSpec := { name := "walAppends", fn := fun _ => fun
  | [d1, d2, d3] => { results := [.lit (.bool true)], args := [d1, d2, d3] }
  | _ => none }
def walAppendsRow : OpenClaim := { program := "ytaijompnohkmaaadoor", sum := "f3112cea87201b96a292832537861a514bf6a0378ef206a40870b1774efd0007", func := "escheat/escheatlaw05.WalAppends", spec := "walAppends", unfollowed := true, recurses := true, named := ["escheat/sum.turned"], apart := false, laid := [("escheat/sum.turned", laid_escheat_sum_turned)] }
def WalAppendsSaid : Prop := walAppendsRow.holds Tryd.pinned (OpenSpec.ofChange walAppendsSpec)

/-- ITS FALSE NEIGHBOUR: 'it returns false'. Refute it at one input. -/
def walAppendsWrong : ChangeSpec := { name := "walAppends", fn := fun _ => fun
  | [d1, d2, d3] => { results := [.lit (.bool false)], args := [d1, d2, d3] }
  | _ => none }
def WalAppendsWrongFalsely : Prop := walAppendsRow.holds Tryd.pinned (OpenSpec.ofChange walAppendsWrong)

/-- 'escheatlaw05.WalWhole': WHATEVER THE INPUT: true; the input reads as it did. -/
def walWholeSpec : ChangeSpec := { name := "walWhole", fn := fun _ => fun
  | [d1, d2] => { results := [.lit (.bool true)], args := [d1, d2] }
  | _ => none }
def walWholeRow : OpenClaim := { program := "ytaijompnohkmaaadoor", sum := "f3112cea87201b96a292832537861a514bf6a0378ef206a40870b1774efd0007", func := "escheat/escheatlaw05.WalWhole", spec := "walWhole", unfollowed := true, recurses := true, named := ["escheat/sum.turned"], apart := false, laid := [("escheat/sum.turned", laid_escheat_sum_turned)] }
def WalWholeSaid : Prop := walWholeRow.holds Tryd.pinned (OpenSpec.ofChange walWholeSpec)

/-- ITS FALSE NEIGHBOUR: 'it returns false'. Refute it at one input. -/
def walWholeWrong : ChangeSpec := { name := "walWhole", fn := fun _ => fun
  | [d1, d2] => { results := [.lit (.bool false)], args := [d1, d2] }
  | _ => none }
def WalWholeWrongFalsely : Prop := walWholeRow.holds Tryd.pinned (OpenSpec.ofChange walWholeWrong)

/-- 'escheatlaw05.WalBack': WHATEVER THE INPUT: true; the input reads as it did. -/
def walBackSpec : ChangeSpec := { name := "walBack", fn := fun _ => fun
  | [d1, d2] => { results := [.lit (.bool true)], args := [d1, d2] }
  | _ => none }
def walBackRow : OpenClaim := { program := "ytaijompnohkmaaadoor", sum := "f3112cea87201b96a292832537861a514bf6a0378ef206a40870b1774efd0007", func := "escheat/escheatlaw05.WalBack", spec := "walBack", unfollowed := true, recurses := true, named := ["escheat/sum.turned"], apart := false, laid := [("escheat/sum.turned", laid_escheat_sum_turned)] }
def WalBackSaid : Prop := walBackRow.holds Tryd.pinned (OpenSpec.ofChange walBackSpec)

/-- ITS FALSE NEIGHBOUR: 'it returns false'. Refute it at one input. -/
def walBackWrong : ChangeSpec := { name := "walBack", fn := fun _ => fun
  | [d1, d2] => { results := [.lit (.bool false)], args := [d1, d2] }
  | _ => none }
def WalBackWrongFalsely : Prop := walBackRow.holds Tryd.pinned (OpenSpec.ofChange walBackWrong)

/-- 'escheatlaw05.WalRooms': WHATEVER THE INPUT: true; the input reads as it did. -/
def walRoomsSpec : ChangeSpec := { name := "walRooms", fn := fun _ => fun
  | [d1, d2] => { results := [.lit (.bool true)], args := [d1, d2] }
  | _ => none }
def walRoomsRow : OpenClaim := { program := "ytaijompnohkmaaadoor", sum := "f3112cea87201b96a292832537861a514bf6a0378ef206a40870b1774efd0007", func := "escheat/escheatlaw05.WalRooms", spec := "walRooms", unfollowed := true, recurses := true, named := ["escheat/sum.turned"], apart := false, laid := [("escheat/sum.turned", laid_escheat_sum_turned)] }
def WalRoomsSaid : Prop := walRoomsRow.holds Tryd.pinned (OpenSpec.ofChange walRoomsSpec)

/-- ITS FALSE NEIGHBOUR: 'it returns false'. Refute it at one input. -/
def walRoomsWrong : ChangeSpec := { name := "walRooms", fn := fun _ => fun
  | [d1, d2] => { results := [.lit (.bool false)], args := [d1, d2] }
  | _ => none }
def WalRoomsWrongFalsely : Prop := walRoomsRow.holds Tryd.pinned (OpenSpec.ofChange walRoomsWrong)

/-- 'escheatlaw05.WalGens': WHATEVER THE INPUT: true; the input reads as it did. -/
def walGensSpec : ChangeSpec := { name := "walGens", fn := fun _ => fun
  | [d] => { results := [.lit (.bool true)], args := [d] }
  | _ => none }
def walGensRow : OpenClaim := { program := "ytaijompnohkmaaadoor", sum := "f3112cea87201b96a292832537861a514bf6a0378ef206a40870b1774efd0007", func := "escheat/escheatlaw05.WalGens", spec := "walGens", unfollowed := true, recurses := true, named := ["escheat/sum.turned"], apart := false, laid := [("escheat/sum.turned", laid_escheat_sum_turned)] }
def WalGensSaid : Prop := walGensRow.holds Tryd.pinned (OpenSpec.ofChange walGensSpec)

/-- ITS FALSE NEIGHBOUR: 'it returns false'. Refute it at one input. -/
def walGensWrong : ChangeSpec := { name := "walGens", fn := fun _ => fun
  | [d] => { results := [.lit (.bool false)], args := [d] }
  | _ => none }
def WalGensWrongFalsely : Prop := walGensRow.holds Tryd.pinned (OpenSpec.ofChange walGensWrong)

/- THE SECOND FORM. 'bulk': how many values and letters a reading holds, each counted each time it is reached (what is shared counts as often as it is met; a slice's spare places count too). A statement '..UptoSaid' is the law's where the arguments, and the package variables that the reading takes, are together of bulk at most 1048576: NARROWER than '..Said'. Prove '..Said' where nothing that the law and all that it calls make is longer than what came in: it says more and counts as full. Else prove '..UptoSaid'. A law counts once. -/
mutual
def uptoBulk {H : Type} : DataW H → Nat
  | .lit (.string bytes) => bytes.length + 1
  | .lit _ => 1
  | .nil => 1
  | .ptr d => uptoBulk d + 1
  | .slice elems spare => uptoBulkAll elems + uptoBulkAll spare + 1
  | .agg parts => uptoBulkAll parts + 1
  | .iface _ d => uptoBulk d + 1
  | .map entries => uptoBulkEntries entries + 1
  | .held _ => 1
def uptoBulkAll {H : Type} : List (DataW H) → Nat
  | [] => 0
  | d :: r => uptoBulk d + uptoBulkAll r
def uptoBulkEntries {H : Type} : List (Lit × DataW H) → Nat
  | [] => 0
  | x :: r => uptoBulkEntry x + uptoBulkEntries r
def uptoBulkEntry {H : Type} : Lit × DataW H → Nat
  | (.string bytes, d) => bytes.length + uptoBulk d + 1
  | (_, d) => uptoBulk d + 1
 end
def uptoSmall : (H : Type) → List (DataW H) → Bool := fun _ ds => decide (uptoBulkAll ds ≤ 1048576)
def OpenSpec.upto (s : _root_.Go.ChangeSpec) : _root_.Go.OpenSpec := { _root_.Go.OpenSpec.ofChange s with cond := some uptoSmall }

/-- 'escheatlaw05.WalOpens', WHERE WHAT IT READS IS OF BULK AT MOST 1048576: true; the input reads as it did. -/
def walOpensUptoRow : OpenClaim := { program := "ytaijompnohkmaaadoor", sum := "f3112cea87201b96a292832537861a514bf6a0378ef206a40870b1774efd0007", func := "escheat/escheatlaw05.WalOpens", spec := "walOpens", unfollowed := true, recurses := true, named := ["escheat/sum.turned"], apart := false, laid := [("escheat/sum.turned", laid_escheat_sum_turned)], narrowed := true }
def WalOpensUptoSaid : Prop := walOpensUptoRow.holds Tryd.pinned (OpenSpec.upto walOpensSpec)

/-- 'escheatlaw05.WalAppends', WHERE WHAT IT READS IS OF BULK AT MOST 1048576: true; the input reads as it did. -/
def walAppendsUptoRow : OpenClaim := { program := "ytaijompnohkmaaadoor", sum := "f3112cea87201b96a292832537861a514bf6a0378ef206a40870b1774efd0007", func := "escheat/escheatlaw05.WalAppends", spec := "walAppends", unfollowed := true, recurses := true, named := ["escheat/sum.turned"], apart := false, laid := [("escheat/sum.turned", laid_escheat_sum_turned)], narrowed := true }
def WalAppendsUptoSaid : Prop := walAppendsUptoRow.holds Tryd.pinned (OpenSpec.upto walAppendsSpec)

/-- 'escheatlaw05.WalWhole', WHERE WHAT IT READS IS OF BULK AT MOST 1048576: true; the input reads as it did. -/
def walWholeUptoRow : OpenClaim := { program := "ytaijompnohkmaaadoor", sum := "f3112cea87201b96a292832537861a514bf6a0378ef206a40870b1774efd0007", func := "escheat/escheatlaw05.WalWhole", spec := "walWhole", unfollowed := true, recurses := true, named := ["escheat/sum.turned"], apart := false, laid := [("escheat/sum.turned", laid_escheat_sum_turned)], narrowed := true }
def WalWholeUptoSaid : Prop := walWholeUptoRow.holds Tryd.pinned (OpenSpec.upto walWholeSpec)

/-- 'escheatlaw05.WalBack', WHERE WHAT IT READS IS OF BULK AT MOST 1048576: true; the input reads as it did. -/
def walBackUptoRow : OpenClaim := { program := "ytaijompnohkmaaadoor", sum := "f3112cea87201b96a292832537861a514bf6a0378ef206a40870b1774efd0007", func := "escheat/escheatlaw05.WalBack", spec := "walBack", unfollowed := true, recurses := true, named := ["escheat/sum.turned"], apart := false, laid := [("escheat/sum.turned", laid_escheat_sum_turned)], narrowed := true }
def WalBackUptoSaid : Prop := walBackUptoRow.holds Tryd.pinned (OpenSpec.upto walBackSpec)

/-- 'escheatlaw05.WalRooms', WHERE WHAT IT READS IS OF BULK AT MOST 1048576: true; the input reads as it did. -/
def walRoomsUptoRow : OpenClaim := { program := "ytaijompnohkmaaadoor", sum := "f3112cea87201b96a292832537861a514bf6a0378ef206a40870b1774efd0007", func := "escheat/escheatlaw05.WalRooms", spec := "walRooms", unfollowed := true, recurses := true, named := ["escheat/sum.turned"], apart := false, laid := [("escheat/sum.turned", laid_escheat_sum_turned)], narrowed := true }
def WalRoomsUptoSaid : Prop := walRoomsUptoRow.holds Tryd.pinned (OpenSpec.upto walRoomsSpec)

/-- 'escheatlaw05.WalGens', WHERE WHAT IT READS IS OF BULK AT MOST 1048576: true; the input reads as it did. -/
def walGensUptoRow : OpenClaim := { program := "ytaijompnohkmaaadoor", sum := "f3112cea87201b96a292832537861a514bf6a0378ef206a40870b1774efd0007", func := "escheat/escheatlaw05.WalGens", spec := "walGens", unfollowed := true, recurses := true, named := ["escheat/sum.turned"], apart := false, laid := [("escheat/sum.turned", laid_escheat_sum_turned)], narrowed := true }
def WalGensUptoSaid : Prop := walGensUptoRow.holds Tryd.pinned (OpenSpec.upto walGensSpec)

end Rows
end Go.Proofs.YtaijompnohkmaaaDoor
