/-
  No cell of these rows narrows 'for every input' (looked for: loops, veiled, ifaces, maps, wideKeys, modest, calm, conditions, laid).
  DERIVED. THE GIVEN ROWS OF THIS SEAT. 8 by the template 'for every input the law returns true; each argument reads behind the call as it read before'; 0 by the template 'total and deterministic' (their statements: YtccjjlefpdlegaaTotals.lean).
  GIVEN WITH THE SEED: the statements are not yours to turn. If you find one false, say at which input.
  Laid BY PROGRAM, IN A SANDBOX (cutbox-rows.mjs): the forced cells as the released guide's own fill.sh prints them over the translation bd2262b0ce68c8d9… (all of the seat's roots in one cut). By AI agents, Wed Nov 11 2026. No macro, syntax, notation, axiom, sorry.
-/
import Derived.Test.YtccjjlefpdlegaaChecked
import GoSem.Claim
import GoSem.ClaimJoined
import GoSem.ClaimMapViews
import Derived.JoinedTies
import Derived.KernelRfl
namespace Go.Proofs.Ytccjjlefpdlegaa
/- THE CELL 'sum', in the pinned program and in every row, IS THE sha256 OF THE DUMP (.gsa) THAT YtccjjlefpdlegaaProg.lean LOADS. Nothing in Lean hashes anything: it is a label: what it is worth is what the hold of that sum in a sandbox is worth. -/
noncomputable def Try.pinned : Pinned := { name := "ytccjjlefpdlegaa", sum := "bd2262b0ce68c8d9b52c6a4d9384b190f1f575ca15f6e959954ee50a54039993", checked := Try.checked }
namespace Rows
def none {H : Type} : Left H := { results := [], args := [] }

/-- 'escheatlaw03.PackLays': WHATEVER THE INPUT: true; the input reads as it did. -/
def packLaysSpec : ChangeSpec := { name := "packLays", fn := fun _ => fun
  | [d1, d2, d3] => { results := [.lit (.bool true)], args := [d1, d2, d3] }
  | _ => none }
def packLaysRow : OpenClaim := { program := "ytccjjlefpdlegaa", sum := "bd2262b0ce68c8d9b52c6a4d9384b190f1f575ca15f6e959954ee50a54039993", func := "escheat/escheatlaw03.PackLays", spec := "packLays", apart := false }
def PackLaysSaid : Prop := packLaysRow.holds Try.pinned (OpenSpec.ofChange packLaysSpec)

/-- ITS FALSE NEIGHBOUR: 'it returns false'. Refute it at one input. -/
def packLaysWrong : ChangeSpec := { name := "packLays", fn := fun _ => fun
  | [d1, d2, d3] => { results := [.lit (.bool false)], args := [d1, d2, d3] }
  | _ => none }
def PackLaysWrongFalsely : Prop := packLaysRow.holds Try.pinned (OpenSpec.ofChange packLaysWrong)

/-- 'escheatlaw03.PackBack': WHATEVER THE INPUT: true; the input reads as it did. -/
def packBackSpec : ChangeSpec := { name := "packBack", fn := fun _ => fun
  | [d1, d2] => { results := [.lit (.bool true)], args := [d1, d2] }
  | _ => none }
def packBackRow : OpenClaim := { program := "ytccjjlefpdlegaa", sum := "bd2262b0ce68c8d9b52c6a4d9384b190f1f575ca15f6e959954ee50a54039993", func := "escheat/escheatlaw03.PackBack", spec := "packBack", apart := false }
def PackBackSaid : Prop := packBackRow.holds Try.pinned (OpenSpec.ofChange packBackSpec)

/-- ITS FALSE NEIGHBOUR: 'it returns false'. Refute it at one input. -/
def packBackWrong : ChangeSpec := { name := "packBack", fn := fun _ => fun
  | [d1, d2] => { results := [.lit (.bool false)], args := [d1, d2] }
  | _ => none }
def PackBackWrongFalsely : Prop := packBackRow.holds Try.pinned (OpenSpec.ofChange packBackWrong)

/-- 'escheatlaw03.PackStays': WHATEVER THE INPUT: true; the input reads as it did. -/
def packStaysSpec : ChangeSpec := { name := "packStays", fn := fun _ => fun
  | [d1, d2] => { results := [.lit (.bool true)], args := [d1, d2] }
  | _ => none }
def packStaysRow : OpenClaim := { program := "ytccjjlefpdlegaa", sum := "bd2262b0ce68c8d9b52c6a4d9384b190f1f575ca15f6e959954ee50a54039993", func := "escheat/escheatlaw03.PackStays", spec := "packStays", apart := false }
def PackStaysSaid : Prop := packStaysRow.holds Try.pinned (OpenSpec.ofChange packStaysSpec)

/-- ITS FALSE NEIGHBOUR: 'it returns false'. Refute it at one input. -/
def packStaysWrong : ChangeSpec := { name := "packStays", fn := fun _ => fun
  | [d1, d2] => { results := [.lit (.bool false)], args := [d1, d2] }
  | _ => none }
def PackStaysWrongFalsely : Prop := packStaysRow.holds Try.pinned (OpenSpec.ofChange packStaysWrong)

/-- 'escheatlaw01.SectorPuts': WHATEVER THE INPUT: true; the input reads as it did. -/
def sectorPutsSpec : ChangeSpec := { name := "sectorPuts", fn := fun _ => fun
  | [d1, d2] => { results := [.lit (.bool true)], args := [d1, d2] }
  | _ => none }
def sectorPutsRow : OpenClaim := { program := "ytccjjlefpdlegaa", sum := "bd2262b0ce68c8d9b52c6a4d9384b190f1f575ca15f6e959954ee50a54039993", func := "escheat/escheatlaw01.SectorPuts", spec := "sectorPuts", unfollowed := true, recurses := true, apart := false }
def SectorPutsSaid : Prop := sectorPutsRow.holds Try.pinned (OpenSpec.ofChange sectorPutsSpec)

/-- ITS FALSE NEIGHBOUR: 'it returns false'. Refute it at one input. -/
def sectorPutsWrong : ChangeSpec := { name := "sectorPuts", fn := fun _ => fun
  | [d1, d2] => { results := [.lit (.bool false)], args := [d1, d2] }
  | _ => none }
def SectorPutsWrongFalsely : Prop := sectorPutsRow.holds Try.pinned (OpenSpec.ofChange sectorPutsWrong)

/-- 'escheatlaw01.SectorSure': WHATEVER THE INPUT: true; the input reads as it did. -/
def sectorSureSpec : ChangeSpec := { name := "sectorSure", fn := fun _ => fun
  | [d1, d2, d3] => { results := [.lit (.bool true)], args := [d1, d2, d3] }
  | _ => none }
def sectorSureRow : OpenClaim := { program := "ytccjjlefpdlegaa", sum := "bd2262b0ce68c8d9b52c6a4d9384b190f1f575ca15f6e959954ee50a54039993", func := "escheat/escheatlaw01.SectorSure", spec := "sectorSure", unfollowed := true, recurses := true, apart := false }
def SectorSureSaid : Prop := sectorSureRow.holds Try.pinned (OpenSpec.ofChange sectorSureSpec)

/-- ITS FALSE NEIGHBOUR: 'it returns false'. Refute it at one input. -/
def sectorSureWrong : ChangeSpec := { name := "sectorSure", fn := fun _ => fun
  | [d1, d2, d3] => { results := [.lit (.bool false)], args := [d1, d2, d3] }
  | _ => none }
def SectorSureWrongFalsely : Prop := sectorSureRow.holds Try.pinned (OpenSpec.ofChange sectorSureWrong)

/-- 'escheatlaw01.SectorView': WHATEVER THE INPUT: true; the input reads as it did. -/
def sectorViewSpec : ChangeSpec := { name := "sectorView", fn := fun _ => fun
  | [d1, d2, d3] => { results := [.lit (.bool true)], args := [d1, d2, d3] }
  | _ => none }
def sectorViewRow : OpenClaim := { program := "ytccjjlefpdlegaa", sum := "bd2262b0ce68c8d9b52c6a4d9384b190f1f575ca15f6e959954ee50a54039993", func := "escheat/escheatlaw01.SectorView", spec := "sectorView", unfollowed := true, recurses := true, apart := false }
def SectorViewSaid : Prop := sectorViewRow.holds Try.pinned (OpenSpec.ofChange sectorViewSpec)

/-- ITS FALSE NEIGHBOUR: 'it returns false'. Refute it at one input. -/
def sectorViewWrong : ChangeSpec := { name := "sectorView", fn := fun _ => fun
  | [d1, d2, d3] => { results := [.lit (.bool false)], args := [d1, d2, d3] }
  | _ => none }
def SectorViewWrongFalsely : Prop := sectorViewRow.holds Try.pinned (OpenSpec.ofChange sectorViewWrong)

/-- 'escheatlaw03.PackReads': WHATEVER THE INPUT: true; the input reads as it did. -/
def packReadsSpec : ChangeSpec := { name := "packReads", fn := fun _ => fun
  | [d1, d2] => { results := [.lit (.bool true)], args := [d1, d2] }
  | _ => none }
def packReadsRow : OpenClaim := { program := "ytccjjlefpdlegaa", sum := "bd2262b0ce68c8d9b52c6a4d9384b190f1f575ca15f6e959954ee50a54039993", func := "escheat/escheatlaw03.PackReads", spec := "packReads", apart := false }
def PackReadsSaid : Prop := packReadsRow.holds Try.pinned (OpenSpec.ofChange packReadsSpec)

/-- ITS FALSE NEIGHBOUR: 'it returns false'. Refute it at one input. -/
def packReadsWrong : ChangeSpec := { name := "packReads", fn := fun _ => fun
  | [d1, d2] => { results := [.lit (.bool false)], args := [d1, d2] }
  | _ => none }
def PackReadsWrongFalsely : Prop := packReadsRow.holds Try.pinned (OpenSpec.ofChange packReadsWrong)

/-- 'escheatlaw01.SectorStarts': WHATEVER THE INPUT: true; the input reads as it did. -/
def sectorStartsSpec : ChangeSpec := { name := "sectorStarts", fn := fun _ => fun
  | [d1, d2, d3] => { results := [.lit (.bool true)], args := [d1, d2, d3] }
  | _ => none }
def sectorStartsRow : OpenClaim := { program := "ytccjjlefpdlegaa", sum := "bd2262b0ce68c8d9b52c6a4d9384b190f1f575ca15f6e959954ee50a54039993", func := "escheat/escheatlaw01.SectorStarts", spec := "sectorStarts", unfollowed := true, recurses := true, apart := false }
def SectorStartsSaid : Prop := sectorStartsRow.holds Try.pinned (OpenSpec.ofChange sectorStartsSpec)

/-- ITS FALSE NEIGHBOUR: 'it returns false'. Refute it at one input. -/
def sectorStartsWrong : ChangeSpec := { name := "sectorStarts", fn := fun _ => fun
  | [d1, d2, d3] => { results := [.lit (.bool false)], args := [d1, d2, d3] }
  | _ => none }
def SectorStartsWrongFalsely : Prop := sectorStartsRow.holds Try.pinned (OpenSpec.ofChange sectorStartsWrong)

/- THE SECOND FORM. 'bulk': how many values and letters a reading holds, each counted each time it is reached (what is shared counts as often as it is met; a slice's spare places count too). A statement '..UptoSaid' is the law's where the arguments, and the package variables that the reading takes, are together of bulk at most 1048576: NARROWER than '..Said'. Prove '..Said' where nothing that the law and all that it calls make is longer than what came in: it says more and counts as full. Else prove '..UptoSaid'. A law counts once. -/
mutual
def uptoBulk {H : Type} : DataW H → Nat
  | .lit (.string bytes) => bytes.length + 1
  | .lit _ => 1
  | .nil => 1
  | .ptr d => uptoBulk d + 1
  | .slice elems spare => uptoBulkAll elems + uptoBulkAll spare + 1
  | .agg parts => uptoBulkAll parts + 1
  | .iface _ d => uptoBulk d + 1
  | .map entries => uptoBulkEntries entries + 1
  | .held _ => 1
def uptoBulkAll {H : Type} : List (DataW H) → Nat
  | [] => 0
  | d :: r => uptoBulk d + uptoBulkAll r
def uptoBulkEntries {H : Type} : List (Lit × DataW H) → Nat
  | [] => 0
  | x :: r => uptoBulkEntry x + uptoBulkEntries r
def uptoBulkEntry {H : Type} : Lit × DataW H → Nat
  | (.string bytes, d) => bytes.length + uptoBulk d + 1
  | (_, d) => uptoBulk d + 1
 end
def uptoSmall : (H : Type) → List (DataW H) → Bool := fun _ ds => decide (uptoBulkAll ds ≤ 1048576)
def OpenSpec.upto (s : _root_.Go.ChangeSpec) : _root_.Go.OpenSpec := { _root_.Go.OpenSpec.ofChange s with cond := some uptoSmall }

/-- 'escheatlaw03.PackLays', WHERE WHAT IT READS IS OF BULK AT MOST 1048576: true; the input reads as it did. -/
def packLaysUptoRow : OpenClaim := { program := "ytccjjlefpdlegaa", sum := "bd2262b0ce68c8d9b52c6a4d9384b190f1f575ca15f6e959954ee50a54039993", func := "escheat/escheatlaw03.PackLays", spec := "packLays", apart := false, narrowed := true }
def PackLaysUptoSaid : Prop := packLaysUptoRow.holds Try.pinned (OpenSpec.upto packLaysSpec)

/-- 'escheatlaw03.PackBack', WHERE WHAT IT READS IS OF BULK AT MOST 1048576: true; the input reads as it did. -/
def packBackUptoRow : OpenClaim := { program := "ytccjjlefpdlegaa", sum := "bd2262b0ce68c8d9b52c6a4d9384b190f1f575ca15f6e959954ee50a54039993", func := "escheat/escheatlaw03.PackBack", spec := "packBack", apart := false, narrowed := true }
def PackBackUptoSaid : Prop := packBackUptoRow.holds Try.pinned (OpenSpec.upto packBackSpec)

/-- 'escheatlaw03.PackStays', WHERE WHAT IT READS IS OF BULK AT MOST 1048576: true; the input reads as it did. -/
def packStaysUptoRow : OpenClaim := { program := "ytccjjlefpdlegaa", sum := "bd2262b0ce68c8d9b52c6a4d9384b190f1f575ca15f6e959954ee50a54039993", func := "escheat/escheatlaw03.PackStays", spec := "packStays", apart := false, narrowed := true }
def PackStaysUptoSaid : Prop := packStaysUptoRow.holds Try.pinned (OpenSpec.upto packStaysSpec)

/-- 'escheatlaw01.SectorPuts', WHERE WHAT IT READS IS OF BULK AT MOST 1048576: true; the input reads as it did. -/
def sectorPutsUptoRow : OpenClaim := { program := "ytccjjlefpdlegaa", sum := "bd2262b0ce68c8d9b52c6a4d9384b190f1f575ca15f6e959954ee50a54039993", func := "escheat/escheatlaw01.SectorPuts", spec := "sectorPuts", unfollowed := true, recurses := true, apart := false, narrowed := true }
def SectorPutsUptoSaid : Prop := sectorPutsUptoRow.holds Try.pinned (OpenSpec.upto sectorPutsSpec)

/-- 'escheatlaw01.SectorSure', WHERE WHAT IT READS IS OF BULK AT MOST 1048576: true; the input reads as it did. -/
def sectorSureUptoRow : OpenClaim := { program := "ytccjjlefpdlegaa", sum := "bd2262b0ce68c8d9b52c6a4d9384b190f1f575ca15f6e959954ee50a54039993", func := "escheat/escheatlaw01.SectorSure", spec := "sectorSure", unfollowed := true, recurses := true, apart := false, narrowed := true }
def SectorSureUptoSaid : Prop := sectorSureUptoRow.holds Try.pinned (OpenSpec.upto sectorSureSpec)

/-- 'escheatlaw01.SectorView', WHERE WHAT IT READS IS OF BULK AT MOST 1048576: true; the input reads as it did. -/
def sectorViewUptoRow : OpenClaim := { program := "ytccjjlefpdlegaa", sum := "bd2262b0ce68c8d9b52c6a4d9384b190f1f575ca15f6e959954ee50a54039993", func := "escheat/escheatlaw01.SectorView", spec := "sectorView", unfollowed := true, recurses := true, apart := false, narrowed := true }
def SectorViewUptoSaid : Prop := sectorViewUptoRow.holds Try.pinned (OpenSpec.upto sectorViewSpec)

/-- 'escheatlaw03.PackReads', WHERE WHAT IT READS IS OF BULK AT MOST 1048576: true; the input reads as it did. -/
def packReadsUptoRow : OpenClaim := { program := "ytccjjlefpdlegaa", sum := "bd2262b0ce68c8d9b52c6a4d9384b190f1f575ca15f6e959954ee50a54039993", func := "escheat/escheatlaw03.PackReads", spec := "packReads", apart := false, narrowed := true }
def PackReadsUptoSaid : Prop := packReadsUptoRow.holds Try.pinned (OpenSpec.upto packReadsSpec)

/-- 'escheatlaw01.SectorStarts', WHERE WHAT IT READS IS OF BULK AT MOST 1048576: true; the input reads as it did. -/
def sectorStartsUptoRow : OpenClaim := { program := "ytccjjlefpdlegaa", sum := "bd2262b0ce68c8d9b52c6a4d9384b190f1f575ca15f6e959954ee50a54039993", func := "escheat/escheatlaw01.SectorStarts", spec := "sectorStarts", unfollowed := true, recurses := true, apart := false, narrowed := true }
def SectorStartsUptoSaid : Prop := sectorStartsUptoRow.holds Try.pinned (OpenSpec.upto sectorStartsSpec)

end Rows
end Go.Proofs.Ytccjjlefpdlegaa
