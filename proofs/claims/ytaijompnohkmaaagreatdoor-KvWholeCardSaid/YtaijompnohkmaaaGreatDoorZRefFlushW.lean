/- Layer 1 (sector), the document's answer: Flush, Start. -/
import Derived.Test.YtaijompnohkmaaaGreatDoorZDoneW
set_option linter.unusedSimpArgs false
set_option linter.unusedVariables false
namespace Go.Proofs.YtaijompnohkmaaaGreatDoor
open Go.RowKit
theorem DiskO.diskV {B C : Nat} {w : World} {sv lv : Value} {d : DiskP} (h : DiskO B C w sv lv d) (f : Int) (b : Bool) : DiskV w.heap.size w (.agg #[sv,lv,.int .i64 f,.bool b]) { d with fuse:=f,down:=b } :=
 ⟨sv,lv,rfl,h.1.secs,h.2.2.loose⟩
end Go.Proofs.YtaijompnohkmaaaGreatDoor
