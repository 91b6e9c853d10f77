/- The package-level table of the sums: what a row's list of variables gives the walk, and a world for the witness. -/
import Derived.Test.YtaijompnohkmaaaGreatDoorCards
import Derived.Test.YtaijompnohkmaaaGreatDoorTie
import Derived.Test.YtaijompnohkmaaaGreatDoorMT
import Derived.Deep.DeepHandedRow
import Derived.Lib.LaidTab
set_option linter.unusedSimpArgs false
set_option linter.unusedVariables false
namespace Go.Proofs.YtaijompnohkmaaaGreatDoor
open Go.ChangeShapes Go.WideShapes Go.ChangeAt Go.RowKit
theorem ownKnob_none : ownKnob Tryz.prog.godebug = none:=by kernel_rfl
theorem gTab : Tryz.prog.globalNamed "escheat/sum.turned" = some 1 := by kernel_rfl
theorem gTabType : (Tryz.prog.globals[1]?).map (·.type) = some 211:=by kernel_rfl
theorem tabCellsA : Tryz.prog.cellsOf 211 = 16:=by kernel_rfl
theorem tabCellsE : Tryz.prog.cellsOf 143 = 1:=by kernel_rfl
def tabInts : List Int:=[0,498536548,997073096,651767980,1994146192,1802195444,1303535960,1342533948,3988292384,4027552580,3604390888,3412177804,2607071920,2262029012,2685067896,3183342108]
theorem tabInts_at : ∀ k : Fin 16,tabInts.getD k.val 0 = SumP.toI (SumP.tabL.getD k.val 0#32):=by decide
theorem tabAt_of_laid {W : World} (h : laidMetH Tryz.prog [("escheat/sum.turned", Rows.laid_escheat_sum_turned)] W) : TabAt W := by
 have ht : Lib.TabIs Tryz.prog W "escheat/sum.turned" .u32 tabInts :=
  Lib.tabIs_of_head (rest:=[]) gTab gTabType Tryz.underlying211 Tryz.underlying143 tabCellsE tabCellsA h
 intro x hx
 rw [ht.cell gTab x.toNat hx,tabInts_at ⟨x.toNat,hx⟩]
 rfl
theorem tab_block {W : World} (h : TabAt W) : 1 < W.heap.size:=World.block_lt_of_cell? W _ (h 0#32 (by decide))
/-- A world for the witness: the settled one,the table holding what its initialiser lays. -/
noncomputable def laidWorld (os : Os) : World :=
 { World.holding Tryz.prog os ⟨#[],#[],[]⟩ with heap:=(World.holding Tryz.prog os ⟨#[],#[],[]⟩).heap.modify 1 fun
   | .cells _ t frozen=>.cells (tabInts.map fun z=>Value.int .u32 z).toArray t frozen
   | o=>o }
end Go.Proofs.YtaijompnohkmaaaGreatDoor
