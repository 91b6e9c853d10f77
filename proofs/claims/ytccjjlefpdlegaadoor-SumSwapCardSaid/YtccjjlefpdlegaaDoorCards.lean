/-
  DERIVED. GIVEN WITH THE SEED: THE CARDS: each row of YtccjjlefpdlegaaDoorRows.lean that lists a variable, with what it lists TIED to the program's text (the seventh form; the later family's looks); each row that meets fmt, with fmt's text TOLD by the authors' own Lean function (tested against real Go, not proved from fmt's source: count such statements apart). THE CARD IS WHAT COUNTS. Prove the row's statement (the work); the ties are given (YtccjjlefpdlegaaDoorTie.lean); close each card by the builder's one call (the guide's Derived/Test/ToyasCard.lean, 'card_holds'). Laid BY PROGRAM, IN A SANDBOX (cutbox-door.mjs). By AI agents, Wed Nov 11 2026. No macro, syntax, notation, axiom, sorry.
-/
import Derived.Test.YtccjjlefpdlegaaDoorRows
import GoSem.ClaimSeven
namespace Go.Proofs.YtccjjlefpdlegaaDoor
namespace Rows

/-- THE TIED CARD OF 'escheatlaw02.SumSums'. -/
def sumSumsCard : Claim7 := { stood := { row := sumSumsRow, standIns := [], harness := (true, "7ec822de160ca107941dcc009edf3f94a48eae414ba0d7e7414c09860e7bf5a2"), looks := false }, kinds := [], alts := [], laidByText := true, laidKinds := [.data], laidTests := true, laidLooks := .later }
def SumSumsCardSaid : Prop := Claim7.holds Tryd.pinned (.plain (OpenSpec.ofChange sumSumsSpec)) sumSumsCard

/-- THE TIED CARD OF 'escheatlaw02.SumPieces'. -/
def sumPiecesCard : Claim7 := { stood := { row := sumPiecesRow, standIns := [], harness := (true, "7ec822de160ca107941dcc009edf3f94a48eae414ba0d7e7414c09860e7bf5a2"), looks := false }, kinds := [], alts := [], laidByText := true, laidKinds := [.data], laidTests := true, laidLooks := .later }
def SumPiecesCardSaid : Prop := Claim7.holds Tryd.pinned (.plain (OpenSpec.ofChange sumPiecesSpec)) sumPiecesCard

/-- THE TIED CARD OF 'escheatlaw02.SumOther'. -/
def sumOtherCard : Claim7 := { stood := { row := sumOtherRow, standIns := [], harness := (true, "7ec822de160ca107941dcc009edf3f94a48eae414ba0d7e7414c09860e7bf5a2"), looks := false }, kinds := [], alts := [], laidByText := true, laidKinds := [.data], laidTests := true, laidLooks := .later }
def SumOtherCardSaid : Prop := Claim7.holds Tryd.pinned (.plain (OpenSpec.ofChange sumOtherSpec)) sumOtherCard

/-- THE TIED CARD OF 'escheatlaw02.SumSwap'. -/
def sumSwapCard : Claim7 := { stood := { row := sumSwapRow, standIns := [], harness := (true, "7ec822de160ca107941dcc009edf3f94a48eae414ba0d7e7414c09860e7bf5a2"), looks := false }, kinds := [], alts := [], laidByText := true, laidKinds := [.data], laidTests := true, laidLooks := .later }
def SumSwapCardSaid : Prop := Claim7.holds Tryd.pinned (.plain (OpenSpec.ofChange sumSwapSpec)) sumSwapCard

/-- THE SECOND FORM's CARD OF 'escheatlaw02.SumSums'. -/
def sumSumsUptoCard : Claim7 := { stood := { row := sumSumsUptoRow, standIns := [], harness := (true, "7ec822de160ca107941dcc009edf3f94a48eae414ba0d7e7414c09860e7bf5a2"), looks := false }, kinds := [], alts := [], laidByText := true, laidKinds := [.data], laidTests := true, laidLooks := .later }
def SumSumsUptoCardSaid : Prop := Claim7.holds Tryd.pinned (.plain (OpenSpec.upto sumSumsSpec)) sumSumsUptoCard

/-- THE SECOND FORM's CARD OF 'escheatlaw02.SumPieces'. -/
def sumPiecesUptoCard : Claim7 := { stood := { row := sumPiecesUptoRow, standIns := [], harness := (true, "7ec822de160ca107941dcc009edf3f94a48eae414ba0d7e7414c09860e7bf5a2"), looks := false }, kinds := [], alts := [], laidByText := true, laidKinds := [.data], laidTests := true, laidLooks := .later }
def SumPiecesUptoCardSaid : Prop := Claim7.holds Tryd.pinned (.plain (OpenSpec.upto sumPiecesSpec)) sumPiecesUptoCard

/-- THE SECOND FORM's CARD OF 'escheatlaw02.SumOther'. -/
def sumOtherUptoCard : Claim7 := { stood := { row := sumOtherUptoRow, standIns := [], harness := (true, "7ec822de160ca107941dcc009edf3f94a48eae414ba0d7e7414c09860e7bf5a2"), looks := false }, kinds := [], alts := [], laidByText := true, laidKinds := [.data], laidTests := true, laidLooks := .later }
def SumOtherUptoCardSaid : Prop := Claim7.holds Tryd.pinned (.plain (OpenSpec.upto sumOtherSpec)) sumOtherUptoCard

/-- THE SECOND FORM's CARD OF 'escheatlaw02.SumSwap'. -/
def sumSwapUptoCard : Claim7 := { stood := { row := sumSwapUptoRow, standIns := [], harness := (true, "7ec822de160ca107941dcc009edf3f94a48eae414ba0d7e7414c09860e7bf5a2"), looks := false }, kinds := [], alts := [], laidByText := true, laidKinds := [.data], laidTests := true, laidLooks := .later }
def SumSwapUptoCardSaid : Prop := Claim7.holds Tryd.pinned (.plain (OpenSpec.upto sumSwapSpec)) sumSwapUptoCard
end Rows
end Go.Proofs.YtccjjlefpdlegaaDoor
