/-
  DERIVED. GIVEN WITH THE SEED: THE CARDS: each row of YtaijompnohkmaaaDoorRows.lean that lists a variable, with what it lists TIED to the program's text (the seventh form; the later family's looks); each row that meets fmt, with fmt's text TOLD by the authors' own Lean function (tested against real Go, not proved from fmt's source: count such statements apart). THE CARD IS WHAT COUNTS. Prove the row's statement (the work); the ties are given (YtaijompnohkmaaaDoorTie.lean); close each card by the builder's one call (the guide's Derived/Test/ToyasCard.lean, 'card_holds'). Laid BY PROGRAM, IN A SANDBOX (cutbox-door.mjs). By AI agents, Wed Nov 11 2026. No macro, syntax, notation, axiom, sorry.
-/
import Derived.Test.YtaijompnohkmaaaDoorRows
import GoSem.ClaimSeven
namespace Go.Proofs.YtaijompnohkmaaaDoor
namespace Rows

/-- THE TIED CARD OF 'escheatlaw05.WalOpens'. -/
def walOpensCard : Claim7 := { stood := { row := walOpensRow, standIns := [], harness := (true, "fb26925c32b0e1dded6b6272c462cf6b5ca2e4a97883108afb760f2c482e7802"), looks := true }, kinds := [], alts := [], laidByText := true, laidKinds := [.data], laidTests := true, laidLooks := .later }
def WalOpensCardSaid : Prop := Claim7.holds Tryd.pinned (.plain (OpenSpec.ofChange walOpensSpec)) walOpensCard

/-- THE TIED CARD OF 'escheatlaw05.WalAppends'. -/
def walAppendsCard : Claim7 := { stood := { row := walAppendsRow, standIns := [], harness := (true, "fb26925c32b0e1dded6b6272c462cf6b5ca2e4a97883108afb760f2c482e7802"), looks := true }, kinds := [], alts := [], laidByText := true, laidKinds := [.data], laidTests := true, laidLooks := .later }
def WalAppendsCardSaid : Prop := Claim7.holds Tryd.pinned (.plain (OpenSpec.ofChange walAppendsSpec)) walAppendsCard

/-- THE TIED CARD OF 'escheatlaw05.WalWhole'. -/
def walWholeCard : Claim7 := { stood := { row := walWholeRow, standIns := [], harness := (true, "fb26925c32b0e1dded6b6272c462cf6b5ca2e4a97883108afb760f2c482e7802"), looks := true }, kinds := [], alts := [], laidByText := true, laidKinds := [.data], laidTests := true, laidLooks := .later }
def WalWholeCardSaid : Prop := Claim7.holds Tryd.pinned (.plain (OpenSpec.ofChange walWholeSpec)) walWholeCard

/-- THE TIED CARD OF 'escheatlaw05.WalBack'. -/
def walBackCard : Claim7 := { stood := { row := walBackRow, standIns := [], harness := (true, "fb26925c32b0e1dded6b6272c462cf6b5ca2e4a97883108afb760f2c482e7802"), looks := true }, kinds := [], alts := [], laidByText := true, laidKinds := [.data], laidTests := true, laidLooks := .later }
def WalBackCardSaid : Prop := Claim7.holds Tryd.pinned (.plain (OpenSpec.ofChange walBackSpec)) walBackCard

/-- THE TIED CARD OF 'escheatlaw05.WalRooms'. -/
def walRoomsCard : Claim7 := { stood := { row := walRoomsRow, standIns := [], harness := (true, "fb26925c32b0e1dded6b6272c462cf6b5ca2e4a97883108afb760f2c482e7802"), looks := true }, kinds := [], alts := [], laidByText := true, laidKinds := [.data], laidTests := true, laidLooks := .later }
def WalRoomsCardSaid : Prop := Claim7.holds Tryd.pinned (.plain (OpenSpec.ofChange walRoomsSpec)) walRoomsCard

/-- THE TIED CARD OF 'escheatlaw05.WalGens'. -/
def walGensCard : Claim7 := { stood := { row := walGensRow, standIns := [], harness := (true, "fb26925c32b0e1dded6b6272c462cf6b5ca2e4a97883108afb760f2c482e7802"), looks := true }, kinds := [], alts := [], laidByText := true, laidKinds := [.data], laidTests := true, laidLooks := .later }
def WalGensCardSaid : Prop := Claim7.holds Tryd.pinned (.plain (OpenSpec.ofChange walGensSpec)) walGensCard

/-- THE SECOND FORM's CARD OF 'escheatlaw05.WalOpens'. -/
def walOpensUptoCard : Claim7 := { stood := { row := walOpensUptoRow, standIns := [], harness := (true, "fb26925c32b0e1dded6b6272c462cf6b5ca2e4a97883108afb760f2c482e7802"), looks := true }, kinds := [], alts := [], laidByText := true, laidKinds := [.data], laidTests := true, laidLooks := .later }
def WalOpensUptoCardSaid : Prop := Claim7.holds Tryd.pinned (.plain (OpenSpec.upto walOpensSpec)) walOpensUptoCard

/-- THE SECOND FORM's CARD OF 'escheatlaw05.WalAppends'. -/
def walAppendsUptoCard : Claim7 := { stood := { row := walAppendsUptoRow, standIns := [], harness := (true, "fb26925c32b0e1dded6b6272c462cf6b5ca2e4a97883108afb760f2c482e7802"), looks := true }, kinds := [], alts := [], laidByText := true, laidKinds := [.data], laidTests := true, laidLooks := .later }
def WalAppendsUptoCardSaid : Prop := Claim7.holds Tryd.pinned (.plain (OpenSpec.upto walAppendsSpec)) walAppendsUptoCard

/-- THE SECOND FORM's CARD OF 'escheatlaw05.WalWhole'. -/
def walWholeUptoCard : Claim7 := { stood := { row := walWholeUptoRow, standIns := [], harness := (true, "fb26925c32b0e1dded6b6272c462cf6b5ca2e4a97883108afb760f2c482e7802"), looks := true }, kinds := [], alts := [], laidByText := true, laidKinds := [.data], laidTests := true, laidLooks := .later }
def WalWholeUptoCardSaid : Prop := Claim7.holds Tryd.pinned (.plain (OpenSpec.upto walWholeSpec)) walWholeUptoCard

/-- THE SECOND FORM's CARD OF 'escheatlaw05.WalBack'. -/
def walBackUptoCard : Claim7 := { stood := { row := walBackUptoRow, standIns := [], harness := (true, "fb26925c32b0e1dded6b6272c462cf6b5ca2e4a97883108afb760f2c482e7802"), looks := true }, kinds := [], alts := [], laidByText := true, laidKinds := [.data], laidTests := true, laidLooks := .later }
def WalBackUptoCardSaid : Prop := Claim7.holds Tryd.pinned (.plain (OpenSpec.upto walBackSpec)) walBackUptoCard

/-- THE SECOND FORM's CARD OF 'escheatlaw05.WalRooms'. -/
def walRoomsUptoCard : Claim7 := { stood := { row := walRoomsUptoRow, standIns := [], harness := (true, "fb26925c32b0e1dded6b6272c462cf6b5ca2e4a97883108afb760f2c482e7802"), looks := true }, kinds := [], alts := [], laidByText := true, laidKinds := [.data], laidTests := true, laidLooks := .later }
def WalRoomsUptoCardSaid : Prop := Claim7.holds Tryd.pinned (.plain (OpenSpec.upto walRoomsSpec)) walRoomsUptoCard

/-- THE SECOND FORM's CARD OF 'escheatlaw05.WalGens'. -/
def walGensUptoCard : Claim7 := { stood := { row := walGensUptoRow, standIns := [], harness := (true, "fb26925c32b0e1dded6b6272c462cf6b5ca2e4a97883108afb760f2c482e7802"), looks := true }, kinds := [], alts := [], laidByText := true, laidKinds := [.data], laidTests := true, laidLooks := .later }
def WalGensUptoCardSaid : Prop := Claim7.holds Tryd.pinned (.plain (OpenSpec.upto walGensSpec)) walGensUptoCard
end Rows
end Go.Proofs.YtaijompnohkmaaaDoor
