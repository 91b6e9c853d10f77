/-
  DERIVED. GIVEN WITH THE SEED: THE CARDS: each row of YtaijompnohkmaaaGreatDoorRows.lean that lists a variable, with what it lists TIED to the program's text (the seventh form; the later family's looks); each row that meets fmt, with fmt's text TOLD by the authors' own Lean function (tested against real Go, not proved from fmt's source: count such statements apart). THE CARD IS WHAT COUNTS. Prove the row's statement (the work); the ties are given (YtaijompnohkmaaaGreatDoorTie.lean); close each card by the builder's one call (the guide's Derived/Test/ToyasCard.lean, 'card_holds'). Laid BY PROGRAM, IN A SANDBOX (cutbox-door.mjs). By AI agents, Wed Nov 11 2026. No macro, syntax, notation, axiom, sorry.
-/
import Derived.Test.YtaijompnohkmaaaGreatDoorRows
import GoSem.ClaimSeven
namespace Go.Proofs.YtaijompnohkmaaaGreatDoor
namespace Rows

/-- THE TIED CARD OF 'escheatlaw06.KvBytes'. -/
def kvBytesCard : Claim7 := { stood := { row := kvBytesRow, standIns := [], harness := (true, "b9c681d2556d883efaf09324cd4d2f28736ff46fa8ee36008246fe96b04ddeec"), looks := true }, kinds := [], alts := [], laidByText := true, laidKinds := [.data], laidTests := true, laidLooks := .later }
def KvBytesCardSaid : Prop := Claim7.holds Tryz.pinned (.plain (OpenSpec.ofChange kvBytesSpec)) kvBytesCard

/-- THE TIED CARD OF 'escheatlaw06.KvOpens'. -/
def kvOpensCard : Claim7 := { stood := { row := kvOpensRow, standIns := [], harness := (true, "b9c681d2556d883efaf09324cd4d2f28736ff46fa8ee36008246fe96b04ddeec"), looks := true }, kinds := [], alts := [], laidByText := true, laidKinds := [.data], laidTests := true, laidLooks := .later }
def KvOpensCardSaid : Prop := Claim7.holds Tryz.pinned (.plain (OpenSpec.ofChange kvOpensSpec)) kvOpensCard

/-- THE TIED CARD OF 'escheatlaw06.KvCommits'. -/
def kvCommitsCard : Claim7 := { stood := { row := kvCommitsRow, standIns := [], harness := (true, "b9c681d2556d883efaf09324cd4d2f28736ff46fa8ee36008246fe96b04ddeec"), looks := true }, kinds := [], alts := [], laidByText := true, laidKinds := [.data], laidTests := true, laidLooks := .later }
def KvCommitsCardSaid : Prop := Claim7.holds Tryz.pinned (.plain (OpenSpec.ofChange kvCommitsSpec)) kvCommitsCard

/-- THE TIED CARD OF 'escheatlaw06.KvWhole'. -/
def kvWholeCard : Claim7 := { stood := { row := kvWholeRow, standIns := [], harness := (true, "b9c681d2556d883efaf09324cd4d2f28736ff46fa8ee36008246fe96b04ddeec"), looks := true }, kinds := [], alts := [], laidByText := true, laidKinds := [.data], laidTests := true, laidLooks := .later }
def KvWholeCardSaid : Prop := Claim7.holds Tryz.pinned (.plain (OpenSpec.ofChange kvWholeSpec)) kvWholeCard

/-- THE TIED CARD OF 'escheatlaw06.KvSnaps'. -/
def kvSnapsCard : Claim7 := { stood := { row := kvSnapsRow, standIns := [], harness := (true, "b9c681d2556d883efaf09324cd4d2f28736ff46fa8ee36008246fe96b04ddeec"), looks := true }, kinds := [], alts := [], laidByText := true, laidKinds := [.data], laidTests := true, laidLooks := .later }
def KvSnapsCardSaid : Prop := Claim7.holds Tryz.pinned (.plain (OpenSpec.ofChange kvSnapsSpec)) kvSnapsCard

/-- THE TIED CARD OF 'escheatlaw06.KvKeys'. -/
def kvKeysCard : Claim7 := { stood := { row := kvKeysRow, standIns := [], harness := (true, "b9c681d2556d883efaf09324cd4d2f28736ff46fa8ee36008246fe96b04ddeec"), looks := true }, kinds := [], alts := [], laidByText := true, laidKinds := [.data], laidTests := true, laidLooks := .later }
def KvKeysCardSaid : Prop := Claim7.holds Tryz.pinned (.plain (OpenSpec.ofChange kvKeysSpec)) kvKeysCard

/-- THE TIED CARD OF 'escheatlaw06.KvAsks'. -/
def kvAsksCard : Claim7 := { stood := { row := kvAsksRow, standIns := [], harness := (true, "b9c681d2556d883efaf09324cd4d2f28736ff46fa8ee36008246fe96b04ddeec"), looks := true }, kinds := [], alts := [], laidByText := true, laidKinds := [.data], laidTests := true, laidLooks := .later }
def KvAsksCardSaid : Prop := Claim7.holds Tryz.pinned (.plain (OpenSpec.ofChange kvAsksSpec)) kvAsksCard

/-- THE SECOND FORM's CARD OF 'escheatlaw06.KvBytes'. -/
def kvBytesUptoCard : Claim7 := { stood := { row := kvBytesUptoRow, standIns := [], harness := (true, "b9c681d2556d883efaf09324cd4d2f28736ff46fa8ee36008246fe96b04ddeec"), looks := true }, kinds := [], alts := [], laidByText := true, laidKinds := [.data], laidTests := true, laidLooks := .later }
def KvBytesUptoCardSaid : Prop := Claim7.holds Tryz.pinned (.plain (OpenSpec.upto kvBytesSpec)) kvBytesUptoCard

/-- THE SECOND FORM's CARD OF 'escheatlaw06.KvOpens'. -/
def kvOpensUptoCard : Claim7 := { stood := { row := kvOpensUptoRow, standIns := [], harness := (true, "b9c681d2556d883efaf09324cd4d2f28736ff46fa8ee36008246fe96b04ddeec"), looks := true }, kinds := [], alts := [], laidByText := true, laidKinds := [.data], laidTests := true, laidLooks := .later }
def KvOpensUptoCardSaid : Prop := Claim7.holds Tryz.pinned (.plain (OpenSpec.upto kvOpensSpec)) kvOpensUptoCard

/-- THE SECOND FORM's CARD OF 'escheatlaw06.KvCommits'. -/
def kvCommitsUptoCard : Claim7 := { stood := { row := kvCommitsUptoRow, standIns := [], harness := (true, "b9c681d2556d883efaf09324cd4d2f28736ff46fa8ee36008246fe96b04ddeec"), looks := true }, kinds := [], alts := [], laidByText := true, laidKinds := [.data], laidTests := true, laidLooks := .later }
def KvCommitsUptoCardSaid : Prop := Claim7.holds Tryz.pinned (.plain (OpenSpec.upto kvCommitsSpec)) kvCommitsUptoCard

/-- THE SECOND FORM's CARD OF 'escheatlaw06.KvWhole'. -/
def kvWholeUptoCard : Claim7 := { stood := { row := kvWholeUptoRow, standIns := [], harness := (true, "b9c681d2556d883efaf09324cd4d2f28736ff46fa8ee36008246fe96b04ddeec"), looks := true }, kinds := [], alts := [], laidByText := true, laidKinds := [.data], laidTests := true, laidLooks := .later }
def KvWholeUptoCardSaid : Prop := Claim7.holds Tryz.pinned (.plain (OpenSpec.upto kvWholeSpec)) kvWholeUptoCard

/-- THE SECOND FORM's CARD OF 'escheatlaw06.KvSnaps'. -/
def kvSnapsUptoCard : Claim7 := { stood := { row := kvSnapsUptoRow, standIns := [], harness := (true, "b9c681d2556d883efaf09324cd4d2f28736ff46fa8ee36008246fe96b04ddeec"), looks := true }, kinds := [], alts := [], laidByText := true, laidKinds := [.data], laidTests := true, laidLooks := .later }
def KvSnapsUptoCardSaid : Prop := Claim7.holds Tryz.pinned (.plain (OpenSpec.upto kvSnapsSpec)) kvSnapsUptoCard

/-- THE SECOND FORM's CARD OF 'escheatlaw06.KvKeys'. -/
def kvKeysUptoCard : Claim7 := { stood := { row := kvKeysUptoRow, standIns := [], harness := (true, "b9c681d2556d883efaf09324cd4d2f28736ff46fa8ee36008246fe96b04ddeec"), looks := true }, kinds := [], alts := [], laidByText := true, laidKinds := [.data], laidTests := true, laidLooks := .later }
def KvKeysUptoCardSaid : Prop := Claim7.holds Tryz.pinned (.plain (OpenSpec.upto kvKeysSpec)) kvKeysUptoCard

/-- THE SECOND FORM's CARD OF 'escheatlaw06.KvAsks'. -/
def kvAsksUptoCard : Claim7 := { stood := { row := kvAsksUptoRow, standIns := [], harness := (true, "b9c681d2556d883efaf09324cd4d2f28736ff46fa8ee36008246fe96b04ddeec"), looks := true }, kinds := [], alts := [], laidByText := true, laidKinds := [.data], laidTests := true, laidLooks := .later }
def KvAsksUptoCardSaid : Prop := Claim7.holds Tryz.pinned (.plain (OpenSpec.upto kvAsksSpec)) kvAsksUptoCard
end Rows
end Go.Proofs.YtaijompnohkmaaaGreatDoor
