/- Layer 6 (kv), the document's answer: a transaction's bytes. -/
import Derived.Test.YtaijompnohkmaaaGreatDoorMT
set_option linter.unusedSimpArgs false
set_option linter.unusedVariables false
namespace Go.Proofs.YtaijompnohkmaaaGreatDoor
open Go.RowKit KvP PackP
end Go.Proofs.YtaijompnohkmaaaGreatDoor
