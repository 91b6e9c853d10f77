/- Layer 6 (kv): Get (the document's), Prefix (both), slices.Clone of pairs. -/
import Derived.Test.YtaijompnohkmaaaGreatDoorMT
import Derived.Test.YtaijompnohkmaaaGreatDoorZKvR8
set_option linter.unusedSimpArgs false
set_option linter.unusedVariables false
namespace Go.Proofs.YtaijompnohkmaaaGreatDoor
open Go.RowKit KvP PackP WalP
end Go.Proofs.YtaijompnohkmaaaGreatDoor
