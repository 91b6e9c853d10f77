/- Layer 6 (kv): what a text, and a change, that comes in gives the walk. -/
import Derived.Test.YtaijompnohkmaaaGreatDoorZOpenP
set_option linter.unusedSimpArgs false
set_option linter.unusedVariables false
namespace Go.Proofs.YtaijompnohkmaaaGreatDoor
open Go.RowKit Go.ChangeShapes Go.WideShapes KvP
theorem open_string_val {P : Program} {W : World} {t : TypeId} {H : Type} {enc : TypeId × Value → H} {base : Nat} {v : Value} {d : DataW H} {ps : List MemPlace} (ht : P.underlying t = some .string)
  (hval : Value.okWide P W .any base t v) (h : DataW.Trod enc P W 0 (fun _=>true) true t v d ps) (hw : ∀ n ∈ DataW.weights P t d,n ≤ reachBytes) : ∃ s : List UInt8,v = str s ∧ s.length ≤ reachBytes:=by
 obtain ⟨s,rfl⟩:=okWide_string ht hval
 obtain ⟨fuel,hf⟩:=h
 obtain ⟨s',hs,hl⟩:=opens_string (W:=W) ht H enc fuel _ _ hf hw
 cases hs
 exact ⟨s.data.toList,str_of s,by rw [str_len];exact hl⟩
end Go.Proofs.YtaijompnohkmaaaGreatDoor
