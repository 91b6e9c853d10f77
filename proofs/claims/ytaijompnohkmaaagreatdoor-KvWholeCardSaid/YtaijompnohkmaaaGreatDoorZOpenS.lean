/- What disks and writes that come in as arguments give the walk. -/
import Derived.Test.YtaijompnohkmaaaGreatDoorMT
import Derived.ChangeSame
import Derived.OpenShut
set_option linter.unusedSimpArgs false
set_option linter.unusedVariables false
namespace Go.Proofs.YtaijompnohkmaaaGreatDoor
open Go.RowKit Go.ChangeShapes Go.WideShapes
theorem flatten_f {α : Type} (f : α → List Value) : ∀ (css : List (List Value)) (xs : List α),css.length = xs.length → (∀ (i : Nat) (a : α) (c : List Value),xs[i]? = some a → css[i]? = some c → c = f a) → css.flatten = (xs.map f).flatten:=by
 intro css
 induction css with
 | nil=>intro xs h _;cases xs <;> simp_all
 | cons c css ih =>
  intro xs h h2
  cases xs with
  | nil=>simp at h
  | cons x xs =>
   rw [List.flatten_cons,h2 0 x c rfl rfl,ih xs (by simpa using h) (fun i a c ha hc=>h2 (i + 1) a c (by simpa using ha) (by simpa using hc))]
   rfl
section
variable {P : Program} {W : World} {t : TypeId}
end
end Go.Proofs.YtaijompnohkmaaaGreatDoor
