/- What a slice of truth values that comes in gives the walk. -/
import Derived.Test.YtccjjlefpdlegabOpen
namespace Go.Proofs.Ytccjjlefpdlegab
open Go.RowKit Go.ChangeShapes Go.WideShapes
theorem flatten_mapB {α : Type} (f : α → Value) : ∀ (css : List (List Value)) (xs : List α), css.length = xs.length → (∀ (i : Nat) (a : α) (c : List Value), xs[i]? = some a → css[i]? = some c → c = [f a]) → css.flatten = xs.map f := by
  intro css
  induction css with
  | nil => intro xs h _; cases xs <;> simp_all
  | cons c css ih =>
    intro xs h h2
    cases xs with
    | nil => simp at h
    | cons x xs =>
      rw [List.flatten_cons, h2 0 x c rfl rfl, ih xs (by simpa using h) (fun i a c ha hc => h2 (i + 1) a c (by simpa using ha) (by simpa using hc))]
      rfl
section
variable {P : Program} {W : World} {t : TypeId}
def BoolsR (W : World) (bs : List Bool) (cs : List Value) : Prop := bs.length * 1 ≤ reachBytes ∧ ∃ v, cs = [v] ∧ Row W.heap.size W v 1 bs.length (bs.map Value.bool)
theorem opens_bools {e : TypeId} (ht : P.underlying t = some (.slice e)) (he : P.underlying e = some .bool) (hc : P.cellsOf e = 1) (hb : P.bytesOf e = 1) : Opens P W t (BoolsR W) :=
  fun H enc fuel cs x h hw => by
    obtain ⟨zs, hz⟩ := opens_slice ht (by omega) (opens_bool he) H enc fuel cs x h hw
    rw [hc, hb] at hz
    obtain ⟨h0, v, css, rfl, h1, _, h2, h3⟩ := hz
    refine ⟨zs, h0, v, rfl, ?_⟩
    rw [← flatten_mapB Value.bool css zs h1 (fun i a c ha hc => h3 i a c ha hc)]
    exact h2
end
end Go.Proofs.Ytccjjlefpdlegab
