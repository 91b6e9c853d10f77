/- What arguments that are slices of numbers and of strings give the walk. -/
import Derived.Test.YtccjjlefpdlegaaOpen
import Derived.Test.YtccjjlefpdlegaaPack
namespace Go.Proofs.Ytccjjlefpdlegaa
open Go.RowKit Go.ChangeShapes Go.WideShapes
theorem flatten_map {α : Type} (f : α → Value) : ∀ (css : List (List Value)) (xs : List α), css.length = xs.length → (∀ (i : Nat) (a : α) (c : List Value), xs[i]? = some a → css[i]? = some c → c = [f a]) → css.flatten = xs.map f := by
  intro css
  induction css with
  | nil => intro xs h _; cases xs <;> simp_all
  | cons c css ih =>
    intro xs h h2
    cases xs with
    | nil => simp at h
    | cons x xs =>
      rw [List.flatten_cons, h2 0 x c rfl rfl, ih xs (by simpa using h) (fun i a c ha hc => h2 (i + 1) a c (by simpa using ha) (by simpa using hc))]
      rfl
section
variable {P : Program} {W : World} {t : TypeId}
/-- What a slice of ints that came in is. -/
def IntsR (W : World) (zs : List Int) (cs : List Value) : Prop := zs.length * 8 ≤ reachBytes ∧ (∀ z ∈ zs, (Lit.int .i64 z).wf = true) ∧ ∃ v, cs = [v] ∧ Ints W.heap.size W v zs
theorem opens_ints {e : TypeId} (ht : P.underlying t = some (.slice e)) (he : P.underlying e = some (.int .i64)) (hc : P.cellsOf e = 1) (hb : P.bytesOf e = 8) : Opens P W t (IntsR W) :=
  fun H enc fuel cs x h hw => by
    obtain ⟨zs, hz⟩ := opens_slice ht (by omega) (opens_int he) H enc fuel cs x h hw
    rw [hc, hb] at hz
    obtain ⟨h0, v, css, rfl, h1, _, h2, h3⟩ := hz
    refine ⟨zs, h0, fun z hz => ?_, v, rfl, ?_⟩
    · obtain ⟨k, hk, rfl⟩ := List.getElem_of_mem hz
      exact (h3 k _ _ (List.getElem?_eq_getElem hk) (List.getElem?_eq_getElem (by omega))).2
    · unfold Ints
      rw [← flatten_map (fun z => Value.int .i64 z) css zs h1 (fun i a c ha hc => (h3 i a c ha hc).1)]
      exact h2
/-- What a slice of strings that came in is. -/
def StrsR (W : World) (ss : List ByteArray) (cs : List Value) : Prop := ss.length * 16 ≤ reachBytes ∧ (∀ s ∈ ss, s.size ≤ reachBytes) ∧ ∃ v, cs = [v] ∧ Strs W.heap.size W v ss
theorem opens_strs {e : TypeId} (ht : P.underlying t = some (.slice e)) (he : P.underlying e = some .string) (hc : P.cellsOf e = 1) (hb : P.bytesOf e = 16) : Opens P W t (StrsR W) :=
  fun H enc fuel cs x h hw => by
    obtain ⟨ss, hz⟩ := opens_slice ht (by omega) (opens_string he) H enc fuel cs x h hw
    rw [hc, hb] at hz
    obtain ⟨h0, v, css, rfl, h1, _, h2, h3⟩ := hz
    refine ⟨ss, h0, fun z hz => ?_, v, rfl, ?_⟩
    · obtain ⟨k, hk, rfl⟩ := List.getElem_of_mem hz
      exact (h3 k _ _ (List.getElem?_eq_getElem hk) (List.getElem?_eq_getElem (by omega))).2
    · unfold Strs
      rw [← flatten_map (fun s => Value.string s) css ss h1 (fun i a c ha hc => (h3 i a c ha hc).1)]
      exact h2
end
end Go.Proofs.Ytccjjlefpdlegaa
