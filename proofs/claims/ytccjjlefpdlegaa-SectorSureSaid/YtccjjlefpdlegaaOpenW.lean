/- What a slice of writes that comes in gives the walk. -/
import Derived.Test.YtccjjlefpdlegaaOpenS
namespace Go.Proofs.Ytccjjlefpdlegaa
open Go.RowKit Go.ChangeShapes Go.WideShapes
theorem opens_writes (W : World) : Opens Try.prog W 41 (fun (ls : List WriteP) cs => ∃ v, cs = [v] ∧ Loose W.heap.size W v ls) := fun H enc fuel cs x h hwt => by
  obtain ⟨ls, hls⟩ := opens_slice (W := W) Try.underlying41 (of_decide_eq_true (by kernel_rfl)) (opens_write W) H enc fuel cs x h hwt
  have e6 : Try.prog.cellsOf 46 = 65 := by kernel_rfl
  rw [e6] at hls
  obtain ⟨_, v1, css1, hv1, l1, _, l3, l4⟩ := hls
  have f1 : css1.flatten = (ls.map wcells).flatten := flatten_f wcells css1 ls l1 (fun i a c ha hc => (l4 i a c ha hc).2)
  rw [f1] at l3
  exact ⟨ls, v1, hv1, fun s hs => by
    obtain ⟨i, hi, rfl⟩ := List.getElem_of_mem hs
    exact (l4 i _ _ (List.getElem?_eq_getElem hi) (List.getElem?_eq_getElem (by omega))).1, l3⟩
end Go.Proofs.Ytccjjlefpdlegaa
