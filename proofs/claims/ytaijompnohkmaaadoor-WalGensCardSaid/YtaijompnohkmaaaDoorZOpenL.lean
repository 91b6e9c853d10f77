/- What a slice of lists of records that comes in gives the walk. -/
import Derived.Test.YtaijompnohkmaaaDoorZOpen
import Derived.Test.YtaijompnohkmaaaDoorZWalGens
namespace Go.Proofs.YtaijompnohkmaaaDoor
open Go.RowKit Go.ChangeShapes Go.WideShapes
def ListsR (W : World) (lls : List (List (List UInt8))) (cs : List Value) : Prop := (∀ ls ∈ lls, ∀ b ∈ ls, b.length ≤ reachBytes) ∧ ∃ v, cs = [v] ∧ Lists W.heap.size W v lls
theorem opens_lists (W : World) : Opens Tryd.prog W 64 (ListsR W) := fun H enc fuel cs x h hwt => by
  obtain ⟨lls, hls⟩ := opens_slice (W := W) Tryd.underlying64 (of_decide_eq_true (by kernel_rfl)) (opens_pieces Tryd.underlying31 (by kernel_rfl) (by kernel_rfl) Tryd.underlying43 Tryd.underlying5 (by kernel_rfl) (by kernel_rfl)) H enc fuel cs x h hwt
  have e6 : Tryd.prog.cellsOf 31 = 1 := by kernel_rfl
  rw [e6] at hls
  obtain ⟨_, v, css, rfl, h1, h2, h3, h4⟩ := hls
  refine ⟨lls, fun ls hl => ?_, v, rfl, css.flatten, h3, fun k hk => ?_⟩
  · obtain ⟨k, hk, rfl⟩ := List.getElem_of_mem hl
    exact (h4 k _ _ (List.getElem?_eq_getElem hk) (List.getElem?_eq_getElem (by omega))).2.1
  · obtain ⟨_, _, u, h5, h6⟩ := h4 k _ _ (List.getElem?_eq_getElem hk) (List.getElem?_eq_getElem (by omega))
    refine ⟨u, ?_, h6⟩
    have := flatten_get h2 k 0 _ (List.getElem?_eq_getElem (by omega)) (by omega)
    rw [Nat.mul_one, Nat.add_zero] at this
    rw [this, h5]
    rfl
end Go.Proofs.YtaijompnohkmaaaDoor
