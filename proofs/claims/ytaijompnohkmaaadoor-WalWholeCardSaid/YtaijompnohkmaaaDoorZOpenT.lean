/- What steps and masks that come in give the walk. -/
import Derived.Test.YtaijompnohkmaaaDoorZOpenS
import Derived.Test.YtaijompnohkmaaaDoorZSteps
namespace Go.Proofs.YtaijompnohkmaaaDoor
open Go.RowKit Go.ChangeShapes Go.WideShapes
theorem wf_i8 {z : Int} (h : (Lit.int .i8 z).wf = true) : -128 ≤ z ∧ z ≤ 127 := by
  have h' := h
  simp [Lit.wf, IntKind.min, IntKind.max, IntKind.signed, IntKind.bits] at h'
  omega
set_option maxRecDepth 100000 in
theorem opens_step (W : World) : Opens Tryd.prog W 55 (fun (s : StepP) cs => s.wf ∧ ∃ u, cs = stepCells u s ∧ Bytes W.heap.size W u s.bytes) := fun H enc fuel cs x h hwt => by
  obtain ⟨xs, n, _, rfl, hl, hlen, hf⟩ := DataW.trod_struct Tryd.underlying55 h
  match xs, hlen with
  | [y0, y1, y2, y3], _ =>
    have h0 := hf 0 _ rfl
    have h1 := hf 1 _ rfl
    have h2 := hf 2 _ rfl
    have h3 := hf 3 _ rfl
    change _ = some y0 at h0
    change _ = some y1 at h1
    change _ = some y2 at h2
    change _ = some y3 at h3
    have hw1 : DataW.weights Tryd.prog 55 (DataW.agg [y0.1, y1.1, y2.1, y3.1]) = DataW.weightsEach Tryd.prog [43, 5, 4, 53] [y0.1, y1.1, y2.1, y3.1] := by
      rw [DataW.weights]; simp [Tryd.underlying55]
    change ∀ n ∈ DataW.weights Tryd.prog 55 (DataW.agg [y0.1, y1.1, y2.1, y3.1]), n ≤ reachBytes at hwt
    rw [hw1] at hwt
    obtain ⟨bs, _, u, hu, hb⟩ := opens_bytes (W := W) Tryd.underlying43 Tryd.underlying5 (by kernel_rfl) (by kernel_rfl) H enc n _ _ h0 (fun m hm => hwt m (mem_weightsEach _ _ 0 _ _ rfl rfl m hm))
    obtain ⟨z1, hz1, hx1⟩ := opens_int (W := W) Tryd.underlying5 H enc n _ _ h1 (fun m hm => hwt m (mem_weightsEach _ _ 1 _ _ rfl rfl m hm))
    obtain ⟨b2, hb2⟩ := opens_bool (W := W) Tryd.underlying4 H enc n _ _ h2 (fun m hm => hwt m (mem_weightsEach _ _ 2 _ _ rfl rfl m hm))
    obtain ⟨z3, hz3, hx3⟩ := opens_int (W := W) Tryd.underlying53 H enc n _ _ h3 (fun m hm => hwt m (mem_weightsEach _ _ 3 _ _ rfl rfl m hm))
    have e0 : Tryd.prog.cellsOf 43 = 1 := by kernel_rfl
    have e1 : Tryd.prog.cellsOf 5 = 1 := by kernel_rfl
    have e2 : Tryd.prog.cellsOf 4 = 1 := by kernel_rfl
    have e3 : Tryd.prog.cellsOf 53 = 1 := by kernel_rfl
    have e4 : Tryd.prog.cellsOf 55 = 4 := by kernel_rfl
    rw [e4] at hl
    change (cs.drop 0).take (Tryd.prog.cellsOf 43) = _ at hu
    change (cs.drop 1).take (Tryd.prog.cellsOf 5) = _ at hz1
    change (cs.drop 2).take (Tryd.prog.cellsOf 4) = _ at hb2
    change (cs.drop 3).take (Tryd.prog.cellsOf 53) = _ at hz3
    rw [e0] at hu
    rw [e1] at hz1
    rw [e2] at hb2
    rw [e3] at hz3
    have hw := wf_u8 hx1
    have hw3 := wf_i8 hx3
    match cs, hl, hu, hz1, hb2, hz3 with
    | [c0, c1, c2, c3], _, hu, hz1, hb2, hz3 =>
      simp at hu hz1 hb2 hz3
      subst hu; subst hz1; subst hb2; subst hz3
      exact ⟨⟨bs, z1, b2, z3⟩, ⟨hw.1, hw.2, hw3.1, hw3.2⟩, _, rfl, hb⟩
/-- What steps in a slice that came in are. -/
def StepsR (W : World) (ss : List StepP) (cs : List Value) : Prop := (∀ s ∈ ss, s.wf) ∧ ∃ v, cs = [v] ∧ StepsV W.heap.size W v ss
set_option maxRecDepth 100000 in
theorem opens_steps (W : World) : Opens Tryd.prog W 48 (StepsR W) := fun H enc fuel cs x h hwt => by
  obtain ⟨ss, hss⟩ := opens_slice (W := W) Tryd.underlying48 (of_decide_eq_true (by kernel_rfl)) (opens_step W) H enc fuel cs x h hwt
  have e4 : Tryd.prog.cellsOf 55 = 4 := by kernel_rfl
  rw [e4] at hss
  obtain ⟨_, v, css, rfl, h1, h2, h3, h4⟩ := hss
  refine ⟨ss, fun s hs => ?_, v, rfl, css, h3, h2, h1, fun k hk => ?_⟩
  · obtain ⟨i, hi, rfl⟩ := List.getElem_of_mem hs
    exact (h4 i _ _ (List.getElem?_eq_getElem hi) (List.getElem?_eq_getElem (by omega))).1
  · obtain ⟨_, u, h5, h6⟩ := h4 k _ _ (List.getElem?_eq_getElem hk) (List.getElem?_eq_getElem (by omega))
    exact ⟨u, (List.getElem?_eq_getElem (by omega)).trans (congrArg some h5), h6⟩
theorem flatten_one {α β : Type} (f : α → β) (ms : List α) : (ms.map fun z => [f z]).flatten = ms.map f := by
  induction ms with
  | nil => rfl
  | cons m ms ih => rw [List.map_cons, List.flatten_cons, ih]; rfl
/-- What masks in a slice that came in are. -/
def MasksR (W : World) (ms : List Int) (cs : List Value) : Prop := (∀ m ∈ ms, 0 ≤ m ∧ m < 2 ^ 64) ∧ ∃ v, cs = [v] ∧ Masks W.heap.size W v ms
theorem opens_masks (W : World) : Opens Tryd.prog W 49 (MasksR W) := fun H enc fuel cs x h hwt => by
  obtain ⟨ms, hms⟩ := opens_slice (W := W) Tryd.underlying49 (of_decide_eq_true (by kernel_rfl)) (opens_int (W := W) Tryd.underlying57) H enc fuel cs x h hwt
  have e1 : Tryd.prog.cellsOf 57 = 1 := by kernel_rfl
  rw [e1] at hms
  obtain ⟨_, v, css, rfl, h1, h2, h3, h4⟩ := hms
  have e : css.flatten = ms.map (fun z => Value.int .u64 z) := by
    rw [flatten_f (fun z => [Value.int .u64 z]) css ms h1 (fun i a c ha hc => (h4 i a c ha hc).1), flatten_one]
  rw [e] at h3
  refine ⟨ms, fun m hm => ?_, v, rfl, h3⟩
  obtain ⟨i, hi, rfl⟩ := List.getElem_of_mem hm
  have := wf_u64 (h4 i _ _ (List.getElem?_eq_getElem hi) (List.getElem?_eq_getElem (by omega))).2
  exact ⟨this.1, by omega⟩
end Go.Proofs.YtaijompnohkmaaaDoor
