/- What a log, and a disk with a log, that come in give the walk. -/
import Derived.Test.YtaijompnohkmaaaDoorZOpenS
import Derived.Test.YtaijompnohkmaaaDoorMR
namespace Go.Proofs.YtaijompnohkmaaaDoor
open Go.RowKit Go.ChangeShapes Go.WideShapes
set_option maxRecDepth 100000 in
theorem opens_log (W : World) : Opens Tryd.prog W 27 (fun (l : WalP.LogP) cs => cs = [.int .i64 l.half, .int .i64 l.gen, .int .i64 l.used, .int .i64 l.count] ∧ -9223372036854775808 ≤ l.half ∧ l.half ≤ 9223372036854775807) := fun H enc fuel cs x h hwt => by
  obtain ⟨xs, n, _, rfl, hl, hlen, hf⟩ := DataW.trod_struct Tryd.underlying27 h
  match xs, hlen with
  | [y0, y1, y2, y3], _ =>
    have h0 := hf 0 _ rfl
    have h1 := hf 1 _ rfl
    have h2 := hf 2 _ rfl
    have h3 := hf 3 _ rfl
    change _ = some y0 at h0
    change _ = some y1 at h1
    change _ = some y2 at h2
    change _ = some y3 at h3
    have hw1 : DataW.weights Tryd.prog 27 (DataW.agg [y0.1, y1.1, y2.1, y3.1]) = DataW.weightsEach Tryd.prog [3, 3, 3, 3] [y0.1, y1.1, y2.1, y3.1] := by
      rw [DataW.weights]; simp [Tryd.underlying27]
    change ∀ n ∈ DataW.weights Tryd.prog 27 (DataW.agg [y0.1, y1.1, y2.1, y3.1]), n ≤ reachBytes at hwt
    rw [hw1] at hwt
    obtain ⟨z0, hz0, hw0⟩ := opens_int (W := W) Tryd.underlying3 H enc n _ _ h0 (fun m hm => hwt m (mem_weightsEach _ _ 0 _ _ rfl rfl m hm))
    obtain ⟨z1, hz1, _⟩ := opens_int (W := W) Tryd.underlying3 H enc n _ _ h1 (fun m hm => hwt m (mem_weightsEach _ _ 1 _ _ rfl rfl m hm))
    obtain ⟨z2, hz2, _⟩ := opens_int (W := W) Tryd.underlying3 H enc n _ _ h2 (fun m hm => hwt m (mem_weightsEach _ _ 2 _ _ rfl rfl m hm))
    obtain ⟨z3, hz3, _⟩ := opens_int (W := W) Tryd.underlying3 H enc n _ _ h3 (fun m hm => hwt m (mem_weightsEach _ _ 3 _ _ rfl rfl m hm))
    have e0 : Tryd.prog.cellsOf 3 = 1 := by kernel_rfl
    have e4 : Tryd.prog.cellsOf 27 = 4 := by kernel_rfl
    rw [e4] at hl
    change (cs.drop 0).take (Tryd.prog.cellsOf 3) = _ at hz0
    change (cs.drop 1).take (Tryd.prog.cellsOf 3) = _ at hz1
    change (cs.drop 2).take (Tryd.prog.cellsOf 3) = _ at hz2
    change (cs.drop 3).take (Tryd.prog.cellsOf 3) = _ at hz3
    rw [e0] at hz0 hz1 hz2 hz3
    have hw := wf_i64 hw0
    match cs, hl, hz0, hz1, hz2, hz3 with
    | [c0, c1, c2, c3], _, hz0, hz1, hz2, hz3 =>
      simp at hz0 hz1 hz2 hz3
      subst hz0; subst hz1; subst hz2; subst hz3
      exact ⟨⟨z0, z1, z2, z3⟩, rfl, hw⟩
set_option maxRecDepth 100000 in
theorem opens_raw (W : World) : Opens Tryd.prog W 42 (fun (x : DiskP × WalP.LogP) cs => ∃ p1 q1 p2 q2, cs = [.slice p1 x.1.secs.length q1, .slice p2 x.1.loose.length q2, .int .i64 x.1.fuse, .bool x.1.down, .int .i64 x.2.half, .int .i64 x.2.gen, .int .i64 x.2.used, .int .i64 x.2.count] ∧
    DiskV W.heap.size W (.agg #[.slice p1 x.1.secs.length q1, .slice p2 x.1.loose.length q2, .int .i64 x.1.fuse, .bool x.1.down]) x.1 ∧ -9223372036854775808 ≤ x.2.half ∧ x.2.half ≤ 9223372036854775807) := fun H enc fuel cs x h hwt => by
  obtain ⟨y0, y1, n, rfl, hl, h0, h1⟩ := trod_struct2 Tryd.underlying42 h
  have hw1 : DataW.weights Tryd.prog 42 (DataW.agg [y0.1, y1.1]) = DataW.weightsEach Tryd.prog [25, 27] [y0.1, y1.1] := by
    rw [DataW.weights]; simp [Tryd.underlying42]
  simp only [hw1] at hwt
  obtain ⟨d, hd, _⟩ := opens_disk W H enc n _ _ h0 (fun m hm => hwt m (mem_weightsEach _ _ 0 _ _ rfl rfl m hm))
  obtain ⟨l, hlg, hb⟩ := opens_log W H enc n _ _ h1 (fun m hm => hwt m (mem_weightsEach _ _ 1 _ _ rfl rfl m hm))
  have e1 : Tryd.prog.cellsOf 25 = 4 := by kernel_rfl
  have e2 : Tryd.prog.cellsOf 27 = 4 := by kernel_rfl
  have e3 : Tryd.prog.cellsOf 42 = 8 := by kernel_rfl
  rw [e3] at hl
  change (cs.drop 4).take (Tryd.prog.cellsOf 27) = _ at hlg
  change DiskV _ _ (.agg ((cs.drop 0).take (Tryd.prog.cellsOf 25)).toArray) _ at hd
  rw [e1, List.drop_zero] at hd
  rw [e2] at hlg
  obtain ⟨p1, q1, p2, q2, hv, _, _⟩ := hd.parts
  have hc : cs.take 4 = [.slice p1 d.secs.length q1, .slice p2 d.loose.length q2, .int .i64 d.fuse, .bool d.down] := by
    injection hv with hv
    have := congrArg Array.toList hv
    simpa using this
  rw [hc] at hd
  have hc2 : cs.drop 4 = [.int .i64 l.half, .int .i64 l.gen, .int .i64 l.used, .int .i64 l.count] := by
    rw [List.take_of_length_le (by rw [List.length_drop]; omega)] at hlg
    exact hlg
  refine ⟨(d, l), p1, q1, p2, q2, ?_, hd, hb⟩
  have e := List.take_append_drop 4 cs
  rw [hc, hc2] at e
  exact e.symm
end Go.Proofs.YtaijompnohkmaaaDoor
