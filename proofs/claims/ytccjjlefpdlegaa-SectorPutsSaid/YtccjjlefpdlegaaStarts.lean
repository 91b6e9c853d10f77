/- Layer 1 (sector): the law SectorStarts. -/
import Derived.Test.YtccjjlefpdlegaaRefSame
namespace Go.Proofs.Ytccjjlefpdlegaa
open Go.RowKit
theorem great_len {d : DiskP} (h : greatB d = false) : d.secs.length ≤ 2 ^ 40 ∧ d.loose.length ≤ 2 ^ 40 := by
  simp only [greatB, Bool.or_eq_false_iff, decide_eq_false_iff_not] at h
  omega
theorem dsl_any (v : Value) : DSl (fun _ => True) v := fun _ _ _ _ _ => ⟨fun _ _ _ _ _ => trivial, fun _ _ _ _ _ => trivial⟩
set_option maxRecDepth 100000 in
set_option maxHeartbeats 2000000 in
theorem SectorStarts_walk (v0 : Value) (d : DiskP) (mask fuse : Int) (W : World) (h0 : DiskV W.heap.size W v0 d) (hm0 : 0 ≤ mask) (hm : mask < 2 ^ 64) :
    Calls Try.prog 10 #[v0, .int .u64 mask, .int .i64 fuse] W fun e w' => e = .returned (.bool true) ∧ Below W.heap.size W w' := by
  obtain ⟨a1, n1, a2, n2, rfl, _, _⟩ := h0.parts
  have HM := Lib.hid (And.intro hm0 hm)
  clear hm0 hm
  obtain ⟨w1, hw1⟩ : ∃ w1, w1 = W.alloc (.cells #[.slice a1 d.secs.length n1, .slice a2 d.loose.length n2, .int .i64 d.fuse, .bool d.down] 43) := ⟨_, rfl⟩
  have hB : Below W.heap.size W w1 := by rw [hw1]; exact Below.alloc (Below.refl _ _) (Nat.le_refl _) _
  have G0 : w1.heap[W.heap.size]? = some (.cells #[.slice a1 d.secs.length n1, .slice a2 d.loose.length n2, .int .i64 d.fuse, .bool d.down] 43 (0, 0)) := by rw [hw1]; exact heap_alloc_new W _
  have d0 := (h0.below hB).tight
  have k1 := alive_any w1
  clear h0
  go_enter Try.func10, Try.ntmps10
  go_wp2_with fail
  rw [← hw1]
  clear hw1
  refine k1.mono ?_
  rintro e w2 ⟨rfl, hb⟩
  have G0 := (hb.block _ (block_lt G0)).trans G0
  have d0 := (d0.below hb).tight
  have hB := hB.trans (hb.mono hB.size)
  clear k1 hb
  have C0 := cell_of_row w2 _ 0 _ _ _ G0
  have C1 := cell_of_row w2 _ 1 _ _ _ G0
  have C2 := cell_of_row w2 _ 2 _ _ _ G0
  have C3 := cell_of_row w2 _ 3 _ _ _ G0
  have k2 := great_any _ d w2 d0
  obtain ⟨g, hg⟩ : ∃ g, g = greatB d := ⟨_, rfl⟩
  rw [← hg] at k2
  have HG := Lib.hid hg
  clear hg
  go_wp2_with fail
  refine k2.mono ?_
  rintro e w3 ⟨rfl, hb⟩
  have G0 := (hb.block _ (block_lt G0)).trans G0
  have d0 := (d0.below hb).tight
  have hB := hB.trans (hb.mono hB.size)
  clear k2 hb C0 C1 C2 C3
  cases g with
  | true =>
    go_wp2_with fail
    go_ret
    exact ⟨rfl, hB⟩
  | false =>
  have HLEN := Lib.hid (great_len HG.out.symm)
  obtain ⟨D1, hD1⟩ : ∃ D, D = (startP d mask).1 := ⟨_, rfl⟩
  obtain ⟨E1, hE1⟩ : ∃ E, E = (startP d mask).2 := ⟨_, rfl⟩
  obtain ⟨D2, hD2⟩ : ∃ D, D = (armP d fuse).1 := ⟨_, rfl⟩
  obtain ⟨E2, hE2⟩ : ∃ E, E = (armP d fuse).2 := ⟨_, rfl⟩
  have HD1 := Lib.hid hD1
  have HE1 := Lib.hid hE1
  have HD2 := Lib.hid hD2
  have HE2 := Lib.hid hE2
  clear hD1 hE1 hD2 hE2
  have C0 := cell_of_row w3 _ 0 _ _ _ G0
  have C1 := cell_of_row w3 _ 1 _ _ _ G0
  have C2 := cell_of_row w3 _ 2 _ _ _ G0
  have C3 := cell_of_row w3 _ 3 _ _ _ G0
  have k2 := copy_any _ d w3 d0 HLEN.out
  go_wp2_with fail
  refine k2.mono ?_
  rintro e wc0 ⟨⟨sv, lv, rfl, C, _, _, ho, _, hlo⟩, hb⟩
  obtain ⟨p0, q0, rfl⟩ := ho.form
  obtain ⟨r0, s0, rfl⟩ := hlo.form
  have dn : DiskV wc0.heap.size wc0 (.agg #[.slice p0 d.secs.length q0, .slice r0 d.loose.length s0, .int .i64 d.fuse, .bool d.down]) d := ⟨_, _, rfl, ho.secs, hlo.loose⟩
  clear ho hlo
  obtain ⟨wd0, hu⟩ : ∃ u, u = wc0.alloc (.cells #[.slice p0 d.secs.length q0, .slice r0 d.loose.length s0, .int .i64 d.fuse, .bool d.down] 43) := ⟨_, rfl⟩
  have hb2 : Below wc0.heap.size wc0 wd0 := by rw [hu]; exact Below.alloc (Below.refl _ _) (Nat.le_refl _) _
  have G1 : wd0.heap[wc0.heap.size]? = some (.cells #[.slice p0 d.secs.length q0, .slice r0 d.loose.length s0, .int .i64 d.fuse, .bool d.down] 43 (0, 0)) := by rw [hu]; exact heap_alloc_new wc0 _
  have d1 := (dn.below hb2).tight
  have hsz := hb.size
  clear C0 C1 C2 C3
  have G0 := (hb2.block _ (Nat.lt_of_lt_of_le (block_lt G0) hsz)).trans ((hb.block _ (block_lt G0)).trans G0)
  have d0 := ((d0.below hb).tight.below hb2).tight
  have hB := hB.trans ((hb.trans (hb2.mono hsz)).mono hB.size)
  clear k2 hb hb2 hsz dn
  have k2 := start_any _ d mask wd0 d1 HM.out.1 HM.out.2 (fun _ => True) (dsl_any _) (fun _ _ => trivial)
  rw [← HD1.out, ← HE1.out] at k2
  go_wp2_with fail
  rw [← hu]
  clear hu
  refine k2.mono ?_
  rintro e wc1 ⟨⟨v1, rfl, dn, _⟩, hb⟩
  have dn : DiskV wc1.heap.size wc1 v1 D1 := dn
  obtain ⟨p1, q1, r1, s1, rfl, _, _⟩ := dn.parts
  obtain ⟨wd1, hu⟩ : ∃ u, u = wc1.alloc (.cells #[.slice p1 D1.secs.length q1, .slice r1 D1.loose.length s1, .int .i64 D1.fuse, .bool D1.down] 43) := ⟨_, rfl⟩
  have hb2 : Below wc1.heap.size wc1 wd1 := by rw [hu]; exact Below.alloc (Below.refl _ _) (Nat.le_refl _) _
  have G2 : wd1.heap[wc1.heap.size]? = some (.cells #[.slice p1 D1.secs.length q1, .slice r1 D1.loose.length s1, .int .i64 D1.fuse, .bool D1.down] 43 (0, 0)) := by rw [hu]; exact heap_alloc_new wc1 _
  have d2 := (dn.below hb2).tight
  have hsz := hb.size
  have ga := (hb.block _ (block_lt G0)).trans G0
  have C0 := cell_of_row wc1 _ 0 _ _ _ ga
  have C1 := cell_of_row wc1 _ 1 _ _ _ ga
  have C2 := cell_of_row wc1 _ 2 _ _ _ ga
  have C3 := cell_of_row wc1 _ 3 _ _ _ ga
  have hltC := block_lt ga
  clear ga
  have G0 := (hb2.block _ (Nat.lt_of_lt_of_le (block_lt G0) hsz)).trans ((hb.block _ (block_lt G0)).trans G0)
  have d0 := ((d0.below hb).tight.below hb2).tight
  have G1 := (hb2.block _ (Nat.lt_of_lt_of_le (block_lt G1) hsz)).trans ((hb.block _ (block_lt G1)).trans G1)
  have d1 := ((d1.below hb).tight.below hb2).tight
  have hB := hB.trans ((hb.trans (hb2.mono hsz)).mono hB.size)
  clear k2 hb hb2 hsz dn
  have k2 := refstart_any _ d mask wd1 d0 HM.out.1 HM.out.2
  rw [← HD1.out, ← HE1.out] at k2
  go_wp2_with fail
  rw [← hu]
  clear hu
  refine k2.mono ?_
  rintro e wc2 ⟨⟨v2, rfl, dn⟩, hb⟩
  have dn : DiskV wc2.heap.size wc2 v2 D1 := dn
  obtain ⟨p2, q2, r2, s2, rfl, _, _⟩ := dn.parts
  obtain ⟨wd2, hu⟩ : ∃ u, u = wc2.alloc (.cells #[.slice p2 D1.secs.length q2, .slice r2 D1.loose.length s2, .int .i64 D1.fuse, .bool D1.down] 43) := ⟨_, rfl⟩
  have hb2 : Below wc2.heap.size wc2 wd2 := by rw [hu]; exact Below.alloc (Below.refl _ _) (Nat.le_refl _) _
  have G3 : wd2.heap[wc2.heap.size]? = some (.cells #[.slice p2 D1.secs.length q2, .slice r2 D1.loose.length s2, .int .i64 D1.fuse, .bool D1.down] 43 (0, 0)) := by rw [hu]; exact heap_alloc_new wc2 _
  have d3 := (dn.below hb2).tight
  have hsz := hb.size
  clear C0 C1 C2 C3 hltC
  have ga := (hb.block _ (block_lt G1)).trans G1
  have C0 := cell_of_row wc2 _ 0 _ _ _ ga
  have C1 := cell_of_row wc2 _ 1 _ _ _ ga
  have C2 := cell_of_row wc2 _ 2 _ _ _ ga
  have C3 := cell_of_row wc2 _ 3 _ _ _ ga
  have hltC := block_lt ga
  clear ga
  have G0 := (hb2.block _ (Nat.lt_of_lt_of_le (block_lt G0) hsz)).trans ((hb.block _ (block_lt G0)).trans G0)
  have d0 := ((d0.below hb).tight.below hb2).tight
  have G1 := (hb2.block _ (Nat.lt_of_lt_of_le (block_lt G1) hsz)).trans ((hb.block _ (block_lt G1)).trans G1)
  have d1 := ((d1.below hb).tight.below hb2).tight
  have G2 := (hb2.block _ (Nat.lt_of_lt_of_le (block_lt G2) hsz)).trans ((hb.block _ (block_lt G2)).trans G2)
  have d2 := ((d2.below hb).tight.below hb2).tight
  have hB := hB.trans ((hb.trans (hb2.mono hsz)).mono hB.size)
  clear k2 hb hb2 hsz dn
  have k2 := arm_any _ d fuse wd2 d1 (fun _ => True) (dsl_any _)
  rw [← HD2.out, ← HE2.out] at k2
  go_wp2_with fail
  rw [← hu]
  clear hu
  refine k2.mono ?_
  rintro e wc3 ⟨⟨v3, rfl, dn, _⟩, hb⟩
  have dn : DiskV wc3.heap.size wc3 v3 D2 := dn
  obtain ⟨p3, q3, r3, s3, rfl, _, _⟩ := dn.parts
  obtain ⟨wd3, hu⟩ : ∃ u, u = wc3.alloc (.cells #[.slice p3 D2.secs.length q3, .slice r3 D2.loose.length s3, .int .i64 D2.fuse, .bool D2.down] 43) := ⟨_, rfl⟩
  have hb2 : Below wc3.heap.size wc3 wd3 := by rw [hu]; exact Below.alloc (Below.refl _ _) (Nat.le_refl _) _
  have G4 : wd3.heap[wc3.heap.size]? = some (.cells #[.slice p3 D2.secs.length q3, .slice r3 D2.loose.length s3, .int .i64 D2.fuse, .bool D2.down] 43 (0, 0)) := by rw [hu]; exact heap_alloc_new wc3 _
  have d4 := (dn.below hb2).tight
  have hsz := hb.size
  clear C0 C1 C2 C3 hltC
  have ga := (hb.block _ (block_lt G0)).trans G0
  have C0 := cell_of_row wc3 _ 0 _ _ _ ga
  have C1 := cell_of_row wc3 _ 1 _ _ _ ga
  have C2 := cell_of_row wc3 _ 2 _ _ _ ga
  have C3 := cell_of_row wc3 _ 3 _ _ _ ga
  have hltC := block_lt ga
  clear ga
  have G0 := (hb2.block _ (Nat.lt_of_lt_of_le (block_lt G0) hsz)).trans ((hb.block _ (block_lt G0)).trans G0)
  have d0 := ((d0.below hb).tight.below hb2).tight
  have G1 := (hb2.block _ (Nat.lt_of_lt_of_le (block_lt G1) hsz)).trans ((hb.block _ (block_lt G1)).trans G1)
  have d1 := ((d1.below hb).tight.below hb2).tight
  have G2 := (hb2.block _ (Nat.lt_of_lt_of_le (block_lt G2) hsz)).trans ((hb.block _ (block_lt G2)).trans G2)
  have d2 := ((d2.below hb).tight.below hb2).tight
  have G3 := (hb2.block _ (Nat.lt_of_lt_of_le (block_lt G3) hsz)).trans ((hb.block _ (block_lt G3)).trans G3)
  have d3 := ((d3.below hb).tight.below hb2).tight
  have hB := hB.trans ((hb.trans (hb2.mono hsz)).mono hB.size)
  clear k2 hb hb2 hsz dn
  have k2 := refarm_any _ d fuse wd3 d0
  rw [← HD2.out, ← HE2.out] at k2
  go_wp2_with fail
  rw [← hu]
  clear hu
  refine k2.mono ?_
  rintro e wc4 ⟨⟨v4, rfl, dn⟩, hb⟩
  have dn : DiskV wc4.heap.size wc4 v4 D2 := dn
  obtain ⟨p4, q4, r4, s4, rfl, _, _⟩ := dn.parts
  obtain ⟨wd4, hu⟩ : ∃ u, u = wc4.alloc (.cells #[.slice p4 D2.secs.length q4, .slice r4 D2.loose.length s4, .int .i64 D2.fuse, .bool D2.down] 43) := ⟨_, rfl⟩
  have hb2 : Below wc4.heap.size wc4 wd4 := by rw [hu]; exact Below.alloc (Below.refl _ _) (Nat.le_refl _) _
  have G5 : wd4.heap[wc4.heap.size]? = some (.cells #[.slice p4 D2.secs.length q4, .slice r4 D2.loose.length s4, .int .i64 D2.fuse, .bool D2.down] 43 (0, 0)) := by rw [hu]; exact heap_alloc_new wc4 _
  have d5 := (dn.below hb2).tight
  have hsz := hb.size
  clear C0 C1 C2 C3 hltC
  have ga := (hb.block _ (block_lt G2)).trans G2
  have A0 := cell_of_row wc4 _ 0 _ _ _ ga
  have A1 := cell_of_row wc4 _ 1 _ _ _ ga
  have A2 := cell_of_row wc4 _ 2 _ _ _ ga
  have A3 := cell_of_row wc4 _ 3 _ _ _ ga
  have hltA := block_lt ga
  clear ga
  have ga := (hb.block _ (block_lt G3)).trans G3
  have B0 := cell_of_row wc4 _ 0 _ _ _ ga
  have B1 := cell_of_row wc4 _ 1 _ _ _ ga
  have B2 := cell_of_row wc4 _ 2 _ _ _ ga
  have B3 := cell_of_row wc4 _ 3 _ _ _ ga
  have hltB := block_lt ga
  clear ga
  have G0 := (hb2.block _ (Nat.lt_of_lt_of_le (block_lt G0) hsz)).trans ((hb.block _ (block_lt G0)).trans G0)
  have d0 := ((d0.below hb).tight.below hb2).tight
  have G1 := (hb2.block _ (Nat.lt_of_lt_of_le (block_lt G1) hsz)).trans ((hb.block _ (block_lt G1)).trans G1)
  have d1 := ((d1.below hb).tight.below hb2).tight
  have G2 := (hb2.block _ (Nat.lt_of_lt_of_le (block_lt G2) hsz)).trans ((hb.block _ (block_lt G2)).trans G2)
  have d2 := ((d2.below hb).tight.below hb2).tight
  have G3 := (hb2.block _ (Nat.lt_of_lt_of_le (block_lt G3) hsz)).trans ((hb.block _ (block_lt G3)).trans G3)
  have d3 := ((d3.below hb).tight.below hb2).tight
  have G4 := (hb2.block _ (Nat.lt_of_lt_of_le (block_lt G4) hsz)).trans ((hb.block _ (block_lt G4)).trans G4)
  have d4 := ((d4.below hb).tight.below hb2).tight
  have hB := hB.trans ((hb.trans (hb2.mono hsz)).mono hB.size)
  clear k2 hb hb2 hsz dn
  have k2 := same_any _ _ D1 wd4 d2 d3
  go_wp2_with fail
  rw [← hu]
  clear hu
  refine k2.mono ?_
  rintro e ws0 ⟨rfl, hb⟩
  have G0 := (hb.block _ (block_lt G0)).trans G0
  have d0 := (d0.below hb).tight
  have G1 := (hb.block _ (block_lt G1)).trans G1
  have d1 := (d1.below hb).tight
  have G2 := (hb.block _ (block_lt G2)).trans G2
  have d2 := (d2.below hb).tight
  have G3 := (hb.block _ (block_lt G3)).trans G3
  have d3 := (d3.below hb).tight
  have G4 := (hb.block _ (block_lt G4)).trans G4
  have d4 := (d4.below hb).tight
  have G5 := (hb.block _ (block_lt G5)).trans G5
  have d5 := (d5.below hb).tight
  have hB := hB.trans (hb.mono hB.size)
  clear k2 hb A0 A1 A2 A3 B0 B1 B2 B3 hltA hltB
  have A0 := cell_of_row ws0 _ 0 _ _ _ G4
  have A1 := cell_of_row ws0 _ 1 _ _ _ G4
  have A2 := cell_of_row ws0 _ 2 _ _ _ G4
  have A3 := cell_of_row ws0 _ 3 _ _ _ G4
  have B0 := cell_of_row ws0 _ 0 _ _ _ G5
  have B1 := cell_of_row ws0 _ 1 _ _ _ G5
  have B2 := cell_of_row ws0 _ 2 _ _ _ G5
  have B3 := cell_of_row ws0 _ 3 _ _ _ G5
  have k2 := same_any _ _ D2 ws0 d4 d5
  go_wp2_with fail
  refine k2.mono ?_
  rintro e ws1 ⟨rfl, hb⟩
  have G0 := (hb.block _ (block_lt G0)).trans G0
  have d0 := (d0.below hb).tight
  have G1 := (hb.block _ (block_lt G1)).trans G1
  have d1 := (d1.below hb).tight
  have G2 := (hb.block _ (block_lt G2)).trans G2
  have d2 := (d2.below hb).tight
  have G3 := (hb.block _ (block_lt G3)).trans G3
  have d3 := (d3.below hb).tight
  have G4 := (hb.block _ (block_lt G4)).trans G4
  have d4 := (d4.below hb).tight
  have G5 := (hb.block _ (block_lt G5)).trans G5
  have d5 := (d5.below hb).tight
  have hB := hB.trans (hb.mono hB.size)
  clear k2 hb A0 A1 A2 A3 B0 B1 B2 B3
  have A0 := cell_of_row ws1 _ 0 _ _ _ G1
  have A1 := cell_of_row ws1 _ 1 _ _ _ G1
  have A2 := cell_of_row ws1 _ 2 _ _ _ G1
  have A3 := cell_of_row ws1 _ 3 _ _ _ G1
  have B0 := cell_of_row ws1 _ 0 _ _ _ G0
  have B1 := cell_of_row ws1 _ 1 _ _ _ G0
  have B2 := cell_of_row ws1 _ 2 _ _ _ G0
  have B3 := cell_of_row ws1 _ 3 _ _ _ G0
  have k2 := same_any _ _ d ws1 d1 d0
  go_wp2_with fail
  refine k2.mono ?_
  rintro e ws2 ⟨rfl, hb⟩
  have G0 := (hb.block _ (block_lt G0)).trans G0
  have d0 := (d0.below hb).tight
  have G1 := (hb.block _ (block_lt G1)).trans G1
  have d1 := (d1.below hb).tight
  have G2 := (hb.block _ (block_lt G2)).trans G2
  have d2 := (d2.below hb).tight
  have G3 := (hb.block _ (block_lt G3)).trans G3
  have d3 := (d3.below hb).tight
  have G4 := (hb.block _ (block_lt G4)).trans G4
  have d4 := (d4.below hb).tight
  have G5 := (hb.block _ (block_lt G5)).trans G5
  have d5 := (d5.below hb).tight
  have hB := hB.trans (hb.mono hB.size)
  clear k2 hb A0 A1 A2 A3 B0 B1 B2 B3
  go_wp2_with fail
  go_ret
  exact ⟨rfl, hB⟩
end Go.Proofs.Ytccjjlefpdlegaa
