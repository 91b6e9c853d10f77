/- Layer 5 (wal): to any log any record is appended, and any records compacted, as the document says: the law's walk. -/
import Derived.Test.YtaijompnohkmaaaDoorMR
namespace Go.Proofs.YtaijompnohkmaaaDoor
open Go.RowKit WalP PackP
set_option maxRecDepth 100000 in
set_option maxHeartbeats 8000000 in
theorem WalAppends_walk {p1 p2 : Option Addr} {q1 q2 : Nat} (v1 v2 : Value) (d : DiskP) (l : LogP) (b : List UInt8) (list : List (List UInt8)) (w : World) (ht : TabAt w) (hT : 0 < w.heap.size)
    (hd : DiskV w.heap.size w (.agg #[.slice p1 d.secs.length q1, .slice p2 d.loose.length q2, .int .i64 d.fuse, .bool d.down]) d) (hv1 : Bytes w.heap.size w v1 b) (hv2 : Pieces w.heap.size w v2 list) (hl0 : -9223372036854775808 ≤ l.half ∧ l.half ≤ 9223372036854775807) (hll : ∀ b ∈ list, b.length ≤ 2 ^ 50) :
    Calls Tryd.prog 4 #[.agg #[.slice p1 d.secs.length q1, .slice p2 d.loose.length q2, .int .i64 d.fuse, .bool d.down, .int .i64 l.half, .int .i64 l.gen, .int .i64 l.used, .int .i64 l.count], v1, v2] w fun e w' => e = .returned (.bool true) ∧ Below w.heap.size w w' := by
  obtain ⟨sa, sc, rfl⟩ := hv1.form
  obtain ⟨la, lc, rfl, _, _, _⟩ := id hv2.at_
  obtain ⟨w1, hw1⟩ : ∃ w1, w1 = w.alloc (.cells #[.slice p1 d.secs.length q1, .slice p2 d.loose.length q2, .int .i64 d.fuse, .bool d.down, .int .i64 l.half, .int .i64 l.gen, .int .i64 l.used, .int .i64 l.count] 42) := ⟨_, rfl⟩
  have hb1 : Below w.heap.size w w1 := by rw [hw1]; exact Below.alloc (Below.refl _ _) (Nat.le_refl _) _
  have RX : w1.heap[w.heap.size]? = some (.cells #[.slice p1 d.secs.length q1, .slice p2 d.loose.length q2, .int .i64 d.fuse, .bool d.down, .int .i64 l.half, .int .i64 l.gen, .int .i64 l.used, .int .i64 l.count] 42 (0, 0)) := by rw [hw1]; exact heap_alloc_new w _
  have ka := walAlive_any w1 (ht.below hb1 hT) (Nat.lt_of_lt_of_le hT hb1.size)
  have HW1 := Lib.hid hw1
  have HT := Lib.hid ht
  have HD := Lib.hid hd
  have HV1 := Lib.hid hv1
  have HV2 := Lib.hid hv2
  clear hw1 ht hd hv1 hv2
  go_enter Tryd.func4, Tryd.ntmps4
  go_upto_region 1 with (fail)
  rw [← HW1.out]
  go_wp2_with fail
  refine ka.mono ?_
  rintro e w2 ⟨rfl, hb2⟩
  clear ka
  have hb02 := hb1.trans (hb2.mono hb1.size)
  have RX := (hb2.block _ (block_lt RX)).trans RX
  have kg := great_any _ _ d list w2 (HD.out.below hb02) (HV2.out.below hb02) hll
  obtain ⟨Gt, hGt⟩ : ∃ g, g = greatB d.secs.length d.loose.length list := ⟨_, rfl⟩
  rw [← hGt] at kg
  have HGT := Lib.hid hGt
  clear hGt
  have X0 := cell_of_row w2 _ 0 _ _ _ RX
  have X1 := cell_of_row w2 _ 1 _ _ _ RX
  have X2 := cell_of_row w2 _ 2 _ _ _ RX
  have X3 := cell_of_row w2 _ 3 _ _ _ RX
  have X4 := cell_of_row w2 _ 4 _ _ _ RX
  have X5 := cell_of_row w2 _ 5 _ _ _ RX
  have X6 := cell_of_row w2 _ 6 _ _ _ RX
  have X7 := cell_of_row w2 _ 7 _ _ _ RX
  go_wp2_with fail
  refine kg.mono ?_
  rintro e w3 ⟨rfl, hb3⟩
  clear kg X0 X1 X2 X3 X4 X5 X6 X7
  have hb03 := hb02.trans (hb3.mono hb02.size)
  have RX := (hb3.block _ (block_lt RX)).trans RX
  cases Gt with
  | true =>
    go_wp2_with fail
    go_ret
    exact ⟨rfl, hb03⟩
  | false =>
  obtain ⟨hs1, hs2, hs3⟩ : d.secs.length ≤ 120 ∧ d.loose.length ≤ 120 ∧ greatN list 0 ≤ 20000 := by
    have h := HGT.out.symm
    unfold greatB at h
    simp only [Bool.or_eq_false_iff, decide_eq_false_iff_not] at h
    omega
  by_cases h80 : 8000 < b.length
  · have q0 : decide ((8000 : Int) < (b.length : Int)) = true := by simp; omega
    go_wp2_with fail
    go_ret
    exact ⟨rfl, hb03⟩
  have q0 : decide ((8000 : Int) < (b.length : Int)) = false := by simp; omega
  have hll1 : ∀ x ∈ list, x.length ≤ 2 ^ 20 := fun x hx => Nat.le_trans (greatN_le list 0 hs3 x hx) (by decide)
  have hll2 : list.length ≤ 2 ^ 20 := by have := greatN_len list 0 hs3; omega
  have HLL := Lib.hid hll1
  have X0 := cell_of_row w3 _ 0 _ _ _ RX
  have X1 := cell_of_row w3 _ 1 _ _ _ RX
  have X2 := cell_of_row w3 _ 2 _ _ _ RX
  have X3 := cell_of_row w3 _ 3 _ _ _ RX
  have X4 := cell_of_row w3 _ 4 _ _ _ RX
  have X5 := cell_of_row w3 _ 5 _ _ _ RX
  have X6 := cell_of_row w3 _ 6 _ _ _ RX
  have X7 := cell_of_row w3 _ 7 _ _ _ RX
  have k2 := copy_any _ d w3 (HD.out.below hb03) ⟨by omega, by omega⟩
  go_wp2_with fail
  refine k2.mono ?_
  rintro e w4 ⟨⟨sv, lv, rfl, C, _, _, ho, _, hlo⟩, hb4⟩
  obtain ⟨p0, q0', rfl⟩ := ho.form
  obtain ⟨r0, s0, rfl⟩ := hlo.form
  have dn : DiskV w4.heap.size w4 (.agg #[.slice p0 d.secs.length q0', .slice r0 d.loose.length s0, .int .i64 d.fuse, .bool d.down]) d := ⟨_, _, rfl, ho.secs, hlo.loose⟩
  clear ho hlo k2 X0 X1 X2 X3 X4 X5 X6 X7 h80 q0 hll1
  obtain ⟨w5, hw5⟩ : ∃ u, u = w4.alloc (.cells #[.slice p0 d.secs.length q0', .slice r0 d.loose.length s0, .int .i64 d.fuse, .bool d.down] 25) := ⟨_, rfl⟩
  have hb5 : Below w4.heap.size w4 w5 := by rw [hw5]; exact Below.alloc (Below.refl _ _) (Nat.le_refl _) _
  have RO : w5.heap[w4.heap.size]? = some (.cells #[.slice p0 d.secs.length q0', .slice r0 d.loose.length s0, .int .i64 d.fuse, .bool d.down] 25 (0, 0)) := by rw [hw5]; exact heap_alloc_new w4 _
  have hb35 := hb4.trans (hb5.mono hb4.size)
  have RX := (hb35.block _ (block_lt RX)).trans RX
  have hb05 := hb03.trans (hb35.mono hb03.size)
  have dn5 := (dn.below hb5).tight
  have HW5 := Lib.hid hw5
  obtain ⟨go, hgo⟩ : ∃ g, g = w4.heap.size := ⟨_, rfl⟩
  rw [← hgo] at RO
  have HGO := Lib.hid hgo
  have HX := Lib.hid RX
  have HO := Lib.hid RO
  have HD5 := Lib.hid (HD.out.below hb05).tight
  have HDO := Lib.hid dn5
  have HB05 := Lib.hid hb05
  have HT5 := Lib.hid (HT.out.below hb05 hT)
  have HT5' := Lib.hid (Nat.lt_of_lt_of_le hT hb05.size)
  clear hw5 hgo dn hb1 hb2 hb3 hb4 hb5 hb35 hb02 hb03 dn5 RX RO
  have HV15 := Lib.hid (HV1.out.below HB05.out)
  have HV25 := Lib.hid (HV2.out.below HB05.out)
  clear HV1 HV2 HD HT hb05 hll
  have C0 := cell_of_row w5 _ 0 _ _ _ HO.out
  have C1 := cell_of_row w5 _ 1 _ _ _ HO.out
  have C2 := cell_of_row w5 _ 2 _ _ _ HO.out
  have C3 := cell_of_row w5 _ 3 _ _ _ HO.out
  have X0 := cell_of_row w5 _ 0 _ _ _ HX.out
  have X1 := cell_of_row w5 _ 1 _ _ _ HX.out
  have X2 := cell_of_row w5 _ 2 _ _ _ HX.out
  have X3 := cell_of_row w5 _ 3 _ _ _ HX.out
  have X4 := cell_of_row w5 _ 4 _ _ _ HX.out
  have X5 := cell_of_row w5 _ 5 _ _ _ HX.out
  have X6 := cell_of_row w5 _ 6 _ _ _ HX.out
  have X7 := cell_of_row w5 _ 7 _ _ _ HX.out
  obtain ⟨r, hr⟩ : ∃ r, r = appendP d l b := ⟨_, rfl⟩
  have kc := append_any _ _ d l b w5 HDO.out HV15.out.tight hl0 HT5.out HT5'.out
  rw [← hr] at kc
  unfold DLE logV at kc
  go_upto_region 6 with (fail)
  rw [← HW5.out, ← HGO.out]
  go_wp2_with fail
  refine kc.mono ?_
  rintro e w6 ⟨⟨va, rfl, hda⟩, hb6⟩
  obtain ⟨aA, bA, cA, eA, rfl, _, _⟩ := hda.parts
  clear kc C0 C1 C2 C3 X0 X1 X2 X3 X4 X5 X6 X7
  obtain ⟨w7, hw7⟩ : ∃ u, u = (w6.alloc (.cells #[.slice aA r.1.secs.length bA, .slice cA r.1.loose.length eA, .int .i64 r.1.fuse, .bool r.1.down] 25)).alloc (.cells #[.int .i64 r.2.1.half, .int .i64 r.2.1.gen, .int .i64 r.2.1.used, .int .i64 r.2.1.count] 27) := ⟨_, rfl⟩
  have hb7 : Below w6.heap.size w6 w7 := by rw [hw7]; exact Below.alloc (Below.alloc (Below.refl _ _) (Nat.le_refl _) _) (by simp) _
  have RA : w7.heap[w6.heap.size]? = some (.cells #[.slice aA r.1.secs.length bA, .slice cA r.1.loose.length eA, .int .i64 r.1.fuse, .bool r.1.down] 25 (0, 0)) := by rw [hw7]; exact heap_alloc2_old w6 _ _
  have RL : w7.heap[w6.heap.size + 1]? = some (.cells #[.int .i64 r.2.1.half, .int .i64 r.2.1.gen, .int .i64 r.2.1.used, .int .i64 r.2.1.count] 27 (0, 0)) := by rw [hw7]; exact heap_alloc2_new w6 _ _
  obtain ⟨ga, hga⟩ : ∃ g, g = w6.heap.size := ⟨_, rfl⟩
  rw [← hga] at RA RL
  have hb57 := hb6.trans (hb7.mono hb6.size)
  have hga5 : w5.heap.size ≤ ga := by rw [hga]; exact hb6.size
  have HW7 := Lib.hid hw7
  have HGA := Lib.hid hga
  have HRA := Lib.hid RA
  have HRL := Lib.hid RL
  have HB57 := Lib.hid hb57
  have HDA := Lib.hid (hda.below hb7).tight
  have hrx7 := (hb57.block _ (block_lt HX.out)).trans HX.out
  have kc := refAppend_any (w := w7) _ _ d l b (HD5.out.below hb57).tight (HV15.out.below (hb57.mono HB05.out.size)).tight
  rw [← hr] at kc
  unfold DLE logV at kc
  have HR := Lib.hid hr
  have X0 := cell_of_row w7 _ 0 _ _ _ hrx7
  have X1 := cell_of_row w7 _ 1 _ _ _ hrx7
  have X2 := cell_of_row w7 _ 2 _ _ _ hrx7
  have X3 := cell_of_row w7 _ 3 _ _ _ hrx7
  have X4 := cell_of_row w7 _ 4 _ _ _ hrx7
  have X5 := cell_of_row w7 _ 5 _ _ _ hrx7
  have X6 := cell_of_row w7 _ 6 _ _ _ hrx7
  have X7 := cell_of_row w7 _ 7 _ _ _ hrx7
  clear hw7 hga RA RL hb57 hb6 hb7 hda hrx7 hr
  go_upto_region 7 with (fail)
  rw [← HW7.out, ← HGA.out]
  go_wp2_with fail
  refine kc.mono ?_
  rintro e w8 ⟨⟨va, rfl, hdc⟩, hb8⟩
  obtain ⟨aC, bC, cC, eC, rfl, _, _⟩ := hdc.parts
  clear kc X0 X1 X2 X3 X4 X5 X6 X7
  obtain ⟨w9, hw9⟩ : ∃ u, u = (w8.alloc (.cells #[.slice aC r.1.secs.length bC, .slice cC r.1.loose.length eC, .int .i64 r.1.fuse, .bool r.1.down] 25)).alloc (.cells #[.int .i64 r.2.1.half, .int .i64 r.2.1.gen, .int .i64 r.2.1.used, .int .i64 r.2.1.count] 27) := ⟨_, rfl⟩
  have hb9 : Below w8.heap.size w8 w9 := by rw [hw9]; exact Below.alloc (Below.alloc (Below.refl _ _) (Nat.le_refl _) _) (by simp) _
  have RC : w9.heap[w8.heap.size]? = some (.cells #[.slice aC r.1.secs.length bC, .slice cC r.1.loose.length eC, .int .i64 r.1.fuse, .bool r.1.down] 25 (0, 0)) := by rw [hw9]; exact heap_alloc2_old w8 _ _
  have RM : w9.heap[w8.heap.size + 1]? = some (.cells #[.int .i64 r.2.1.half, .int .i64 r.2.1.gen, .int .i64 r.2.1.used, .int .i64 r.2.1.count] 27 (0, 0)) := by rw [hw9]; exact heap_alloc2_new w8 _ _
  obtain ⟨gc, hgc⟩ : ∃ g, g = w8.heap.size := ⟨_, rfl⟩
  rw [← hgc] at RC RM
  have hb79 := hb8.trans (hb9.mono hb8.size)
  have hgc7 : w7.heap.size ≤ gc := by rw [hgc]; exact hb8.size
  have hgal := block_lt HRL.out
  have RA := (hb79.block _ (block_lt HRA.out)).trans HRA.out
  have RL := (hb79.block _ hgal).trans HRL.out
  have hb59 := HB57.out.trans (hb79.mono HB57.out.size)
  have kk := same_any _ _ r.1 w9 (HDA.out.below hb79) (hdc.below hb9)
  have HW9 := Lib.hid hw9
  have HGC := Lib.hid hgc
  have C0 := cell_of_row w9 _ 0 _ _ _ RA
  have C1 := cell_of_row w9 _ 1 _ _ _ RA
  have C2 := cell_of_row w9 _ 2 _ _ _ RA
  have C3 := cell_of_row w9 _ 3 _ _ _ RA
  have E0 := cell_of_row w9 _ 0 _ _ _ RC
  have E1 := cell_of_row w9 _ 1 _ _ _ RC
  have E2 := cell_of_row w9 _ 2 _ _ _ RC
  have E3 := cell_of_row w9 _ 3 _ _ _ RC
  have N0 := cell_of_row w9 _ 0 _ _ _ RL
  have N1 := cell_of_row w9 _ 1 _ _ _ RL
  have N2 := cell_of_row w9 _ 2 _ _ _ RL
  have N3 := cell_of_row w9 _ 3 _ _ _ RL
  have M0 := cell_of_row w9 _ 0 _ _ _ RM
  have M1 := cell_of_row w9 _ 1 _ _ _ RM
  have M2 := cell_of_row w9 _ 2 _ _ _ RM
  have M3 := cell_of_row w9 _ 3 _ _ _ RM
  have HRA := Lib.hid RA
  have HRL := Lib.hid RL
  have HRC := Lib.hid RC
  have HRM := Lib.hid RM
  have HB59 := Lib.hid hb59
  clear hw9 hgc RA RL RC RM hb79 hb59 hb8 hb9 hdc HDA
  go_upto_region 8 with (fail)
  rw [← HW9.out, ← HGC.out]
  go_wp2_with fail
  refine kk.mono ?_
  rintro e w10 ⟨rfl, hb10⟩
  clear kk C0 C1 C2 C3 E0 E1 E2 E3 N0 N1 N2 N3 M0 M1 M2 M3
  have RA := (hb10.block _ (block_lt HRA.out)).trans HRA.out
  have RL := (hb10.block _ (block_lt HRL.out)).trans HRL.out
  have RC := (hb10.block _ (block_lt HRC.out)).trans HRC.out
  have RM := (hb10.block _ (block_lt HRM.out)).trans HRM.out
  have N0 := cell_of_row w10 _ 0 _ _ _ RL
  have N1 := cell_of_row w10 _ 1 _ _ _ RL
  have N2 := cell_of_row w10 _ 2 _ _ _ RL
  have N3 := cell_of_row w10 _ 3 _ _ _ RL
  have M0 := cell_of_row w10 _ 0 _ _ _ RM
  have M1 := cell_of_row w10 _ 1 _ _ _ RM
  have M2 := cell_of_row w10 _ 2 _ _ _ RM
  have M3 := cell_of_row w10 _ 3 _ _ _ RM
  have hb510 := HB59.out.trans (hb10.mono HB59.out.size)
  have hrx := (hb510.block _ (block_lt HX.out)).trans HX.out
  have hro := (hb510.block _ (block_lt HO.out)).trans HO.out
  obtain ⟨u, hu⟩ : ∃ u, u = compactP d l list := ⟨_, rfl⟩
  have kc := compact_any _ _ d l list w10 (HDO.out.below hb510).tight (HV25.out.below (hb510.mono HB05.out.size)).tight hl0 (HT5.out.below hb510 HT5'.out) (Nat.lt_of_lt_of_le HT5'.out hb510.size) HLL.out hll2
  rw [← hu] at kc
  unfold DLE logV at kc
  have HU := Lib.hid hu
  have HB510 := Lib.hid hb510
  have HRA := Lib.hid RA
  have HRL := Lib.hid RL
  have HRC := Lib.hid RC
  have HRM := Lib.hid RM
  go_upto_region 10 with (fail)
  clear N0 N1 N2 N3 M0 M1 M2 M3
  have C0 := cell_of_row w10 _ 0 _ _ _ hro
  have C1 := cell_of_row w10 _ 1 _ _ _ hro
  have C2 := cell_of_row w10 _ 2 _ _ _ hro
  have C3 := cell_of_row w10 _ 3 _ _ _ hro
  have X0 := cell_of_row w10 _ 0 _ _ _ hrx
  have X1 := cell_of_row w10 _ 1 _ _ _ hrx
  have X2 := cell_of_row w10 _ 2 _ _ _ hrx
  have X3 := cell_of_row w10 _ 3 _ _ _ hrx
  have X4 := cell_of_row w10 _ 4 _ _ _ hrx
  have X5 := cell_of_row w10 _ 5 _ _ _ hrx
  have X6 := cell_of_row w10 _ 6 _ _ _ hrx
  have X7 := cell_of_row w10 _ 7 _ _ _ hrx
  clear RA RL RC RM hb510 hrx hro hu hb10
  go_upto_region 10 with (fail)
  go_wp2_with fail
  refine kc.mono ?_
  rintro e w11 ⟨⟨va, rfl, hda⟩, hb11⟩
  obtain ⟨aB, bB, cB, eB, rfl, _, _⟩ := hda.parts
  clear kc C0 C1 C2 C3 X0 X1 X2 X3 X4 X5 X6 X7
  have RA := (hb11.block _ (block_lt HRA.out)).trans HRA.out
  have RL := (hb11.block _ (block_lt HRL.out)).trans HRL.out
  have RC := (hb11.block _ (block_lt HRC.out)).trans HRC.out
  have RM := (hb11.block _ (block_lt HRM.out)).trans HRM.out
  have hb511 := HB510.out.trans (hb11.mono HB510.out.size)
  have HE := exit_dl (.int .i64 u.2.1.half) (.int .i64 u.2.1.gen) (.int .i64 u.2.1.used) (.int .i64 u.2.1.count) RA RL hda (by omega) hb511 hga5 (by omega)
  obtain ⟨w12, hw12⟩ : ∃ x, x = put4 (put4 w11 ga (.slice aB u.1.secs.length bB) (.slice cB u.1.loose.length eB) (.int .i64 u.1.fuse) (.bool u.1.down)) (ga + 1) (.int .i64 u.2.1.half) (.int .i64 u.2.1.gen) (.int .i64 u.2.1.used) (.int .i64 u.2.1.count) := ⟨_, rfl⟩
  have RC12 := put4_far (put4_far RC (show ga ≠ gc by omega) (.slice aB u.1.secs.length bB) (.slice cB u.1.loose.length eB) (.int .i64 u.1.fuse) (.bool u.1.down)) (show ga + 1 ≠ gc by omega) (.int .i64 u.2.1.half) (.int .i64 u.2.1.gen) (.int .i64 u.2.1.used) (.int .i64 u.2.1.count)
  rw [← hw12] at RC12
  have RM12 := put4_far (put4_far RM (show ga ≠ gc + 1 by omega) (.slice aB u.1.secs.length bB) (.slice cB u.1.loose.length eB) (.int .i64 u.1.fuse) (.bool u.1.down)) (show ga + 1 ≠ gc + 1 by omega) (.int .i64 u.2.1.half) (.int .i64 u.2.1.gen) (.int .i64 u.2.1.used) (.int .i64 u.2.1.count)
  rw [← hw12] at RM12
  rw [← hw12] at HE
  dsimp only [put4] at hw12
  have HW12 := Lib.hid hw12
  have HE12 := Lib.hid HE
  have HRC := Lib.hid RC12
  have HRM := Lib.hid RM12
  have C0 := cell_of_row w11 _ 0 _ _ _ RA
  have C1 := cell_of_row w11 _ 1 _ _ _ RA
  have C2 := cell_of_row w11 _ 2 _ _ _ RA
  have C3 := cell_of_row w11 _ 3 _ _ _ RA
  have N0 := cell_of_row w11 _ 0 _ _ _ RL
  have N1 := cell_of_row w11 _ 1 _ _ _ RL
  have N2 := cell_of_row w11 _ 2 _ _ _ RL
  have N3 := cell_of_row w11 _ 3 _ _ _ RL
  have Z1 := frozen_row RA
  have Z2 := frozen_row RL
  clear RA RL RC RM hb511 HE hw12 RC12 RM12 hb11 hda
  go_upto_region 11 with (fail)
  rw [← HW12.out]
  clear C0 C1 C2 C3 N0 N1 N2 N3 Z1 Z2
  obtain ⟨RA, RL, hda12, hb512⟩ := HE12.out
  have hrx := (hb512.block _ (block_lt HX.out)).trans HX.out
  have kc := refCompact_any _ _ d l list w12 (HD5.out.below hb512).tight (HV25.out.below (hb512.mono HB05.out.size)).tight HLL.out hll2
  rw [← HU.out] at kc
  unfold DLE logV at kc
  have HRA := Lib.hid RA
  have HRL := Lib.hid RL
  have HDA := Lib.hid hda12
  have HB512 := Lib.hid hb512
  have X0 := cell_of_row w12 _ 0 _ _ _ hrx
  have X1 := cell_of_row w12 _ 1 _ _ _ hrx
  have X2 := cell_of_row w12 _ 2 _ _ _ hrx
  have X3 := cell_of_row w12 _ 3 _ _ _ hrx
  have X4 := cell_of_row w12 _ 4 _ _ _ hrx
  have X5 := cell_of_row w12 _ 5 _ _ _ hrx
  have X6 := cell_of_row w12 _ 6 _ _ _ hrx
  have X7 := cell_of_row w12 _ 7 _ _ _ hrx
  clear RA RL hda12 hb512 hrx
  go_wp2_with fail
  refine kc.mono ?_
  rintro e w13 ⟨⟨va, rfl, hdc⟩, hb13⟩
  obtain ⟨aE, bE, cE, eE, rfl, _, _⟩ := hdc.parts
  clear kc X0 X1 X2 X3 X4 X5 X6 X7
  have RA := (hb13.block _ (block_lt HRA.out)).trans HRA.out
  have RL := (hb13.block _ (block_lt HRL.out)).trans HRL.out
  have RC := (hb13.block _ (block_lt HRC.out)).trans HRC.out
  have RM := (hb13.block _ (block_lt HRM.out)).trans HRM.out
  have hb513 := HB512.out.trans (hb13.mono HB512.out.size)
  have hda13 := (HDA.out.below hb13).tight
  have HE := exit_dl (.int .i64 u.2.1.half) (.int .i64 u.2.1.gen) (.int .i64 u.2.1.used) (.int .i64 u.2.1.count) RC RM hdc (by omega) hb513 (by omega) (by omega)
  have e1 := put4_diskV hda13 (hda13.slFar RC (by simp)) (.slice aE u.1.secs.length bE) (.slice cE u.1.loose.length eE) (.int .i64 u.1.fuse) (.bool u.1.down)
  have e2 := put4_diskV e1 (e1.slFar (put4_far RM (by omega) (.slice aE u.1.secs.length bE) (.slice cE u.1.loose.length eE) (.int .i64 u.1.fuse) (.bool u.1.down)) (by simp)) (.int .i64 u.2.1.half) (.int .i64 u.2.1.gen) (.int .i64 u.2.1.used) (.int .i64 u.2.1.count)
  obtain ⟨w14, hw14⟩ : ∃ x, x = put4 (put4 w13 gc (.slice aE u.1.secs.length bE) (.slice cE u.1.loose.length eE) (.int .i64 u.1.fuse) (.bool u.1.down)) (gc + 1) (.int .i64 u.2.1.half) (.int .i64 u.2.1.gen) (.int .i64 u.2.1.used) (.int .i64 u.2.1.count) := ⟨_, rfl⟩
  have RA14 := put4_far (put4_far RA (show gc ≠ ga by omega) (.slice aE u.1.secs.length bE) (.slice cE u.1.loose.length eE) (.int .i64 u.1.fuse) (.bool u.1.down)) (show gc + 1 ≠ ga by omega) (.int .i64 u.2.1.half) (.int .i64 u.2.1.gen) (.int .i64 u.2.1.used) (.int .i64 u.2.1.count)
  rw [← hw14] at RA14
  have RL14 := put4_far (put4_far RL (show gc ≠ ga + 1 by omega) (.slice aE u.1.secs.length bE) (.slice cE u.1.loose.length eE) (.int .i64 u.1.fuse) (.bool u.1.down)) (show gc + 1 ≠ ga + 1 by omega) (.int .i64 u.2.1.half) (.int .i64 u.2.1.gen) (.int .i64 u.2.1.used) (.int .i64 u.2.1.count)
  rw [← hw14] at RL14
  rw [← hw14] at HE e2
  dsimp only [put4] at hw14
  have HW14 := Lib.hid hw14
  have HE14 := Lib.hid HE
  have HDA := Lib.hid e2.tight
  have HRA := Lib.hid RA14
  have HRL := Lib.hid RL14
  have C0 := cell_of_row w13 _ 0 _ _ _ RC
  have C1 := cell_of_row w13 _ 1 _ _ _ RC
  have C2 := cell_of_row w13 _ 2 _ _ _ RC
  have C3 := cell_of_row w13 _ 3 _ _ _ RC
  have N0 := cell_of_row w13 _ 0 _ _ _ RM
  have N1 := cell_of_row w13 _ 1 _ _ _ RM
  have N2 := cell_of_row w13 _ 2 _ _ _ RM
  have N3 := cell_of_row w13 _ 3 _ _ _ RM
  have Z1 := frozen_row RC
  have Z2 := frozen_row RM
  clear RA RL RC RM hb513 HE hw14 RA14 RL14 hb13 hdc hda13 e1 e2
  go_upto_region 12 with (fail)
  rw [← HW14.out]
  clear C0 C1 C2 C3 N0 N1 N2 N3 Z1 Z2
  obtain ⟨RC, RM, hdc14, hb514⟩ := HE14.out
  have RA := HRA.out
  have RL := HRL.out
  have kk := same_any _ _ u.1 w14 HDA.out hdc14
  have hrx := (hb514.block _ (block_lt HX.out)).trans HX.out
  have hro := (hb514.block _ (block_lt HO.out)).trans HO.out
  have C0 := cell_of_row w14 _ 0 _ _ _ RA
  have C1 := cell_of_row w14 _ 1 _ _ _ RA
  have C2 := cell_of_row w14 _ 2 _ _ _ RA
  have C3 := cell_of_row w14 _ 3 _ _ _ RA
  have E0 := cell_of_row w14 _ 0 _ _ _ RC
  have E1 := cell_of_row w14 _ 1 _ _ _ RC
  have E2 := cell_of_row w14 _ 2 _ _ _ RC
  have E3 := cell_of_row w14 _ 3 _ _ _ RC
  have HB514 := Lib.hid hb514
  have HRC := Lib.hid RC
  have HRM := Lib.hid RM
  clear RA RL RC RM hdc14 hb514 hrx hro
  go_wp2_with fail
  refine kk.mono ?_
  rintro e w15 ⟨rfl, hb15⟩
  clear kk C0 C1 C2 C3 E0 E1 E2 E3
  have RL := (hb15.block _ (block_lt HRL.out)).trans HRL.out
  have RM := (hb15.block _ (block_lt HRM.out)).trans HRM.out
  have hb515 := HB514.out.trans (hb15.mono HB514.out.size)
  have hrx := (hb515.block _ (block_lt HX.out)).trans HX.out
  have hro := (hb515.block _ (block_lt HO.out)).trans HO.out
  have kk := same_any _ _ d w15 (HDO.out.below hb515) (HD5.out.below hb515)
  have N0 := cell_of_row w15 _ 0 _ _ _ RL
  have N1 := cell_of_row w15 _ 1 _ _ _ RL
  have N2 := cell_of_row w15 _ 2 _ _ _ RL
  have N3 := cell_of_row w15 _ 3 _ _ _ RL
  have M0 := cell_of_row w15 _ 0 _ _ _ RM
  have M1 := cell_of_row w15 _ 1 _ _ _ RM
  have M2 := cell_of_row w15 _ 2 _ _ _ RM
  have M3 := cell_of_row w15 _ 3 _ _ _ RM
  have C0 := cell_of_row w15 _ 0 _ _ _ hro
  have C1 := cell_of_row w15 _ 1 _ _ _ hro
  have C2 := cell_of_row w15 _ 2 _ _ _ hro
  have C3 := cell_of_row w15 _ 3 _ _ _ hro
  have X0 := cell_of_row w15 _ 0 _ _ _ hrx
  have X1 := cell_of_row w15 _ 1 _ _ _ hrx
  have X2 := cell_of_row w15 _ 2 _ _ _ hrx
  have X3 := cell_of_row w15 _ 3 _ _ _ hrx
  have X4 := cell_of_row w15 _ 4 _ _ _ hrx
  have X5 := cell_of_row w15 _ 5 _ _ _ hrx
  have X6 := cell_of_row w15 _ 6 _ _ _ hrx
  have X7 := cell_of_row w15 _ 7 _ _ _ hrx
  have HB515 := Lib.hid hb515
  clear RL RM hb515 hrx hro hb15
  go_wp2_with fail
  refine kk.mono ?_
  rintro e w16 ⟨rfl, hb16⟩
  clear kk
  have hfin := HB05.out.trans ((HB515.out.trans (hb16.mono HB515.out.size)).mono HB05.out.size)
  go_wp2_with fail
  go_ret
  exact ⟨rfl, hfin⟩
end Go.Proofs.YtaijompnohkmaaaDoor
