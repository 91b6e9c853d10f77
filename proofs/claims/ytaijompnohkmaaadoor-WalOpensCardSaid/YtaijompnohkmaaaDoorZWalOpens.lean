/- Layer 5 (wal): any disk's log is opened as the document says, and any log's room is its: the law's walk. -/
import Derived.Test.YtaijompnohkmaaaDoorMR
namespace Go.Proofs.YtaijompnohkmaaaDoor
open Go.RowKit WalP PackP
set_option maxRecDepth 100000 in
set_option maxHeartbeats 8000000 in
theorem WalOpens_walk {p1 p2 : Option Addr} {q1 q2 : Nat} (d : DiskP) (l : LogP) (n : Int) (w : World) (ht : TabAt w) (hT : 0 < w.heap.size)
    (hd : DiskV w.heap.size w (.agg #[.slice p1 d.secs.length q1, .slice p2 d.loose.length q2, .int .i64 d.fuse, .bool d.down]) d) (hl0 : -9223372036854775808 ≤ l.half ∧ l.half ≤ 9223372036854775807) :
    Calls Tryd.prog 3 #[.agg #[.slice p1 d.secs.length q1, .slice p2 d.loose.length q2, .int .i64 d.fuse, .bool d.down], .agg #[.int .i64 l.half, .int .i64 l.gen, .int .i64 l.used, .int .i64 l.count], .int .i64 n] w fun e w' => e = .returned (.bool true) ∧ Below w.heap.size w w' := by
  obtain ⟨w1, hw1⟩ : ∃ w1, w1 = (w.alloc (.cells #[.slice p1 d.secs.length q1, .slice p2 d.loose.length q2, .int .i64 d.fuse, .bool d.down] 25)).alloc (.cells #[.int .i64 l.half, .int .i64 l.gen, .int .i64 l.used, .int .i64 l.count] 27) := ⟨_, rfl⟩
  have hb1 : Below w.heap.size w w1 := by rw [hw1]; exact Below.alloc (Below.alloc (Below.refl _ _) (Nat.le_refl _) _) (by simp) _
  have RX : w1.heap[w.heap.size]? = some (.cells #[.slice p1 d.secs.length q1, .slice p2 d.loose.length q2, .int .i64 d.fuse, .bool d.down] 25 (0, 0)) := by rw [hw1]; exact heap_alloc2_old w _ _
  have RL : w1.heap[w.heap.size + 1]? = some (.cells #[.int .i64 l.half, .int .i64 l.gen, .int .i64 l.used, .int .i64 l.count] 27 (0, 0)) := by rw [hw1]; exact heap_alloc2_new w _ _
  have ka := walAlive_any w1 (ht.below hb1 hT) (Nat.lt_of_lt_of_le hT hb1.size)
  have HW1 := Lib.hid hw1
  have HT := Lib.hid ht
  have HD := Lib.hid hd
  clear hw1 ht hd
  go_enter Tryd.func3, Tryd.ntmps3
  go_upto_region 1 with (fail)
  rw [← HW1.out]
  go_wp2_with fail
  refine ka.mono ?_
  rintro e w2 ⟨rfl, hb2⟩
  clear ka
  have hb02 := hb1.trans (hb2.mono hb1.size)
  have RX := (hb2.block _ (block_lt RX)).trans RX
  have RL := (hb2.block _ (block_lt RL)).trans RL
  have hnil : Pieces w.heap.size w2 (.slice none 0 0) [] := ⟨[], Row.nil _ _ _, fun k h => absurd h (Nat.not_lt_zero _)⟩
  have kg := great_any _ _ d [] w2 (HD.out.below hb02) hnil (fun b h => absurd h List.not_mem_nil)
  obtain ⟨Gt, hGt⟩ : ∃ g, g = greatB d.secs.length d.loose.length [] := ⟨_, rfl⟩
  rw [← hGt] at kg
  have HGT := Lib.hid hGt
  clear hGt hnil
  have X0 := cell_of_row w2 _ 0 _ _ _ RX
  have X1 := cell_of_row w2 _ 1 _ _ _ RX
  have X2 := cell_of_row w2 _ 2 _ _ _ RX
  have X3 := cell_of_row w2 _ 3 _ _ _ RX
  go_wp2_with fail
  refine kg.mono ?_
  rintro e w3 ⟨rfl, hb3⟩
  clear kg X0 X1 X2 X3
  have hb03 := hb02.trans (hb3.mono hb02.size)
  have RX := (hb3.block _ (block_lt RX)).trans RX
  have RL := (hb3.block _ (block_lt RL)).trans RL
  cases Gt with
  | true =>
    go_wp2_with fail
    go_ret
    exact ⟨rfl, hb03⟩
  | false =>
  obtain ⟨hs1, hs2⟩ : d.secs.length ≤ 120 ∧ d.loose.length ≤ 120 := by
    have h := HGT.out.symm
    unfold greatB at h
    simp only [Bool.or_eq_false_iff, decide_eq_false_iff_not] at h
    omega
  have X0 := cell_of_row w3 _ 0 _ _ _ RX
  have X1 := cell_of_row w3 _ 1 _ _ _ RX
  have X2 := cell_of_row w3 _ 2 _ _ _ RX
  have X3 := cell_of_row w3 _ 3 _ _ _ RX
  have k2 := copy_any _ d w3 (HD.out.below hb03) ⟨by omega, by omega⟩
  go_wp2_with fail
  refine k2.mono ?_
  rintro e w4 ⟨⟨sv, lv, rfl, C, _, _, ho, _, hlo⟩, hb4⟩
  obtain ⟨p0, q0, rfl⟩ := ho.form
  obtain ⟨r0, s0, rfl⟩ := hlo.form
  have dn : DiskV w4.heap.size w4 (.agg #[.slice p0 d.secs.length q0, .slice r0 d.loose.length s0, .int .i64 d.fuse, .bool d.down]) d := ⟨_, _, rfl, ho.secs, hlo.loose⟩
  clear ho hlo k2 X0 X1 X2 X3
  obtain ⟨w5, hw5⟩ : ∃ u, u = w4.alloc (.cells #[.slice p0 d.secs.length q0, .slice r0 d.loose.length s0, .int .i64 d.fuse, .bool d.down] 25) := ⟨_, rfl⟩
  have hb5 : Below w4.heap.size w4 w5 := by rw [hw5]; exact Below.alloc (Below.refl _ _) (Nat.le_refl _) _
  have RO : w5.heap[w4.heap.size]? = some (.cells #[.slice p0 d.secs.length q0, .slice r0 d.loose.length s0, .int .i64 d.fuse, .bool d.down] 25 (0, 0)) := by rw [hw5]; exact heap_alloc_new w4 _
  have hb35 := hb4.trans (hb5.mono hb4.size)
  have RX := (hb35.block _ (block_lt RX)).trans RX
  have RL := (hb35.block _ (block_lt RL)).trans RL
  have hb05 := hb03.trans (hb35.mono hb03.size)
  have dn5 := (dn.below hb5).tight
  have HW5 := Lib.hid hw5
  obtain ⟨go, hgo⟩ : ∃ g, g = w4.heap.size := ⟨_, rfl⟩
  rw [← hgo] at RO
  have HGO := Lib.hid hgo
  have HX := Lib.hid RX
  have HL := Lib.hid RL
  have HO := Lib.hid RO
  have HD5 := Lib.hid (HD.out.below hb05).tight
  have HDO := Lib.hid dn5
  have HB05 := Lib.hid hb05
  have HT5 := Lib.hid (HT.out.below hb05 hT)
  have HT5' := Lib.hid (Nat.lt_of_lt_of_le hT hb05.size)
  clear hw5 hgo dn hb1 hb2 hb3 hb4 hb5 hb35 hb02 hb03 dn5 RX RO RL
  clear HD HT hb05
  have C0 := cell_of_row w5 _ 0 _ _ _ HO.out
  have C1 := cell_of_row w5 _ 1 _ _ _ HO.out
  have C2 := cell_of_row w5 _ 2 _ _ _ HO.out
  have C3 := cell_of_row w5 _ 3 _ _ _ HO.out
  obtain ⟨r, hr⟩ : ∃ r, r = openP d := ⟨_, rfl⟩
  have kc := open_any _ d w5 HDO.out HT5.out HT5'.out
  rw [← hr] at kc
  unfold OpenE logV at kc
  go_upto_region 6 with (fail)
  rw [← HW5.out, ← HGO.out]
  go_wp2_with fail
  refine kc.mono ?_
  rintro e w6 ⟨⟨va, lA, rfl, hda, hpa⟩, hb6⟩
  obtain ⟨aA, bA, cA, eA, rfl, _, _⟩ := hda.parts
  clear kc C0 C1 C2 C3
  obtain ⟨w7, hw7⟩ : ∃ u, u = (w6.alloc (.cells #[.slice aA r.1.secs.length bA, .slice cA r.1.loose.length eA, .int .i64 r.1.fuse, .bool r.1.down] 25)).alloc (.cells #[.int .i64 r.2.1.half, .int .i64 r.2.1.gen, .int .i64 r.2.1.used, .int .i64 r.2.1.count] 27) := ⟨_, rfl⟩
  have hb7 : Below w6.heap.size w6 w7 := by rw [hw7]; exact Below.alloc (Below.alloc (Below.refl _ _) (Nat.le_refl _) _) (by simp) _
  have RA : w7.heap[w6.heap.size]? = some (.cells #[.slice aA r.1.secs.length bA, .slice cA r.1.loose.length eA, .int .i64 r.1.fuse, .bool r.1.down] 25 (0, 0)) := by rw [hw7]; exact heap_alloc2_old w6 _ _
  have RN : w7.heap[w6.heap.size + 1]? = some (.cells #[.int .i64 r.2.1.half, .int .i64 r.2.1.gen, .int .i64 r.2.1.used, .int .i64 r.2.1.count] 27 (0, 0)) := by rw [hw7]; exact heap_alloc2_new w6 _ _
  obtain ⟨ga, hga⟩ : ∃ g, g = w6.heap.size := ⟨_, rfl⟩
  rw [← hga] at RA RN
  have hb57 := hb6.trans (hb7.mono hb6.size)
  have HW7 := Lib.hid hw7
  have HGA := Lib.hid hga
  have HRA := Lib.hid RA
  have HRN := Lib.hid RN
  have HB57 := Lib.hid hb57
  have HDA := Lib.hid (hda.below hb7).tight
  have HPA := Lib.hid ((hpa.below hb7).tight)
  have hrx7 := (hb57.block _ (block_lt HX.out)).trans HX.out
  have kc := refOpen_any _ d w7 (HD5.out.below hb57)
  rw [← hr] at kc
  unfold OpenE logV at kc
  have X0 := cell_of_row w7 _ 0 _ _ _ hrx7
  have X1 := cell_of_row w7 _ 1 _ _ _ hrx7
  have X2 := cell_of_row w7 _ 2 _ _ _ hrx7
  have X3 := cell_of_row w7 _ 3 _ _ _ hrx7
  clear hw7 hga RA RN hb57 hb6 hb7 hda hpa hrx7 hr
  go_upto_region 7 with (fail)
  rw [← HW7.out, ← HGA.out]
  go_wp2_with fail
  refine kc.mono ?_
  rintro e w8 ⟨⟨va, lC, rfl, hdc, hpc⟩, hb8⟩
  obtain ⟨aC, bC, cC, eC, rfl, _, _⟩ := hdc.parts
  clear kc X0 X1 X2 X3
  obtain ⟨w9, hw9⟩ : ∃ u, u = (w8.alloc (.cells #[.slice aC r.1.secs.length bC, .slice cC r.1.loose.length eC, .int .i64 r.1.fuse, .bool r.1.down] 25)).alloc (.cells #[.int .i64 r.2.1.half, .int .i64 r.2.1.gen, .int .i64 r.2.1.used, .int .i64 r.2.1.count] 27) := ⟨_, rfl⟩
  have hb9 : Below w8.heap.size w8 w9 := by rw [hw9]; exact Below.alloc (Below.alloc (Below.refl _ _) (Nat.le_refl _) _) (by simp) _
  have RC : w9.heap[w8.heap.size]? = some (.cells #[.slice aC r.1.secs.length bC, .slice cC r.1.loose.length eC, .int .i64 r.1.fuse, .bool r.1.down] 25 (0, 0)) := by rw [hw9]; exact heap_alloc2_old w8 _ _
  have RM : w9.heap[w8.heap.size + 1]? = some (.cells #[.int .i64 r.2.1.half, .int .i64 r.2.1.gen, .int .i64 r.2.1.used, .int .i64 r.2.1.count] 27 (0, 0)) := by rw [hw9]; exact heap_alloc2_new w8 _ _
  obtain ⟨gc, hgc⟩ : ∃ g, g = w8.heap.size := ⟨_, rfl⟩
  rw [← hgc] at RC RM
  have hb79 := hb8.trans (hb9.mono hb8.size)
  have RA := (hb79.block _ (block_lt HRA.out)).trans HRA.out
  have RN := (hb79.block _ (block_lt HRN.out)).trans HRN.out
  have hb59 := HB57.out.trans (hb79.mono HB57.out.size)
  have RX := (hb59.block _ (block_lt HX.out)).trans HX.out
  have RL := (hb59.block _ (block_lt HL.out)).trans HL.out
  have RO := (hb59.block _ (block_lt HO.out)).trans HO.out
  have hda9 := (HDA.out.below hb79).tight
  have hdc9 := (hdc.below hb9).tight
  have hpa9 := (HPA.out.below hb79).tight.pieces
  have hpc9 := (hpc.below hb9).tight.pieces
  have hdo9 := (HDO.out.below hb59).tight
  have hdx9 := (HD5.out.below hb59).tight
  have k1 : ∀ w', Below w9.heap.size w9 w' → Calls Tryd.prog 14 #[.agg #[.slice aA r.1.secs.length bA, .slice cA r.1.loose.length eA, .int .i64 r.1.fuse, .bool r.1.down], .agg #[.slice aC r.1.secs.length bC, .slice cC r.1.loose.length eC, .int .i64 r.1.fuse, .bool r.1.down]] w' fun e w'' => e = .returned (.bool true) ∧ Below w'.heap.size w' w'' := fun w' h => same_any _ _ r.1 w' (hda9.below h) (hdc9.below h)
  have k2 : ∀ w', Below w9.heap.size w9 w' → Calls Tryd.prog 15 #[lA, lC] w' fun e w'' => e = .returned (.bool true) ∧ Below w'.heap.size w' w'' := fun w' h => by
    have := same5_any _ _ r.2.2.1 r.2.2.1 w' (hpa9.below h) (hpc9.below h)
    simpa only [decide_true] using this
  have k3 : ∀ w', Below w9.heap.size w9 w' → Calls Tryd.prog 14 #[.agg #[.slice p0 d.secs.length q0, .slice r0 d.loose.length s0, .int .i64 d.fuse, .bool d.down], .agg #[.slice p1 d.secs.length q1, .slice p2 d.loose.length q2, .int .i64 d.fuse, .bool d.down]] w' fun e w'' => e = .returned (.bool true) ∧ Below w'.heap.size w' w'' := fun w' h => same_any _ _ d w' (hdo9.below h) (hdx9.below h)
  have k4 : ∀ w', Below w9.heap.size w9 w' → Calls Tryd.prog 16 #[.agg #[.slice p0 d.secs.length q0, .slice r0 d.loose.length s0, .int .i64 d.fuse, .bool d.down], .agg #[.int .i64 l.half, .int .i64 l.gen, .int .i64 l.used, .int .i64 l.count]] w' fun e w'' => e = .returned (.int .i64 (roomP d l)) ∧ Below w'.heap.size w' w'' := fun w' h => room_any _ d l w' (hdo9.below h) hl0
  have k5 : ∀ w', Below w9.heap.size w9 w' → Calls Tryd.prog 17 #[.agg #[.slice p1 d.secs.length q1, .slice p2 d.loose.length q2, .int .i64 d.fuse, .bool d.down], .agg #[.int .i64 l.half, .int .i64 l.gen, .int .i64 l.used, .int .i64 l.count]] w' fun e w'' => e = .returned (.int .i64 (roomP d l)) ∧ Below w'.heap.size w' w'' := fun w' h => refRoom_any _ d l w' (hdx9.below h)
  have k6 : ∀ w', Below w9.heap.size w9 w' → Calls Tryd.prog 18 #[.agg #[.slice p0 d.secs.length q0, .slice r0 d.loose.length s0, .int .i64 d.fuse, .bool d.down], .agg #[.int .i64 l.half, .int .i64 l.gen, .int .i64 l.used, .int .i64 l.count]] w' fun e w'' => e = .returned (.bool (rightL d l)) ∧ Below w'.heap.size w' w'' := fun w' h => walRight_any _ d l w' (hdo9.below h) hl0
  have k7 : ∀ w', Below w9.heap.size w9 w' → Calls Tryd.prog 19 #[.agg #[.slice p1 d.secs.length q1, .slice p2 d.loose.length q2, .int .i64 d.fuse, .bool d.down], .agg #[.int .i64 l.half, .int .i64 l.gen, .int .i64 l.used, .int .i64 l.count]] w' fun e w'' => e = .returned (.bool (rightL d l)) ∧ Below w'.heap.size w' w'' := fun w' h => refRight5_any _ d l w' (hdx9.below h)
  have k8 := fun w' => takes_any n w'
  have k9 := fun w' => refTakes_any n w'
  obtain ⟨Rm, hRm⟩ : ∃ x, x = roomP d l := ⟨_, rfl⟩
  obtain ⟨Rr, hRr⟩ : ∃ x, x = rightL d l := ⟨_, rfl⟩
  obtain ⟨tk, htk⟩ : ∃ x, x = takesZ n := ⟨_, rfl⟩
  rw [← hRm] at k4 k5
  rw [← hRr] at k6 k7
  rw [← htk] at k8 k9
  have A0 : ∀ w', Below w9.heap.size w9 w' → w'.cell? ⟨ga, 0, none⟩ = some (.slice aA r.1.secs.length bA) := fun w' h => cell_of_row w' _ 0 _ _ _ ((h.block _ (block_lt RA)).trans RA)
  have A1 : ∀ w', Below w9.heap.size w9 w' → w'.cell? ⟨ga, 1, none⟩ = some (.slice cA r.1.loose.length eA) := fun w' h => cell_of_row w' _ 1 _ _ _ ((h.block _ (block_lt RA)).trans RA)
  have A2 : ∀ w', Below w9.heap.size w9 w' → w'.cell? ⟨ga, 2, none⟩ = some (.int .i64 r.1.fuse) := fun w' h => cell_of_row w' _ 2 _ _ _ ((h.block _ (block_lt RA)).trans RA)
  have A3 : ∀ w', Below w9.heap.size w9 w' → w'.cell? ⟨ga, 3, none⟩ = some (.bool r.1.down) := fun w' h => cell_of_row w' _ 3 _ _ _ ((h.block _ (block_lt RA)).trans RA)
  have N0 : ∀ w', Below w9.heap.size w9 w' → w'.cell? ⟨ga + 1, 0, none⟩ = some (.int .i64 r.2.1.half) := fun w' h => cell_of_row w' _ 0 _ _ _ ((h.block _ (block_lt RN)).trans RN)
  have N1 : ∀ w', Below w9.heap.size w9 w' → w'.cell? ⟨ga + 1, 1, none⟩ = some (.int .i64 r.2.1.gen) := fun w' h => cell_of_row w' _ 1 _ _ _ ((h.block _ (block_lt RN)).trans RN)
  have N2 : ∀ w', Below w9.heap.size w9 w' → w'.cell? ⟨ga + 1, 2, none⟩ = some (.int .i64 r.2.1.used) := fun w' h => cell_of_row w' _ 2 _ _ _ ((h.block _ (block_lt RN)).trans RN)
  have N3 : ∀ w', Below w9.heap.size w9 w' → w'.cell? ⟨ga + 1, 3, none⟩ = some (.int .i64 r.2.1.count) := fun w' h => cell_of_row w' _ 3 _ _ _ ((h.block _ (block_lt RN)).trans RN)
  have E0 : ∀ w', Below w9.heap.size w9 w' → w'.cell? ⟨gc, 0, none⟩ = some (.slice aC r.1.secs.length bC) := fun w' h => cell_of_row w' _ 0 _ _ _ ((h.block _ (block_lt RC)).trans RC)
  have E1 : ∀ w', Below w9.heap.size w9 w' → w'.cell? ⟨gc, 1, none⟩ = some (.slice cC r.1.loose.length eC) := fun w' h => cell_of_row w' _ 1 _ _ _ ((h.block _ (block_lt RC)).trans RC)
  have E2 : ∀ w', Below w9.heap.size w9 w' → w'.cell? ⟨gc, 2, none⟩ = some (.int .i64 r.1.fuse) := fun w' h => cell_of_row w' _ 2 _ _ _ ((h.block _ (block_lt RC)).trans RC)
  have E3 : ∀ w', Below w9.heap.size w9 w' → w'.cell? ⟨gc, 3, none⟩ = some (.bool r.1.down) := fun w' h => cell_of_row w' _ 3 _ _ _ ((h.block _ (block_lt RC)).trans RC)
  have M0 : ∀ w', Below w9.heap.size w9 w' → w'.cell? ⟨gc + 1, 0, none⟩ = some (.int .i64 r.2.1.half) := fun w' h => cell_of_row w' _ 0 _ _ _ ((h.block _ (block_lt RM)).trans RM)
  have M1 : ∀ w', Below w9.heap.size w9 w' → w'.cell? ⟨gc + 1, 1, none⟩ = some (.int .i64 r.2.1.gen) := fun w' h => cell_of_row w' _ 1 _ _ _ ((h.block _ (block_lt RM)).trans RM)
  have M2 : ∀ w', Below w9.heap.size w9 w' → w'.cell? ⟨gc + 1, 2, none⟩ = some (.int .i64 r.2.1.used) := fun w' h => cell_of_row w' _ 2 _ _ _ ((h.block _ (block_lt RM)).trans RM)
  have M3 : ∀ w', Below w9.heap.size w9 w' → w'.cell? ⟨gc + 1, 3, none⟩ = some (.int .i64 r.2.1.count) := fun w' h => cell_of_row w' _ 3 _ _ _ ((h.block _ (block_lt RM)).trans RM)
  have X0 : ∀ w', Below w9.heap.size w9 w' → w'.cell? ⟨w.heap.size, 0, none⟩ = some (.slice p1 d.secs.length q1) := fun w' h => cell_of_row w' _ 0 _ _ _ ((h.block _ (block_lt RX)).trans RX)
  have X1 : ∀ w', Below w9.heap.size w9 w' → w'.cell? ⟨w.heap.size, 1, none⟩ = some (.slice p2 d.loose.length q2) := fun w' h => cell_of_row w' _ 1 _ _ _ ((h.block _ (block_lt RX)).trans RX)
  have X2 : ∀ w', Below w9.heap.size w9 w' → w'.cell? ⟨w.heap.size, 2, none⟩ = some (.int .i64 d.fuse) := fun w' h => cell_of_row w' _ 2 _ _ _ ((h.block _ (block_lt RX)).trans RX)
  have X3 : ∀ w', Below w9.heap.size w9 w' → w'.cell? ⟨w.heap.size, 3, none⟩ = some (.bool d.down) := fun w' h => cell_of_row w' _ 3 _ _ _ ((h.block _ (block_lt RX)).trans RX)
  have G0 : ∀ w', Below w9.heap.size w9 w' → w'.cell? ⟨w.heap.size + 1, 0, none⟩ = some (.int .i64 l.half) := fun w' h => cell_of_row w' _ 0 _ _ _ ((h.block _ (block_lt RL)).trans RL)
  have G1 : ∀ w', Below w9.heap.size w9 w' → w'.cell? ⟨w.heap.size + 1, 1, none⟩ = some (.int .i64 l.gen) := fun w' h => cell_of_row w' _ 1 _ _ _ ((h.block _ (block_lt RL)).trans RL)
  have G2 : ∀ w', Below w9.heap.size w9 w' → w'.cell? ⟨w.heap.size + 1, 2, none⟩ = some (.int .i64 l.used) := fun w' h => cell_of_row w' _ 2 _ _ _ ((h.block _ (block_lt RL)).trans RL)
  have G3 : ∀ w', Below w9.heap.size w9 w' → w'.cell? ⟨w.heap.size + 1, 3, none⟩ = some (.int .i64 l.count) := fun w' h => cell_of_row w' _ 3 _ _ _ ((h.block _ (block_lt RL)).trans RL)
  have O0 : ∀ w', Below w9.heap.size w9 w' → w'.cell? ⟨go, 0, none⟩ = some (.slice p0 d.secs.length q0) := fun w' h => cell_of_row w' _ 0 _ _ _ ((h.block _ (block_lt RO)).trans RO)
  have O1 : ∀ w', Below w9.heap.size w9 w' → w'.cell? ⟨go, 1, none⟩ = some (.slice r0 d.loose.length s0) := fun w' h => cell_of_row w' _ 1 _ _ _ ((h.block _ (block_lt RO)).trans RO)
  have O2 : ∀ w', Below w9.heap.size w9 w' → w'.cell? ⟨go, 2, none⟩ = some (.int .i64 d.fuse) := fun w' h => cell_of_row w' _ 2 _ _ _ ((h.block _ (block_lt RO)).trans RO)
  have O3 : ∀ w', Below w9.heap.size w9 w' → w'.cell? ⟨go, 3, none⟩ = some (.bool d.down) := fun w' h => cell_of_row w' _ 3 _ _ _ ((h.block _ (block_lt RO)).trans RO)
  have K1 := Lib.hid k1
  have K2 := Lib.hid k2
  have K3 := Lib.hid k3
  have K4 := Lib.hid k4
  have K5 := Lib.hid k5
  have K6 := Lib.hid k6
  have K7 := Lib.hid k7
  have K8 := Lib.hid k8
  have K9 := Lib.hid k9
  have HW9 := Lib.hid hw9
  have HGC := Lib.hid hgc
  have HB59 := Lib.hid hb59
  have h00 : Below w9.heap.size w9 w9.drew := below_draws (Below.refl _ _) 1
  clear k1 k2 k3 k4 k5 k6 k7 k8 k9 hRm hRr htk hw9 hgc RA RN RC RM RX RL RO hb79 hb59 hb8 hb9 hdc hpc HDA HPA hda9 hdc9 hpa9 hpc9 hdo9 hdx9 hl0 hs1 hs2
  go_upto_region 8 with (fail)
  rw [← HW9.out, ← HGC.out]
  refine wp_region_I [(false, 0), (false, 1), (true, 2), (false, 3), (false, 4), (false, 5), (false, 6), (false, 7), (false, 8), (false, 9), (false, 10), (true, 11), (false, 12), (false, 13), (false, 14), (false, 15), (false, 16), (false, 17), (false, 18), (false, 19), (false, 20), (true, 21), (false, 22), (false, 23), (false, 24), (false, 25), (false, 27), (false, 28), (true, 26), (true, 29), (false, 30), (false, 31), (false, 32), (false, 33), (false, 34), (false, 36), (false, 37), (true, 35), (true, 38), (false, 39), (false, 40), (false, 41), (false, 42), (false, 44), (true, 43), (true, 45), (false, 46), (false, 47), (false, 48)] (fun w' => Below w9.heap.size w9 w') (by kernel_rfl) (by kernel_rfl) h00 ?_
  iterate 2 (first | (refine heldI_skip rfl rfl ?_; simp only [Act.put, List.setIfInBounds_toArray, List.set_cons_zero, List.set_cons_succ]) | (refine heldI_take rfl ?_ rfl (fun w' hw' => ?_) ?_; rotate_left; (go_simp; first | done | with_reducible rfl); (try simp only [Act.put, List.setIfInBounds_toArray, List.set_cons_zero, List.set_cons_succ])))
  refine heldI_act rfl rfl fun K hK => ?_
  go_simp
  refine (K1.out _ h00).mono ?_
  rintro e u1 ⟨rfl, hu⟩
  have h1 := h00.trans (hu.mono h00.size)
  refine hK.out _ _ h1 ?_
  clear hK K hu h00
  try (simp only [Act.put, List.setIfInBounds_toArray, List.set_cons_zero, List.set_cons_succ])
  iterate 8 (first | (refine heldI_skip rfl rfl ?_; simp only [Act.put, List.setIfInBounds_toArray, List.set_cons_zero, List.set_cons_succ]) | (refine heldI_take rfl ?_ rfl (fun w' hw' => ?_) ?_; rotate_left; (go_simp; first | done | with_reducible rfl); (try simp only [Act.put, List.setIfInBounds_toArray, List.set_cons_zero, List.set_cons_succ])))
  refine heldI_act rfl rfl fun K hK => ?_
  go_simp
  refine (K2.out _ h1).mono ?_
  rintro e u2 ⟨rfl, hu⟩
  have h2 := h1.trans (hu.mono h1.size)
  refine hK.out _ _ h2 ?_
  clear hK K hu h1
  try (simp only [Act.put, List.setIfInBounds_toArray, List.set_cons_zero, List.set_cons_succ])
  iterate 9 (first | (refine heldI_skip rfl rfl ?_; simp only [Act.put, List.setIfInBounds_toArray, List.set_cons_zero, List.set_cons_succ]) | (refine heldI_take rfl ?_ rfl (fun w' hw' => ?_) ?_; rotate_left; (go_simp; first | done | with_reducible rfl); (try simp only [Act.put, List.setIfInBounds_toArray, List.set_cons_zero, List.set_cons_succ])))
  refine heldI_act rfl rfl fun K hK => ?_
  go_simp
  refine (K3.out _ h2).mono ?_
  rintro e u3 ⟨rfl, hu⟩
  have h3 := h2.trans (hu.mono h2.size)
  refine hK.out _ _ h3 ?_
  clear hK K hu h2
  try (simp only [Act.put, List.setIfInBounds_toArray, List.set_cons_zero, List.set_cons_succ])
  iterate 6 (first | (refine heldI_skip rfl rfl ?_; simp only [Act.put, List.setIfInBounds_toArray, List.set_cons_zero, List.set_cons_succ]) | (refine heldI_take rfl ?_ rfl (fun w' hw' => ?_) ?_; rotate_left; (go_simp; first | done | with_reducible rfl); (try simp only [Act.put, List.setIfInBounds_toArray, List.set_cons_zero, List.set_cons_succ])))
  refine heldI_act rfl rfl fun K hK => ?_
  go_simp
  refine (K4.out _ h3).mono ?_
  rintro e u4 ⟨rfl, hu⟩
  have h4 := h3.trans (hu.mono h3.size)
  refine hK.out _ _ h4 ?_
  clear hK K hu h3
  try (simp only [Act.put, List.setIfInBounds_toArray, List.set_cons_zero, List.set_cons_succ])
  refine heldI_act rfl rfl fun K hK => ?_
  go_simp
  refine (K5.out _ h4).mono ?_
  rintro e u5 ⟨rfl, hu⟩
  have h5 := h4.trans (hu.mono h4.size)
  refine hK.out _ _ h5 ?_
  clear hK K hu h4
  try (simp only [Act.put, List.setIfInBounds_toArray, List.set_cons_zero, List.set_cons_succ])
  iterate 7 (first | (refine heldI_skip rfl rfl ?_; simp only [Act.put, List.setIfInBounds_toArray, List.set_cons_zero, List.set_cons_succ]) | (refine heldI_take rfl ?_ rfl (fun w' hw' => ?_) ?_; rotate_left; (go_simp; first | done | with_reducible rfl); (try simp only [Act.put, List.setIfInBounds_toArray, List.set_cons_zero, List.set_cons_succ])))
  refine heldI_act rfl rfl fun K hK => ?_
  go_simp
  refine (K6.out _ h5).mono ?_
  rintro e u6 ⟨rfl, hu⟩
  have h6 := h5.trans (hu.mono h5.size)
  refine hK.out _ _ h6 ?_
  clear hK K hu h5
  try (simp only [Act.put, List.setIfInBounds_toArray, List.set_cons_zero, List.set_cons_succ])
  refine heldI_act rfl rfl fun K hK => ?_
  go_simp
  refine (K7.out _ h6).mono ?_
  rintro e u7 ⟨rfl, hu⟩
  have h7 := h6.trans (hu.mono h6.size)
  refine hK.out _ _ h7 ?_
  clear hK K hu h6
  try (simp only [Act.put, List.setIfInBounds_toArray, List.set_cons_zero, List.set_cons_succ])
  iterate 5 (first | (refine heldI_skip rfl rfl ?_; simp only [Act.put, List.setIfInBounds_toArray, List.set_cons_zero, List.set_cons_succ]) | (refine heldI_take rfl ?_ rfl (fun w' hw' => ?_) ?_; rotate_left; (go_simp; first | done | with_reducible rfl); (try simp only [Act.put, List.setIfInBounds_toArray, List.set_cons_zero, List.set_cons_succ])))
  refine heldI_act rfl rfl fun K hK => ?_
  go_simp
  refine (K8.out _).mono ?_
  rintro e u8 ⟨rfl, rfl⟩
  refine hK.out _ _ h7 ?_
  clear hK K
  try (simp only [Act.put, List.setIfInBounds_toArray, List.set_cons_zero, List.set_cons_succ])
  refine heldI_act rfl rfl fun K hK => ?_
  go_simp
  refine (K9.out _).mono ?_
  rintro e u9 ⟨rfl, rfl⟩
  refine hK.out _ _ h7 ?_
  clear hK K
  try (simp only [Act.put, List.setIfInBounds_toArray, List.set_cons_zero, List.set_cons_succ])
  iterate 3 (first | (refine heldI_skip rfl rfl ?_; simp only [Act.put, List.setIfInBounds_toArray, List.set_cons_zero, List.set_cons_succ]) | (refine heldI_take rfl ?_ rfl (fun w' hw' => ?_) ?_; rotate_left; (go_simp; first | done | with_reducible rfl); (try simp only [Act.put, List.setIfInBounds_toArray, List.set_cons_zero, List.set_cons_succ])))
  refine heldI_nil ?_
  go_wp2_with fail
  go_ret
  exact ⟨rfl, HB05.out.trans ((HB59.out.trans (h7.mono HB59.out.size)).mono HB05.out.size)⟩
end Go.Proofs.YtaijompnohkmaaaDoor
