/- Layer 5 (wal), the document's answer: Append. -/
import Derived.Test.YtaijompnohkmaaaDoorMO
namespace Go.Proofs.YtaijompnohkmaaaDoor
open Go.RowKit WalP PackP
theorem exit_work {w wx : World} {ga gb gc ge : Nat} {x0 x1 x2 x3 x4 y0 y1 y2 y3 : Value} {d : DiskP} (A : wx.heap[ga]? = some (.cells #[x0, x1, x2, x3, x4] 88 (0, 0))) (B : wx.heap[gb]? = some (.cells #[y0, y1, y2, y3] 27 (0, 0)))
    (C : wx.heap[gc]? = some (.cells #[.slice none 0 0, .slice none 0 0, .int .i64 0, .bool false] 25 (0, 0))) (E : wx.heap[ge]? = some (.cells #[.int .i64 0, .int .i64 0, .int .i64 0, .int .i64 0] 27 (0, 0)))
    (hd : DiskV wx.heap.size wx (.agg #[x0, x1, x2, x3]) d) (hb : Below w.heap.size w wx) (hc : w.heap.size ≤ gc) (he : w.heap.size ≤ ge) (nce : gc ≠ ge) (nca : gc ≠ ga) (ncb : gc ≠ gb) (nea : ge ≠ ga) (neb : ge ≠ gb) :
    ∃ oa ob wa wb, Hid (wa = ((((wx.setCell ⟨gc, 0, none⟩ x0).setCell ⟨gc, 1, none⟩ x1).setCell ⟨gc, 2, none⟩ x2).setCell ⟨gc, 3, none⟩ x3).drew) ∧ Hid (wb = (((wa.setCell ⟨ge, 0, none⟩ y0).setCell ⟨ge, 1, none⟩ y1).setCell ⟨ge, 2, none⟩ y2).setCell ⟨ge, 3, none⟩ y3) ∧ Two ga gb oa ob wx.drew ∧ Two ga gb oa ob wa ∧ Two ga gb oa ob wb ∧
      (∀ w', Two ga gb oa ob w' → w'.cell? ⟨ga, 0, none⟩ = some x0) ∧ (∀ w', Two ga gb oa ob w' → w'.cell? ⟨ga, 1, none⟩ = some x1) ∧ (∀ w', Two ga gb oa ob w' → w'.cell? ⟨ga, 2, none⟩ = some x2) ∧ (∀ w', Two ga gb oa ob w' → w'.cell? ⟨ga, 3, none⟩ = some x3) ∧ (∀ w', Two ga gb oa ob w' → w'.cell? ⟨ga, 4, none⟩ = some x4) ∧
      (∀ w', Two ga gb oa ob w' → w'.cell? ⟨gb, 0, none⟩ = some y0) ∧ (∀ w', Two ga gb oa ob w' → w'.cell? ⟨gb, 1, none⟩ = some y1) ∧ (∀ w', Two ga gb oa ob w' → w'.cell? ⟨gb, 2, none⟩ = some y2) ∧ (∀ w', Two ga gb oa ob w' → w'.cell? ⟨gb, 3, none⟩ = some y3) ∧
      wx.cell? ⟨gc, 0, none⟩ = some (.slice none 0 0) ∧ wx.cell? ⟨gc, 1, none⟩ = some (.slice none 0 0) ∧ wx.cell? ⟨gc, 2, none⟩ = some (.int .i64 0) ∧ wx.cell? ⟨gc, 3, none⟩ = some (.bool false) ∧ (∀ o, wx.frozen? ⟨gc, o, none⟩ = false) ∧
      wa.cell? ⟨ge, 0, none⟩ = some (.int .i64 0) ∧ wa.cell? ⟨ge, 1, none⟩ = some (.int .i64 0) ∧ wa.cell? ⟨ge, 2, none⟩ = some (.int .i64 0) ∧ wa.cell? ⟨ge, 3, none⟩ = some (.int .i64 0) ∧ (∀ o, wa.frozen? ⟨ge, o, none⟩ = false) ∧
      Hid (wb.heap[gc]? = some (.cells #[x0, x1, x2, x3] 25 (0, 0)) ∧ wb.heap[ge]? = some (.cells #[y0, y1, y2, y3] 27 (0, 0)) ∧ DiskV wb.heap.size wb (.agg #[x0, x1, x2, x3]) d ∧ Below w.heap.size w wb) := by
  have C' : wx.drew.heap[gc]? = some (.cells #[.slice none 0 0, .slice none 0 0, .int .i64 0, .bool false] 25 (0, 0)) := C
  have E' : wx.drew.heap[ge]? = some (.cells #[.int .i64 0, .int .i64 0, .int .i64 0, .int .i64 0] 27 (0, 0)) := E
  have s0 : Two ga gb (.cells #[x0, x1, x2, x3, x4] 88 (0, 0)) (.cells #[y0, y1, y2, y3] 27 (0, 0)) wx.drew := ⟨A, B⟩
  have sa : Two ga gb (.cells #[x0, x1, x2, x3, x4] 88 (0, 0)) (.cells #[y0, y1, y2, y3] 27 (0, 0)) (put4 wx.drew gc x0 x1 x2 x3) := ⟨put4_far s0.1 nca _ _ _ _, put4_far s0.2 ncb _ _ _ _⟩
  have sb : Two ga gb (.cells #[x0, x1, x2, x3, x4] 88 (0, 0)) (.cells #[y0, y1, y2, y3] 27 (0, 0)) (put4 (put4 wx.drew gc x0 x1 x2 x3) ge y0 y1 y2 y3) := ⟨put4_far sa.1 nea _ _ _ _, put4_far sa.2 neb _ _ _ _⟩
  have Ea : (put4 wx.drew gc x0 x1 x2 x3).heap[ge]? = some (.cells #[.int .i64 0, .int .i64 0, .int .i64 0, .int .i64 0] 27 (0, 0)) := put4_far E' nce _ _ _ _
  exact ⟨_, _, put4 wx.drew gc x0 x1 x2 x3, put4 (put4 wx.drew gc x0 x1 x2 x3) ge y0 y1 y2 y3, Lib.hid rfl, Lib.hid rfl, s0, sa, sb,
    fun w' h => cell_of_row w' _ 0 _ _ _ h.1, fun w' h => cell_of_row w' _ 1 _ _ _ h.1, fun w' h => cell_of_row w' _ 2 _ _ _ h.1, fun w' h => cell_of_row w' _ 3 _ _ _ h.1, fun w' h => cell_of_row w' _ 4 _ _ _ h.1,
    fun w' h => cell_of_row w' _ 0 _ _ _ h.2, fun w' h => cell_of_row w' _ 1 _ _ _ h.2, fun w' h => cell_of_row w' _ 2 _ _ _ h.2, fun w' h => cell_of_row w' _ 3 _ _ _ h.2,
    cell_of_row wx _ 0 _ _ _ C, cell_of_row wx _ 1 _ _ _ C, cell_of_row wx _ 2 _ _ _ C, cell_of_row wx _ 3 _ _ _ C, frozen_row C,
    cell_of_row _ _ 0 _ _ _ Ea, cell_of_row _ _ 1 _ _ _ Ea, cell_of_row _ _ 2 _ _ _ Ea, cell_of_row _ _ 3 _ _ _ Ea, frozen_row Ea,
    Lib.hid (exit_dl y0 y1 y2 y3 C' E' hd nce (below_draws hb 1) hc he)⟩
theorem work_new {w : World} {g : Nat} {a0 a1 : Option Addr} {n0 n1 : Nat} {d : DiskP} (hg : w.heap[g]? = some (.cells #[.slice a0 d.secs.length n0, .slice a1 d.loose.length n1, .int .i64 d.fuse, .bool d.down, .int .i64 0] 88 (0, 0))) (hd : DiskV w.heap.size w (.agg #[.slice a0 d.secs.length n0, .slice a1 d.loose.length n1, .int .i64 d.fuse, .bool d.down]) d) : WorkAt g w (d, 0) := ⟨a0, n0, a1, n1, hg, hd⟩
set_option maxRecDepth 100000 in
set_option maxHeartbeats 8000000 in
theorem refAppend_any {B : Nat} (v bv : Value) (d : DiskP) (l : LogP) (b : List UInt8) (w : World) (hd : DiskV B w v d) (hv : Bytes B w bv b) :
    Calls Tryd.prog 23 #[v, logV l, bv] w (DLE w (appendP d l b)) := by
  have hd := hd.tight
  have hv := hv.tight
  obtain ⟨sa, sc, rfl⟩ := hv.form
  obtain ⟨p1, q1, p2, q2, rfl, _, _⟩ := hd.parts
  obtain ⟨w4, hw4, hb4, hs4, R0, R1, R2, R3⟩ := four w (.cells #[.slice p1 d.secs.length q1, .slice p2 d.loose.length q2, .int .i64 d.fuse, .bool d.down] 25) (.cells #[.int .i64 l.half, .int .i64 l.gen, .int .i64 l.used, .int .i64 l.count] 27) (.cells #[.slice none 0 0, .slice none 0 0, .int .i64 0, .bool false] 25) (.cells #[.int .i64 0, .int .i64 0, .int .i64 0, .int .i64 0] 27)
  have hd4 := (hd.below hb4).tight
  have hv4 := hv.below hb4
  have HW4 := Lib.hid hw4
  clear hw4
  have k1 := refTakes_any (b.length : Int) w4
  rw [takesZ_nat] at k1
  obtain ⟨tk, htk⟩ : ∃ tk, tk = takes b.length := ⟨_, rfl⟩
  rw [← htk] at k1
  have HTK := Lib.hid htk
  have kr := refRight5_any _ d l w4 hd4
  simp only [logV] at kr
  obtain ⟨R, hR⟩ : ∃ R, R = rightL d l := ⟨_, rfl⟩
  rw [← hR] at kr
  have HR := Lib.hid hR
  clear htk hR
  have C0 := cell_of_row w4 _ 0 _ _ _ R0
  have C1 := cell_of_row w4 _ 1 _ _ _ R0
  have C2 := cell_of_row w4 _ 2 _ _ _ R0
  have C3 := cell_of_row w4 _ 3 _ _ _ R0
  have N0 := cell_of_row w4 _ 0 _ _ _ R1
  have N1 := cell_of_row w4 _ 1 _ _ _ R1
  have N2 := cell_of_row w4 _ 2 _ _ _ R1
  have N3 := cell_of_row w4 _ 3 _ _ _ R1
  cases R with
  | false =>
    have hF : appendP d l b = (d, l, 1) := by unfold appendP; rw [if_pos (.inr HR.out.symm)]
    rw [hF]
    clear hF
    unfold DLE logV
    go_enter Tryd.func23, Tryd.ntmps23
    go_upto_region 1 with (fail)
    rw [← HW4.out]
    go_wp2_with fail
    refine k1.mono ?_
    rintro e w5 ⟨rfl, rfl⟩
    clear k1
    go_wp2_with fail
    refine kr.mono ?_
    rintro e w6 ⟨rfl, hb6⟩
    clear C0 C1 C2 C3 N0 N1 N2 N3 kr
    have S0 := (hb6.block _ (block_lt R0)).trans R0
    have S1 := (hb6.block _ (block_lt R1)).trans R1
    have S2 := (hb6.block _ (block_lt R2)).trans R2
    have S3 := (hb6.block _ (block_lt R3)).trans R3
    have hd6 := (hd4.below hb6).tight
    have hb06 := hb4.trans (hb6.mono hb4.size)
    obtain ⟨oa, ob, wa, wb, HWA, HWB, s0, sa, sb, L0, L1, L2, L3, M0, M1, M2, M3, D0, D1, D2, D3, Z2, F0, F1, F2, F3, Z3, HX⟩ := exit_all (w := w) (wx := w6) S0 S1 S2 S3 hd6 hb06 (by omega) (by omega) (by omega) (by omega) (by omega) (by omega) (by omega)
    clear R0 R1 R2 R3 S0 S1 S2 S3 hd hv hd4 hv4 hb4 hs4 hd6 hb6 hb06
    go_wp2_with fail
    refine wp_region_I [(false, 0), (false, 1), (true, 2), (true, 3), (false, 4)] (Two w.heap.size (w.heap.size + 1) oa ob) (by kernel_rfl) (by kernel_rfl) s0 ?_
    repeat (first | (refine heldI_skip rfl rfl ?_; simp only [Act.put, List.setIfInBounds_toArray, List.set_cons_zero, List.set_cons_succ]) | (refine heldI_take rfl ?_ rfl (fun w' hw' => ?_) ?_; rotate_left; (go_simp; first | done | with_reducible rfl); (try simp only [Act.put, List.setIfInBounds_toArray, List.set_cons_zero, List.set_cons_succ])))
    refine heldI_act rfl rfl fun K hK => ?_
    go_simp
    rw [← HWA.out]
    refine hK.out _ _ sa ?_
    clear hK K D0 D1 D2 D3 Z2
    refine heldI_act rfl rfl fun K hK => ?_
    go_simp
    rw [← HWB.out]
    refine hK.out _ _ sb ?_
    clear hK K F0 F1 F2 F3 Z3
    repeat (first | (refine heldI_skip rfl rfl ?_; simp only [Act.put, List.setIfInBounds_toArray, List.set_cons_zero, List.set_cons_succ]) | (refine heldI_take rfl ?_ rfl (fun w' hw' => ?_) ?_; rotate_left; (go_simp; first | done | with_reducible rfl); (try simp only [Act.put, List.setIfInBounds_toArray, List.set_cons_zero, List.set_cons_succ])))
    refine heldI_nil ?_
    go_wp2_with fail
    refine bodyPost_ret (results_cct rfl _ _ (w.heap.size + 1 + 1) (w.heap.size + 1 + 1 + 1) _ _ _ _ _ _ _ _ rfl rfl HX.out.1 HX.out.2.1 Tryd.underlying25 rfl size_disk Tryd.underlying27 rfl size_log) rfl ?_
    exact ⟨⟨_, rfl, HX.out.2.2.1⟩, HX.out.2.2.2⟩
  | true =>
    by_cases ht0 : tk = 0
    · subst ht0
      have hF : appendP d l b = (d, l, 1) := by unfold appendP; rw [if_pos (.inl HTK.out.symm)]
      rw [hF]
      clear hF
      unfold DLE logV
      go_enter Tryd.func23, Tryd.ntmps23
      go_upto_region 1 with (fail)
      rw [← HW4.out]
      go_wp2_with fail
      refine k1.mono ?_
      rintro e w5 ⟨rfl, rfl⟩
      clear k1
      go_wp2_with fail
      refine kr.mono ?_
      rintro e w6 ⟨rfl, hb6⟩
      clear C0 C1 C2 C3 N0 N1 N2 N3 kr
      have S0 := (hb6.block _ (block_lt R0)).trans R0
      have S1 := (hb6.block _ (block_lt R1)).trans R1
      have S2 := (hb6.block _ (block_lt R2)).trans R2
      have S3 := (hb6.block _ (block_lt R3)).trans R3
      have hd6 := (hd4.below hb6).tight
      have hb06 := hb4.trans (hb6.mono hb4.size)
      obtain ⟨oa, ob, wa, wb, HWA, HWB, s0, sa, sb, L0, L1, L2, L3, M0, M1, M2, M3, D0, D1, D2, D3, Z2, F0, F1, F2, F3, Z3, HX⟩ := exit_all (w := w) (wx := w6) S0 S1 S2 S3 hd6 hb06 (by omega) (by omega) (by omega) (by omega) (by omega) (by omega) (by omega)
      clear R0 R1 R2 R3 S0 S1 S2 S3 hd hv hd4 hv4 hb4 hs4 hd6 hb6 hb06
      go_wp2_with fail
      refine wp_region_I [(false, 0), (false, 1), (true, 2), (true, 3), (false, 4)] (Two w.heap.size (w.heap.size + 1) oa ob) (by kernel_rfl) (by kernel_rfl) s0 ?_
      repeat (first | (refine heldI_skip rfl rfl ?_; simp only [Act.put, List.setIfInBounds_toArray, List.set_cons_zero, List.set_cons_succ]) | (refine heldI_take rfl ?_ rfl (fun w' hw' => ?_) ?_; rotate_left; (go_simp; first | done | with_reducible rfl); (try simp only [Act.put, List.setIfInBounds_toArray, List.set_cons_zero, List.set_cons_succ])))
      refine heldI_act rfl rfl fun K hK => ?_
      go_simp
      rw [← HWA.out]
      refine hK.out _ _ sa ?_
      clear hK K D0 D1 D2 D3 Z2
      refine heldI_act rfl rfl fun K hK => ?_
      go_simp
      rw [← HWB.out]
      refine hK.out _ _ sb ?_
      clear hK K F0 F1 F2 F3 Z3
      repeat (first | (refine heldI_skip rfl rfl ?_; simp only [Act.put, List.setIfInBounds_toArray, List.set_cons_zero, List.set_cons_succ]) | (refine heldI_take rfl ?_ rfl (fun w' hw' => ?_) ?_; rotate_left; (go_simp; first | done | with_reducible rfl); (try simp only [Act.put, List.setIfInBounds_toArray, List.set_cons_zero, List.set_cons_succ])))
      refine heldI_nil ?_
      go_wp2_with fail
      refine bodyPost_ret (results_cct rfl _ _ (w.heap.size + 1 + 1) (w.heap.size + 1 + 1 + 1) _ _ _ _ _ _ _ _ rfl rfl HX.out.1 HX.out.2.1 Tryd.underlying25 rfl size_disk Tryd.underlying27 rfl size_log) rfl ?_
      exact ⟨⟨_, rfl, HX.out.2.2.1⟩, HX.out.2.2.2⟩
    · have t0 : decide ((tk : Int) = 0) = false := by simp; omega
      obtain ⟨b1, b2, b3, b4, b5, b6, b7, b8⟩ := rightL_bounds HR.out.symm
      obtain ⟨Rm, hRm⟩ : ∃ Rm, Rm = roomP d l := ⟨_, rfl⟩
      have kroom : ∀ w6 : World, DiskV w6.heap.size w6 (.agg #[.slice p1 d.secs.length q1, .slice p2 d.loose.length q2, .int .i64 d.fuse, .bool d.down]) d → Calls Tryd.prog 17 #[.agg #[.slice p1 d.secs.length q1, .slice p2 d.loose.length q2, .int .i64 d.fuse, .bool d.down], .agg #[.int .i64 l.half, .int .i64 l.gen, .int .i64 l.used, .int .i64 l.count]] w6 fun e w' => e = .returned (.int .i64 Rm) ∧ Below w6.heap.size w6 w' := fun w6 h => by
        have := refRoom_any _ d l w6 h
        rw [← hRm] at this
        exact this
      have HRM := Lib.hid hRm
      have HKR := Lib.hid kroom
      have htk95 : tk ≤ 95 := by rw [HTK.out]; exact takes_le _
      clear hRm kroom
      by_cases hgt : Rm < (tk : Int)
      · have hgt1 : decide ((Rm : Int) < (tk : Int)) = true := by simp; omega
        have hF : appendP d l b = (d, l, 8) := by
          unfold appendP
          rw [if_neg (by rw [← HTK.out, ← HR.out]; simp [ht0]), if_pos (by rw [← HRM.out, ← HTK.out]; exact hgt)]
        rw [hF]
        clear hF b1 b2 b3 b4 b5 b6 b7 b8
        unfold DLE logV
        go_enter Tryd.func23, Tryd.ntmps23
        go_upto_region 1 with (fail)
        rw [← HW4.out]
        go_wp2_with fail
        refine k1.mono ?_
        rintro e w5 ⟨rfl, rfl⟩
        clear k1
        go_wp2_with fail
        refine kr.mono ?_
        rintro e w6 ⟨rfl, hb6⟩
        clear C0 C1 C2 C3 N0 N1 N2 N3 kr
        have S0 := (hb6.block _ (block_lt R0)).trans R0
        have S1 := (hb6.block _ (block_lt R1)).trans R1
        have S2 := (hb6.block _ (block_lt R2)).trans R2
        have S3 := (hb6.block _ (block_lt R3)).trans R3
        have hd6 := (hd4.below hb6).tight
        have hb06 := hb4.trans (hb6.mono hb4.size)
        have C0 := cell_of_row w6 _ 0 _ _ _ S0
        have C1 := cell_of_row w6 _ 1 _ _ _ S0
        have C2 := cell_of_row w6 _ 2 _ _ _ S0
        have C3 := cell_of_row w6 _ 3 _ _ _ S0
        have N0 := cell_of_row w6 _ 0 _ _ _ S1
        have N1 := cell_of_row w6 _ 1 _ _ _ S1
        have N2 := cell_of_row w6 _ 2 _ _ _ S1
        have N3 := cell_of_row w6 _ 3 _ _ _ S1
        have kroom := HKR.out w6 hd6
        go_wp2_with fail
        refine kroom.mono ?_
        rintro e w7 ⟨rfl, hb7⟩
        clear C0 C1 C2 C3 N0 N1 N2 N3 kroom
        have hb47 := hb6.trans (hb7.mono hb6.size)
        have hd7 := (hd6.below hb7).tight
        have hb07 := hb06.trans (hb7.mono (Nat.le_trans hb4.size hb6.size))
        clear S0 S1 S2 S3
        have S0 := (hb47.block _ (block_lt R0)).trans R0
        have S1 := (hb47.block _ (block_lt R1)).trans R1
        have S2 := (hb47.block _ (block_lt R2)).trans R2
        have S3 := (hb47.block _ (block_lt R3)).trans R3
        obtain ⟨oa, ob, wa, wb, HWA, HWB, s0, sa, sb, L0, L1, L2, L3, M0, M1, M2, M3, D0, D1, D2, D3, Z2, F0, F1, F2, F3, Z3, HX⟩ := exit_all (w := w) (wx := w7) S0 S1 S2 S3 hd7 hb07 (by omega) (by omega) (by omega) (by omega) (by omega) (by omega) (by omega)
        clear R0 R1 R2 R3 S0 S1 S2 S3 hd hv hd4 hv4 hb4 hs4 hd6 hb6 hb06 hd7 hb7 hb07 hb47
        go_wp2_with fail
        refine wp_region_I [(false, 0), (false, 1), (true, 2), (true, 3), (false, 4)] (Two w.heap.size (w.heap.size + 1) oa ob) (by kernel_rfl) (by kernel_rfl) s0 ?_
        repeat (first | (refine heldI_skip rfl rfl ?_; simp only [Act.put, List.setIfInBounds_toArray, List.set_cons_zero, List.set_cons_succ]) | (refine heldI_take rfl ?_ rfl (fun w' hw' => ?_) ?_; rotate_left; (go_simp; first | done | with_reducible rfl); (try simp only [Act.put, List.setIfInBounds_toArray, List.set_cons_zero, List.set_cons_succ])))
        refine heldI_act rfl rfl fun K hK => ?_
        go_simp
        rw [← HWA.out]
        refine hK.out _ _ sa ?_
        clear hK K D0 D1 D2 D3 Z2
        refine heldI_act rfl rfl fun K hK => ?_
        go_simp
        rw [← HWB.out]
        refine hK.out _ _ sb ?_
        clear hK K F0 F1 F2 F3 Z3
        repeat (first | (refine heldI_skip rfl rfl ?_; simp only [Act.put, List.setIfInBounds_toArray, List.set_cons_zero, List.set_cons_succ]) | (refine heldI_take rfl ?_ rfl (fun w' hw' => ?_) ?_; rotate_left; (go_simp; first | done | with_reducible rfl); (try simp only [Act.put, List.setIfInBounds_toArray, List.set_cons_zero, List.set_cons_succ])))
        refine heldI_nil ?_
        go_wp2_with fail
        refine bodyPost_ret (results_cct rfl _ _ (w.heap.size + 1 + 1) (w.heap.size + 1 + 1 + 1) _ _ _ _ _ _ _ _ rfl rfl HX.out.1 HX.out.2.1 Tryd.underlying25 rfl size_disk Tryd.underlying27 rfl size_log) rfl ?_
        exact ⟨⟨_, rfl, HX.out.2.2.1⟩, HX.out.2.2.2⟩
      · have hgt1 : decide ((Rm : Int) < (tk : Int)) = false := by simp; omega
        obtain ⟨at_, hat⟩ : ∃ a, a = l.half * (half d : Nat) + l.used := ⟨_, rfl⟩
        have hat0 : 0 ≤ at_ := by rw [hat]; rcases b1 with h | h <;> rw [h] <;> omega
        have hat1 : at_ ≤ 2 ^ 20 := by rw [hat]; rcases b1 with h | h <;> rw [h] <;> omega
        obtain ⟨ds, hds⟩ : ∃ ds, ds = appendD d l b := ⟨_, rfl⟩
        obtain ⟨r, hr⟩ : ∃ r, r = run d ds := ⟨_, rfl⟩
        have hF : appendP d l b = if r.2 = 0 then (r.1, { l with used := l.used + tk, count := l.count + 1 }, 0) else (r.1, l, r.2) := by
          unfold appendP
          rw [if_neg (by rw [← HTK.out, ← HR.out]; simp [ht0]), if_neg (by rw [← HRM.out, ← HTK.out]; exact hgt), ← hds, ← hr, HTK.out]
        have hlen : b.length ≤ 2 ^ 20 := by
          have h := HTK.out
          unfold takes at h
          split at h
          · omega
          · omega
        obtain ⟨kn, hkn⟩ : ∃ kn : Nat, l.count = kn := ⟨l.count.toNat, by omega⟩
        have hds2 : stepW (stepW (stepW ((bytesD at_ b).foldl stepW (d, 0)) .flush) (.put at_ (markOf l.gen kn b))) .flush = r := by
          rw [hr, hds]
          have e := stepW_run (appendD d l b) (d, 0)
          rw [if_pos rfl] at e
          rw [← e]
          unfold appendD
          rw [← hat, List.foldl_append, hkn]
          rfl
        have HDS := Lib.hid hds2
        have HF := Lib.hid hF
        obtain ⟨Hf, hHf⟩ : ∃ Hf, Hf = half d := ⟨_, rfl⟩
        have hSH : (d.secs.length : Int) / 2 = (Hf : Int) := by rw [hHf]; unfold half; omega
        rw [← hHf] at hat b5 b8
        have hS13 : d.secs.length ≤ 2 ^ 13 := by omega
        have hm0 : 0 ≤ l.half * ((d.secs.length : Int) / 2) := by rcases b1 with h | h <;> rw [h] <;> omega
        have hm1 : l.half * ((d.secs.length : Int) / 2) ≤ 2 ^ 20 := by rcases b1 with h | h <;> rw [h] <;> omega
        have hat2 : l.half * ((d.secs.length : Int) / 2) + l.used = at_ := by rw [hat, hSH]
        have HAT2 := Lib.hid hat2
        have HAT := Lib.hid hat
        have HSH := Lib.hid hSH
        have HKN := Lib.hid hkn
        clear hF hr hds hds2 hat hHf hSH hkn hat2
        rw [HF.out]
        unfold DLE logV
        go_enter Tryd.func23, Tryd.ntmps23
        go_upto_region 1 with (fail)
        rw [← HW4.out]
        go_wp2_with fail
        refine k1.mono ?_
        rintro e w5 ⟨rfl, rfl⟩
        clear k1
        go_wp2_with fail
        refine kr.mono ?_
        rintro e w6 ⟨rfl, hb6⟩
        clear C0 C1 C2 C3 N0 N1 N2 N3 kr
        have S0 := (hb6.block _ (block_lt R0)).trans R0
        have S1 := (hb6.block _ (block_lt R1)).trans R1
        have S2 := (hb6.block _ (block_lt R2)).trans R2
        have S3 := (hb6.block _ (block_lt R3)).trans R3
        have hd6 := (hd4.below hb6).tight
        have hb06 := hb4.trans (hb6.mono hb4.size)
        have C0 := cell_of_row w6 _ 0 _ _ _ S0
        have C1 := cell_of_row w6 _ 1 _ _ _ S0
        have C2 := cell_of_row w6 _ 2 _ _ _ S0
        have C3 := cell_of_row w6 _ 3 _ _ _ S0
        have N0 := cell_of_row w6 _ 0 _ _ _ S1
        have N1 := cell_of_row w6 _ 1 _ _ _ S1
        have N2 := cell_of_row w6 _ 2 _ _ _ S1
        have N3 := cell_of_row w6 _ 3 _ _ _ S1
        have kroom := HKR.out w6 hd6
        go_wp2_with fail
        refine kroom.mono ?_
        rintro e w7 ⟨rfl, hb7⟩
        clear C0 C1 C2 C3 N0 N1 N2 N3 kroom
        have hb47 := hb6.trans (hb7.mono hb6.size)
        have hd7 := (hd6.below hb7).tight
        have hb07 := hb06.trans (hb7.mono (Nat.le_trans hb4.size hb6.size))
        clear S0 S1 S2 S3
        have S0 := (hb47.block _ (block_lt R0)).trans R0
        have S1 := (hb47.block _ (block_lt R1)).trans R1
        have S2 := (hb47.block _ (block_lt R2)).trans R2
        have S3 := (hb47.block _ (block_lt R3)).trans R3
        obtain ⟨w8, hw8⟩ : ∃ w8, w8 = w7.alloc (.cells #[.slice p1 d.secs.length q1, .slice p2 d.loose.length q2, .int .i64 d.fuse, .bool d.down, .int .i64 0] 88) := ⟨_, rfl⟩
        have C0 := cell_of_row w7 _ 0 _ _ _ S0
        have C1 := cell_of_row w7 _ 1 _ _ _ S0
        have C2 := cell_of_row w7 _ 2 _ _ _ S0
        have C3 := cell_of_row w7 _ 3 _ _ _ S0
        have N0 := cell_of_row w7 _ 0 _ _ _ S1
        have N1 := cell_of_row w7 _ 1 _ _ _ S1
        have N2 := cell_of_row w7 _ 2 _ _ _ S1
        have N3 := cell_of_row w7 _ 3 _ _ _ S1
        have hb8 : Below w7.heap.size w7 w8 := by rw [hw8]; exact Below.alloc (Below.refl _ _) (Nat.le_refl _) _
        have hrow8 : w8.heap[w7.heap.size]? = some (.cells #[.slice p1 d.secs.length q1, .slice p2 d.loose.length q2, .int .i64 d.fuse, .bool d.down, .int .i64 0] 88 (0, 0)) := by rw [hw8]; exact heap_alloc_new w7 _
        have HWA8 := Lib.hid (work_new hrow8 (hd7.below hb8).tight)
        have HW8 := Lib.hid hw8
        have HRR := Lib.hid (show _ ∧ _ ∧ _ ∧ _ from ⟨R0, R1, R2, R3⟩)
        have HB4 := Lib.hid hb4
        have HB47 := Lib.hid hb47
        have HV7 := Lib.hid (hv4.below (hb47.mono hb4.size))
        have HB78 := Lib.hid hb8
        have hs7 := hb47.size
        obtain ⟨g, hg⟩ : ∃ g, g = w7.heap.size := ⟨_, rfl⟩
        rw [← hg] at hrow8 HWA8 hs7
        have HG := Lib.hid hg
        clear R0 R1 R2 R3 S0 S1 S2 S3 hd hv hd4 hv4 hb4 hd6 hb6 hb06 hd7 hb7 hb07 hb47 hw8 hb8 hrow8 hg
        go_upto_region 7 with (fail)
        rw [← HW8.out, ← HG.out]
        clear C0 C1 C2 C3 N0 N1 N2 N3
        obtain ⟨R0, R1, R2, R3⟩ := HRR.out
        have HB48 := Lib.hid (HB47.out.trans (HB78.out.mono HB47.out.size))
        have S0 := (HB48.out.block _ (block_lt R0)).trans R0
        have S1 := (HB48.out.block _ (block_lt R1)).trans R1
        have S2 := (HB48.out.block _ (block_lt R2)).trans R2
        have S3 := (HB48.out.block _ (block_lt R3)).trans R3
        have C0 := cell_of_row w8 _ 0 _ _ _ S0
        have N0 := cell_of_row w8 _ 0 _ _ _ S1
        have N1 := cell_of_row w8 _ 1 _ _ _ S1
        have N2 := cell_of_row w8 _ 2 _ _ _ S1
        have N3 := cell_of_row w8 _ 3 _ _ _ S1

        have HSS := Lib.hid (show _ ∧ _ ∧ _ ∧ _ from ⟨S0, S1, S2, S3⟩)
        have h8g : Below g w7 w8 := by rw [HG.out]; exact HB78.out
        have HVG := Lib.hid (show Bytes g w8 _ b from (HV7.out.below (h8g.mono (by omega))).mono (by omega))
        clear R0 R1 R2 R3 S0 S1 S2 S3 h8g
        go_upto_region 8 with (fail)
        rw [HAT2.out]
        have kb := wbytes_any (d, 0) at_ _ b w8 HWA8.out HVG.out hlen hat0 (by omega)
        clear C0 N0 N1 N2 N3
        go_wp2_with fail
        refine kb.mono ?_
        rintro e w9 ⟨rfl, hw9, ho9⟩
        have hlt := HWA8.out.lt
        have kf := wflush_any _ w9 hw9
        have HO9 := Lib.hid ho9
        clear kb hw9 ho9
        go_wp2_with fail
        refine kf.mono ?_
        rintro e w10 ⟨rfl, hw10, ho10⟩
        have HO10 := Lib.hid (only_trans HO9.out ho10)
        have HW10 := Lib.hid hw10
        have hb10 := below_hand HO10.out hlt
        have hv10 := HVG.out.below hb10
        have km := refMark_any l.gen kn _ b w10 hv10 (by omega)
        rw [← HKN.out] at km
        have S1 := (hb10.block _ (by omega)).trans HSS.out.2.1
        have N0 := cell_of_row w10 _ 0 _ _ _ S1
        have N1 := cell_of_row w10 _ 1 _ _ _ S1
        have N2 := cell_of_row w10 _ 2 _ _ _ S1
        have N3 := cell_of_row w10 _ 3 _ _ _ S1

        clear kf hw10 ho10 hb10 hv10 S1
        go_wp2_with fail
        refine km.mono ?_
        rintro e w11 ⟨rfl, hb11⟩
        have kp := wput_any _ at_ (markOf l.gen kn b) w11 (HW10.out.below hb11) (length_markS _ _ _ _)
        have HO11 := Lib.hid (only_trans HO10.out (only_of_below hb11))
        clear km hb11 N0 N1 N2 N3
        go_wp2_with fail
        refine kp.mono ?_
        rintro e w12 ⟨rfl, hw12, ho12⟩
        have kf := wflush_any _ w12 hw12
        have HO12 := Lib.hid (only_trans HO11.out ho12)
        rw [HDS.out] at kf
        clear kp hw12 ho12
        go_wp2_with fail
        refine kf.mono ?_
        rintro e w13 ⟨rfl, hw13, ho13⟩
        have ho13 := only_trans HO12.out ho13
        clear kf
        obtain ⟨a0, n0, a1, n1, T5, hd13⟩ := hw13
        have hb13 := below_hand ho13 hlt
        have S0 := (hb13.block _ (by omega)).trans HSS.out.1
        have S1 := (hb13.block _ (by omega)).trans HSS.out.2.1
        have S2 := (hb13.block _ (by omega)).trans HSS.out.2.2.1
        have S3 := (hb13.block _ (by omega)).trans HSS.out.2.2.2
        have hb013 : Below w.heap.size w w13 := (HB4.out.trans (HB48.out.mono HB4.out.size)).trans (hb13.mono (by omega))
        have E4 := cell_of_row w13 _ 4 _ _ _ T5
        have HT0 := Lib.hid T5
        have HT1 := Lib.hid S1
        have HT2 := Lib.hid S2
        have HT3 := Lib.hid S3
        have HD13 := Lib.hid hd13
        have HB13 := Lib.hid hb013
        clear T5 hd13 S0 S1 S2 S3 hb13 hb013 ho13
        by_cases he : r.2 = 0
        · have hne0 : (r.2 != 0) = false := by simp [he]
          rw [he] at hne0 HT0 E4
          have hwu : IntKind.i64.wrap (l.used + (tk : Int)) = l.used + tk := by
            simp only [IntKind.wrap, IntKind.bits, IntKind.signed]
            simp
            omega
          have hwc : IntKind.i64.wrap (l.count + 1) = l.count + 1 := by
            simp only [IntKind.wrap, IntKind.bits, IntKind.signed]
            simp
            omega
          obtain ⟨w14, hw14, U1, hd14, keep14, below14⟩ := log_put (.int .i64 (l.used + tk)) (.int .i64 (l.count + 1)) HT1.out HD13.out
          have U0 := keep14 _ _ (by omega) HT0.out
          have U2 := keep14 _ _ (by omega) HT2.out
          have U3 := keep14 _ _ (by omega) HT3.out
          have hb14 := below14 _ _ HB13.out (by omega)
          have HW14 := Lib.hid hw14
          have HU0 := Lib.hid U0
          have HU1 := Lib.hid U1
          have HU2 := Lib.hid U2
          have HU3 := Lib.hid U3
          have HD14 := Lib.hid hd14
          have HB14 := Lib.hid hb14
          have N0 := cell_of_row w13 _ 0 _ _ _ HT1.out
          have N1 := cell_of_row w13 _ 1 _ _ _ HT1.out
          have N2 := cell_of_row w13 _ 2 _ _ _ HT1.out
          have N3 := cell_of_row w13 _ 3 _ _ _ HT1.out
          have Z1 := frozen_row HT1.out
          clear hw14 U0 U1 U2 U3 hd14 hb14 keep14 below14
          go_upto_region 15 with (fail)
          rw [← HW14.out]
          clear N0 N1 N2 N3 Z1 hwu hwc E4
          obtain ⟨oa, ob, wa, wb, HWA, HWB, s0, sa, sb, L0, L1, L2, L3, L4, M0, M1, M2, M3, D0, D1, D2, D3, Z2, F0, F1, F2, F3, Z3, HX⟩ := exit_work (w := w) (wx := w14) HU0.out HU1.out HU2.out HU3.out HD14.out HB14.out (by omega) (by omega) (by omega) (by omega) (by omega) (by omega) (by omega)
          go_wp2_with fail
          refine wp_region_I [(false, 0), (false, 1), (false, 2), (true, 3), (true, 4), (false, 5)] (Two g (w.heap.size + 1) oa ob) (by kernel_rfl) (by kernel_rfl) s0 ?_
          repeat (first | (refine heldI_skip rfl rfl ?_; simp only [Act.put, List.setIfInBounds_toArray, List.set_cons_zero, List.set_cons_succ]) | (refine heldI_take rfl ?_ rfl (fun w' hw' => ?_) ?_; rotate_left; (go_simp; first | done | with_reducible rfl); (try simp only [Act.put, List.setIfInBounds_toArray, List.set_cons_zero, List.set_cons_succ])))
          refine heldI_act rfl rfl fun K hK => ?_
          go_simp
          rw [← HWA.out]
          refine hK.out _ _ sa ?_
          clear hK K D0 D1 D2 D3 Z2
          refine heldI_act rfl rfl fun K hK => ?_
          go_simp
          rw [← HWB.out]
          refine hK.out _ _ sb ?_
          clear hK K F0 F1 F2 F3 Z3
          repeat (first | (refine heldI_skip rfl rfl ?_; simp only [Act.put, List.setIfInBounds_toArray, List.set_cons_zero, List.set_cons_succ]) | (refine heldI_take rfl ?_ rfl (fun w' hw' => ?_) ?_; rotate_left; (go_simp; first | done | with_reducible rfl); (try simp only [Act.put, List.setIfInBounds_toArray, List.set_cons_zero, List.set_cons_succ])))
          refine heldI_nil ?_
          go_wp2_with fail
          refine bodyPost_ret (results_cct rfl _ _ (w.heap.size + 1 + 1) (w.heap.size + 1 + 1 + 1) _ _ _ _ _ _ _ _ rfl rfl HX.out.1 HX.out.2.1 Tryd.underlying25 rfl size_disk Tryd.underlying27 rfl size_log) rfl ?_
          exact ⟨⟨_, rfl, HX.out.2.2.1⟩, HX.out.2.2.2⟩
        · have hne0 : (r.2 != 0) = true := by simp [he]
          obtain ⟨oa, ob, wa, wb, HWA, HWB, s0, sa, sb, L0, L1, L2, L3, L4, M0, M1, M2, M3, D0, D1, D2, D3, Z2, F0, F1, F2, F3, Z3, HX⟩ := exit_work (w := w) (wx := w13) HT0.out HT1.out HT2.out HT3.out HD13.out HB13.out (by omega) (by omega) (by omega) (by omega) (by omega) (by omega) (by omega)
          go_wp2_with fail
          refine wp_region_I [(false, 0), (false, 1), (false, 2), (false, 3), (false, 4), (true, 5), (true, 6), (false, 7)] (Two g (w.heap.size + 1) oa ob) (by kernel_rfl) (by kernel_rfl) s0 ?_
          repeat (first | (refine heldI_skip rfl rfl ?_; simp only [Act.put, List.setIfInBounds_toArray, List.set_cons_zero, List.set_cons_succ]) | (refine heldI_take rfl ?_ rfl (fun w' hw' => ?_) ?_; rotate_left; (go_simp; first | done | with_reducible rfl); (try simp only [Act.put, List.setIfInBounds_toArray, List.set_cons_zero, List.set_cons_succ])))
          refine heldI_act rfl rfl fun K hK => ?_
          go_simp
          rw [← HWA.out]
          refine hK.out _ _ sa ?_
          clear hK K D0 D1 D2 D3 Z2
          refine heldI_act rfl rfl fun K hK => ?_
          go_simp
          rw [← HWB.out]
          refine hK.out _ _ sb ?_
          clear hK K F0 F1 F2 F3 Z3
          repeat (first | (refine heldI_skip rfl rfl ?_; simp only [Act.put, List.setIfInBounds_toArray, List.set_cons_zero, List.set_cons_succ]) | (refine heldI_take rfl ?_ rfl (fun w' hw' => ?_) ?_; rotate_left; (go_simp; first | done | with_reducible rfl); (try simp only [Act.put, List.setIfInBounds_toArray, List.set_cons_zero, List.set_cons_succ])))
          refine heldI_nil ?_
          go_wp2_with fail
          refine bodyPost_ret (results_cct rfl _ _ (w.heap.size + 1 + 1) (w.heap.size + 1 + 1 + 1) _ _ _ _ _ _ _ _ rfl rfl HX.out.1 HX.out.2.1 Tryd.underlying25 rfl size_disk Tryd.underlying27 rfl size_log) rfl ?_
          exact ⟨⟨_, rfl, HX.out.2.2.1⟩, HX.out.2.2.2⟩
end Go.Proofs.YtaijompnohkmaaaDoor
/- Layer 5 (wal), the document's answer: Compact. -/
namespace Go.Proofs.YtaijompnohkmaaaDoor
open Go.RowKit WalP PackP
theorem exit_work2 {w wx : World} {ga gb gc ge : Nat} {x0 x1 x2 x3 x4 y0 y1 y2 y3 : Value} {d : DiskP} (z0 z1 z2 z3 : Value) (A : wx.heap[ga]? = some (.cells #[x0, x1, x2, x3, x4] 88 (0, 0))) (B : wx.heap[gb]? = some (.cells #[y0, y1, y2, y3] 27 (0, 0)))
    (C : wx.heap[gc]? = some (.cells #[.slice none 0 0, .slice none 0 0, .int .i64 0, .bool false] 25 (0, 0))) (E : wx.heap[ge]? = some (.cells #[.int .i64 0, .int .i64 0, .int .i64 0, .int .i64 0] 27 (0, 0)))
    (hd : DiskV wx.heap.size wx (.agg #[x0, x1, x2, x3]) d) (hb : Below w.heap.size w wx) (hc : w.heap.size ≤ gc) (he : w.heap.size ≤ ge) (nce : gc ≠ ge) (nca : gc ≠ ga) (ncb : gc ≠ gb) (nea : ge ≠ ga) (neb : ge ≠ gb) :
    ∃ oa ob wa wb, Hid (wa = ((((wx.setCell ⟨gc, 0, none⟩ x0).setCell ⟨gc, 1, none⟩ x1).setCell ⟨gc, 2, none⟩ x2).setCell ⟨gc, 3, none⟩ x3).drew) ∧ Hid (wb = (((wa.setCell ⟨ge, 0, none⟩ z0).setCell ⟨ge, 1, none⟩ z1).setCell ⟨ge, 2, none⟩ z2).setCell ⟨ge, 3, none⟩ z3) ∧ Two ga gb oa ob wx.drew ∧ Two ga gb oa ob wa ∧ Two ga gb oa ob wb ∧
      (∀ w', Two ga gb oa ob w' → w'.cell? ⟨ga, 0, none⟩ = some x0) ∧ (∀ w', Two ga gb oa ob w' → w'.cell? ⟨ga, 1, none⟩ = some x1) ∧ (∀ w', Two ga gb oa ob w' → w'.cell? ⟨ga, 2, none⟩ = some x2) ∧ (∀ w', Two ga gb oa ob w' → w'.cell? ⟨ga, 3, none⟩ = some x3) ∧ (∀ w', Two ga gb oa ob w' → w'.cell? ⟨ga, 4, none⟩ = some x4) ∧
      (∀ w', Two ga gb oa ob w' → w'.cell? ⟨gb, 0, none⟩ = some y0) ∧ (∀ w', Two ga gb oa ob w' → w'.cell? ⟨gb, 1, none⟩ = some y1) ∧ (∀ w', Two ga gb oa ob w' → w'.cell? ⟨gb, 2, none⟩ = some y2) ∧ (∀ w', Two ga gb oa ob w' → w'.cell? ⟨gb, 3, none⟩ = some y3) ∧
      wx.cell? ⟨gc, 0, none⟩ = some (.slice none 0 0) ∧ wx.cell? ⟨gc, 1, none⟩ = some (.slice none 0 0) ∧ wx.cell? ⟨gc, 2, none⟩ = some (.int .i64 0) ∧ wx.cell? ⟨gc, 3, none⟩ = some (.bool false) ∧ (∀ o, wx.frozen? ⟨gc, o, none⟩ = false) ∧
      wa.cell? ⟨ge, 0, none⟩ = some (.int .i64 0) ∧ wa.cell? ⟨ge, 1, none⟩ = some (.int .i64 0) ∧ wa.cell? ⟨ge, 2, none⟩ = some (.int .i64 0) ∧ wa.cell? ⟨ge, 3, none⟩ = some (.int .i64 0) ∧ (∀ o, wa.frozen? ⟨ge, o, none⟩ = false) ∧
      Hid (wb.heap[gc]? = some (.cells #[x0, x1, x2, x3] 25 (0, 0)) ∧ wb.heap[ge]? = some (.cells #[z0, z1, z2, z3] 27 (0, 0)) ∧ DiskV wb.heap.size wb (.agg #[x0, x1, x2, x3]) d ∧ Below w.heap.size w wb) := by
  have C' : wx.drew.heap[gc]? = some (.cells #[.slice none 0 0, .slice none 0 0, .int .i64 0, .bool false] 25 (0, 0)) := C
  have E' : wx.drew.heap[ge]? = some (.cells #[.int .i64 0, .int .i64 0, .int .i64 0, .int .i64 0] 27 (0, 0)) := E
  have s0 : Two ga gb (.cells #[x0, x1, x2, x3, x4] 88 (0, 0)) (.cells #[y0, y1, y2, y3] 27 (0, 0)) wx.drew := ⟨A, B⟩
  have sa : Two ga gb (.cells #[x0, x1, x2, x3, x4] 88 (0, 0)) (.cells #[y0, y1, y2, y3] 27 (0, 0)) (put4 wx.drew gc x0 x1 x2 x3) := ⟨put4_far s0.1 nca _ _ _ _, put4_far s0.2 ncb _ _ _ _⟩
  have sb : Two ga gb (.cells #[x0, x1, x2, x3, x4] 88 (0, 0)) (.cells #[y0, y1, y2, y3] 27 (0, 0)) (put4 (put4 wx.drew gc x0 x1 x2 x3) ge z0 z1 z2 z3) := ⟨put4_far sa.1 nea _ _ _ _, put4_far sa.2 neb _ _ _ _⟩
  have Ea : (put4 wx.drew gc x0 x1 x2 x3).heap[ge]? = some (.cells #[.int .i64 0, .int .i64 0, .int .i64 0, .int .i64 0] 27 (0, 0)) := put4_far E' nce _ _ _ _
  exact ⟨_, _, put4 wx.drew gc x0 x1 x2 x3, put4 (put4 wx.drew gc x0 x1 x2 x3) ge z0 z1 z2 z3, Lib.hid rfl, Lib.hid rfl, s0, sa, sb,
    fun w' h => cell_of_row w' _ 0 _ _ _ h.1, fun w' h => cell_of_row w' _ 1 _ _ _ h.1, fun w' h => cell_of_row w' _ 2 _ _ _ h.1, fun w' h => cell_of_row w' _ 3 _ _ _ h.1, fun w' h => cell_of_row w' _ 4 _ _ _ h.1,
    fun w' h => cell_of_row w' _ 0 _ _ _ h.2, fun w' h => cell_of_row w' _ 1 _ _ _ h.2, fun w' h => cell_of_row w' _ 2 _ _ _ h.2, fun w' h => cell_of_row w' _ 3 _ _ _ h.2,
    cell_of_row wx _ 0 _ _ _ C, cell_of_row wx _ 1 _ _ _ C, cell_of_row wx _ 2 _ _ _ C, cell_of_row wx _ 3 _ _ _ C, frozen_row C,
    cell_of_row _ _ 0 _ _ _ Ea, cell_of_row _ _ 1 _ _ _ Ea, cell_of_row _ _ 2 _ _ _ Ea, cell_of_row _ _ 3 _ _ _ Ea, frozen_row Ea,
    Lib.hid (exit_dl z0 z1 z2 z3 C' E' hd nce (below_draws hb 1) hc he)⟩
set_option maxRecDepth 100000 in
set_option maxHeartbeats 8000000 in
theorem refCompact_any {B : Nat} (v lv : Value) (d : DiskP) (l : LogP) (list : List (List UInt8)) (w : World) (hd : DiskV B w v d) (hv : Pieces B w lv list) (hl1 : ∀ b ∈ list, b.length ≤ 2 ^ 20) (hl2 : list.length ≤ 2 ^ 20) :
    Calls Tryd.prog 25 #[v, logV l, lv] w (DLE w (compactP d l list)) := by
  have hd := hd.tight
  have hv := hv.tight
  obtain ⟨la, lc, rfl, _, _, _⟩ := id hv.at_
  obtain ⟨p1, q1, p2, q2, rfl, _, _⟩ := hd.parts
  obtain ⟨w4, hw4, hb4, hs4, R0, R1, R2, R3⟩ := four w (.cells #[.slice p1 d.secs.length q1, .slice p2 d.loose.length q2, .int .i64 d.fuse, .bool d.down] 25) (.cells #[.int .i64 l.half, .int .i64 l.gen, .int .i64 l.used, .int .i64 l.count] 27) (.cells #[.slice none 0 0, .slice none 0 0, .int .i64 0, .bool false] 25) (.cells #[.int .i64 0, .int .i64 0, .int .i64 0, .int .i64 0] 27)
  have hd4 := (hd.below hb4).tight
  have hv4 := hv.below hb4
  have HW4 := Lib.hid hw4
  clear hw4
  have k1 := refTakesL_any _ list w4 hv4 (by omega)
  have kr := refRight5_any _ d l w4 hd4
  simp only [logV] at kr
  obtain ⟨R, hR⟩ : ∃ R, R = rightL d l := ⟨_, rfl⟩
  rw [← hR] at kr
  have HR := Lib.hid hR
  clear hR
  have C0 := cell_of_row w4 _ 0 _ _ _ R0
  have C1 := cell_of_row w4 _ 1 _ _ _ R0
  have C2 := cell_of_row w4 _ 2 _ _ _ R0
  have C3 := cell_of_row w4 _ 3 _ _ _ R0
  have N0 := cell_of_row w4 _ 0 _ _ _ R1
  have N1 := cell_of_row w4 _ 1 _ _ _ R1
  have N2 := cell_of_row w4 _ 2 _ _ _ R1
  have N3 := cell_of_row w4 _ 3 _ _ _ R1
  cases htot : total list with
  | none =>
    have hT' : takesL list = -1 := by unfold takesL; rw [htot]
    rw [hT'] at k1
    have hF : compactP d l list = (d, l, 1) := by unfold compactP; rw [htot]
    rw [hF]
    clear hF hT' htot
    unfold DLE logV
    cases R with
    | false =>
      go_enter Tryd.func25, Tryd.ntmps25
      go_upto_region 1 with (fail)
      rw [← HW4.out]
      go_wp2_with fail
      refine k1.mono ?_
      rintro e w5 ⟨rfl, rfl⟩
      clear k1
      go_wp2_with fail
      refine kr.mono ?_
      rintro e w6 ⟨rfl, hb6⟩
      clear C0 C1 C2 C3 N0 N1 N2 N3 kr
      have S0 := (hb6.block _ (block_lt R0)).trans R0
      have S1 := (hb6.block _ (block_lt R1)).trans R1
      have S2 := (hb6.block _ (block_lt R2)).trans R2
      have S3 := (hb6.block _ (block_lt R3)).trans R3
      have hd6 := (hd4.below hb6).tight
      have hb06 := hb4.trans (hb6.mono hb4.size)
      obtain ⟨oa, ob, wa, wb, HWA, HWB, s0, sa, sb, L0, L1, L2, L3, M0, M1, M2, M3, D0, D1, D2, D3, Z2, F0, F1, F2, F3, Z3, HX⟩ := exit_all (w := w) (wx := w6) S0 S1 S2 S3 hd6 hb06 (by omega) (by omega) (by omega) (by omega) (by omega) (by omega) (by omega)
      clear R0 R1 R2 R3 S0 S1 S2 S3 hd hv hd4 hv4 hb4 hs4 hd6 hb6 hb06
      go_wp2_with fail
      refine wp_region_I [(false, 0), (false, 1), (true, 2), (true, 3), (false, 4)] (Two w.heap.size (w.heap.size + 1) oa ob) (by kernel_rfl) (by kernel_rfl) s0 ?_
      repeat (first | (refine heldI_skip rfl rfl ?_; simp only [Act.put, List.setIfInBounds_toArray, List.set_cons_zero, List.set_cons_succ]) | (refine heldI_take rfl ?_ rfl (fun w' hw' => ?_) ?_; rotate_left; (go_simp; first | done | with_reducible rfl); (try simp only [Act.put, List.setIfInBounds_toArray, List.set_cons_zero, List.set_cons_succ])))
      refine heldI_act rfl rfl fun K hK => ?_
      go_simp
      rw [← HWA.out]
      refine hK.out _ _ sa ?_
      clear hK K D0 D1 D2 D3 Z2
      refine heldI_act rfl rfl fun K hK => ?_
      go_simp
      rw [← HWB.out]
      refine hK.out _ _ sb ?_
      clear hK K F0 F1 F2 F3 Z3
      repeat (first | (refine heldI_skip rfl rfl ?_; simp only [Act.put, List.setIfInBounds_toArray, List.set_cons_zero, List.set_cons_succ]) | (refine heldI_take rfl ?_ rfl (fun w' hw' => ?_) ?_; rotate_left; (go_simp; first | done | with_reducible rfl); (try simp only [Act.put, List.setIfInBounds_toArray, List.set_cons_zero, List.set_cons_succ])))
      refine heldI_nil ?_
      go_wp2_with fail
      refine bodyPost_ret (results_cct rfl _ _ (w.heap.size + 1 + 1) (w.heap.size + 1 + 1 + 1) _ _ _ _ _ _ _ _ rfl rfl HX.out.1 HX.out.2.1 Tryd.underlying25 rfl size_disk Tryd.underlying27 rfl size_log) rfl ?_
      exact ⟨⟨_, rfl, HX.out.2.2.1⟩, HX.out.2.2.2⟩
    | true =>
      go_enter Tryd.func25, Tryd.ntmps25
      go_upto_region 1 with (fail)
      rw [← HW4.out]
      go_wp2_with fail
      refine k1.mono ?_
      rintro e w5 ⟨rfl, rfl⟩
      clear k1
      go_wp2_with fail
      refine kr.mono ?_
      rintro e w6 ⟨rfl, hb6⟩
      clear C0 C1 C2 C3 N0 N1 N2 N3 kr
      have S0 := (hb6.block _ (block_lt R0)).trans R0
      have S1 := (hb6.block _ (block_lt R1)).trans R1
      have S2 := (hb6.block _ (block_lt R2)).trans R2
      have S3 := (hb6.block _ (block_lt R3)).trans R3
      have hd6 := (hd4.below hb6).tight
      have hb06 := hb4.trans (hb6.mono hb4.size)
      obtain ⟨oa, ob, wa, wb, HWA, HWB, s0, sa, sb, L0, L1, L2, L3, M0, M1, M2, M3, D0, D1, D2, D3, Z2, F0, F1, F2, F3, Z3, HX⟩ := exit_all (w := w) (wx := w6) S0 S1 S2 S3 hd6 hb06 (by omega) (by omega) (by omega) (by omega) (by omega) (by omega) (by omega)
      clear R0 R1 R2 R3 S0 S1 S2 S3 hd hv hd4 hv4 hb4 hs4 hd6 hb6 hb06
      go_wp2_with fail
      refine wp_region_I [(false, 0), (false, 1), (true, 2), (true, 3), (false, 4)] (Two w.heap.size (w.heap.size + 1) oa ob) (by kernel_rfl) (by kernel_rfl) s0 ?_
      repeat (first | (refine heldI_skip rfl rfl ?_; simp only [Act.put, List.setIfInBounds_toArray, List.set_cons_zero, List.set_cons_succ]) | (refine heldI_take rfl ?_ rfl (fun w' hw' => ?_) ?_; rotate_left; (go_simp; first | done | with_reducible rfl); (try simp only [Act.put, List.setIfInBounds_toArray, List.set_cons_zero, List.set_cons_succ])))
      refine heldI_act rfl rfl fun K hK => ?_
      go_simp
      rw [← HWA.out]
      refine hK.out _ _ sa ?_
      clear hK K D0 D1 D2 D3 Z2
      refine heldI_act rfl rfl fun K hK => ?_
      go_simp
      rw [← HWB.out]
      refine hK.out _ _ sb ?_
      clear hK K F0 F1 F2 F3 Z3
      repeat (first | (refine heldI_skip rfl rfl ?_; simp only [Act.put, List.setIfInBounds_toArray, List.set_cons_zero, List.set_cons_succ]) | (refine heldI_take rfl ?_ rfl (fun w' hw' => ?_) ?_; rotate_left; (go_simp; first | done | with_reducible rfl); (try simp only [Act.put, List.setIfInBounds_toArray, List.set_cons_zero, List.set_cons_succ])))
      refine heldI_nil ?_
      go_wp2_with fail
      refine bodyPost_ret (results_cct rfl _ _ (w.heap.size + 1 + 1) (w.heap.size + 1 + 1 + 1) _ _ _ _ _ _ _ _ rfl rfl HX.out.1 HX.out.2.1 Tryd.underlying25 rfl size_disk Tryd.underlying27 rfl size_log) rfl ?_
      exact ⟨⟨_, rfl, HX.out.2.2.1⟩, HX.out.2.2.2⟩
  | some n =>
    have hT' : takesL list = (n : Int) := by unfold takesL; rw [htot]
    rw [hT'] at k1
    have HNE := Lib.hid (total_ne htot)
    have HTOT := Lib.hid htot
    have n0 : decide ((n : Int) < 0) = false := by simp
    clear hT' htot
    cases R with
    | false =>
      have hF : compactP d l list = (d, l, 1) := by unfold compactP; rw [HTOT.out, ← HR.out]; rfl
      rw [hF]
      clear hF
      unfold DLE logV
      go_enter Tryd.func25, Tryd.ntmps25
      go_upto_region 1 with (fail)
      rw [← HW4.out]
      go_wp2_with fail
      refine k1.mono ?_
      rintro e w5 ⟨rfl, rfl⟩
      clear k1
      go_wp2_with fail
      refine kr.mono ?_
      rintro e w6 ⟨rfl, hb6⟩
      clear C0 C1 C2 C3 N0 N1 N2 N3 kr
      have S0 := (hb6.block _ (block_lt R0)).trans R0
      have S1 := (hb6.block _ (block_lt R1)).trans R1
      have S2 := (hb6.block _ (block_lt R2)).trans R2
      have S3 := (hb6.block _ (block_lt R3)).trans R3
      have hd6 := (hd4.below hb6).tight
      have hb06 := hb4.trans (hb6.mono hb4.size)
      obtain ⟨oa, ob, wa, wb, HWA, HWB, s0, sa, sb, L0, L1, L2, L3, M0, M1, M2, M3, D0, D1, D2, D3, Z2, F0, F1, F2, F3, Z3, HX⟩ := exit_all (w := w) (wx := w6) S0 S1 S2 S3 hd6 hb06 (by omega) (by omega) (by omega) (by omega) (by omega) (by omega) (by omega)
      clear R0 R1 R2 R3 S0 S1 S2 S3 hd hv hd4 hv4 hb4 hs4 hd6 hb6 hb06
      go_wp2_with fail
      refine wp_region_I [(false, 0), (false, 1), (true, 2), (true, 3), (false, 4)] (Two w.heap.size (w.heap.size + 1) oa ob) (by kernel_rfl) (by kernel_rfl) s0 ?_
      repeat (first | (refine heldI_skip rfl rfl ?_; simp only [Act.put, List.setIfInBounds_toArray, List.set_cons_zero, List.set_cons_succ]) | (refine heldI_take rfl ?_ rfl (fun w' hw' => ?_) ?_; rotate_left; (go_simp; first | done | with_reducible rfl); (try simp only [Act.put, List.setIfInBounds_toArray, List.set_cons_zero, List.set_cons_succ])))
      refine heldI_act rfl rfl fun K hK => ?_
      go_simp
      rw [← HWA.out]
      refine hK.out _ _ sa ?_
      clear hK K D0 D1 D2 D3 Z2
      refine heldI_act rfl rfl fun K hK => ?_
      go_simp
      rw [← HWB.out]
      refine hK.out _ _ sb ?_
      clear hK K F0 F1 F2 F3 Z3
      repeat (first | (refine heldI_skip rfl rfl ?_; simp only [Act.put, List.setIfInBounds_toArray, List.set_cons_zero, List.set_cons_succ]) | (refine heldI_take rfl ?_ rfl (fun w' hw' => ?_) ?_; rotate_left; (go_simp; first | done | with_reducible rfl); (try simp only [Act.put, List.setIfInBounds_toArray, List.set_cons_zero, List.set_cons_succ])))
      refine heldI_nil ?_
      go_wp2_with fail
      refine bodyPost_ret (results_cct rfl _ _ (w.heap.size + 1 + 1) (w.heap.size + 1 + 1 + 1) _ _ _ _ _ _ _ _ rfl rfl HX.out.1 HX.out.2.1 Tryd.underlying25 rfl size_disk Tryd.underlying27 rfl size_log) rfl ?_
      exact ⟨⟨_, rfl, HX.out.2.2.1⟩, HX.out.2.2.2⟩
    | true =>
      obtain ⟨b1, b2, b3, b4, b5, b6, b7, b8⟩ := rightL_bounds HR.out.symm
      obtain ⟨H, hH⟩ : ∃ H, H = half d := ⟨_, rfl⟩
      have hSH : (d.secs.length : Int) / 2 = (H : Int) := by rw [hH]; unfold half; omega
      rw [← hH] at b5 b8
      have HHH := Lib.hid hH
      have hS13 : d.secs.length ≤ 2 ^ 13 := by omega
      clear hH
      by_cases hgt : H < n
      · have hgt1 : decide ((d.secs.length : Int) / 2 < (n : Int)) = true := by rw [hSH]; simp; omega
        have hF : compactP d l list = (d, l, 8) := by
          unfold compactP; rw [HTOT.out]
          simp only [← HR.out, if_true]
          rw [if_pos (by rw [← HHH.out]; exact hgt)]
        rw [hF]
        clear hF b1 b2 b3 b4 b5 b6 b7 b8 hSH
        unfold DLE logV
        go_enter Tryd.func25, Tryd.ntmps25
        go_upto_region 1 with (fail)
        rw [← HW4.out]
        go_wp2_with fail
        refine k1.mono ?_
        rintro e w5 ⟨rfl, rfl⟩
        clear k1
        go_wp2_with fail
        refine kr.mono ?_
        rintro e w6 ⟨rfl, hb6⟩
        clear C0 C1 C2 C3 N0 N1 N2 N3 kr
        have S0 := (hb6.block _ (block_lt R0)).trans R0
        have S1 := (hb6.block _ (block_lt R1)).trans R1
        have S2 := (hb6.block _ (block_lt R2)).trans R2
        have S3 := (hb6.block _ (block_lt R3)).trans R3
        have hd6 := (hd4.below hb6).tight
        have hb06 := hb4.trans (hb6.mono hb4.size)
        have C0 := cell_of_row w6 _ 0 _ _ _ S0
        go_upto_region 5 with (fail)
        obtain ⟨oa, ob, wa, wb, HWA, HWB, s0, sa, sb, L0, L1, L2, L3, M0, M1, M2, M3, D0, D1, D2, D3, Z2, F0, F1, F2, F3, Z3, HX⟩ := exit_all (w := w) (wx := w6) S0 S1 S2 S3 hd6 hb06 (by omega) (by omega) (by omega) (by omega) (by omega) (by omega) (by omega)
        clear R0 R1 R2 R3 S0 S1 S2 S3 hd hv hd4 hv4 hb4 hs4 hd6 hb6 hb06 C0
        go_wp2_with fail
        refine wp_region_I [(false, 0), (false, 1), (true, 2), (true, 3), (false, 4)] (Two w.heap.size (w.heap.size + 1) oa ob) (by kernel_rfl) (by kernel_rfl) s0 ?_
        repeat (first | (refine heldI_skip rfl rfl ?_; simp only [Act.put, List.setIfInBounds_toArray, List.set_cons_zero, List.set_cons_succ]) | (refine heldI_take rfl ?_ rfl (fun w' hw' => ?_) ?_; rotate_left; (go_simp; first | done | with_reducible rfl); (try simp only [Act.put, List.setIfInBounds_toArray, List.set_cons_zero, List.set_cons_succ])))
        refine heldI_act rfl rfl fun K hK => ?_
        go_simp
        rw [← HWA.out]
        refine hK.out _ _ sa ?_
        clear hK K D0 D1 D2 D3 Z2
        refine heldI_act rfl rfl fun K hK => ?_
        go_simp
        rw [← HWB.out]
        refine hK.out _ _ sb ?_
        clear hK K F0 F1 F2 F3 Z3
        repeat (first | (refine heldI_skip rfl rfl ?_; simp only [Act.put, List.setIfInBounds_toArray, List.set_cons_zero, List.set_cons_succ]) | (refine heldI_take rfl ?_ rfl (fun w' hw' => ?_) ?_; rotate_left; (go_simp; first | done | with_reducible rfl); (try simp only [Act.put, List.setIfInBounds_toArray, List.set_cons_zero, List.set_cons_succ])))
        refine heldI_nil ?_
        go_wp2_with fail
        refine bodyPost_ret (results_cct rfl _ _ (w.heap.size + 1 + 1) (w.heap.size + 1 + 1 + 1) _ _ _ _ _ _ _ _ rfl rfl HX.out.1 HX.out.2.1 Tryd.underlying25 rfl size_disk Tryd.underlying27 rfl size_log) rfl ?_
        exact ⟨⟨_, rfl, HX.out.2.2.1⟩, HX.out.2.2.2⟩
      · have hgt1 : decide ((d.secs.length : Int) / 2 < (n : Int)) = false := by rw [hSH]; simp; omega
        by_cases hg40 : l.gen = 1099511627776
        · have hg41 : (l.gen == 1099511627776) = true := by simp [hg40]
          have hF : compactP d l list = (d, l, 15) := by
            unfold compactP; rw [HTOT.out]
            simp only [← HR.out, if_true]
            rw [if_neg (by rw [← HHH.out]; exact hgt), if_pos hg40]
          rw [hF]
          clear hF b1 b2 b3 b4 b5 b6 b7 b8 hg40 hSH
          unfold DLE logV
          go_enter Tryd.func25, Tryd.ntmps25
          go_upto_region 1 with (fail)
          rw [← HW4.out]
          go_wp2_with fail
          refine k1.mono ?_
          rintro e w5 ⟨rfl, rfl⟩
          clear k1
          go_wp2_with fail
          refine kr.mono ?_
          rintro e w6 ⟨rfl, hb6⟩
          clear C0 C1 C2 C3 N0 N1 N2 N3 kr
          have S0 := (hb6.block _ (block_lt R0)).trans R0
          have S1 := (hb6.block _ (block_lt R1)).trans R1
          have S2 := (hb6.block _ (block_lt R2)).trans R2
          have S3 := (hb6.block _ (block_lt R3)).trans R3
          have hd6 := (hd4.below hb6).tight
          have hb06 := hb4.trans (hb6.mono hb4.size)
          have C0 := cell_of_row w6 _ 0 _ _ _ S0
          have N0 := cell_of_row w6 _ 0 _ _ _ S1
          have N1 := cell_of_row w6 _ 1 _ _ _ S1
          have N2 := cell_of_row w6 _ 2 _ _ _ S1
          have N3 := cell_of_row w6 _ 3 _ _ _ S1
          go_upto_region 7 with (fail)
          clear N0 N1 N2 N3
          obtain ⟨oa, ob, wa, wb, HWA, HWB, s0, sa, sb, L0, L1, L2, L3, M0, M1, M2, M3, D0, D1, D2, D3, Z2, F0, F1, F2, F3, Z3, HX⟩ := exit_all (w := w) (wx := w6) S0 S1 S2 S3 hd6 hb06 (by omega) (by omega) (by omega) (by omega) (by omega) (by omega) (by omega)
          clear R0 R1 R2 R3 S0 S1 S2 S3 hd hv hd4 hv4 hb4 hs4 hd6 hb6 hb06 C0
          go_wp2_with fail
          refine wp_region_I [(false, 0), (false, 1), (true, 2), (true, 3), (false, 4)] (Two w.heap.size (w.heap.size + 1) oa ob) (by kernel_rfl) (by kernel_rfl) s0 ?_
          repeat (first | (refine heldI_skip rfl rfl ?_; simp only [Act.put, List.setIfInBounds_toArray, List.set_cons_zero, List.set_cons_succ]) | (refine heldI_take rfl ?_ rfl (fun w' hw' => ?_) ?_; rotate_left; (go_simp; first | done | with_reducible rfl); (try simp only [Act.put, List.setIfInBounds_toArray, List.set_cons_zero, List.set_cons_succ])))
          refine heldI_act rfl rfl fun K hK => ?_
          go_simp
          rw [← HWA.out]
          refine hK.out _ _ sa ?_
          clear hK K D0 D1 D2 D3 Z2
          refine heldI_act rfl rfl fun K hK => ?_
          go_simp
          rw [← HWB.out]
          refine hK.out _ _ sb ?_
          clear hK K F0 F1 F2 F3 Z3
          repeat (first | (refine heldI_skip rfl rfl ?_; simp only [Act.put, List.setIfInBounds_toArray, List.set_cons_zero, List.set_cons_succ]) | (refine heldI_take rfl ?_ rfl (fun w' hw' => ?_) ?_; rotate_left; (go_simp; first | done | with_reducible rfl); (try simp only [Act.put, List.setIfInBounds_toArray, List.set_cons_zero, List.set_cons_succ])))
          refine heldI_nil ?_
          go_wp2_with fail
          refine bodyPost_ret (results_cct rfl _ _ (w.heap.size + 1 + 1) (w.heap.size + 1 + 1 + 1) _ _ _ _ _ _ _ _ rfl rfl HX.out.1 HX.out.2.1 Tryd.underlying25 rfl size_disk Tryd.underlying27 rfl size_log) rfl ?_
          exact ⟨⟨_, rfl, HX.out.2.2.1⟩, HX.out.2.2.2⟩
        · have hg41 : (l.gen == 1099511627776) = false := by simp [hg40]
          obtain ⟨r, hr⟩ : ∃ r, r = run d (layD (half d) (1 - l.half) (l.gen + 1) list) := ⟨_, rfl⟩
          have hF : compactP d l list = if r.2 = 0 then (r.1, ⟨1 - l.half, l.gen + 1, n, list.length⟩, 0) else (r.1, l, r.2) := by
            unfold compactP; rw [HTOT.out]
            simp only [← HR.out, if_true]
            rw [if_neg (by rw [← HHH.out]; exact hgt), if_neg hg40, ← hr]
          have hds2 : (layD (half d) (1 - l.half) (l.gen + 1) list).foldl stepW (d, 0) = r := by
            rw [hr]
            have e := stepW_run (layD (half d) (1 - l.half) (l.gen + 1) list) (d, 0)
            rw [if_pos rfl] at e
            exact e
          have HDS := Lib.hid hds2
          have HF := Lib.hid hF
          have hw1 : IntKind.i64.wrap (1 - l.half) = 1 - l.half := by
            simp only [IntKind.wrap, IntKind.bits, IntKind.signed]
            rcases b1 with h | h <;> rw [h] <;> decide
          have hw2 : IntKind.i64.wrap (l.gen + 1) = l.gen + 1 := by
            simp only [IntKind.wrap, IntKind.bits, IntKind.signed]
            simp
            omega
          have hm0 : 0 ≤ (1 - l.half) * (half d : Nat) := by rw [← HHH.out]; rcases b1 with h | h <;> rw [h] <;> omega
          have hm1 : (1 - l.half) * (half d : Nat) ≤ 2 ^ 20 := by rw [← HHH.out]; rcases b1 with h | h <;> rw [h] <;> omega
          have HM0 := Lib.hid hm0
          have HM1 := Lib.hid hm1
          have HL1 := Lib.hid hl1
          clear hF hr hds2 hSH hm0 hm1 b1 b2 b3 b4 b5 b6 b7 b8 hl1
          rw [HF.out]
          unfold DLE logV
          go_enter Tryd.func25, Tryd.ntmps25
          go_upto_region 1 with (fail)
          rw [← HW4.out]
          go_wp2_with fail
          refine k1.mono ?_
          rintro e w5 ⟨rfl, rfl⟩
          clear k1
          go_wp2_with fail
          refine kr.mono ?_
          rintro e w6 ⟨rfl, hb6⟩
          clear C0 C1 C2 C3 N0 N1 N2 N3 kr
          have S0 := (hb6.block _ (block_lt R0)).trans R0
          have S1 := (hb6.block _ (block_lt R1)).trans R1
          have S2 := (hb6.block _ (block_lt R2)).trans R2
          have S3 := (hb6.block _ (block_lt R3)).trans R3
          have hd6 := (hd4.below hb6).tight
          have hb06 := hb4.trans (hb6.mono hb4.size)
          obtain ⟨w8, hw8⟩ : ∃ w8, w8 = w6.alloc (.cells #[.slice p1 d.secs.length q1, .slice p2 d.loose.length q2, .int .i64 d.fuse, .bool d.down, .int .i64 0] 88) := ⟨_, rfl⟩
          have C0 := cell_of_row w6 _ 0 _ _ _ S0
          have C1 := cell_of_row w6 _ 1 _ _ _ S0
          have C2 := cell_of_row w6 _ 2 _ _ _ S0
          have C3 := cell_of_row w6 _ 3 _ _ _ S0
          have N0 := cell_of_row w6 _ 0 _ _ _ S1
          have N1 := cell_of_row w6 _ 1 _ _ _ S1
          have N2 := cell_of_row w6 _ 2 _ _ _ S1
          have N3 := cell_of_row w6 _ 3 _ _ _ S1
          have hb8 : Below w6.heap.size w6 w8 := by rw [hw8]; exact Below.alloc (Below.refl _ _) (Nat.le_refl _) _
          have hrow8 : w8.heap[w6.heap.size]? = some (.cells #[.slice p1 d.secs.length q1, .slice p2 d.loose.length q2, .int .i64 d.fuse, .bool d.down, .int .i64 0] 88 (0, 0)) := by rw [hw8]; exact heap_alloc_new w6 _
          have HWA8 := Lib.hid (work_new hrow8 (hd6.below hb8).tight)
          have HW8 := Lib.hid hw8
          have HRR := Lib.hid (show _ ∧ _ ∧ _ ∧ _ from ⟨R0, R1, R2, R3⟩)
          have HB4 := Lib.hid hb4
          have HB46 := Lib.hid hb6
          have HV6 := Lib.hid (hv4.below (hb6.mono hb4.size))
          have HB68 := Lib.hid hb8
          have hs7 := hb6.size
          obtain ⟨g, hg⟩ : ∃ g, g = w6.heap.size := ⟨_, rfl⟩
          rw [← hg] at hrow8 HWA8 hs7
          have HG := Lib.hid hg
          clear R0 R1 R2 R3 S0 S1 S2 S3 hd hv hd4 hv4 hb4 hd6 hb6 hb06 hw8 hb8 hrow8 hg
          go_upto_region 9 with (fail)
          rw [← HW8.out, ← HG.out]
          clear C0 C1 C2 C3 N0 N1 N2 N3
          obtain ⟨R0, R1, R2, R3⟩ := HRR.out
          have HB48 := Lib.hid (HB46.out.trans (HB68.out.mono HB46.out.size))
          have S0 := (HB48.out.block _ (block_lt R0)).trans R0
          have S1 := (HB48.out.block _ (block_lt R1)).trans R1
          have S2 := (HB48.out.block _ (block_lt R2)).trans R2
          have S3 := (HB48.out.block _ (block_lt R3)).trans R3
          have N0 := cell_of_row w8 _ 0 _ _ _ S1
          have N1 := cell_of_row w8 _ 1 _ _ _ S1
          have N2 := cell_of_row w8 _ 2 _ _ _ S1
          have N3 := cell_of_row w8 _ 3 _ _ _ S1
          have HSS := Lib.hid (show _ ∧ _ ∧ _ ∧ _ from ⟨S0, S1, S2, S3⟩)
          have h8g : Below g w6 w8 := by rw [HG.out]; exact HB68.out
          have HVG := Lib.hid (show Pieces g w8 _ list from (HV6.out.below (h8g.mono (by omega))).mono (by omega))
          clear R0 R1 R2 R3 S0 S1 S2 S3 h8g
          have kb := wlay_any (d, 0) (1 - l.half) (l.gen + 1) _ list w8 HWA8.out HVG.out HM0.out HM1.out HL1.out hl2 HNE.out
          have hlt := HWA8.out.lt
          dsimp only at kb
          rw [HDS.out] at kb
          go_wp2_with fail
          refine kb.mono ?_
          rintro e w13 ⟨rfl, hw13, ho13⟩
          clear kb N0 N1 N2 N3
          obtain ⟨a0, n0', a1, n1', T5, hd13⟩ := hw13
          have hb13 := below_hand ho13 hlt
          have S0 := (hb13.block _ (by omega)).trans HSS.out.1
          have S1 := (hb13.block _ (by omega)).trans HSS.out.2.1
          have S2 := (hb13.block _ (by omega)).trans HSS.out.2.2.1
          have S3 := (hb13.block _ (by omega)).trans HSS.out.2.2.2
          have hb013 : Below w.heap.size w w13 := (HB4.out.trans (HB48.out.mono HB4.out.size)).trans (hb13.mono (by omega))
          have E4 := cell_of_row w13 _ 4 _ _ _ T5
          have HT0 := Lib.hid T5
          have HT1 := Lib.hid S1
          have HT2 := Lib.hid S2
          have HT3 := Lib.hid S3
          have HD13 := Lib.hid hd13
          have HB13 := Lib.hid hb013
          clear T5 hd13 S0 S1 S2 S3 hb13 hb013 ho13
          by_cases he : r.2 = 0
          · have hne0 : (r.2 != 0) = false := by simp [he]
            rw [he] at hne0 HT0 E4
            obtain ⟨oa, ob, wa, wb, HWA, HWB, s0, sa, sb, L0, L1, L2, L3, L4, M0, M1, M2, M3, D0, D1, D2, D3, Z2, F0, F1, F2, F3, Z3, HX⟩ := exit_work2 (.int .i64 (1 - l.half)) (.int .i64 (l.gen + 1)) (.int .i64 n) (.int .i64 list.length) (w := w) (wx := w13) HT0.out HT1.out HT2.out HT3.out HD13.out HB13.out (by omega) (by omega) (by omega) (by omega) (by omega) (by omega) (by omega)
            go_wp2_with fail
            refine wp_region_I [(false, 0), (false, 1), (false, 2), (false, 3), (false, 4), (false, 5), (false, 6), (false, 7), (false, 8), (false, 9), (false, 10), (false, 11), (true, 12), (true, 13), (false, 14)] (Two g (w.heap.size + 1) oa ob) (by kernel_rfl) (by kernel_rfl) s0 ?_
            repeat (first | (refine heldI_skip rfl rfl ?_; simp only [Act.put, List.setIfInBounds_toArray, List.set_cons_zero, List.set_cons_succ]) | (refine heldI_take rfl ?_ rfl (fun w' hw' => ?_) ?_; rotate_left; (go_simp; first | done | with_reducible rfl); (try simp only [Act.put, List.setIfInBounds_toArray, List.set_cons_zero, List.set_cons_succ])))
            refine heldI_act rfl rfl fun K hK => ?_
            go_simp
            rw [← HWA.out]
            refine hK.out _ _ sa ?_
            clear hK K D0 D1 D2 D3 Z2
            refine heldI_act rfl rfl fun K hK => ?_
            go_simp
            rw [← HWB.out]
            refine hK.out _ _ sb ?_
            clear hK K F0 F1 F2 F3 Z3
            repeat (first | (refine heldI_skip rfl rfl ?_; simp only [Act.put, List.setIfInBounds_toArray, List.set_cons_zero, List.set_cons_succ]) | (refine heldI_take rfl ?_ rfl (fun w' hw' => ?_) ?_; rotate_left; (go_simp; first | done | with_reducible rfl); (try simp only [Act.put, List.setIfInBounds_toArray, List.set_cons_zero, List.set_cons_succ])))
            refine heldI_nil ?_
            go_wp2_with fail
            refine bodyPost_ret (results_cct rfl _ _ (w.heap.size + 1 + 1) (w.heap.size + 1 + 1 + 1) _ _ _ _ _ _ _ _ rfl rfl HX.out.1 HX.out.2.1 Tryd.underlying25 rfl size_disk Tryd.underlying27 rfl size_log) rfl ?_
            exact ⟨⟨_, rfl, HX.out.2.2.1⟩, HX.out.2.2.2⟩
          · have hne0 : (r.2 != 0) = true := by simp [he]
            obtain ⟨oa, ob, wa, wb, HWA, HWB, s0, sa, sb, L0, L1, L2, L3, L4, M0, M1, M2, M3, D0, D1, D2, D3, Z2, F0, F1, F2, F3, Z3, HX⟩ := exit_work (w := w) (wx := w13) HT0.out HT1.out HT2.out HT3.out HD13.out HB13.out (by omega) (by omega) (by omega) (by omega) (by omega) (by omega) (by omega)
            go_wp2_with fail
            refine wp_region_I [(false, 0), (false, 1), (false, 2), (false, 3), (false, 4), (true, 5), (true, 6), (false, 7)] (Two g (w.heap.size + 1) oa ob) (by kernel_rfl) (by kernel_rfl) s0 ?_
            repeat (first | (refine heldI_skip rfl rfl ?_; simp only [Act.put, List.setIfInBounds_toArray, List.set_cons_zero, List.set_cons_succ]) | (refine heldI_take rfl ?_ rfl (fun w' hw' => ?_) ?_; rotate_left; (go_simp; first | done | with_reducible rfl); (try simp only [Act.put, List.setIfInBounds_toArray, List.set_cons_zero, List.set_cons_succ])))
            refine heldI_act rfl rfl fun K hK => ?_
            go_simp
            rw [← HWA.out]
            refine hK.out _ _ sa ?_
            clear hK K D0 D1 D2 D3 Z2
            refine heldI_act rfl rfl fun K hK => ?_
            go_simp
            rw [← HWB.out]
            refine hK.out _ _ sb ?_
            clear hK K F0 F1 F2 F3 Z3
            repeat (first | (refine heldI_skip rfl rfl ?_; simp only [Act.put, List.setIfInBounds_toArray, List.set_cons_zero, List.set_cons_succ]) | (refine heldI_take rfl ?_ rfl (fun w' hw' => ?_) ?_; rotate_left; (go_simp; first | done | with_reducible rfl); (try simp only [Act.put, List.setIfInBounds_toArray, List.set_cons_zero, List.set_cons_succ])))
            refine heldI_nil ?_
            go_wp2_with fail
            refine bodyPost_ret (results_cct rfl _ _ (w.heap.size + 1 + 1) (w.heap.size + 1 + 1 + 1) _ _ _ _ _ _ _ _ rfl rfl HX.out.1 HX.out.2.1 Tryd.underlying25 rfl size_disk Tryd.underlying27 rfl size_log) rfl ?_
            exact ⟨⟨_, rfl, HX.out.2.2.1⟩, HX.out.2.2.2⟩
end Go.Proofs.YtaijompnohkmaaaDoor
/- Layer 5 (wal), plainly: the document's records of a half are the program's. -/
namespace Go.Proofs.YtaijompnohkmaaaDoor
namespace WalP
/-- A half's generation, told by its first sector. -/
def genS (H : Nat) (s : List UInt8) : Int := if H = 0 ∨ (readMark s).2 = false ∨ (readMark s).1.number ≠ 0 ∨ (H : Int) < takesZ (readMark s).1.length then 0 else (readMark s).1.gen
theorem takesZ_nonneg (n : Int) : 0 ≤ takesZ n := by unfold takesZ; split <;> omega
theorem genS_eq (l : List (List UInt8)) : genS l.length (l.getD 0 []) = genV l := by
  unfold genV recordsP
  by_cases h0 : l.length = 0
  · unfold genS
    rw [if_pos (.inl h0), h0]
    simp [recsGo, h0]
  · simp only [recsGo]
    rw [if_pos (by omega)]
    simp only [if_true]
    unfold genS
    have ht := takesZ_nonneg (readMark (l.getD 0 [])).1.length
    by_cases hc : (readMark (l.getD 0 [])).2 = false ∨ (readMark (l.getD 0 [])).1.number ≠ 0 ∨ (l.length : Int) < takesZ (readMark (l.getD 0 [])).1.length
    · rw [if_pos (.inr hc), if_pos (by
        rcases hc with h | h | h
        · exact .inl h
        · exact .inr (.inr (.inl (by simpa using h)))
        · exact .inr (.inr (.inr (by omega))))]
    · rw [if_neg (by
        rintro (h | h)
        · exact h0 h
        · exact hc h), if_neg (by
        rintro (h | h | h | h)
        · exact hc (.inl h)
        · exact h rfl
        · exact hc (.inr (.inl (by simpa using h)))
        · exact hc (.inr (.inr (by omega))))]
      split
      · rfl
      · rw [recsGo_gen _ _ _ _ _ (by simp)]
/-- The document's records, from one on. -/
def refGo (l : List (List UInt8)) (g : Int) : Nat → List (List UInt8) → Nat → List (List UInt8) × Nat × Int
  | 0, list, used => (list, used, 0)
  | f + 1, list, used =>
    if used < l.length then
      let x := readMark (l.getD used [])
      let n := (takesZ x.1.length).toNat
      if x.2 = false ∨ x.1.gen ≠ g ∨ x.1.number ≠ list.length ∨ l.length - used < n then (list, used, 0)
      else
        let b := ((l.drop (used + 1)).take (n - 1)).flatten.take x.1.length.toNat
        if SumP.toI (SumP.sum b) ≠ x.1.sum then ([], 0, 10)
        else refGo l g f (list ++ [b]) (used + n)
    else (list, used, 0)
def refRecs (l : List (List UInt8)) (g : Int) : List (List UInt8) × Nat × Int := refGo l g (l.length + 1) [] 0
def finR (g : Int) (r : List (List UInt8) × Nat × Int) : List (List UInt8) × Nat × Int × Int := if r.2.2 = 0 then (r.1, r.2.1, g, 0) else ([], 0, g, 10)
theorem refGo_law (l : List (List UInt8)) (g : Int) : ∀ (f : Nat) (list : List (List UInt8)) (used : Nat), list ≠ [] → recsGo l f list used g = finR g (refGo l g f list used) ∧ ((refGo l g f list used).2.2 = 0 → (refGo l g f list used).1 ≠ [])
  | 0, list, used, h => by
    simp only [recsGo, refGo]
    rw [if_neg h]
    exact ⟨rfl, fun _ => h⟩
  | f + 1, list, used, h => by
    simp only [recsGo, refGo]
    rw [if_neg h, if_neg h]
    split
    · split
      · exact ⟨rfl, fun _ => h⟩
      · split
        · exact ⟨rfl, fun h => by cases h⟩
        · exact refGo_law l g f _ _ (by simp)
    · exact ⟨rfl, fun _ => h⟩
theorem refRecs_law {l : List (List UInt8)} {g : Int} (hg : genV l = g) (h0 : g ≠ 0) : recordsP l = finR g (refRecs l g) ∧ ((refRecs l g).2.2 = 0 → (refRecs l g).1 ≠ []) := by
  have hs := genS_eq l
  rw [hg] at hs
  unfold genS at hs
  split at hs
  · exact absurd hs.symm h0
  · rename_i hc
    have hc1 : l.length ≠ 0 := fun h => hc (.inl h)
    have hc2 : (readMark (l.getD 0 [])).2 ≠ false := fun h => hc (.inr (.inl h))
    have hc3 : ¬ (readMark (l.getD 0 [])).1.number ≠ 0 := fun h => hc (.inr (.inr (.inl h)))
    have hc4 : ¬ (l.length : Int) < takesZ (readMark (l.getD 0 [])).1.length := fun h => hc (.inr (.inr (.inr h)))
    unfold recordsP refRecs
    simp only [recsGo, refGo]
    have hlt : 0 < l.length := by omega
    rw [if_pos hlt, if_pos hlt]
    simp only [if_true]
    have n1 : ¬ ((readMark (l.getD 0 [])).2 = false ∨ g ≠ g ∨ (readMark (l.getD 0 [])).1.number ≠ ((([] : List (List UInt8)).length : Nat) : Int) ∨ l.length - 0 < (takesZ (readMark (l.getD 0 [])).1.length).toNat) := by
      rintro (h | h | h | h)
      · exact hc2 h
      · exact h rfl
      · exact hc3 (by simpa using h)
      · omega
    rw [hs, if_neg n1, if_neg n1]
    split
    · exact ⟨rfl, fun h => by cases h⟩
    · exact refGo_law l g l.length _ _ (by simp)
theorem ref_stop {l : List (List UInt8)} {f used : Nat} {list : List (List UInt8)} {g : Int} (h : used < l.length) {m : MarkP} {ok : Bool} (hx : readMark l[used] = (m, ok))
    (hc : ok = false ∨ m.gen ≠ g ∨ m.number ≠ list.length ∨ l.length - used < (takesZ m.length).toNat) : refGo l g (f + 1) list used = (list, used, 0) := by
  simp only [refGo]
  rw [if_pos h]
  have e : l.getD used [] = l[used] := by rw [List.getD_eq_getElem?_getD, List.getElem?_eq_getElem h]; rfl
  rw [e, hx]
  rw [if_pos hc]
theorem ref_end {l : List (List UInt8)} {f used : Nat} {list : List (List UInt8)} {g : Int} (h : ¬ used < l.length) : refGo l g (f + 1) list used = (list, used, 0) := by
  simp only [refGo]
  rw [if_neg h]
theorem ref_step {l : List (List UInt8)} {f used n : Nat} {list : List (List UInt8)} {g : Int} (h : used < l.length) {m : MarkP} (hx : readMark l[used] = (m, true))
    (hn : takesZ m.length = (n : Int)) (h1 : m.gen = g) (h2 : m.number = list.length) (h3 : ¬ l.length - used < n) (b : List UInt8) (hb : b = ((l.drop (used + 1)).take (n - 1)).flatten.take m.length.toNat) :
    refGo l g (f + 1) list used = if SumP.toI (SumP.sum b) ≠ m.sum then ([], 0, 10) else refGo l g f (list ++ [b]) (used + n) := by
  simp only [refGo]
  rw [if_pos h]
  have e : l.getD used [] = l[used] := by rw [List.getD_eq_getElem?_getD, List.getElem?_eq_getElem h]; rfl
  have e2 : (takesZ m.length).toNat = n := by rw [hn]; rfl
  rw [e, hx]
  simp only [e2, ← hb]
  rw [if_neg (fun hh => by
    rcases hh with h | h | h | h
    · cases h
    · exact h h1
    · exact h h2
    · exact h3 h)]
theorem refGo_err (l : List (List UInt8)) (g : Int) : ∀ (f : Nat) (list : List (List UInt8)) (used : Nat), (refGo l g f list used).2.2 = 0 ∨ (refGo l g f list used).2.2 = 10
  | 0, _, _ => .inl rfl
  | f + 1, list, used => by
    simp only [refGo]
    split
    · split
      · exact .inl rfl
      · split
        · exact .inr rfl
        · exact refGo_err l g f _ _
    · exact .inl rfl
theorem gen_none {l : List (List UInt8)} (h : genV l = 0) : recordsP l = ([], 0, 0, 6) := by
  have hs := genS_eq l
  rw [h] at hs
  unfold genS at hs
  unfold recordsP
  by_cases h0 : l.length = 0
  · rw [h0]; simp [recsGo, h0]
  · simp only [recsGo]
    rw [if_pos (by omega)]
    simp only [if_true]
    have ht := takesZ_nonneg (readMark (l.getD 0 [])).1.length
    split at hs
    · rename_i hc
      rw [if_pos]
      rcases hc with h | h | h | h
      · exact absurd h h0
      · exact .inl h
      · exact .inr (.inr (.inl (by simpa using h)))
      · exact .inr (.inr (.inr (by omega)))
    · rename_i hc
      have hok : (readMark (l.getD 0 [])).2 = true := by
        cases e : (readMark (l.getD 0 [])).2 with
        | true => rfl
        | false => exact absurd (.inr (.inl e)) hc
      simp only [readMark, Bool.and_eq_true, decide_eq_true_eq] at hok
      have h1 : 1 ≤ (readMark (l.getD 0 [])).1.gen := hok.1.1.2
      omega
/-- One byte more of a record. -/
theorem flat_byte {l : List (List UInt8)} (h64 : ∀ s ∈ l, s.length = 64) {u i : Nat} (h : u + i / 64 < l.length) {s : List UInt8} (hs : l[u + i / 64]? = some s) (hi : i % 64 < s.length) :
    ((l.drop u).flatten).take (i + 1) = ((l.drop u).flatten).take i ++ [s[i % 64]] := by
  have key : ∀ (m : List (List UInt8)), (∀ s ∈ m, s.length = 64) → ∀ (k i : Nat) (s : List UInt8), m[k]? = some s → i = 64 * k + i % 64 → m.flatten[i]? = s[i % 64]? := by
    intro m
    induction m with
    | nil => intro _ k i s h; simp at h
    | cons x m ih =>
      intro hm k i s hk hik
      have hx := hm x (List.mem_cons_self ..)
      rw [List.flatten_cons]
      cases k with
      | zero =>
        simp only [List.getElem?_cons_zero, Option.some.injEq] at hk
        subst hk
        rw [List.getElem?_append_left (by omega)]
        congr 1
        omega
      | succ k =>
        rw [List.getElem?_append_right (by omega), hx]
        have := ih (fun y hy => hm y (List.mem_cons_of_mem _ hy)) k (i - 64) s (by simpa using hk) (by omega)
        rw [this]
        congr 1
        omega
  have e := key (l.drop u) (fun x hx => h64 x (List.mem_of_mem_drop hx)) (i / 64) i s (by rw [List.getElem?_drop]; exact hs) (by omega)
  rw [List.take_add_one, e, List.getElem?_eq_getElem hi]
  rfl
end WalP
end Go.Proofs.YtaijompnohkmaaaDoor
