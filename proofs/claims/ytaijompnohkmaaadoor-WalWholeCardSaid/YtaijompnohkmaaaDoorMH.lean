/- Layer 5 (wal): Compact. -/
import Derived.Test.YtaijompnohkmaaaDoorMG
namespace Go.Proofs.YtaijompnohkmaaaDoor
open Go.RowKit WalP PackP
theorem cf_compact : ∀ args w, (callFunc 50 args).run Tryd.prog w = .ok (.enter 50 args) w := fun args w => callFunc_run Tryd.func50 rfl rfl args w
set_option maxRecDepth 100000 in
set_option maxHeartbeats 8000000 in
theorem compact_any {B : Nat} (v lv : Value) (d : DiskP) (l : LogP) (list : List (List UInt8)) (w : World) (hd : DiskV B w v d) (hv : Pieces B w lv list) (hl0 : -9223372036854775808 ≤ l.half ∧ l.half ≤ 9223372036854775807) (ht : TabAt w) (hT : 0 < w.heap.size)
    (hl1 : ∀ b ∈ list, b.length ≤ 2 ^ 20) (hl2 : list.length ≤ 2 ^ 20) :
    Calls Tryd.prog 24 #[v, logV l, lv] w (DLE w (compactP d l list)) := by
  have hd := hd.tight
  have hv := hv.tight
  obtain ⟨la, lc, rfl, _, _, _⟩ := id hv.at_
  obtain ⟨p1, q1, p2, q2, rfl, _, _⟩ := hd.parts
  obtain ⟨w5, hw5, hb5, hs5, R0, R1, R2, R3, R4⟩ := five w (.cells #[.slice p1 d.secs.length q1, .slice p2 d.loose.length q2, .int .i64 d.fuse, .bool d.down] 25) (.cells #[.int .i64 l.half, .int .i64 l.gen, .int .i64 l.used, .int .i64 l.count] 27) (.cells #[.slice la list.length lc] 31) (.cells #[.slice none 0 0, .slice none 0 0, .int .i64 0, .bool false] 25) (.cells #[.int .i64 0, .int .i64 0, .int .i64 0, .int .i64 0] 27)
  have hd5 := (hd.below hb5).tight
  have hv5 := hv.below hb5
  have HW5 := Lib.hid hw5
  clear hw5
  have k1 := total_any _ list w5 hv5 (by omega) (fun b hb => Nat.le_trans (hl1 b hb) (by decide))
  have E0 := cell_of_row w5 _ 0 _ _ _ R2
  have kr := walRight_any _ d l w5 hd5 hl0
  simp only [logV] at kr
  obtain ⟨R, hR⟩ : ∃ R, R = rightL d l := ⟨_, rfl⟩
  rw [← hR] at kr
  have HR := Lib.hid hR
  clear hR
  cases htot : total list with
  | none =>
    have hF : compactP d l list = (d, l, 1) := by unfold compactP; rw [htot]
    rw [hF]
    have hT' : totV list = .tuple #[.int .i64 0, .bool false] := by unfold totV; rw [htot]
    rw [hT'] at k1
    clear hF kr hT' htot
    unfold DLE logV
    go_enter Tryd.func24, Tryd.ntmps24
    go_upto_region 1 with (fail)
    rw [← HW5.out]
    go_wp2_with fail
    refine k1.mono ?_
    rintro e w6 ⟨rfl, rfl⟩
    clear k1
    obtain ⟨oa, ob, wa, wb, HWA, HWB, s0, sa, sb, L0, L1, L2, L3, M0, M1, M2, M3, D0, D1, D2, D3, Z2, F0, F1, F2, F3, Z3, HX⟩ := exit_all (w := w) (wx := w5) R0 R1 R3 R4 hd5 hb5 (by omega) (by omega) (by omega) (by omega) (by omega) (by omega) (by omega)
    clear R0 R1 R2 R3 R4 hd hv hd5 hv5 hb5 hs5 ht
    go_wp2_with fail
    refine wp_region_I [(false, 0), (false, 1), (true, 2), (true, 3), (false, 4)] (Two w.heap.size (w.heap.size + 1) oa ob) (by kernel_rfl) (by kernel_rfl) s0 ?_
    repeat (first | (refine heldI_skip rfl rfl ?_; simp only [Act.put, List.setIfInBounds_toArray, List.set_cons_zero, List.set_cons_succ]) | (refine heldI_take rfl ?_ rfl (fun w' hw' => ?_) ?_; rotate_left; (go_simp; first | done | with_reducible rfl); (try simp only [Act.put, List.setIfInBounds_toArray, List.set_cons_zero, List.set_cons_succ])))
    refine heldI_act rfl rfl fun K hK => ?_
    go_simp
    rw [← HWA.out]
    refine hK.out _ _ sa ?_
    clear hK K D0 D1 D2 D3 Z2
    refine heldI_act rfl rfl fun K hK => ?_
    go_simp
    rw [← HWB.out]
    refine hK.out _ _ sb ?_
    clear hK K F0 F1 F2 F3 Z3
    repeat (first | (refine heldI_skip rfl rfl ?_; simp only [Act.put, List.setIfInBounds_toArray, List.set_cons_zero, List.set_cons_succ]) | (refine heldI_take rfl ?_ rfl (fun w' hw' => ?_) ?_; rotate_left; (go_simp; first | done | with_reducible rfl); (try simp only [Act.put, List.setIfInBounds_toArray, List.set_cons_zero, List.set_cons_succ])))
    refine heldI_nil ?_
    go_wp2_with fail
    refine bodyPost_ret (results_cct rfl _ _ (w.heap.size + 1 + 1 + 1) (w.heap.size + 1 + 1 + 1 + 1) _ _ _ _ _ _ _ _ rfl rfl HX.out.1 HX.out.2.1 Tryd.underlying25 rfl size_disk Tryd.underlying27 rfl size_log) rfl ?_
    exact ⟨⟨_, rfl, HX.out.2.2.1⟩, HX.out.2.2.2⟩
  | some n =>
    have hT' : totV list = .tuple #[.int .i64 n, .bool true] := by unfold totV; rw [htot]
    rw [hT'] at k1
    have HNE := Lib.hid (total_ne htot)
    have HTOT := Lib.hid htot
    clear hT' htot
    have C0 := cell_of_row w5 _ 0 _ _ _ R0
    have C1 := cell_of_row w5 _ 1 _ _ _ R0
    have C2 := cell_of_row w5 _ 2 _ _ _ R0
    have C3 := cell_of_row w5 _ 3 _ _ _ R0
    have N0 := cell_of_row w5 _ 0 _ _ _ R1
    have N1 := cell_of_row w5 _ 1 _ _ _ R1
    have N2 := cell_of_row w5 _ 2 _ _ _ R1
    have N3 := cell_of_row w5 _ 3 _ _ _ R1
    cases R with
    | false =>
      have hF : compactP d l list = (d, l, 1) := by unfold compactP; rw [HTOT.out, ← HR.out]; rfl
      rw [hF]
      clear hF
      unfold DLE logV
      go_enter Tryd.func24, Tryd.ntmps24
      go_upto_region 1 with (fail)
      rw [← HW5.out]
      go_wp2_with fail
      refine k1.mono ?_
      rintro e w6 ⟨rfl, rfl⟩
      clear k1
      go_wp2_with fail
      refine kr.mono ?_
      rintro e w6 ⟨rfl, hb6⟩
      clear C0 C1 C2 C3 N0 N1 N2 N3 kr
      have S0 := (hb6.block _ (block_lt R0)).trans R0
      have S1 := (hb6.block _ (block_lt R1)).trans R1
      have S2 := (hb6.block _ (block_lt R2)).trans R2
      have S3 := (hb6.block _ (block_lt R3)).trans R3
      have S4 := (hb6.block _ (block_lt R4)).trans R4
      have hd6 := (hd5.below hb6).tight
      have hb06 := hb5.trans (hb6.mono hb5.size)
      obtain ⟨oa, ob, wa, wb, HWA, HWB, s0, sa, sb, L0, L1, L2, L3, M0, M1, M2, M3, D0, D1, D2, D3, Z2, F0, F1, F2, F3, Z3, HX⟩ := exit_all (w := w) (wx := w6) S0 S1 S3 S4 hd6 hb06 (by omega) (by omega) (by omega) (by omega) (by omega) (by omega) (by omega)
      clear R0 R1 R2 R3 R4 S0 S1 S2 S3 S4 hd hv hd5 hv5 hb5 hs5 ht E0 hd6 hb6 hb06
      go_wp2_with fail
      refine wp_region_I [(false, 0), (false, 1), (true, 2), (true, 3), (false, 4)] (Two w.heap.size (w.heap.size + 1) oa ob) (by kernel_rfl) (by kernel_rfl) s0 ?_
      repeat (first | (refine heldI_skip rfl rfl ?_; simp only [Act.put, List.setIfInBounds_toArray, List.set_cons_zero, List.set_cons_succ]) | (refine heldI_take rfl ?_ rfl (fun w' hw' => ?_) ?_; rotate_left; (go_simp; first | done | with_reducible rfl); (try simp only [Act.put, List.setIfInBounds_toArray, List.set_cons_zero, List.set_cons_succ])))
      refine heldI_act rfl rfl fun K hK => ?_
      go_simp
      rw [← HWA.out]
      refine hK.out _ _ sa ?_
      clear hK K D0 D1 D2 D3 Z2
      refine heldI_act rfl rfl fun K hK => ?_
      go_simp
      rw [← HWB.out]
      refine hK.out _ _ sb ?_
      clear hK K F0 F1 F2 F3 Z3
      repeat (first | (refine heldI_skip rfl rfl ?_; simp only [Act.put, List.setIfInBounds_toArray, List.set_cons_zero, List.set_cons_succ]) | (refine heldI_take rfl ?_ rfl (fun w' hw' => ?_) ?_; rotate_left; (go_simp; first | done | with_reducible rfl); (try simp only [Act.put, List.setIfInBounds_toArray, List.set_cons_zero, List.set_cons_succ])))
      refine heldI_nil ?_
      go_wp2_with fail
      refine bodyPost_ret (results_cct rfl _ _ (w.heap.size + 1 + 1 + 1) (w.heap.size + 1 + 1 + 1 + 1) _ _ _ _ _ _ _ _ rfl rfl HX.out.1 HX.out.2.1 Tryd.underlying25 rfl size_disk Tryd.underlying27 rfl size_log) rfl ?_
      exact ⟨⟨_, rfl, HX.out.2.2.1⟩, HX.out.2.2.2⟩
    | true =>
      obtain ⟨b1, b2, b3, b4, b5, b6, b7, b8⟩ := rightL_bounds HR.out.symm
      obtain ⟨H, hH⟩ : ∃ H, H = half d := ⟨_, rfl⟩
      rw [← hH] at b5 b8
      have HHH := Lib.hid hH
      clear hH
      have kh : ∀ w' : World, DiskV w'.heap.size w' (.agg #[.slice p1 d.secs.length q1, .slice p2 d.loose.length q2, .int .i64 d.fuse, .bool d.down]) d → Calls Tryd.prog 37 #[.agg #[.slice p1 d.secs.length q1, .slice p2 d.loose.length q2, .int .i64 d.fuse, .bool d.down]] w' fun e w'' => e = .returned (.int .i64 (H : Nat)) ∧ Below w'.heap.size w' w'' := fun w' h => by rw [HHH.out]; exact walHalf_any _ d w' h
      have KH := Lib.hid kh
      clear kh
      by_cases hgt : H < n
      · have hgt1 : decide ((H : Int) < (n : Int)) = true := by simp; omega
        have hF : compactP d l list = (d, l, 8) := by
          unfold compactP; rw [HTOT.out]
          simp only [← HR.out, if_true]
          rw [if_pos (by rw [← HHH.out]; exact hgt)]
        rw [hF]
        clear hF b1 b2 b3 b4 b5 b6 b7 b8
        unfold DLE logV
        go_enter Tryd.func24, Tryd.ntmps24
        go_upto_region 1 with (fail)
        rw [← HW5.out]
        go_wp2_with fail
        refine k1.mono ?_
        rintro e w6 ⟨rfl, rfl⟩
        clear k1
        go_wp2_with fail
        refine kr.mono ?_
        rintro e w6 ⟨rfl, hb6⟩
        clear C0 C1 C2 C3 N0 N1 N2 N3 kr
        have S0 := (hb6.block _ (block_lt R0)).trans R0
        have S1 := (hb6.block _ (block_lt R1)).trans R1
        have S2 := (hb6.block _ (block_lt R2)).trans R2
        have S3 := (hb6.block _ (block_lt R3)).trans R3
        have S4 := (hb6.block _ (block_lt R4)).trans R4
        have hd6 := (hd5.below hb6).tight
        have hb06 := hb5.trans (hb6.mono hb5.size)
        have C0 := cell_of_row w6 _ 0 _ _ _ S0
        have C1 := cell_of_row w6 _ 1 _ _ _ S0
        have C2 := cell_of_row w6 _ 2 _ _ _ S0
        have C3 := cell_of_row w6 _ 3 _ _ _ S0
        have kh := KH.out w6 hd6
        go_wp2_with fail
        refine kh.mono ?_
        rintro e w7 ⟨rfl, hb7⟩
        clear C0 C1 C2 C3 kh
        have hb57 := hb6.trans (hb7.mono hb6.size)
        have hd7 := (hd6.below hb7).tight
        have hb07 := hb06.trans (hb7.mono (Nat.le_trans hb5.size hb6.size))
        clear S0 S1 S2 S3 S4
        have S0 := (hb57.block _ (block_lt R0)).trans R0
        have S1 := (hb57.block _ (block_lt R1)).trans R1
        have S2 := (hb57.block _ (block_lt R2)).trans R2
        have S3 := (hb57.block _ (block_lt R3)).trans R3
        have S4 := (hb57.block _ (block_lt R4)).trans R4
        obtain ⟨oa, ob, wa, wb, HWA, HWB, s0, sa, sb, L0, L1, L2, L3, M0, M1, M2, M3, D0, D1, D2, D3, Z2, F0, F1, F2, F3, Z3, HX⟩ := exit_all (w := w) (wx := w7) S0 S1 S3 S4 hd7 hb07 (by omega) (by omega) (by omega) (by omega) (by omega) (by omega) (by omega)
        clear R0 R1 R2 R3 R4 S0 S1 S2 S3 S4 hd hv hd5 hv5 hb5 hs5 ht E0 hd6 hb6 hb06 hd7 hb7 hb07 hb57
        go_wp2_with fail
        refine wp_region_I [(false, 0), (false, 1), (true, 2), (true, 3), (false, 4)] (Two w.heap.size (w.heap.size + 1) oa ob) (by kernel_rfl) (by kernel_rfl) s0 ?_
        repeat (first | (refine heldI_skip rfl rfl ?_; simp only [Act.put, List.setIfInBounds_toArray, List.set_cons_zero, List.set_cons_succ]) | (refine heldI_take rfl ?_ rfl (fun w' hw' => ?_) ?_; rotate_left; (go_simp; first | done | with_reducible rfl); (try simp only [Act.put, List.setIfInBounds_toArray, List.set_cons_zero, List.set_cons_succ])))
        refine heldI_act rfl rfl fun K hK => ?_
        go_simp
        rw [← HWA.out]
        refine hK.out _ _ sa ?_
        clear hK K D0 D1 D2 D3 Z2
        refine heldI_act rfl rfl fun K hK => ?_
        go_simp
        rw [← HWB.out]
        refine hK.out _ _ sb ?_
        clear hK K F0 F1 F2 F3 Z3
        repeat (first | (refine heldI_skip rfl rfl ?_; simp only [Act.put, List.setIfInBounds_toArray, List.set_cons_zero, List.set_cons_succ]) | (refine heldI_take rfl ?_ rfl (fun w' hw' => ?_) ?_; rotate_left; (go_simp; first | done | with_reducible rfl); (try simp only [Act.put, List.setIfInBounds_toArray, List.set_cons_zero, List.set_cons_succ])))
        refine heldI_nil ?_
        go_wp2_with fail
        refine bodyPost_ret (results_cct rfl _ _ (w.heap.size + 1 + 1 + 1) (w.heap.size + 1 + 1 + 1 + 1) _ _ _ _ _ _ _ _ rfl rfl HX.out.1 HX.out.2.1 Tryd.underlying25 rfl size_disk Tryd.underlying27 rfl size_log) rfl ?_
        exact ⟨⟨_, rfl, HX.out.2.2.1⟩, HX.out.2.2.2⟩
      · have hgt1 : decide ((H : Int) < (n : Int)) = false := by simp; omega
        by_cases hg40 : l.gen = 1099511627776
        · have hg41 : (l.gen == 1099511627776) = true := by simp [hg40]
          have hF : compactP d l list = (d, l, 15) := by
            unfold compactP; rw [HTOT.out]
            simp only [← HR.out, if_true]
            rw [if_neg (by rw [← HHH.out]; exact hgt), if_pos hg40]
          rw [hF]
          clear hF b1 b2 b3 b4 b5 b6 b7 b8 hg40
          unfold DLE logV
          go_enter Tryd.func24, Tryd.ntmps24
          go_upto_region 1 with (fail)
          rw [← HW5.out]
          go_wp2_with fail
          refine k1.mono ?_
          rintro e w6 ⟨rfl, rfl⟩
          clear k1
          go_wp2_with fail
          refine kr.mono ?_
          rintro e w6 ⟨rfl, hb6⟩
          clear C0 C1 C2 C3 N0 N1 N2 N3 kr
          have S0 := (hb6.block _ (block_lt R0)).trans R0
          have S1 := (hb6.block _ (block_lt R1)).trans R1
          have S2 := (hb6.block _ (block_lt R2)).trans R2
          have S3 := (hb6.block _ (block_lt R3)).trans R3
          have S4 := (hb6.block _ (block_lt R4)).trans R4
          have hd6 := (hd5.below hb6).tight
          have hb06 := hb5.trans (hb6.mono hb5.size)
          have C0 := cell_of_row w6 _ 0 _ _ _ S0
          have C1 := cell_of_row w6 _ 1 _ _ _ S0
          have C2 := cell_of_row w6 _ 2 _ _ _ S0
          have C3 := cell_of_row w6 _ 3 _ _ _ S0
          have kh := KH.out w6 hd6
          go_wp2_with fail
          refine kh.mono ?_
          rintro e w7 ⟨rfl, hb7⟩
          clear C0 C1 C2 C3 kh
          have hb57 := hb6.trans (hb7.mono hb6.size)
          have hd7 := (hd6.below hb7).tight
          have hb07 := hb06.trans (hb7.mono (Nat.le_trans hb5.size hb6.size))
          clear S0 S1 S2 S3 S4
          have S0 := (hb57.block _ (block_lt R0)).trans R0
          have S1 := (hb57.block _ (block_lt R1)).trans R1
          have S2 := (hb57.block _ (block_lt R2)).trans R2
          have S3 := (hb57.block _ (block_lt R3)).trans R3
          have S4 := (hb57.block _ (block_lt R4)).trans R4
          have N0 := cell_of_row w7 _ 0 _ _ _ S1
          have N1 := cell_of_row w7 _ 1 _ _ _ S1
          have N2 := cell_of_row w7 _ 2 _ _ _ S1
          have N3 := cell_of_row w7 _ 3 _ _ _ S1
          obtain ⟨oa, ob, wa, wb, HWA, HWB, s0, sa, sb, L0, L1, L2, L3, M0, M1, M2, M3, D0, D1, D2, D3, Z2, F0, F1, F2, F3, Z3, HX⟩ := exit_all (w := w) (wx := w7) S0 S1 S3 S4 hd7 hb07 (by omega) (by omega) (by omega) (by omega) (by omega) (by omega) (by omega)
          clear R0 R1 R2 R3 R4 S0 S1 S2 S3 S4 hd hv hd5 hv5 hb5 hs5 ht E0 hd6 hb6 hb06 hd7 hb7 hb07 hb57
          go_wp2_with fail
          refine wp_region_I [(false, 0), (false, 1), (true, 2), (true, 3), (false, 4)] (Two w.heap.size (w.heap.size + 1) oa ob) (by kernel_rfl) (by kernel_rfl) s0 ?_
          repeat (first | (refine heldI_skip rfl rfl ?_; simp only [Act.put, List.setIfInBounds_toArray, List.set_cons_zero, List.set_cons_succ]) | (refine heldI_take rfl ?_ rfl (fun w' hw' => ?_) ?_; rotate_left; (go_simp; first | done | with_reducible rfl); (try simp only [Act.put, List.setIfInBounds_toArray, List.set_cons_zero, List.set_cons_succ])))
          refine heldI_act rfl rfl fun K hK => ?_
          go_simp
          rw [← HWA.out]
          refine hK.out _ _ sa ?_
          clear hK K D0 D1 D2 D3 Z2
          refine heldI_act rfl rfl fun K hK => ?_
          go_simp
          rw [← HWB.out]
          refine hK.out _ _ sb ?_
          clear hK K F0 F1 F2 F3 Z3
          repeat (first | (refine heldI_skip rfl rfl ?_; simp only [Act.put, List.setIfInBounds_toArray, List.set_cons_zero, List.set_cons_succ]) | (refine heldI_take rfl ?_ rfl (fun w' hw' => ?_) ?_; rotate_left; (go_simp; first | done | with_reducible rfl); (try simp only [Act.put, List.setIfInBounds_toArray, List.set_cons_zero, List.set_cons_succ])))
          refine heldI_nil ?_
          go_wp2_with fail
          refine bodyPost_ret (results_cct rfl _ _ (w.heap.size + 1 + 1 + 1) (w.heap.size + 1 + 1 + 1 + 1) _ _ _ _ _ _ _ _ rfl rfl HX.out.1 HX.out.2.1 Tryd.underlying25 rfl size_disk Tryd.underlying27 rfl size_log) rfl ?_
          exact ⟨⟨_, rfl, HX.out.2.2.1⟩, HX.out.2.2.2⟩
        · have hg41 : (l.gen == 1099511627776) = false := by simp [hg40]
          obtain ⟨r, hr⟩ : ∃ r, r = run d (layD (half d) (1 - l.half) (l.gen + 1) list) := ⟨_, rfl⟩
          have hF : compactP d l list = if r.2 = 0 then (r.1, ⟨1 - l.half, l.gen + 1, n, list.length⟩, 0) else (r.1, l, r.2) := by
            unfold compactP; rw [HTOT.out]
            simp only [← HR.out, if_true]
            rw [if_neg (by rw [← HHH.out]; exact hgt), if_neg hg40, ← hr]
          have hw1 : IntKind.i64.wrap (1 - l.half) = 1 - l.half := by
            simp only [IntKind.wrap, IntKind.bits, IntKind.signed]
            rcases b1 with h | h <;> rw [h] <;> decide
          have hw2 : IntKind.i64.wrap (l.gen + 1) = l.gen + 1 := by
            simp only [IntKind.wrap, IntKind.bits, IntKind.signed]
            simp
            omega
          have hdo : ∀ (w9 : World), Below w5.heap.size w5 w9 → ∀ (ga : Nat), w9.heap[ga]? = some (.cells #[.int .i64 (1 - l.half), .int .i64 (l.gen + 1), .int .i64 n, .int .i64 list.length] 27 (0, 0)) → ∀ (g : Nat) (w' : World), Below w9.heap.size w9 w' → HandAt g w' d → w9.heap.size ≤ g → Calls Tryd.prog 50 (#[.pointer (some ⟨g, 0, none⟩)] ++ #[.pointer (some ⟨ga, 0, none⟩), .pointer (some ⟨w.heap.size + 1 + 1, 0, none⟩)]) w' fun x w'' => x = hEnd r.2 ∧ HandAt g w'' r.1 ∧ w'.grownBy w'' (some g) := fun w9 hb59 ga hga g w' hb' hh' hle => by
            have hs9 := hb59.size
            have hlg := block_lt hga
            have hb' : Below w9.heap.size w9 w' := hb'
            have hbw : Below w5.heap.size w5 w' := hb59.trans (hb'.mono hs9)
            rw [hr]
            exact compact1_any (g := g) (bn := ga) (bl := w.heap.size + 1 + 1) d ⟨1 - l.half, l.gen + 1, n, list.length⟩ _ list w' hh' ((hb'.block _ hlg).trans hga) ((hbw.block _ (block_lt R2)).trans R2) ((hv5.below (hbw.mono hb5.size)).mono (by omega)) (ht.below (hb5.trans (hbw.mono hb5.size)) hT) (by omega) (by rcases b1 with h | h <;> simp only [h] <;> decide) (by rw [← HHH.out]; omega) hl1 hl2 HNE.out
          have HDO := Lib.hid hdo
          have HF := Lib.hid hF
          clear hdo hF hr b1 b2 b3 b4 b5 b6 b7 b8 hg40
          rw [HF.out]
          have hmf := makeFunc_run
          unfold DLE logV
          go_enter Tryd.func24, Tryd.ntmps24
          go_upto_region 1 with (fail)
          rw [← HW5.out]
          go_wp2_with fail
          refine k1.mono ?_
          rintro e w6 ⟨rfl, rfl⟩
          clear k1
          go_wp2_with fail
          refine kr.mono ?_
          rintro e w6 ⟨rfl, hb6⟩
          clear C0 C1 C2 C3 N0 N1 N2 N3 kr
          have S0 := (hb6.block _ (block_lt R0)).trans R0
          have S1 := (hb6.block _ (block_lt R1)).trans R1
          have S2 := (hb6.block _ (block_lt R2)).trans R2
          have S3 := (hb6.block _ (block_lt R3)).trans R3
          have S4 := (hb6.block _ (block_lt R4)).trans R4
          have hd6 := (hd5.below hb6).tight
          have hb06 := hb5.trans (hb6.mono hb5.size)
          have C0 := cell_of_row w6 _ 0 _ _ _ S0
          have C1 := cell_of_row w6 _ 1 _ _ _ S0
          have C2 := cell_of_row w6 _ 2 _ _ _ S0
          have C3 := cell_of_row w6 _ 3 _ _ _ S0
          have kh := KH.out w6 hd6
          go_wp2_with fail
          refine kh.mono ?_
          rintro e w7 ⟨rfl, hb7⟩
          clear C0 C1 C2 C3 kh
          have hb57 := hb6.trans (hb7.mono hb6.size)
          have hd7 := (hd6.below hb7).tight
          have hb07 := hb06.trans (hb7.mono (Nat.le_trans hb5.size hb6.size))
          clear S0 S1 S2 S3 S4
          have S0 := (hb57.block _ (block_lt R0)).trans R0
          have S1 := (hb57.block _ (block_lt R1)).trans R1
          have S2 := (hb57.block _ (block_lt R2)).trans R2
          have S3 := (hb57.block _ (block_lt R3)).trans R3
          have S4 := (hb57.block _ (block_lt R4)).trans R4
          have N0 := cell_of_row w7 _ 0 _ _ _ S1
          have N1 := cell_of_row w7 _ 1 _ _ _ S1
          have N2 := cell_of_row w7 _ 2 _ _ _ S1
          have N3 := cell_of_row w7 _ 3 _ _ _ S1
          obtain ⟨wc, hwc⟩ : ∃ wc, wc = w7.alloc (.cells #[.int .i64 (1 - l.half), .int .i64 (l.gen + 1), .int .i64 n, .int .i64 list.length] 27) := ⟨_, rfl⟩
          have hbc : Below w7.heap.size w7 wc := by rw [hwc]; exact Below.alloc (Below.refl _ _) (Nat.le_refl _) _
          have hrow : wc.heap[w7.heap.size]? = some (.cells #[.int .i64 (1 - l.half), .int .i64 (l.gen + 1), .int .i64 n, .int .i64 list.length] 27 (0, 0)) := by rw [hwc]; exact heap_alloc_new w7 _
          have hb5c : Below w5.heap.size w5 wc := hb57.trans (hbc.mono hb57.size)
          have hdc := (hd7.below hbc).tight
          have HWC := Lib.hid hwc
          have HRR := Lib.hid (show _ ∧ _ ∧ _ ∧ _ ∧ _ from ⟨R0, R1, R2, R3, R4⟩)
          have HB5 := Lib.hid hb5
          obtain ⟨gn, hgn⟩ : ∃ gn, gn = w7.heap.size := ⟨_, rfl⟩
          rw [← hgn] at hrow
          have gne : w5.heap.size ≤ gn := by rw [hgn]; exact hb57.size
          have HGN := Lib.hid hgn
          clear hgn S0 S2 S3 S4 hwc
          have E7 := cell_of_row w7 _ 0 _ _ _ ((hb57.block _ (block_lt R2)).trans R2)
          clear R0 R1 R2 R3 R4 hd hv hd5 hv5 ht E0 hd6 hb6 hb06 hd7 hb7 hb07 hb57 hbc S1
          go_upto_region 9 with (fail)
          rw [← HWC.out, ← HGN.out]
          clear N0 N1 N2 N3 E7 hw1 hw2
          obtain ⟨R0, R1, R2, R3, R4⟩ := HRR.out
          have S0 := (hb5c.block _ (block_lt R0)).trans R0
          have C0 := cell_of_row wc _ 0 _ _ _ S0
          have C1 := cell_of_row wc _ 1 _ _ _ S0
          have C2 := cell_of_row wc _ 2 _ _ _ S0
          have C3 := cell_of_row wc _ 3 _ _ _ S0
          have kw := write_any _ #[.pointer (some ⟨gn, 0, none⟩), .pointer (some ⟨w.heap.size + 1 + 1, 0, none⟩)] d r wc hdc cf_compact (HDO.out wc hb5c gn hrow)
          clear R0 R1 R2 R3 R4 S0 hdc
          go_wp2_with fail
          refine kw.mono ?_
          rintro e w8 ⟨⟨v', rfl, hd8⟩, hb8⟩
          clear C0 C1 C2 C3 kw HDO
          obtain ⟨p3, q3, p4, q4, rfl, _, _⟩ := hd8.parts
          have hb58 := hb5c.trans (hb8.mono hb5c.size)
          have S5 := (hb8.block _ (block_lt hrow)).trans hrow
          obtain ⟨R0, R1, R2, R3, R4⟩ := HRR.out
          have S0 := (hb58.block _ (block_lt R0)).trans R0
          have S1 := (hb58.block _ (block_lt R1)).trans R1
          have S2 := (hb58.block _ (block_lt R2)).trans R2
          have S3 := (hb58.block _ (block_lt R3)).trans R3
          have S4 := (hb58.block _ (block_lt R4)).trans R4
          obtain ⟨w9, hw9, T0, hd9, keep9, _, below9⟩ := box_put S0 hd8
          have T1 := keep9 _ _ (by omega) S1
          have T3 := keep9 _ _ (by omega) S3
          have T4 := keep9 _ _ (by omega) S4
          have T5 := keep9 _ _ (by omega) S5
          have hb09 := below9 _ _ (HB5.out.trans (hb58.mono HB5.out.size)) (Nat.le_refl _)
          have C0 := cell_of_row w8 _ 0 _ _ _ S0
          have C1 := cell_of_row w8 _ 1 _ _ _ S0
          have C2 := cell_of_row w8 _ 2 _ _ _ S0
          have C3 := cell_of_row w8 _ 3 _ _ _ S0
          have Z0 := frozen_row S0
          dsimp only [put4] at hw9
          have HW9 := Lib.hid hw9
          have HT0 := Lib.hid T0
          have HT1 := Lib.hid T1
          have HT3 := Lib.hid T3
          have HT4 := Lib.hid T4
          have HT5 := Lib.hid T5
          have HD9 := Lib.hid hd9
          have HB9 := Lib.hid hb09
          clear S0 S1 S2 S3 S4 S5 R0 R1 R2 R3 R4 hb5c hb8 hb58 hd8 T0 T1 T3 T4 T5 hd9 hb09 hw9 keep9 below9 hrow
          go_upto_region 10 with (fail)
          rw [← HW9.out]
          clear C0 C1 C2 C3 Z0 HW9
          by_cases he : r.2 = 0
          · have hne0 : (r.2 != 0) = false := by simp [he]
            rw [he] at hne0
            obtain ⟨oa, ob, wa, wb, HWA, HWB, s0, sa, sb, L0, L1, L2, L3, M0, M1, M2, M3, D0, D1, D2, D3, Z2, F0, F1, F2, F3, Z3, HX⟩ := exit_all (w := w) (wx := w9) HT0.out HT5.out HT3.out HT4.out HD9.out HB9.out (by omega) (by omega) (by omega) (by omega) (by omega) (by omega) (by omega)
            go_wp2_with fail
            refine wp_region_I [(false, 0), (false, 1), (true, 2), (true, 3), (false, 4)] (Two w.heap.size gn oa ob) (by kernel_rfl) (by kernel_rfl) s0 ?_
            repeat (first | (refine heldI_skip rfl rfl ?_; simp only [Act.put, List.setIfInBounds_toArray, List.set_cons_zero, List.set_cons_succ]) | (refine heldI_take rfl ?_ rfl (fun w' hw' => ?_) ?_; rotate_left; (go_simp; first | done | with_reducible rfl); (try simp only [Act.put, List.setIfInBounds_toArray, List.set_cons_zero, List.set_cons_succ])))
            refine heldI_act rfl rfl fun K hK => ?_
            go_simp
            rw [← HWA.out]
            refine hK.out _ _ sa ?_
            clear hK K D0 D1 D2 D3 Z2
            refine heldI_act rfl rfl fun K hK => ?_
            go_simp
            rw [← HWB.out]
            refine hK.out _ _ sb ?_
            clear hK K F0 F1 F2 F3 Z3
            repeat (first | (refine heldI_skip rfl rfl ?_; simp only [Act.put, List.setIfInBounds_toArray, List.set_cons_zero, List.set_cons_succ]) | (refine heldI_take rfl ?_ rfl (fun w' hw' => ?_) ?_; rotate_left; (go_simp; first | done | with_reducible rfl); (try simp only [Act.put, List.setIfInBounds_toArray, List.set_cons_zero, List.set_cons_succ])))
            refine heldI_nil ?_
            go_wp2_with fail
            refine bodyPost_ret (results_cct rfl _ _ (w.heap.size + 1 + 1 + 1) (w.heap.size + 1 + 1 + 1 + 1) _ _ _ _ _ _ _ _ rfl rfl HX.out.1 HX.out.2.1 Tryd.underlying25 rfl size_disk Tryd.underlying27 rfl size_log) rfl ?_
            exact ⟨⟨_, rfl, HX.out.2.2.1⟩, HX.out.2.2.2⟩
          · have hne0 : (r.2 != 0) = true := by simp [he]
            obtain ⟨oa, ob, wa, wb, HWA, HWB, s0, sa, sb, L0, L1, L2, L3, M0, M1, M2, M3, D0, D1, D2, D3, Z2, F0, F1, F2, F3, Z3, HX⟩ := exit_all (w := w) (wx := w9) HT0.out HT1.out HT3.out HT4.out HD9.out HB9.out (by omega) (by omega) (by omega) (by omega) (by omega) (by omega) (by omega)
            go_wp2_with fail
            refine wp_region_I [(false, 0), (false, 1), (false, 2), (true, 3), (true, 4), (false, 5)] (Two w.heap.size (w.heap.size + 1) oa ob) (by kernel_rfl) (by kernel_rfl) s0 ?_
            repeat (first | (refine heldI_skip rfl rfl ?_; simp only [Act.put, List.setIfInBounds_toArray, List.set_cons_zero, List.set_cons_succ]) | (refine heldI_take rfl ?_ rfl (fun w' hw' => ?_) ?_; rotate_left; (go_simp; first | done | with_reducible rfl); (try simp only [Act.put, List.setIfInBounds_toArray, List.set_cons_zero, List.set_cons_succ])))
            refine heldI_act rfl rfl fun K hK => ?_
            go_simp
            rw [← HWA.out]
            refine hK.out _ _ sa ?_
            clear hK K D0 D1 D2 D3 Z2
            refine heldI_act rfl rfl fun K hK => ?_
            go_simp
            rw [← HWB.out]
            refine hK.out _ _ sb ?_
            clear hK K F0 F1 F2 F3 Z3
            repeat (first | (refine heldI_skip rfl rfl ?_; simp only [Act.put, List.setIfInBounds_toArray, List.set_cons_zero, List.set_cons_succ]) | (refine heldI_take rfl ?_ rfl (fun w' hw' => ?_) ?_; rotate_left; (go_simp; first | done | with_reducible rfl); (try simp only [Act.put, List.setIfInBounds_toArray, List.set_cons_zero, List.set_cons_succ])))
            refine heldI_nil ?_
            go_wp2_with fail
            refine bodyPost_ret (results_cct rfl _ _ (w.heap.size + 1 + 1 + 1) (w.heap.size + 1 + 1 + 1 + 1) _ _ _ _ _ _ _ _ rfl rfl HX.out.1 HX.out.2.1 Tryd.underlying25 rfl size_disk Tryd.underlying27 rfl size_log) rfl ?_
            exact ⟨⟨_, rfl, HX.out.2.2.1⟩, HX.out.2.2.2⟩
end Go.Proofs.YtaijompnohkmaaaDoor
/- Layer 5 (wal): a mark is read. -/
namespace Go.Proofs.YtaijompnohkmaaaDoor
open Go.RowKit WalP PackP
/-- Bytes out of a row that is known whole. -/
theorem bytes_of_row {g : Nat} {w : World} {bs : List UInt8} {t : TypeId} {fz : Nat × Nat} (i n cap : Nat) (hg : w.heap[g]? = some (.cells (u8s bs).toArray t fz)) (hn : i + n ≤ bs.length) (hcap : n ≤ cap) (hm : cap ≤ maxLen) :
    Bytes w.heap.size w (.slice (some ⟨g, i, none⟩) n cap) ((bs.drop i).take n) := by
  have hl : ((bs.drop i).take n).length = n := by rw [List.length_take, List.length_drop]; omega
  refine ⟨by rw [length_u8s]; omega, _, cap, by rw [hl], by omega, hm, fun _ => ⟨g, i, rfl, block_lt hg, fun k u hk => ?_⟩⟩
  rw [cell_of_row w g (i + k) _ _ _ hg]
  have h1 : k < n := by
    have := List.getElem?_eq_some_iff.1 hk
    obtain ⟨h, _⟩ := this
    rw [length_u8s, hl] at h
    exact h
  have : (u8s bs)[i + k]? = some u := by
    rw [← hk]
    unfold u8s
    rw [List.getElem?_map, List.getElem?_map, List.getElem?_take_of_lt h1, List.getElem?_drop]
  simpa using this
theorem results_ctM {P : Program} {fn : Func} {p u : Tmp} {tp : TypeId} (h : fn.results = #[.cell p tp, .tmp u]) (tmps : Array Value) (w : World) (gp : Nat) (t1 : TypeId) (c1 : Array Value) (f1 : Nat × Nat) (d1 : TypeDesc)
    (hp : tmps.getD p undef = .pointer (some ⟨gp, 0, none⟩)) (hg1 : w.heap[gp]? = some (.cells c1 t1 f1))
    (hu1 : P.underlying tp = some d1) (hd1 : (match d1 with | .struct _ | .array _ _ => true | _ => false) = true) (hi1 : (P.info? tp).map (·.size) = some c1.size) :
    (results fn tmps).run P w = .ok (.tuple #[.agg c1, tmps.getD u undef]) w := by
  have hp' : tmps[p]?.getD undef = .pointer (some ⟨gp, 0, none⟩) := by simpa using hp
  simp [results, h, hp', asAddr, run_loadVar_row w gp t1 tp c1 f1 d1 hg1 hu1 hd1 hi1]
theorem size_mark : (Tryd.prog.info? 83).map (·.size) = some 4 := by kernel_rfl
theorem wrap32 (x : Int) : IntKind.u32.wrap x = x % 4294967296 := by simp [IntKind.wrap, IntKind.bits, IntKind.signed]
theorem wread_end {w wy : World} {g1 : Nat} {S : World → Prop} {z0 z1 z2 z3 : Value} (T : wy.heap[g1]? = some (.cells #[z0, z1, z2, z3] 83 (0, 0))) (hb : Below w.heap.size w wy) (h1 : w.heap.size ≤ g1)
    (hS : ∀ wx : World, (∀ k, k ≠ g1 → wx.heap[k]? = wy.heap[k]?) → S wx) (a b c D : Int) :
    ∃ wz, Hid (wz = (((wy.setCell ⟨g1, 0, none⟩ (.int .i64 a)).setCell ⟨g1, 1, none⟩ (.int .i64 b)).setCell ⟨g1, 2, none⟩ (.int .i64 c)).setCell ⟨g1, 3, none⟩ (.int .u32 D)) ∧ S wz ∧
      wy.cell? ⟨g1, 0, none⟩ = some z0 ∧ wy.cell? ⟨g1, 1, none⟩ = some z1 ∧ wy.cell? ⟨g1, 2, none⟩ = some z2 ∧ wy.cell? ⟨g1, 3, none⟩ = some z3 ∧ (∀ o, wy.frozen? ⟨g1, o, none⟩ = false) ∧
      Hid (wz.heap[g1]? = some (.cells #[.int .i64 a, .int .i64 b, .int .i64 c, .int .u32 D] 83 (0, 0)) ∧ Below w.heap.size w wz) :=
  ⟨put4 wy g1 (.int .i64 a) (.int .i64 b) (.int .i64 c) (.int .u32 D), Lib.hid rfl, hS _ (fun k hk => (setFar (Ne.symm hk) _ _).trans ((setFar (Ne.symm hk) _ _).trans ((setFar (Ne.symm hk) _ _).trans (setFar (Ne.symm hk) _ _)))),
    cell_of_row wy _ 0 _ _ _ T, cell_of_row wy _ 1 _ _ _ T, cell_of_row wy _ 2 _ _ _ T, cell_of_row wy _ 3 _ _ _ T, frozen_row T, Lib.hid ⟨put4_heap T _ _ _ _, put4_below hb h1 _ _ _ _⟩⟩
set_option maxRecDepth 100000 in
set_option maxHeartbeats 4000000 in
theorem wread_any {s : List UInt8} (hs : s.length = 64) (w : World) :
    Calls Tryd.prog 60 #[.agg (u8s s).toArray] w fun e w' => e = .returned (.tuple #[markV (readMark s).1.gen (readMark s).1.number (readMark s).1.length (readMark s).1.sum, .bool (readMark s).2]) ∧ Below w.heap.size w w' := by
  obtain ⟨r0, hr0⟩ : ∃ r0 : RS, r0 = ⟨(s.drop 4).take 32, 0⟩ := ⟨_, rfl⟩
  obtain ⟨a, ha⟩ : ∃ a, a = r0.num.2 := ⟨_, rfl⟩
  obtain ⟨r1, hr1⟩ : ∃ r, r = r0.num.1 := ⟨_, rfl⟩
  obtain ⟨b, hb⟩ : ∃ a, a = r1.num.2 := ⟨_, rfl⟩
  obtain ⟨r2, hr2⟩ : ∃ r, r = r1.num.1 := ⟨_, rfl⟩
  obtain ⟨c, hc⟩ : ∃ a, a = r2.num.2 := ⟨_, rfl⟩
  obtain ⟨r3, hr3⟩ : ∃ r, r = r2.num.1 := ⟨_, rfl⟩
  obtain ⟨D0, hD0⟩ : ∃ a, a = r3.num.2 := ⟨_, rfl⟩
  obtain ⟨r4, hr4⟩ : ∃ r, r = r3.num.1 := ⟨_, rfl⟩
  obtain ⟨D, hD⟩ : ∃ D, IntKind.u32.wrap D0 = D := ⟨_, rfl⟩
  have hDm : D0 % 4294967296 = D := by rw [← hD, wrap32]
  have hD1 : 0 ≤ D := by omega
  have hD2 : D < 2 ^ 32 := by omega
  have hM : (readMark s).1 = ⟨a, b, c, D⟩ := by rw [← hDm, ha, hb, hc, hD0, hr3, hr2, hr1, hr0]; rfl
  have hO : (readMark s).2 = (decide (r4.e = 0) && decide (s = markS a b c D) && decide (1 ≤ a) && decide (a ≤ 1099511627776) && decide (0 < takesZ c)) := by rw [← hDm, ha, hb, hc, hD0, hr4, hr3, hr2, hr1, hr0]; rfl
  have HMK := Lib.hid (show markV (readMark s).1.gen (readMark s).1.number (readMark s).1.length (readMark s).1.sum = .agg #[.int .i64 a, .int .i64 b, .int .i64 c, .int .u32 D] by rw [hM]; rfl)
  have HOK := Lib.hid hO
  clear hM hO hDm
  obtain ⟨X, hX⟩ : ∃ X, X = (u8s s).toArray := ⟨_, rfl⟩
  have hXs : X.size = 64 := by rw [hX]; simp [length_u8s, hs]
  have hXo : ∀ v ∈ X.toList, v.oneCell' = true := by rw [hX]; exact oneCell_u8s _
  obtain ⟨w2, hw2⟩ : ∃ w2, w2 = (w.alloc (.cells X 73)).alloc (.cells #[.int .i64 0, .int .i64 0, .int .i64 0, .int .u32 0] 83) := ⟨_, rfl⟩
  have hs1 : (w.alloc (.cells X 73)).heap.size = w.heap.size + 1 := by simp
  have hb1 : Below w.heap.size w (w.alloc (.cells X 73)) := Below.alloc (Below.refl _ _) (Nat.le_refl _) _
  have hb2' : Below (w.heap.size + 1) (w.alloc (.cells X 73)) w2 := by rw [hw2, ← hs1]; exact Below.alloc (Below.refl _ _) (Nat.le_refl _) _
  have G0 : w2.heap[w.heap.size]? = some (.cells X 73 (0, 0)) := (hb2'.block _ (by omega)).trans (heap_alloc_new w _)
  have G1 : w2.heap[w.heap.size + 1]? = some (.cells #[.int .i64 0, .int .i64 0, .int .i64 0, .int .u32 0] 83 (0, 0)) := by rw [hw2, ← hs1]; exact heap_alloc_new _ _
  have hb2 : Below w.heap.size w w2 := hb1.trans (hb2'.mono (by omega))
  have kf := from_at w2.heap.size w2.heap.size (.slice (some ⟨w.heap.size, 4, none⟩) 32 60) _ w2 (bytes_of_row (bs := s) 4 32 60 (hX ▸ G0) (by omega) (by omega) (by decide)) (Nat.le_refl _)
  rw [← hr0] at kf
  rw [← hX]
  have HX := Lib.hid hX
  have HW2 := Lib.hid hw2
  have HHS := Lib.hid hs
  clear hX hw2 hb1 hb2' hs1 hr0 hs
  go_enter Tryd.func60, Tryd.ntmps60
  go_upto_region 1 with (fail)
  rw [← HW2.out]
  go_wp2_with fail
  refine kf.mono ?_
  rintro e w3 ⟨rfl, hR0, hb3⟩
  obtain ⟨g, hg⟩ : ∃ g, g = w2.heap.size := ⟨_, rfl⟩
  rw [← hg] at hR0 hb3 ⊢
  have k1 := rnum_any g g w3 r0 hR0
  rw [← ha, ← hr1] at k1
  have hgs : g < w3.heap.size := by obtain ⟨_, h, _⟩ := hR0; exact block_lt h
  have hgl : w.heap.size + 1 < g := by rw [hg]; exact block_lt G1
  have HG := Lib.hid hg
  clear kf ha hr1 hg hR0
  go_wp2_with fail
  refine k1.mono ?_
  rintro e w4 ⟨rfl, hR1, ho1⟩
  have k2 := rnum_any g g w4 r1 hR1
  rw [← hb, ← hr2] at k2
  clear k1 hb hr2 hR1
  go_wp2_with fail
  refine k2.mono ?_
  rintro e w5 ⟨rfl, hR2, ho2⟩
  have k3 := rnum_any g g w5 r2 hR2
  rw [← hc, ← hr3] at k3
  clear k2 hc hr3 hR2
  go_wp2_with fail
  refine k3.mono ?_
  rintro e w6 ⟨rfl, hR3, ho3⟩
  have k4 := rnum_any g g w6 r3 hR3
  rw [← hD0, ← hr4] at k4
  clear k3 hD0 hr4 hR3
  go_wp2_with fail
  refine k4.mono ?_
  rintro e w7 ⟨rfl, hR4, ho4⟩
  clear k4
  have ho := only_trans (only_trans (only_trans ho1 ho2) ho3) ho4
  have hb37 : Below g w3 w7 := below_hand ho hgs
  have hb27 : Below g w2 w7 := hb3.trans hb37
  have G0 := (hb27.block _ (by omega)).trans G0
  have G1 := (hb27.block _ (by omega)).trans G1
  have hb07 : Below w.heap.size w w7 := hb2.trans (hb27.mono (by omega))
  have hR4t := hR4
  clear ho1 ho2 ho3 ho4 ho hb3 hb37 hb27 hb2
  obtain ⟨g9, hg9⟩ : ∃ g9, g9 = w7.heap.size := ⟨_, rfl⟩
  obtain ⟨w8, hw8⟩ : ∃ w8, w8 = w7.alloc (.cells #[.int .i64 a, .int .i64 b, .int .i64 c, .int .u32 D] 83) := ⟨_, rfl⟩
  have hb78 : Below w7.heap.size w7 w8 := by rw [hw8]; exact Below.alloc (Below.refl _ _) (Nat.le_refl _) _
  have G9 : w8.heap[g9]? = some (.cells #[.int .i64 a, .int .i64 b, .int .i64 c, .int .u32 D] 83 (0, 0)) := by rw [hw8, hg9]; exact heap_alloc_new w7 _
  have l0 := block_lt G0
  have l1 := block_lt G1
  have G0 := (hb78.block _ l0).trans G0
  have G1 := (hb78.block _ l1).trans G1
  have hb08 : Below w.heap.size w w8 := hb07.trans (hb78.mono hb07.size)
  have hR8 : RdAt 138 g g w8 r4 := hR4.far (row := none) ⟨hb78.os, hb78.tape, hb78.output, hb78.size, fun k hk _ => hb78.block k hk⟩ (fun k h => by cases h)
  have hn09 : w.heap.size ≠ g9 := by omega
  have hn19 : w.heap.size + 1 ≠ g9 := by omega
  have HW8 := Lib.hid hw8
  have HG9 := Lib.hid hg9
  clear hw8 hg9 hb78 hb07 hR4 hR4t l0 l1
  go_upto_region 4 with (fail)
  rw [← HW8.out, ← HG9.out]
  obtain ⟨oX, hoX⟩ : ∃ o : Obj, o = .cells X 73 (0, 0) := ⟨_, rfl⟩
  obtain ⟨oM, hoM⟩ : ∃ o : Obj, o = .cells #[.int .i64 a, .int .i64 b, .int .i64 c, .int .u32 D] 83 (0, 0) := ⟨_, rfl⟩
  have s8 : Two w.heap.size g9 oX oM w8 := by rw [hoX, hoM]; exact ⟨G0, G9⟩
  have M0 : ∀ w', Two w.heap.size g9 oX oM w' → w'.cell? ⟨g9, 0, none⟩ = some (.int .i64 a) := fun w' h => by rw [hoM] at h; exact cell_of_row w' _ 0 _ _ _ h.2
  have M1 : ∀ w', Two w.heap.size g9 oX oM w' → w'.cell? ⟨g9, 1, none⟩ = some (.int .i64 b) := fun w' h => by rw [hoM] at h; exact cell_of_row w' _ 1 _ _ _ h.2
  have M2 : ∀ w', Two w.heap.size g9 oX oM w' → w'.cell? ⟨g9, 2, none⟩ = some (.int .i64 c) := fun w' h => by rw [hoM] at h; exact cell_of_row w' _ 2 _ _ _ h.2
  have M3 : ∀ w', Two w.heap.size g9 oX oM w' → w'.cell? ⟨g9, 3, none⟩ = some (.int .u32 D) := fun w' h => by rw [hoM] at h; exact cell_of_row w' _ 3 _ _ _ h.2
  have hlX : ∀ w', Two w.heap.size g9 oX oM w' → (loadVar 73 ⟨w.heap.size, 0, none⟩).run Tryd.prog w' = .ok (.agg X) w' := fun w' h => by
    rw [hoX] at h
    exact run_loadVar_row (P := Tryd.prog) w' w.heap.size 73 73 X (0, 0) _ h.1 Tryd.underlying73 rfl (by rw [hXs]; exact size_sector)
  obtain ⟨wd, hwd⟩ : ∃ wd, wd = w8.drew := ⟨_, rfl⟩
  have sd : Two w.heap.size g9 oX oM wd := by rw [hwd]; exact s8
  have s8' : Two w.heap.size g9 oX oM w8.drew := s8
  have G1d : wd.heap[w.heap.size + 1]? = some (.cells #[.int .i64 0, .int .i64 0, .int .i64 0, .int .u32 0] 83 (0, 0)) := by rw [hwd]; exact G1
  have hb0d : Below w.heap.size w wd := by rw [hwd]; exact below_draws hb08 1
  have hRd : RdAt 138 g g wd r4 := by rw [hwd]; exact hR8
  have ke := rerr_any g g wd r4 hRd
  have HWD := Lib.hid hwd
  have HG1 := Lib.hid G1d
  have HBD := Lib.hid hb0d
  clear hoX hoM s8 hwd hRd hR8 G0 G1 G9 hb08 G1d hb0d
  by_cases e0 : r4.e = 0
  · have en : (r4.e == 0) = true := by simp [e0]
    have ks := sector_any a b c D wd hD1 hD2
    simp only [markV] at ks
    have hml : (markS a b c D).length = 64 := length_markS _ _ _ _
    obtain ⟨mk, hmk⟩ : ∃ m, m = markS a b c D := ⟨_, rfl⟩
    rw [← hmk] at ks hml
    obtain ⟨Y, hY⟩ : ∃ Y, Y = (u8s mk).toArray := ⟨_, rfl⟩
    rw [← hY] at ks
    obtain ⟨q, hq⟩ : ∃ q, q = decide (s = mk) := ⟨_, rfl⟩
    have hE : ∀ w, (Op.equalIn 10000 73 (.agg X) (.agg Y)).run Tryd.prog w = .ok q w := fun w => by
      rw [HX.out, hY, hq]
      exact equal44 HHS.out hml w
    have HQ := Lib.hid (show q = decide (s = markS a b c D) by rw [hq, hmk])
    have hXo' : ∀ v ∈ X.toList, v.oneCell' = true := hXo
    clear hY hq hmk hml
    by_cases e1 : s = markS a b c D
    · have hqt : q = true := by rw [HQ.out]; simp [← e1]
      subst hqt
      have E1 := Lib.hid e1
      clear e1
      by_cases e2 : 1 ≤ a
      · have ea : decide (1 ≤ a) = true := by simp [e2]
        by_cases e3 : a ≤ 1099511627776
        · by_cases e4 : 0 < takesZ c
          · have eb : decide (a ≤ 1099511627776) = true := by simp [e3]
            have ec : decide (0 < takesZ c) = true := by simp [e4]
            refine wp_region_I [(false, 0), (false, 1), (true, 2), (false, 3), (false, 4), (false, 5), (false, 6), (true, 7), (false, 8), (false, 9), (false, 10), (false, 11), (false, 12), (false, 13), (false, 14), (false, 15), (false, 16), (false, 17), (false, 18), (false, 19), (true, 20), (false, 21), (false, 22), (true, 23), (false, 24)] (Two w.heap.size g9 oX oM) (by kernel_rfl) (by kernel_rfl) s8' ?_
            rw [← HWD.out]
            repeat (first | (refine heldI_skip rfl rfl ?_; simp only [Act.put, List.setIfInBounds_toArray, List.set_cons_zero, List.set_cons_succ]) | (refine heldI_take rfl ?_ rfl (fun w' hw' => ?_) ?_; rotate_left; (go_simp; first | done | with_reducible rfl); (try simp only [Act.put, List.setIfInBounds_toArray, List.set_cons_zero, List.set_cons_succ])))
            refine heldI_act rfl rfl fun K hK => ?_
            go_simp
            refine ke.mono ?_
            rintro e wx ⟨rfl, rfl⟩
            refine hK.out _ _ sd ?_
            clear hK K ke
            repeat (first | (refine heldI_skip rfl rfl ?_; simp only [Act.put, List.setIfInBounds_toArray, List.set_cons_zero, List.set_cons_succ]) | (refine heldI_take rfl ?_ rfl (fun w' hw' => ?_) ?_; rotate_left; (go_simp; first | done | with_reducible rfl); (try simp only [Act.put, List.setIfInBounds_toArray, List.set_cons_zero, List.set_cons_succ])))
            refine heldI_load rfl (.tmp 1) 73 rfl rfl rfl hlX ?_
            simp only [Act.put, List.setIfInBounds_toArray, List.set_cons_zero, List.set_cons_succ]
            repeat (first | (refine heldI_skip rfl rfl ?_; simp only [Act.put, List.setIfInBounds_toArray, List.set_cons_zero, List.set_cons_succ]) | (refine heldI_take rfl ?_ rfl (fun w' hw' => ?_) ?_; rotate_left; (go_simp; first | done | with_reducible rfl); (try simp only [Act.put, List.setIfInBounds_toArray, List.set_cons_zero, List.set_cons_succ])))
            refine heldI_act rfl rfl fun K hK => ?_
            go_simp
            refine ks.mono ?_
            rintro e wy ⟨rfl, hby⟩
            have sy : Two w.heap.size g9 oX oM wy := ⟨(hby.block _ (block_lt sd.1)).trans sd.1, (hby.block _ (block_lt sd.2)).trans sd.2⟩
            have HBY := Lib.hid (HBD.out.trans (hby.mono HBD.out.size))
            have HGY := Lib.hid ((hby.block _ (block_lt HG1.out)).trans HG1.out)
            refine hK.out _ _ sy ?_
            clear hK K ks hby
            repeat (first | (refine heldI_skip rfl rfl ?_; simp only [Act.put, List.setIfInBounds_toArray, List.set_cons_zero, List.set_cons_succ]) | (refine heldI_take rfl ?_ rfl (fun w' hw' => ?_) ?_; rotate_left; (go_simp; first | done | with_reducible rfl); (try simp only [Act.put, List.setIfInBounds_toArray, List.set_cons_zero, List.set_cons_succ])))
            have kt := takes_any c wy
            refine heldI_act rfl rfl fun K hK => ?_
            go_simp
            refine kt.mono ?_
            rintro e wx ⟨rfl, rfl⟩
            refine hK.out _ _ sy ?_
            clear hK K kt
            repeat (first | (refine heldI_skip rfl rfl ?_; simp only [Act.put, List.setIfInBounds_toArray, List.set_cons_zero, List.set_cons_succ]) | (refine heldI_take rfl ?_ rfl (fun w' hw' => ?_) ?_; rotate_left; (go_simp; first | done | with_reducible rfl); (try simp only [Act.put, List.setIfInBounds_toArray, List.set_cons_zero, List.set_cons_succ])))
            obtain ⟨wz, HWZ, sz, N0, N1, N2, N3, Z1, HZ⟩ := wread_end (w := w) (g1 := w.heap.size + 1) (S := Two w.heap.size g9 oX oM) HGY.out HBY.out (by omega) (fun wx hk => ⟨(hk _ (by omega)).trans sy.1, (hk _ (by omega)).trans sy.2⟩) a b c D
            have okf : (readMark s).2 = true := by rw [HOK.out]; simp [e0, e2, e3, e4, E1.out]
            clear sy
            refine heldI_act rfl rfl fun K hK => ?_
            go_simp
            rw [← HWZ.out]
            refine hK.out _ _ sz ?_
            clear hK K
            repeat (first | (refine heldI_skip rfl rfl ?_; simp only [Act.put, List.setIfInBounds_toArray, List.set_cons_zero, List.set_cons_succ]) | (refine heldI_take rfl ?_ rfl (fun w' hw' => ?_) ?_; rotate_left; (go_simp; first | done | with_reducible rfl); (try simp only [Act.put, List.setIfInBounds_toArray, List.set_cons_zero, List.set_cons_succ])))
            refine heldI_nil ?_
            go_wp2_with fail
            refine bodyPost_ret (v := .tuple #[.agg #[.int .i64 a, .int .i64 b, .int .i64 c, .int .u32 D], .bool true]) ?_ rfl ?_
            · exact results_ctM (p := 2) (u := 3) (tp := 83) rfl _ _ (w.heap.size + 1) _ _ _ _ rfl HZ.out.1 Tryd.underlying83 rfl size_mark
            · rw [HMK.out]
              try rw [okf]
              exact ⟨rfl, HZ.out.2⟩
          · have eb : decide (a ≤ 1099511627776) = true := by simp [e3]
            have ec : decide (0 < takesZ c) = false := by simp [e4]
            refine wp_region_I [(false, 0), (false, 1), (true, 2), (false, 3), (false, 4), (false, 5), (false, 6), (true, 7), (false, 8), (false, 9), (false, 10), (false, 11), (false, 12), (false, 13), (false, 14), (false, 15), (false, 16), (false, 17), (false, 18), (false, 19), (true, 20), (false, 21), (false, 22), (true, 23), (false, 24)] (Two w.heap.size g9 oX oM) (by kernel_rfl) (by kernel_rfl) s8' ?_
            rw [← HWD.out]
            repeat (first | (refine heldI_skip rfl rfl ?_; simp only [Act.put, List.setIfInBounds_toArray, List.set_cons_zero, List.set_cons_succ]) | (refine heldI_take rfl ?_ rfl (fun w' hw' => ?_) ?_; rotate_left; (go_simp; first | done | with_reducible rfl); (try simp only [Act.put, List.setIfInBounds_toArray, List.set_cons_zero, List.set_cons_succ])))
            refine heldI_act rfl rfl fun K hK => ?_
            go_simp
            refine ke.mono ?_
            rintro e wx ⟨rfl, rfl⟩
            refine hK.out _ _ sd ?_
            clear hK K ke
            repeat (first | (refine heldI_skip rfl rfl ?_; simp only [Act.put, List.setIfInBounds_toArray, List.set_cons_zero, List.set_cons_succ]) | (refine heldI_take rfl ?_ rfl (fun w' hw' => ?_) ?_; rotate_left; (go_simp; first | done | with_reducible rfl); (try simp only [Act.put, List.setIfInBounds_toArray, List.set_cons_zero, List.set_cons_succ])))
            refine heldI_load rfl (.tmp 1) 73 rfl rfl rfl hlX ?_
            simp only [Act.put, List.setIfInBounds_toArray, List.set_cons_zero, List.set_cons_succ]
            repeat (first | (refine heldI_skip rfl rfl ?_; simp only [Act.put, List.setIfInBounds_toArray, List.set_cons_zero, List.set_cons_succ]) | (refine heldI_take rfl ?_ rfl (fun w' hw' => ?_) ?_; rotate_left; (go_simp; first | done | with_reducible rfl); (try simp only [Act.put, List.setIfInBounds_toArray, List.set_cons_zero, List.set_cons_succ])))
            refine heldI_act rfl rfl fun K hK => ?_
            go_simp
            refine ks.mono ?_
            rintro e wy ⟨rfl, hby⟩
            have sy : Two w.heap.size g9 oX oM wy := ⟨(hby.block _ (block_lt sd.1)).trans sd.1, (hby.block _ (block_lt sd.2)).trans sd.2⟩
            have HBY := Lib.hid (HBD.out.trans (hby.mono HBD.out.size))
            have HGY := Lib.hid ((hby.block _ (block_lt HG1.out)).trans HG1.out)
            refine hK.out _ _ sy ?_
            clear hK K ks hby
            repeat (first | (refine heldI_skip rfl rfl ?_; simp only [Act.put, List.setIfInBounds_toArray, List.set_cons_zero, List.set_cons_succ]) | (refine heldI_take rfl ?_ rfl (fun w' hw' => ?_) ?_; rotate_left; (go_simp; first | done | with_reducible rfl); (try simp only [Act.put, List.setIfInBounds_toArray, List.set_cons_zero, List.set_cons_succ])))
            have kt := takes_any c wy
            refine heldI_act rfl rfl fun K hK => ?_
            go_simp
            refine kt.mono ?_
            rintro e wx ⟨rfl, rfl⟩
            refine hK.out _ _ sy ?_
            clear hK K kt
            repeat (first | (refine heldI_skip rfl rfl ?_; simp only [Act.put, List.setIfInBounds_toArray, List.set_cons_zero, List.set_cons_succ]) | (refine heldI_take rfl ?_ rfl (fun w' hw' => ?_) ?_; rotate_left; (go_simp; first | done | with_reducible rfl); (try simp only [Act.put, List.setIfInBounds_toArray, List.set_cons_zero, List.set_cons_succ])))
            obtain ⟨wz, HWZ, sz, N0, N1, N2, N3, Z1, HZ⟩ := wread_end (w := w) (g1 := w.heap.size + 1) (S := Two w.heap.size g9 oX oM) HGY.out HBY.out (by omega) (fun wx hk => ⟨(hk _ (by omega)).trans sy.1, (hk _ (by omega)).trans sy.2⟩) a b c D
            have okf : (readMark s).2 = false := by rw [HOK.out]; simp [e4]
            clear sy
            refine heldI_act rfl rfl fun K hK => ?_
            go_simp
            rw [← HWZ.out]
            refine hK.out _ _ sz ?_
            clear hK K
            repeat (first | (refine heldI_skip rfl rfl ?_; simp only [Act.put, List.setIfInBounds_toArray, List.set_cons_zero, List.set_cons_succ]) | (refine heldI_take rfl ?_ rfl (fun w' hw' => ?_) ?_; rotate_left; (go_simp; first | done | with_reducible rfl); (try simp only [Act.put, List.setIfInBounds_toArray, List.set_cons_zero, List.set_cons_succ])))
            refine heldI_nil ?_
            go_wp2_with fail
            refine bodyPost_ret (v := .tuple #[.agg #[.int .i64 a, .int .i64 b, .int .i64 c, .int .u32 D], .bool false]) ?_ rfl ?_
            · exact results_ctM (p := 2) (u := 3) (tp := 83) rfl _ _ (w.heap.size + 1) _ _ _ _ rfl HZ.out.1 Tryd.underlying83 rfl size_mark
            · rw [HMK.out]
              try rw [okf]
              exact ⟨rfl, HZ.out.2⟩
        · have eb : decide (a ≤ 1099511627776) = false := by simp [e3]
          refine wp_region_I [(false, 0), (false, 1), (true, 2), (false, 3), (false, 4), (false, 5), (false, 6), (true, 7), (false, 8), (false, 9), (false, 10), (false, 11), (false, 12), (false, 13), (false, 14), (false, 15), (false, 16), (false, 17), (false, 18), (false, 19), (true, 20), (false, 21), (false, 22), (true, 23), (false, 24)] (Two w.heap.size g9 oX oM) (by kernel_rfl) (by kernel_rfl) s8' ?_
          rw [← HWD.out]
          repeat (first | (refine heldI_skip rfl rfl ?_; simp only [Act.put, List.setIfInBounds_toArray, List.set_cons_zero, List.set_cons_succ]) | (refine heldI_take rfl ?_ rfl (fun w' hw' => ?_) ?_; rotate_left; (go_simp; first | done | with_reducible rfl); (try simp only [Act.put, List.setIfInBounds_toArray, List.set_cons_zero, List.set_cons_succ])))
          refine heldI_act rfl rfl fun K hK => ?_
          go_simp
          refine ke.mono ?_
          rintro e wx ⟨rfl, rfl⟩
          refine hK.out _ _ sd ?_
          clear hK K ke
          repeat (first | (refine heldI_skip rfl rfl ?_; simp only [Act.put, List.setIfInBounds_toArray, List.set_cons_zero, List.set_cons_succ]) | (refine heldI_take rfl ?_ rfl (fun w' hw' => ?_) ?_; rotate_left; (go_simp; first | done | with_reducible rfl); (try simp only [Act.put, List.setIfInBounds_toArray, List.set_cons_zero, List.set_cons_succ])))
          refine heldI_load rfl (.tmp 1) 73 rfl rfl rfl hlX ?_
          simp only [Act.put, List.setIfInBounds_toArray, List.set_cons_zero, List.set_cons_succ]
          repeat (first | (refine heldI_skip rfl rfl ?_; simp only [Act.put, List.setIfInBounds_toArray, List.set_cons_zero, List.set_cons_succ]) | (refine heldI_take rfl ?_ rfl (fun w' hw' => ?_) ?_; rotate_left; (go_simp; first | done | with_reducible rfl); (try simp only [Act.put, List.setIfInBounds_toArray, List.set_cons_zero, List.set_cons_succ])))
          refine heldI_act rfl rfl fun K hK => ?_
          go_simp
          refine ks.mono ?_
          rintro e wy ⟨rfl, hby⟩
          have sy : Two w.heap.size g9 oX oM wy := ⟨(hby.block _ (block_lt sd.1)).trans sd.1, (hby.block _ (block_lt sd.2)).trans sd.2⟩
          have HBY := Lib.hid (HBD.out.trans (hby.mono HBD.out.size))
          have HGY := Lib.hid ((hby.block _ (block_lt HG1.out)).trans HG1.out)
          refine hK.out _ _ sy ?_
          clear hK K ks hby
          repeat (first | (refine heldI_skip rfl rfl ?_; simp only [Act.put, List.setIfInBounds_toArray, List.set_cons_zero, List.set_cons_succ]) | (refine heldI_take rfl ?_ rfl (fun w' hw' => ?_) ?_; rotate_left; (go_simp; first | done | with_reducible rfl); (try simp only [Act.put, List.setIfInBounds_toArray, List.set_cons_zero, List.set_cons_succ])))
          refine heldI_pass rfl rfl sy ?_
          simp only [Act.put, List.setIfInBounds_toArray, List.set_cons_zero, List.set_cons_succ]
          repeat (first | (refine heldI_skip rfl rfl ?_; simp only [Act.put, List.setIfInBounds_toArray, List.set_cons_zero, List.set_cons_succ]) | (refine heldI_take rfl ?_ rfl (fun w' hw' => ?_) ?_; rotate_left; (go_simp; first | done | with_reducible rfl); (try simp only [Act.put, List.setIfInBounds_toArray, List.set_cons_zero, List.set_cons_succ])))
          obtain ⟨wz, HWZ, sz, N0, N1, N2, N3, Z1, HZ⟩ := wread_end (w := w) (g1 := w.heap.size + 1) (S := Two w.heap.size g9 oX oM) HGY.out HBY.out (by omega) (fun wx hk => ⟨(hk _ (by omega)).trans sy.1, (hk _ (by omega)).trans sy.2⟩) a b c D
          have okf : (readMark s).2 = false := by rw [HOK.out]; simp [e3]
          clear sy
          refine heldI_act rfl rfl fun K hK => ?_
          go_simp
          rw [← HWZ.out]
          refine hK.out _ _ sz ?_
          clear hK K
          repeat (first | (refine heldI_skip rfl rfl ?_; simp only [Act.put, List.setIfInBounds_toArray, List.set_cons_zero, List.set_cons_succ]) | (refine heldI_take rfl ?_ rfl (fun w' hw' => ?_) ?_; rotate_left; (go_simp; first | done | with_reducible rfl); (try simp only [Act.put, List.setIfInBounds_toArray, List.set_cons_zero, List.set_cons_succ])))
          refine heldI_nil ?_
          go_wp2_with fail
          refine bodyPost_ret (v := .tuple #[.agg #[.int .i64 a, .int .i64 b, .int .i64 c, .int .u32 D], .bool false]) ?_ rfl ?_
          · exact results_ctM (p := 2) (u := 3) (tp := 83) rfl _ _ (w.heap.size + 1) _ _ _ _ rfl HZ.out.1 Tryd.underlying83 rfl size_mark
          · rw [HMK.out]
            try rw [okf]
            exact ⟨rfl, HZ.out.2⟩
      · have ea : decide (1 ≤ a) = false := by simp [e2]
        refine wp_region_I [(false, 0), (false, 1), (true, 2), (false, 3), (false, 4), (false, 5), (false, 6), (true, 7), (false, 8), (false, 9), (false, 10), (false, 11), (false, 12), (false, 13), (false, 14), (false, 15), (false, 16), (false, 17), (false, 18), (false, 19), (true, 20), (false, 21), (false, 22), (true, 23), (false, 24)] (Two w.heap.size g9 oX oM) (by kernel_rfl) (by kernel_rfl) s8' ?_
        rw [← HWD.out]
        repeat (first | (refine heldI_skip rfl rfl ?_; simp only [Act.put, List.setIfInBounds_toArray, List.set_cons_zero, List.set_cons_succ]) | (refine heldI_take rfl ?_ rfl (fun w' hw' => ?_) ?_; rotate_left; (go_simp; first | done | with_reducible rfl); (try simp only [Act.put, List.setIfInBounds_toArray, List.set_cons_zero, List.set_cons_succ])))
        refine heldI_act rfl rfl fun K hK => ?_
        go_simp
        refine ke.mono ?_
        rintro e wx ⟨rfl, rfl⟩
        refine hK.out _ _ sd ?_
        clear hK K ke
        repeat (first | (refine heldI_skip rfl rfl ?_; simp only [Act.put, List.setIfInBounds_toArray, List.set_cons_zero, List.set_cons_succ]) | (refine heldI_take rfl ?_ rfl (fun w' hw' => ?_) ?_; rotate_left; (go_simp; first | done | with_reducible rfl); (try simp only [Act.put, List.setIfInBounds_toArray, List.set_cons_zero, List.set_cons_succ])))
        refine heldI_load rfl (.tmp 1) 73 rfl rfl rfl hlX ?_
        simp only [Act.put, List.setIfInBounds_toArray, List.set_cons_zero, List.set_cons_succ]
        repeat (first | (refine heldI_skip rfl rfl ?_; simp only [Act.put, List.setIfInBounds_toArray, List.set_cons_zero, List.set_cons_succ]) | (refine heldI_take rfl ?_ rfl (fun w' hw' => ?_) ?_; rotate_left; (go_simp; first | done | with_reducible rfl); (try simp only [Act.put, List.setIfInBounds_toArray, List.set_cons_zero, List.set_cons_succ])))
        refine heldI_act rfl rfl fun K hK => ?_
        go_simp
        refine ks.mono ?_
        rintro e wy ⟨rfl, hby⟩
        have sy : Two w.heap.size g9 oX oM wy := ⟨(hby.block _ (block_lt sd.1)).trans sd.1, (hby.block _ (block_lt sd.2)).trans sd.2⟩
        have HBY := Lib.hid (HBD.out.trans (hby.mono HBD.out.size))
        have HGY := Lib.hid ((hby.block _ (block_lt HG1.out)).trans HG1.out)
        refine hK.out _ _ sy ?_
        clear hK K ks hby
        repeat (first | (refine heldI_skip rfl rfl ?_; simp only [Act.put, List.setIfInBounds_toArray, List.set_cons_zero, List.set_cons_succ]) | (refine heldI_take rfl ?_ rfl (fun w' hw' => ?_) ?_; rotate_left; (go_simp; first | done | with_reducible rfl); (try simp only [Act.put, List.setIfInBounds_toArray, List.set_cons_zero, List.set_cons_succ])))
        refine heldI_pass rfl rfl sy ?_
        simp only [Act.put, List.setIfInBounds_toArray, List.set_cons_zero, List.set_cons_succ]
        repeat (first | (refine heldI_skip rfl rfl ?_; simp only [Act.put, List.setIfInBounds_toArray, List.set_cons_zero, List.set_cons_succ]) | (refine heldI_take rfl ?_ rfl (fun w' hw' => ?_) ?_; rotate_left; (go_simp; first | done | with_reducible rfl); (try simp only [Act.put, List.setIfInBounds_toArray, List.set_cons_zero, List.set_cons_succ])))
        obtain ⟨wz, HWZ, sz, N0, N1, N2, N3, Z1, HZ⟩ := wread_end (w := w) (g1 := w.heap.size + 1) (S := Two w.heap.size g9 oX oM) HGY.out HBY.out (by omega) (fun wx hk => ⟨(hk _ (by omega)).trans sy.1, (hk _ (by omega)).trans sy.2⟩) a b c D
        have okf : (readMark s).2 = false := by rw [HOK.out]; simp [e2]
        clear sy
        refine heldI_act rfl rfl fun K hK => ?_
        go_simp
        rw [← HWZ.out]
        refine hK.out _ _ sz ?_
        clear hK K
        repeat (first | (refine heldI_skip rfl rfl ?_; simp only [Act.put, List.setIfInBounds_toArray, List.set_cons_zero, List.set_cons_succ]) | (refine heldI_take rfl ?_ rfl (fun w' hw' => ?_) ?_; rotate_left; (go_simp; first | done | with_reducible rfl); (try simp only [Act.put, List.setIfInBounds_toArray, List.set_cons_zero, List.set_cons_succ])))
        refine heldI_nil ?_
        go_wp2_with fail
        refine bodyPost_ret (v := .tuple #[.agg #[.int .i64 a, .int .i64 b, .int .i64 c, .int .u32 D], .bool false]) ?_ rfl ?_
        · exact results_ctM (p := 2) (u := 3) (tp := 83) rfl _ _ (w.heap.size + 1) _ _ _ _ rfl HZ.out.1 Tryd.underlying83 rfl size_mark
        · rw [HMK.out]
          try rw [okf]
          exact ⟨rfl, HZ.out.2⟩
    · have hqf : q = false := by rw [HQ.out]; simp [e1]
      subst hqf
      refine wp_region_I [(false, 0), (false, 1), (true, 2), (false, 3), (false, 4), (false, 5), (false, 6), (true, 7), (false, 8), (false, 9), (false, 10), (false, 11), (false, 12), (false, 13), (false, 14), (false, 15), (false, 16), (false, 17), (false, 18), (false, 19), (true, 20), (false, 21), (false, 22), (true, 23), (false, 24)] (Two w.heap.size g9 oX oM) (by kernel_rfl) (by kernel_rfl) s8' ?_
      rw [← HWD.out]
      repeat (first | (refine heldI_skip rfl rfl ?_; simp only [Act.put, List.setIfInBounds_toArray, List.set_cons_zero, List.set_cons_succ]) | (refine heldI_take rfl ?_ rfl (fun w' hw' => ?_) ?_; rotate_left; (go_simp; first | done | with_reducible rfl); (try simp only [Act.put, List.setIfInBounds_toArray, List.set_cons_zero, List.set_cons_succ])))
      refine heldI_act rfl rfl fun K hK => ?_
      go_simp
      refine ke.mono ?_
      rintro e wx ⟨rfl, rfl⟩
      refine hK.out _ _ sd ?_
      clear hK K ke
      repeat (first | (refine heldI_skip rfl rfl ?_; simp only [Act.put, List.setIfInBounds_toArray, List.set_cons_zero, List.set_cons_succ]) | (refine heldI_take rfl ?_ rfl (fun w' hw' => ?_) ?_; rotate_left; (go_simp; first | done | with_reducible rfl); (try simp only [Act.put, List.setIfInBounds_toArray, List.set_cons_zero, List.set_cons_succ])))
      refine heldI_load rfl (.tmp 1) 73 rfl rfl rfl hlX ?_
      simp only [Act.put, List.setIfInBounds_toArray, List.set_cons_zero, List.set_cons_succ]
      repeat (first | (refine heldI_skip rfl rfl ?_; simp only [Act.put, List.setIfInBounds_toArray, List.set_cons_zero, List.set_cons_succ]) | (refine heldI_take rfl ?_ rfl (fun w' hw' => ?_) ?_; rotate_left; (go_simp; first | done | with_reducible rfl); (try simp only [Act.put, List.setIfInBounds_toArray, List.set_cons_zero, List.set_cons_succ])))
      refine heldI_act rfl rfl fun K hK => ?_
      go_simp
      refine ks.mono ?_
      rintro e wy ⟨rfl, hby⟩
      have sy : Two w.heap.size g9 oX oM wy := ⟨(hby.block _ (block_lt sd.1)).trans sd.1, (hby.block _ (block_lt sd.2)).trans sd.2⟩
      have HBY := Lib.hid (HBD.out.trans (hby.mono HBD.out.size))
      have HGY := Lib.hid ((hby.block _ (block_lt HG1.out)).trans HG1.out)
      refine hK.out _ _ sy ?_
      clear hK K ks hby
      repeat (first | (refine heldI_skip rfl rfl ?_; simp only [Act.put, List.setIfInBounds_toArray, List.set_cons_zero, List.set_cons_succ]) | (refine heldI_take rfl ?_ rfl (fun w' hw' => ?_) ?_; rotate_left; (go_simp; first | done | with_reducible rfl); (try simp only [Act.put, List.setIfInBounds_toArray, List.set_cons_zero, List.set_cons_succ])))
      refine heldI_pass rfl rfl sy ?_
      simp only [Act.put, List.setIfInBounds_toArray, List.set_cons_zero, List.set_cons_succ]
      repeat (first | (refine heldI_skip rfl rfl ?_; simp only [Act.put, List.setIfInBounds_toArray, List.set_cons_zero, List.set_cons_succ]) | (refine heldI_take rfl ?_ rfl (fun w' hw' => ?_) ?_; rotate_left; (go_simp; first | done | with_reducible rfl); (try simp only [Act.put, List.setIfInBounds_toArray, List.set_cons_zero, List.set_cons_succ])))
      obtain ⟨wz, HWZ, sz, N0, N1, N2, N3, Z1, HZ⟩ := wread_end (w := w) (g1 := w.heap.size + 1) (S := Two w.heap.size g9 oX oM) HGY.out HBY.out (by omega) (fun wx hk => ⟨(hk _ (by omega)).trans sy.1, (hk _ (by omega)).trans sy.2⟩) a b c D
      have okf : (readMark s).2 = false := by rw [HOK.out]; simp [e1]
      clear sy
      refine heldI_act rfl rfl fun K hK => ?_
      go_simp
      rw [← HWZ.out]
      refine hK.out _ _ sz ?_
      clear hK K
      repeat (first | (refine heldI_skip rfl rfl ?_; simp only [Act.put, List.setIfInBounds_toArray, List.set_cons_zero, List.set_cons_succ]) | (refine heldI_take rfl ?_ rfl (fun w' hw' => ?_) ?_; rotate_left; (go_simp; first | done | with_reducible rfl); (try simp only [Act.put, List.setIfInBounds_toArray, List.set_cons_zero, List.set_cons_succ])))
      refine heldI_nil ?_
      go_wp2_with fail
      refine bodyPost_ret (v := .tuple #[.agg #[.int .i64 a, .int .i64 b, .int .i64 c, .int .u32 D], .bool false]) ?_ rfl ?_
      · exact results_ctM (p := 2) (u := 3) (tp := 83) rfl _ _ (w.heap.size + 1) _ _ _ _ rfl HZ.out.1 Tryd.underlying83 rfl size_mark
      · rw [HMK.out]
        try rw [okf]
        exact ⟨rfl, HZ.out.2⟩
  · have en : (r4.e == 0) = false := by simp [e0]
    refine wp_region_I [(false, 0), (false, 1), (true, 2), (false, 3), (false, 4), (false, 5), (false, 6), (true, 7), (false, 8), (false, 9), (false, 10), (false, 11), (false, 12), (false, 13), (false, 14), (false, 15), (false, 16), (false, 17), (false, 18), (false, 19), (true, 20), (false, 21), (false, 22), (true, 23), (false, 24)] (Two w.heap.size g9 oX oM) (by kernel_rfl) (by kernel_rfl) s8' ?_
    rw [← HWD.out]
    repeat (first | (refine heldI_skip rfl rfl ?_; simp only [Act.put, List.setIfInBounds_toArray, List.set_cons_zero, List.set_cons_succ]) | (refine heldI_take rfl ?_ rfl (fun w' hw' => ?_) ?_; rotate_left; (go_simp; first | done | with_reducible rfl); (try simp only [Act.put, List.setIfInBounds_toArray, List.set_cons_zero, List.set_cons_succ])))
    refine heldI_act rfl rfl fun K hK => ?_
    go_simp
    refine ke.mono ?_
    rintro e wx ⟨rfl, rfl⟩
    refine hK.out _ _ sd ?_
    clear hK K ke
    repeat (first | (refine heldI_skip rfl rfl ?_; simp only [Act.put, List.setIfInBounds_toArray, List.set_cons_zero, List.set_cons_succ]) | (refine heldI_take rfl ?_ rfl (fun w' hw' => ?_) ?_; rotate_left; (go_simp; first | done | with_reducible rfl); (try simp only [Act.put, List.setIfInBounds_toArray, List.set_cons_zero, List.set_cons_succ])))
    refine heldI_pass rfl rfl sd ?_
    simp only [Act.put, List.setIfInBounds_toArray, List.set_cons_zero, List.set_cons_succ]
    repeat (first | (refine heldI_skip rfl rfl ?_; simp only [Act.put, List.setIfInBounds_toArray, List.set_cons_zero, List.set_cons_succ]) | (refine heldI_take rfl ?_ rfl (fun w' hw' => ?_) ?_; rotate_left; (go_simp; first | done | with_reducible rfl); (try simp only [Act.put, List.setIfInBounds_toArray, List.set_cons_zero, List.set_cons_succ])))
    refine heldI_pass rfl rfl sd ?_
    simp only [Act.put, List.setIfInBounds_toArray, List.set_cons_zero, List.set_cons_succ]
    repeat (first | (refine heldI_skip rfl rfl ?_; simp only [Act.put, List.setIfInBounds_toArray, List.set_cons_zero, List.set_cons_succ]) | (refine heldI_take rfl ?_ rfl (fun w' hw' => ?_) ?_; rotate_left; (go_simp; first | done | with_reducible rfl); (try simp only [Act.put, List.setIfInBounds_toArray, List.set_cons_zero, List.set_cons_succ])))
    obtain ⟨wz, HWZ, sz, N0, N1, N2, N3, Z1, HZ⟩ := wread_end (w := w) (g1 := w.heap.size + 1) (S := Two w.heap.size g9 oX oM) HG1.out HBD.out (by omega) (fun wx hk => ⟨(hk _ (by omega)).trans sd.1, (hk _ (by omega)).trans sd.2⟩) a b c D
    have okf : (readMark s).2 = false := by rw [HOK.out]; simp [e0]
    clear sd
    refine heldI_act rfl rfl fun K hK => ?_
    go_simp
    rw [← HWZ.out]
    refine hK.out _ _ sz ?_
    clear hK K
    repeat (first | (refine heldI_skip rfl rfl ?_; simp only [Act.put, List.setIfInBounds_toArray, List.set_cons_zero, List.set_cons_succ]) | (refine heldI_take rfl ?_ rfl (fun w' hw' => ?_) ?_; rotate_left; (go_simp; first | done | with_reducible rfl); (try simp only [Act.put, List.setIfInBounds_toArray, List.set_cons_zero, List.set_cons_succ])))
    refine heldI_nil ?_
    go_wp2_with fail
    refine bodyPost_ret (v := .tuple #[.agg #[.int .i64 a, .int .i64 b, .int .i64 c, .int .u32 D], .bool false]) ?_ rfl ?_
    · exact results_ctM (p := 2) (u := 3) (tp := 83) rfl _ _ (w.heap.size + 1) _ _ _ _ rfl HZ.out.1 Tryd.underlying83 rfl size_mark
    · rw [HMK.out]
      try rw [okf]
      exact ⟨rfl, HZ.out.2⟩
end Go.Proofs.YtaijompnohkmaaaDoor
