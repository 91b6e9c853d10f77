/- Layer 5 (wal): the fixed fact, walked. -/
import Derived.Test.YtaijompnohkmaaaDoorMK
import Derived.StillTailTactics
namespace Go.Proofs.YtaijompnohkmaaaDoor
open Go.RowKit WalP PackP
set_option maxRecDepth 100000 in
set_option maxHeartbeats 8000000 in
theorem walAlive_any (w : World) (ht : TabAt w) (hT : 0 < w.heap.size) :
    Calls Tryd.prog 9 #[] w fun e w' => e = .returned (.bool true) ∧ Below w.heap.size w w' := by
  obtain ⟨d1, d2, d3, hp1, hp2, hp3, hp4⟩ := alive_plain
  have HP1 := Lib.hid hp1
  have HP2 := Lib.hid hp2
  have HP3 := Lib.hid hp3
  have HP4 := Lib.hid hp4
  have HT := Lib.hid ht
  clear hp1 hp2 hp3 hp4 ht
  have kn := refnew_any 20 w
  obtain ⟨d0, hd0⟩ : ∃ d, d = (newP 20).1 := ⟨_, rfl⟩
  rw [← hd0, show (newP 20).2 = 0 from rfl] at kn
  have HD0 := Lib.hid hd0
  rw [← hd0] at HP1
  clear hd0
  have hgL : Tryd.prog.eqGuardType Tryd.prog.depth 27 = false := by kernel_rfl
  go_enter Tryd.func9, Tryd.ntmps9
  go_wp2_with fail
  refine kn.mono ?_
  rintro e w1 ⟨⟨v1, rfl, hd1⟩, hb1⟩
  clear kn
  obtain ⟨p1, q1, p2, q2, rfl, _, _⟩ := hd1.parts
  obtain ⟨w2, D, HW2, HG2, hD2, hb2, lt2, le2⟩ := fresh_disk w1
  obtain ⟨w3, x0, x1, x2, x3, HW3, ⟨C0, C1, C2, C3, Z⟩, HX3⟩ := pack_disk hD2 (hd1.below hb2).tight
  go_wp2_with (with_reducible refine wp_alloc_to (w' := w2) 25 rfl rfl (zero_disk _) HW2.out ?_; refine Halt.in ?_)
  refine Halt.out ?_
  rw [← HG2.out]
  go_upto_region 2 with (fail)
  rw [← HW3.out]
  clear C0 C1 C2 C3 Z hd1 hD2
  obtain ⟨hD3, hz3, _, hbb3⟩ := HX3.out
  have hb03 := hbb3 w.heap.size w (hb1.trans (hb2.mono hb1.size)) (Nat.le_trans hb1.size le2)
  have hDw : w.heap.size ≤ D := Nat.le_trans hb1.size le2
  clear hz3 hbb3 HX3 HW3 hb1 hb2 lt2 le2
  obtain ⟨w4, g4, HW4, HG4, hb4, hp4⟩ := one_rec w3
  have hD4 := hD3.below hb4
  have hb04 := hb03.trans (hb4.mono hb03.size)
  obtain ⟨a, n, b, m, T, hv⟩ := id hD3
  obtain ⟨C0, C1, C2, C3, _⟩ := Four.of T
  clear T
  have kf := format_any _ _ d0 [[1]] w4 (hv.below hb4).tight hp4 (HT.out.below hb04 hT) (Nat.lt_of_lt_of_le hT hb04.size) (fun b hb => by rw [List.mem_singleton.1 hb]; decide) (by decide)
  rw [HP1.out] at kf
  unfold DLE at kf
  simp only [logV] at kf
  clear hv
  go_wp2_with fail
  rw [← HW4.out, ← HG4.out]
  refine kf.mono ?_
  rintro e w5 ⟨⟨v5, rfl, hd5⟩, hb5⟩
  clear kf C0 C1 C2 C3
  obtain ⟨p3, q3, p4, q4, rfl, _, _⟩ := hd5.parts
  obtain ⟨w6, L, HW6, HG6, hL6, hb6, lt6, le6⟩ := fresh_log w5
  have hb46 := hb5.trans (hb6.mono hb5.size)
  have hD6 := hD4.below hb46
  have hDL : D ≠ L := by have := hD4.lt; have := hb5.size; omega
  have hLw : w.heap.size ≤ L := Nat.le_trans (Nat.le_trans hb04.size hb5.size) le6
  obtain ⟨w7, x0, x1, x2, x3, hw7, ⟨C0, C1, C2, C3, Z⟩, ⟨N0, N1, N2, N3, Y⟩, HX7⟩ := pack_store ⟨0, 1, 2, 1⟩ hD6 hL6 (hd5.below hb6).tight hDL
  have hw7 := hw7.out
  dsimp only at hw7
  have HW7 := Lib.hid hw7
  clear hw7
  go_wp2_with (with_reducible refine wp_alloc_to (w' := w6) 27 rfl rfl (zero_log _) HW6.out ?_; refine Halt.in ?_)
  refine Halt.out ?_
  rw [← HG6.out]
  go_upto_region 3 with (fail)
  rw [← HW7.out]
  clear C0 C1 C2 C3 Z N0 N1 N2 N3 Y hd5 hD6 hL6 hD4 hD3 hp4
  obtain ⟨hD7, hL7, hz7, hk7, hbb7⟩ := HX7.out
  have hb07 := hbb7 w.heap.size w (hb04.trans (hb46.mono hb04.size)) hDw hLw
  clear hz7 hk7 hbb7 HX7 HW7 hb03 hb04 hb46 hb5 hb6 lt6 le6 hb4
  obtain ⟨a, n, b, m, T, hv⟩ := id hD7
  obtain ⟨C0, C1, C2, C3, _⟩ := Four.of T
  clear T
  obtain ⟨N0, N1, N2, N3, _⟩ := hL7.four
  dsimp only at N0 N1 N2 N3
  have hbx : Below w7.heap.size w7 (w7.alloc (.cells #[.int .u8 116, .int .u8 119, .int .u8 111] 5)) := Below.alloc (Below.refl _ _) (Nat.le_refl _) _
  obtain ⟨w8, hcv, hA8, hb8, hs8, _⟩ := conv_mark (heap_alloc_new w7 (.cells #[.int .u8 116, .int .u8 119, .int .u8 111] 5)) 3 3
  have hb78 : Below w7.heap.size w7 w8 := hbx.trans (hb8.mono (Nat.le_refl _))
  have hby8 : Bytes w8.heap.size w8 (.slice (some ⟨w7.heap.size, 0, none⟩) 3 3) [116, 119, 111] := by
    refine ⟨rfl, _, 3, rfl, Nat.le_refl _, by decide, fun _ => ⟨_, 0, rfl, block_lt hA8, fun k u hk => ?_⟩⟩
    rw [cell_of_row w8 _ (0 + k) _ _ _ hA8, Nat.zero_add]
    rw [show u8s [116, 119, 111] = [.int .u8 116, .int .u8 119, .int .u8 111] from rfl] at hk
    simpa using hk
  have hb08 := hb07.trans (hb78.mono hb07.size)
  have kp := append_any _ _ d1 ⟨0, 1, 2, 1⟩ [116, 119, 111] w8 (hv.below hb78).tight hby8 (by decide) (HT.out.below hb08 hT) (Nat.lt_of_lt_of_le hT hb08.size)
  rw [HP2.out] at kp
  unfold DLE at kp
  simp only [logV] at kp
  have hD8 := hD7.below hb78
  have hL8 := hL7.below hb78
  clear hv hby8 hA8 hb8 hs8 hbx
  go_wp2_with fail
  refine kp.mono ?_
  rintro e w9 ⟨⟨v9, rfl, hd9⟩, hb9⟩
  clear kp hcv C0 C1 C2 C3 N0 N1 N2 N3
  obtain ⟨p3, q3, p4, q4, rfl, _, _⟩ := hd9.parts
  have hb09 := hb08.trans (hb9.mono hb08.size)
  obtain ⟨w10, x0, x1, x2, x3, hw10, ⟨C0, C1, C2, C3, Z⟩, ⟨N0, N1, N2, N3, Y⟩, HX10⟩ := pack_store ⟨0, 1, 4, 2⟩ (hD8.below hb9) (hL8.below hb9) hd9 hDL
  have hw10 := hw10.out
  dsimp only at hw10
  have HW10 := Lib.hid hw10
  clear hw10 hd9 hD8 hL8 hD7 hL7
  go_upto_region 4 with (fail)
  rw [← HW10.out]
  clear C0 C1 C2 C3 Z N0 N1 N2 N3 Y
  obtain ⟨hD10, hL10, hz10, hk10, hbb10⟩ := HX10.out
  have hb010 := hbb10 w.heap.size w hb09 hDw hLw
  clear hz10 hk10 hbb10 HX10 HW10 hb09 hb9 hb08 hb07 hb78
  obtain ⟨a, n, b, m, T, hv⟩ := id hD10
  obtain ⟨C0, C1, C2, C3, _⟩ := Four.of T
  clear T
  have hDlt := hD10.lt
  have hLlt := hL10.lt
  have ko := open_any _ d2 w10 hv (HT.out.below hb010 hT) (Nat.lt_of_lt_of_le hT hb010.size)
  rw [HP3.out] at ko
  unfold OpenE at ko
  simp only [logV] at ko
  clear hv
  go_wp2_with fail
  refine ko.mono ?_
  rintro e w11 ⟨⟨v11, lv11, rfl, hd11, hp11⟩, hb11⟩
  clear ko C0 C1 C2 C3
  obtain ⟨p3, q3, p4, q4, rfl, _, _⟩ := hd11.parts
  have hb011 := hb010.trans (hb11.mono hb010.size)
  obtain ⟨w12, x0, x1, x2, x3, hw12, ⟨C0, C1, C2, C3, Z⟩, ⟨N0, N1, N2, N3, Y⟩, HX12⟩ := pack_store ⟨1, 2, 4, 2⟩ (hD10.below hb11) (hL10.below hb11) hd11 hDL
  have hw12 := hw12.out
  dsimp only at hw12
  have HW12 := Lib.hid hw12
  clear hw12 hd11 hD10 hL10
  have HP11 := Lib.hid (show PiecesS (fun b => w10.heap.size ≤ b) w11.heap.size w11 lv11 [[1], [116, 119, 111]] from hp11)
  obtain ⟨ax, cx, rfl⟩ : ∃ a c, lv11 = .slice a 2 c := by
    obtain ⟨_, ⟨_, a, c, h, _⟩, _⟩ := hp11
    exact ⟨a, c, h⟩
  clear hp11
  go_upto_region 5 with (fail)
  rw [← HW12.out]
  clear C0 C1 C2 C3 Z N0 N1 N2 N3 Y
  obtain ⟨hD12, hL12, hz12, hk12, hbb12⟩ := HX12.out
  have hb012 := hbb12 w.heap.size w hb011 hDw hLw
  have HP12 := Lib.hid (HP11.out.keep (w' := w12) (fun k h1 h2 => hk12 k (by omega) (by omega))).tight
  clear hz12 hbb12 HX12 HW12 hb011 hb11 hb010 hDlt hLlt
  go_cut [10] from 39 to 46 (fun s10 wx => s10 = .int .i64 8 ∧ Below w12.heap.size w12 wx)
  case first =>
    obtain ⟨a, n, b, m, T, hv⟩ := id hD12
    have L0 := fun w' (h : Below w12.heap.size w12 w') => cell_of_row w' _ 0 _ _ _ ((h.block _ (block_lt T)).trans T)
    have L1 := fun w' (h : Below w12.heap.size w12 w') => cell_of_row w' _ 1 _ _ _ ((h.block _ (block_lt T)).trans T)
    have L2 := fun w' (h : Below w12.heap.size w12 w') => cell_of_row w' _ 2 _ _ _ ((h.block _ (block_lt T)).trans T)
    have L3 := fun w' (h : Below w12.heap.size w12 w') => cell_of_row w' _ 3 _ _ _ ((h.block _ (block_lt T)).trans T)
    clear T
    have T := hL12
    unfold LAt at T
    dsimp only at T
    have M0 := fun w' (h : Below w12.heap.size w12 w') => cell_of_row w' _ 0 _ _ _ ((h.block _ (block_lt T)).trans T)
    have M1 := fun w' (h : Below w12.heap.size w12 w') => cell_of_row w' _ 1 _ _ _ ((h.block _ (block_lt T)).trans T)
    have M2 := fun w' (h : Below w12.heap.size w12 w') => cell_of_row w' _ 2 _ _ _ ((h.block _ (block_lt T)).trans T)
    have M3 := fun w' (h : Below w12.heap.size w12 w') => cell_of_row w' _ 3 _ _ _ ((h.block _ (block_lt T)).trans T)
    clear T
    have s0 : Below w12.heap.size w12 w12.drew := below_draws (Below.refl _ _) 1
    clear hk12
    refine wp_region_start (fun w' => Below w12.heap.size w12 w') (by kernel_rfl) s0 ?_
    obtain ⟨wd, hwd⟩ : ∃ wd, wd = w12.drew := ⟨_, rfl⟩
    rw [← hwd] at s0 ⊢
    clear hwd
    refine wpAnyH_part [(false, 0), (false, 1)] (by kernel_rfl) s0 ?_
    repeat (first | (refine heldI_skip rfl rfl ?_; simp only [Act.put, List.setIfInBounds_toArray, List.set_cons_zero, List.set_cons_succ]) | (refine heldI_take rfl ?_ rfl (fun w' hw' => ?_) ?_; rotate_left; (go_simp; first | done | with_reducible rfl); (try simp only [Act.put, List.setIfInBounds_toArray, List.set_cons_zero, List.set_cons_succ])))
    refine heldI_nil ?_
    refine wpAnyH_ready (rs := [2, 8, 9]) (by kernel_rfl) (by simp) ?_
    refine ready_cons rfl rfl (fun K hK => ?_) (ready_cons rfl rfl (fun K hK => ?_) (ready_cons rfl rfl (fun K hK => ?_) AllReadyH.nil))
    · skip
      obtain ⟨wt1, gm, hmk, hb, hby⟩ := make500 wd
      have st1 := s0.trans (hb.mono s0.size)
      go_simp
      refine hK.out _ _ st1 ?_
      clear hK K hmk hb
      refine wpAnyH_ready (rs := [3, 8, 9]) (by kernel_rfl) (by simp) ?_
      refine ready_cons rfl rfl (fun K hK => ?_) (ready_cons rfl rfl (fun K hK => ?_) (ready_cons rfl rfl (fun K hK => ?_) AllReadyH.nil))
      · skip
        have kc := append_any _ _ d3 ⟨1, 2, 4, 2⟩ (List.replicate 500 0) wt1 (hv.below st1).tight hby (by decide) (HT.out.below (hb012.trans (st1.mono hb012.size)) hT) (Nat.lt_of_lt_of_le hT (Nat.le_trans hb012.size st1.size))
        rw [HP4.out] at kc
        unfold DLE at kc
        simp only [logV] at kc
        go_simp
        refine kc.mono ?_
        rintro e wt2 ⟨⟨vr, rfl, hdr⟩, hb⟩
        clear kc
        obtain ⟨r1, r2, r3, r4, rfl, _, _⟩ := hdr.parts
        have st2 := st1.trans (hb.mono st1.size)
        refine hK.out _ _ st2 ?_
        clear hK K hb hby
        refine wpAnyH_part [(false, 4), (false, 5), (false, 6), (false, 7)] (by kernel_rfl) st2 ?_
        repeat (first | (refine heldI_skip rfl rfl ?_; simp only [Act.put, List.setIfInBounds_toArray, List.set_cons_zero, List.set_cons_succ]) | (refine heldI_take rfl ?_ rfl (fun w' hw' => ?_) ?_; rotate_left; (go_simp; first | done | with_reducible rfl); (try simp only [Act.put, List.setIfInBounds_toArray, List.set_cons_zero, List.set_cons_succ])))
        refine heldI_nil ?_
        refine wpAnyH_ready (rs := [8, 9]) (by kernel_rfl) (by simp) ?_
        refine ready_cons rfl rfl (fun K hK => ?_) (ready_cons rfl rfl (fun K hK => ?_) AllReadyH.nil)
        · skip
          obtain ⟨wt3, ga, hw, hg, hga, hb, hlt, hle⟩ := fresh_disk wt2
          have st3 := st2.trans (hb.mono st2.size)
          have lga := Nat.le_trans st2.size hle
          have hdr := (hdr.below hb).tight
          have ltga := hlt
          refine op_alloc 25 rfl (zero_disk _) hw.out ?_
          rw [← hg.out]
          refine hK.out _ _ st3 ?_
          clear hK K hw hg hb hlt hle
          simp only [Act.put, List.setIfInBounds_toArray, List.set_cons_zero, List.set_cons_succ]
          refine wpAnyH_ready (rs := [9]) (by kernel_rfl) (by simp) ?_
          refine ready_cons rfl rfl (fun K hK => ?_) AllReadyH.nil
          · skip
            obtain ⟨wt4, gb, hw, hg, hgb, hb, hlt, hle⟩ := fresh_log wt3
            have st4 := st3.trans (hb.mono st3.size)
            have lgb := Nat.le_trans st3.size hle
            have hga := hga.below hb
            have ngagb : ga ≠ gb := Nat.ne_of_lt (Nat.lt_of_lt_of_le ltga hle)
            have ltga := Nat.lt_trans ltga (Nat.lt_of_le_of_lt hle hlt)
            have hdr := (hdr.below hb).tight
            have ltgb := hlt
            refine op_alloc 27 rfl (zero_log _) hw.out ?_
            rw [← hg.out]
            refine hK.out _ _ st4 ?_
            clear hK K hw hg hb hlt hle
            simp only [Act.put, List.setIfInBounds_toArray, List.set_cons_zero, List.set_cons_succ]
            refine wpAnyH_end [(true, 10), (true, 11), (false, 12)] (by kernel_rfl) st4 ?_
            obtain ⟨_, _, _, _, hrA⟩ := hga.row
            obtain ⟨wx, hst, _, hbx, hzx, hkx, _⟩ := storeBig info_disk hrA rfl #[.slice r1 d3.secs.length r2, .slice r3 d3.loose.length r4, .int .i64 d3.fuse, .bool d3.down] rfl (ones4 rfl rfl rfl rfl)
            have sx : Below w12.heap.size w12 wx := st4.trans (hbx.mono (Nat.le_trans (Nat.le_refl _) lga))
            refine heldI_act rfl rfl fun K hK => ?_
            refine op_store (.tmp 8) (.tmp 44) 25 rfl rfl rfl hst ?_
            refine hK.out _ _ sx ?_
            clear hK K hst
            simp only [Act.put, List.setIfInBounds_toArray, List.set_cons_zero, List.set_cons_succ]
            have hrB : wx.heap[gb]? = _ := (hkx gb (Ne.symm (ngagb))).trans hgb
            obtain ⟨wy, hst, _, hby2, hzy, hky, _⟩ := storeBig info_log hrB rfl #[.int .i64 1, .int .i64 2, .int .i64 4, .int .i64 2] rfl (ones4 rfl rfl rfl rfl)
            have sy : Below w12.heap.size w12 wy := sx.trans (hby2.mono lgb)
            refine heldI_act rfl rfl fun K hK => ?_
            refine op_store (.tmp 9) (.tmp 45) 27 rfl rfl rfl hst ?_
            refine hK.out _ _ sy ?_
            clear hK K hst
            simp only [Act.put, List.setIfInBounds_toArray, List.set_cons_zero, List.set_cons_succ]
            repeat (first | (refine heldI_skip rfl rfl ?_; simp only [Act.put, List.setIfInBounds_toArray, List.set_cons_zero, List.set_cons_succ]) | (refine heldI_take rfl ?_ rfl (fun w' hw' => ?_) ?_; rotate_left; (go_simp; first | done | with_reducible rfl); (try simp only [Act.put, List.setIfInBounds_toArray, List.set_cons_zero, List.set_cons_succ])))
            refine heldI_nil ?_
            clear hzx hkx hzy hky hrA hrB
            go_wp2_with fail
            go_meet
            case rel => exact ⟨rfl, sy⟩
        · skip
          obtain ⟨wt5, gb, hw, hg, hgb, hb, hlt, hle⟩ := fresh_log wt2
          have st5 := st2.trans (hb.mono st2.size)
          have lgb := Nat.le_trans st2.size hle
          have hdr := (hdr.below hb).tight
          have ltgb := hlt
          refine op_alloc 27 rfl (zero_log _) hw.out ?_
          rw [← hg.out]
          refine hK.out _ _ st5 ?_
          clear hK K hw hg hb hlt hle
          simp only [Act.put, List.setIfInBounds_toArray, List.set_cons_zero, List.set_cons_succ]
          refine wpAnyH_ready (rs := [8]) (by kernel_rfl) (by simp) ?_
          refine ready_cons rfl rfl (fun K hK => ?_) AllReadyH.nil
          · skip
            obtain ⟨wt6, ga, hw, hg, hga, hb, hlt, hle⟩ := fresh_disk wt5
            have st6 := st5.trans (hb.mono st5.size)
            have lga := Nat.le_trans st5.size hle
            have hgb := hgb.below hb
            have ngbga : gb ≠ ga := Nat.ne_of_lt (Nat.lt_of_lt_of_le ltgb hle)
            have ltgb := Nat.lt_trans ltgb (Nat.lt_of_le_of_lt hle hlt)
            have hdr := (hdr.below hb).tight
            have ltga := hlt
            refine op_alloc 25 rfl (zero_disk _) hw.out ?_
            rw [← hg.out]
            refine hK.out _ _ st6 ?_
            clear hK K hw hg hb hlt hle
            simp only [Act.put, List.setIfInBounds_toArray, List.set_cons_zero, List.set_cons_succ]
            refine wpAnyH_end [(true, 10), (true, 11), (false, 12)] (by kernel_rfl) st6 ?_
            obtain ⟨_, _, _, _, hrA⟩ := hga.row
            obtain ⟨wx, hst, _, hbx, hzx, hkx, _⟩ := storeBig info_disk hrA rfl #[.slice r1 d3.secs.length r2, .slice r3 d3.loose.length r4, .int .i64 d3.fuse, .bool d3.down] rfl (ones4 rfl rfl rfl rfl)
            have sx : Below w12.heap.size w12 wx := st6.trans (hbx.mono (Nat.le_trans (Nat.le_refl _) lga))
            refine heldI_act rfl rfl fun K hK => ?_
            refine op_store (.tmp 8) (.tmp 44) 25 rfl rfl rfl hst ?_
            refine hK.out _ _ sx ?_
            clear hK K hst
            simp only [Act.put, List.setIfInBounds_toArray, List.set_cons_zero, List.set_cons_succ]
            have hrB : wx.heap[gb]? = _ := (hkx gb (Ne.symm (Ne.symm ngbga))).trans hgb
            obtain ⟨wy, hst, _, hby2, hzy, hky, _⟩ := storeBig info_log hrB rfl #[.int .i64 1, .int .i64 2, .int .i64 4, .int .i64 2] rfl (ones4 rfl rfl rfl rfl)
            have sy : Below w12.heap.size w12 wy := sx.trans (hby2.mono lgb)
            refine heldI_act rfl rfl fun K hK => ?_
            refine op_store (.tmp 9) (.tmp 45) 27 rfl rfl rfl hst ?_
            refine hK.out _ _ sy ?_
            clear hK K hst
            simp only [Act.put, List.setIfInBounds_toArray, List.set_cons_zero, List.set_cons_succ]
            repeat (first | (refine heldI_skip rfl rfl ?_; simp only [Act.put, List.setIfInBounds_toArray, List.set_cons_zero, List.set_cons_succ]) | (refine heldI_take rfl ?_ rfl (fun w' hw' => ?_) ?_; rotate_left; (go_simp; first | done | with_reducible rfl); (try simp only [Act.put, List.setIfInBounds_toArray, List.set_cons_zero, List.set_cons_succ])))
            refine heldI_nil ?_
            clear hzx hkx hzy hky hrA hrB
            go_wp2_with fail
            go_meet
            case rel => exact ⟨rfl, sy⟩
      · skip
        obtain ⟨wt7, ga, hw, hg, hga, hb, hlt, hle⟩ := fresh_disk wt1
        have st7 := st1.trans (hb.mono st1.size)
        have lga := Nat.le_trans st1.size hle
        have hby := (hby.below hb).tight
        have ltga := hlt
        refine op_alloc 25 rfl (zero_disk _) hw.out ?_
        rw [← hg.out]
        refine hK.out _ _ st7 ?_
        clear hK K hw hg hb hlt hle
        simp only [Act.put, List.setIfInBounds_toArray, List.set_cons_zero, List.set_cons_succ]
        refine wpAnyH_ready (rs := [3, 9]) (by kernel_rfl) (by simp) ?_
        refine ready_cons rfl rfl (fun K hK => ?_) (ready_cons rfl rfl (fun K hK => ?_) AllReadyH.nil)
        · skip
          have kc := append_any _ _ d3 ⟨1, 2, 4, 2⟩ (List.replicate 500 0) wt7 (hv.below st7).tight hby (by decide) (HT.out.below (hb012.trans (st7.mono hb012.size)) hT) (Nat.lt_of_lt_of_le hT (Nat.le_trans hb012.size st7.size))
          rw [HP4.out] at kc
          unfold DLE at kc
          simp only [logV] at kc
          go_simp
          refine kc.mono ?_
          rintro e wt8 ⟨⟨vr, rfl, hdr⟩, hb⟩
          clear kc
          obtain ⟨r1, r2, r3, r4, rfl, _, _⟩ := hdr.parts
          have st8 := st7.trans (hb.mono st7.size)
          have hga := hga.below hb
          have ltga := Nat.lt_of_lt_of_le ltga hb.size
          refine hK.out _ _ st8 ?_
          clear hK K hb hby
          refine wpAnyH_part [(false, 4), (false, 5), (false, 6), (false, 7)] (by kernel_rfl) st8 ?_
          repeat (first | (refine heldI_skip rfl rfl ?_; simp only [Act.put, List.setIfInBounds_toArray, List.set_cons_zero, List.set_cons_succ]) | (refine heldI_take rfl ?_ rfl (fun w' hw' => ?_) ?_; rotate_left; (go_simp; first | done | with_reducible rfl); (try simp only [Act.put, List.setIfInBounds_toArray, List.set_cons_zero, List.set_cons_succ])))
          refine heldI_nil ?_
          refine wpAnyH_ready (rs := [9]) (by kernel_rfl) (by simp) ?_
          refine ready_cons rfl rfl (fun K hK => ?_) AllReadyH.nil
          · skip
            obtain ⟨wt9, gb, hw, hg, hgb, hb, hlt, hle⟩ := fresh_log wt8
            have st9 := st8.trans (hb.mono st8.size)
            have lgb := Nat.le_trans st8.size hle
            have hga := hga.below hb
            have ngagb : ga ≠ gb := Nat.ne_of_lt (Nat.lt_of_lt_of_le ltga hle)
            have ltga := Nat.lt_trans ltga (Nat.lt_of_le_of_lt hle hlt)
            have hdr := (hdr.below hb).tight
            have ltgb := hlt
            refine op_alloc 27 rfl (zero_log _) hw.out ?_
            rw [← hg.out]
            refine hK.out _ _ st9 ?_
            clear hK K hw hg hb hlt hle
            simp only [Act.put, List.setIfInBounds_toArray, List.set_cons_zero, List.set_cons_succ]
            refine wpAnyH_end [(true, 10), (true, 11), (false, 12)] (by kernel_rfl) st9 ?_
            obtain ⟨_, _, _, _, hrA⟩ := hga.row
            obtain ⟨wx, hst, _, hbx, hzx, hkx, _⟩ := storeBig info_disk hrA rfl #[.slice r1 d3.secs.length r2, .slice r3 d3.loose.length r4, .int .i64 d3.fuse, .bool d3.down] rfl (ones4 rfl rfl rfl rfl)
            have sx : Below w12.heap.size w12 wx := st9.trans (hbx.mono (Nat.le_trans (Nat.le_refl _) lga))
            refine heldI_act rfl rfl fun K hK => ?_
            refine op_store (.tmp 8) (.tmp 44) 25 rfl rfl rfl hst ?_
            refine hK.out _ _ sx ?_
            clear hK K hst
            simp only [Act.put, List.setIfInBounds_toArray, List.set_cons_zero, List.set_cons_succ]
            have hrB : wx.heap[gb]? = _ := (hkx gb (Ne.symm (ngagb))).trans hgb
            obtain ⟨wy, hst, _, hby2, hzy, hky, _⟩ := storeBig info_log hrB rfl #[.int .i64 1, .int .i64 2, .int .i64 4, .int .i64 2] rfl (ones4 rfl rfl rfl rfl)
            have sy : Below w12.heap.size w12 wy := sx.trans (hby2.mono lgb)
            refine heldI_act rfl rfl fun K hK => ?_
            refine op_store (.tmp 9) (.tmp 45) 27 rfl rfl rfl hst ?_
            refine hK.out _ _ sy ?_
            clear hK K hst
            simp only [Act.put, List.setIfInBounds_toArray, List.set_cons_zero, List.set_cons_succ]
            repeat (first | (refine heldI_skip rfl rfl ?_; simp only [Act.put, List.setIfInBounds_toArray, List.set_cons_zero, List.set_cons_succ]) | (refine heldI_take rfl ?_ rfl (fun w' hw' => ?_) ?_; rotate_left; (go_simp; first | done | with_reducible rfl); (try simp only [Act.put, List.setIfInBounds_toArray, List.set_cons_zero, List.set_cons_succ])))
            refine heldI_nil ?_
            clear hzx hkx hzy hky hrA hrB
            go_wp2_with fail
            go_meet
            case rel => exact ⟨rfl, sy⟩
        · skip
          obtain ⟨wt10, gb, hw, hg, hgb, hb, hlt, hle⟩ := fresh_log wt7
          have st10 := st7.trans (hb.mono st7.size)
          have lgb := Nat.le_trans st7.size hle
          have hga := hga.below hb
          have ngagb : ga ≠ gb := Nat.ne_of_lt (Nat.lt_of_lt_of_le ltga hle)
          have ltga := Nat.lt_trans ltga (Nat.lt_of_le_of_lt hle hlt)
          have hby := (hby.below hb).tight
          have ltgb := hlt
          refine op_alloc 27 rfl (zero_log _) hw.out ?_
          rw [← hg.out]
          refine hK.out _ _ st10 ?_
          clear hK K hw hg hb hlt hle
          simp only [Act.put, List.setIfInBounds_toArray, List.set_cons_zero, List.set_cons_succ]
          refine wpAnyH_ready (rs := [3]) (by kernel_rfl) (by simp) ?_
          refine ready_cons rfl rfl (fun K hK => ?_) AllReadyH.nil
          · skip
            have kc := append_any _ _ d3 ⟨1, 2, 4, 2⟩ (List.replicate 500 0) wt10 (hv.below st10).tight hby (by decide) (HT.out.below (hb012.trans (st10.mono hb012.size)) hT) (Nat.lt_of_lt_of_le hT (Nat.le_trans hb012.size st10.size))
            rw [HP4.out] at kc
            unfold DLE at kc
            simp only [logV] at kc
            go_simp
            refine kc.mono ?_
            rintro e wt11 ⟨⟨vr, rfl, hdr⟩, hb⟩
            clear kc
            obtain ⟨r1, r2, r3, r4, rfl, _, _⟩ := hdr.parts
            have st11 := st10.trans (hb.mono st10.size)
            have hga := hga.below hb
            have ltga := Nat.lt_of_lt_of_le ltga hb.size
            have hgb := hgb.below hb
            have ltgb := Nat.lt_of_lt_of_le ltgb hb.size
            refine hK.out _ _ st11 ?_
            clear hK K hb hby
            refine wpAnyH_part [(false, 4), (false, 5), (false, 6), (false, 7)] (by kernel_rfl) st11 ?_
            repeat (first | (refine heldI_skip rfl rfl ?_; simp only [Act.put, List.setIfInBounds_toArray, List.set_cons_zero, List.set_cons_succ]) | (refine heldI_take rfl ?_ rfl (fun w' hw' => ?_) ?_; rotate_left; (go_simp; first | done | with_reducible rfl); (try simp only [Act.put, List.setIfInBounds_toArray, List.set_cons_zero, List.set_cons_succ])))
            refine heldI_nil ?_
            refine wpAnyH_end [(true, 10), (true, 11), (false, 12)] (by kernel_rfl) st11 ?_
            obtain ⟨_, _, _, _, hrA⟩ := hga.row
            obtain ⟨wx, hst, _, hbx, hzx, hkx, _⟩ := storeBig info_disk hrA rfl #[.slice r1 d3.secs.length r2, .slice r3 d3.loose.length r4, .int .i64 d3.fuse, .bool d3.down] rfl (ones4 rfl rfl rfl rfl)
            have sx : Below w12.heap.size w12 wx := st11.trans (hbx.mono (Nat.le_trans (Nat.le_refl _) lga))
            refine heldI_act rfl rfl fun K hK => ?_
            refine op_store (.tmp 8) (.tmp 44) 25 rfl rfl rfl hst ?_
            refine hK.out _ _ sx ?_
            clear hK K hst
            simp only [Act.put, List.setIfInBounds_toArray, List.set_cons_zero, List.set_cons_succ]
            have hrB : wx.heap[gb]? = _ := (hkx gb (Ne.symm (ngagb))).trans hgb
            obtain ⟨wy, hst, _, hby2, hzy, hky, _⟩ := storeBig info_log hrB rfl #[.int .i64 1, .int .i64 2, .int .i64 4, .int .i64 2] rfl (ones4 rfl rfl rfl rfl)
            have sy : Below w12.heap.size w12 wy := sx.trans (hby2.mono lgb)
            refine heldI_act rfl rfl fun K hK => ?_
            refine op_store (.tmp 9) (.tmp 45) 27 rfl rfl rfl hst ?_
            refine hK.out _ _ sy ?_
            clear hK K hst
            simp only [Act.put, List.setIfInBounds_toArray, List.set_cons_zero, List.set_cons_succ]
            repeat (first | (refine heldI_skip rfl rfl ?_; simp only [Act.put, List.setIfInBounds_toArray, List.set_cons_zero, List.set_cons_succ]) | (refine heldI_take rfl ?_ rfl (fun w' hw' => ?_) ?_; rotate_left; (go_simp; first | done | with_reducible rfl); (try simp only [Act.put, List.setIfInBounds_toArray, List.set_cons_zero, List.set_cons_succ])))
            refine heldI_nil ?_
            clear hzx hkx hzy hky hrA hrB
            go_wp2_with fail
            go_meet
            case rel => exact ⟨rfl, sy⟩
      · skip
        obtain ⟨wt12, gb, hw, hg, hgb, hb, hlt, hle⟩ := fresh_log wt1
        have st12 := st1.trans (hb.mono st1.size)
        have lgb := Nat.le_trans st1.size hle
        have hby := (hby.below hb).tight
        have ltgb := hlt
        refine op_alloc 27 rfl (zero_log _) hw.out ?_
        rw [← hg.out]
        refine hK.out _ _ st12 ?_
        clear hK K hw hg hb hlt hle
        simp only [Act.put, List.setIfInBounds_toArray, List.set_cons_zero, List.set_cons_succ]
        refine wpAnyH_ready (rs := [3, 8]) (by kernel_rfl) (by simp) ?_
        refine ready_cons rfl rfl (fun K hK => ?_) (ready_cons rfl rfl (fun K hK => ?_) AllReadyH.nil)
        · skip
          have kc := append_any _ _ d3 ⟨1, 2, 4, 2⟩ (List.replicate 500 0) wt12 (hv.below st12).tight hby (by decide) (HT.out.below (hb012.trans (st12.mono hb012.size)) hT) (Nat.lt_of_lt_of_le hT (Nat.le_trans hb012.size st12.size))
          rw [HP4.out] at kc
          unfold DLE at kc
          simp only [logV] at kc
          go_simp
          refine kc.mono ?_
          rintro e wt13 ⟨⟨vr, rfl, hdr⟩, hb⟩
          clear kc
          obtain ⟨r1, r2, r3, r4, rfl, _, _⟩ := hdr.parts
          have st13 := st12.trans (hb.mono st12.size)
          have hgb := hgb.below hb
          have ltgb := Nat.lt_of_lt_of_le ltgb hb.size
          refine hK.out _ _ st13 ?_
          clear hK K hb hby
          refine wpAnyH_part [(false, 4), (false, 5), (false, 6), (false, 7)] (by kernel_rfl) st13 ?_
          repeat (first | (refine heldI_skip rfl rfl ?_; simp only [Act.put, List.setIfInBounds_toArray, List.set_cons_zero, List.set_cons_succ]) | (refine heldI_take rfl ?_ rfl (fun w' hw' => ?_) ?_; rotate_left; (go_simp; first | done | with_reducible rfl); (try simp only [Act.put, List.setIfInBounds_toArray, List.set_cons_zero, List.set_cons_succ])))
          refine heldI_nil ?_
          refine wpAnyH_ready (rs := [8]) (by kernel_rfl) (by simp) ?_
          refine ready_cons rfl rfl (fun K hK => ?_) AllReadyH.nil
          · skip
            obtain ⟨wt14, ga, hw, hg, hga, hb, hlt, hle⟩ := fresh_disk wt13
            have st14 := st13.trans (hb.mono st13.size)
            have lga := Nat.le_trans st13.size hle
            have hgb := hgb.below hb
            have ngbga : gb ≠ ga := Nat.ne_of_lt (Nat.lt_of_lt_of_le ltgb hle)
            have ltgb := Nat.lt_trans ltgb (Nat.lt_of_le_of_lt hle hlt)
            have hdr := (hdr.below hb).tight
            have ltga := hlt
            refine op_alloc 25 rfl (zero_disk _) hw.out ?_
            rw [← hg.out]
            refine hK.out _ _ st14 ?_
            clear hK K hw hg hb hlt hle
            simp only [Act.put, List.setIfInBounds_toArray, List.set_cons_zero, List.set_cons_succ]
            refine wpAnyH_end [(true, 10), (true, 11), (false, 12)] (by kernel_rfl) st14 ?_
            obtain ⟨_, _, _, _, hrA⟩ := hga.row
            obtain ⟨wx, hst, _, hbx, hzx, hkx, _⟩ := storeBig info_disk hrA rfl #[.slice r1 d3.secs.length r2, .slice r3 d3.loose.length r4, .int .i64 d3.fuse, .bool d3.down] rfl (ones4 rfl rfl rfl rfl)
            have sx : Below w12.heap.size w12 wx := st14.trans (hbx.mono (Nat.le_trans (Nat.le_refl _) lga))
            refine heldI_act rfl rfl fun K hK => ?_
            refine op_store (.tmp 8) (.tmp 44) 25 rfl rfl rfl hst ?_
            refine hK.out _ _ sx ?_
            clear hK K hst
            simp only [Act.put, List.setIfInBounds_toArray, List.set_cons_zero, List.set_cons_succ]
            have hrB : wx.heap[gb]? = _ := (hkx gb (Ne.symm (Ne.symm ngbga))).trans hgb
            obtain ⟨wy, hst, _, hby2, hzy, hky, _⟩ := storeBig info_log hrB rfl #[.int .i64 1, .int .i64 2, .int .i64 4, .int .i64 2] rfl (ones4 rfl rfl rfl rfl)
            have sy : Below w12.heap.size w12 wy := sx.trans (hby2.mono lgb)
            refine heldI_act rfl rfl fun K hK => ?_
            refine op_store (.tmp 9) (.tmp 45) 27 rfl rfl rfl hst ?_
            refine hK.out _ _ sy ?_
            clear hK K hst
            simp only [Act.put, List.setIfInBounds_toArray, List.set_cons_zero, List.set_cons_succ]
            repeat (first | (refine heldI_skip rfl rfl ?_; simp only [Act.put, List.setIfInBounds_toArray, List.set_cons_zero, List.set_cons_succ]) | (refine heldI_take rfl ?_ rfl (fun w' hw' => ?_) ?_; rotate_left; (go_simp; first | done | with_reducible rfl); (try simp only [Act.put, List.setIfInBounds_toArray, List.set_cons_zero, List.set_cons_succ])))
            refine heldI_nil ?_
            clear hzx hkx hzy hky hrA hrB
            go_wp2_with fail
            go_meet
            case rel => exact ⟨rfl, sy⟩
        · skip
          obtain ⟨wt15, ga, hw, hg, hga, hb, hlt, hle⟩ := fresh_disk wt12
          have st15 := st12.trans (hb.mono st12.size)
          have lga := Nat.le_trans st12.size hle
          have hgb := hgb.below hb
          have ngbga : gb ≠ ga := Nat.ne_of_lt (Nat.lt_of_lt_of_le ltgb hle)
          have ltgb := Nat.lt_trans ltgb (Nat.lt_of_le_of_lt hle hlt)
          have hby := (hby.below hb).tight
          have ltga := hlt
          refine op_alloc 25 rfl (zero_disk _) hw.out ?_
          rw [← hg.out]
          refine hK.out _ _ st15 ?_
          clear hK K hw hg hb hlt hle
          simp only [Act.put, List.setIfInBounds_toArray, List.set_cons_zero, List.set_cons_succ]
          refine wpAnyH_ready (rs := [3]) (by kernel_rfl) (by simp) ?_
          refine ready_cons rfl rfl (fun K hK => ?_) AllReadyH.nil
          · skip
            have kc := append_any _ _ d3 ⟨1, 2, 4, 2⟩ (List.replicate 500 0) wt15 (hv.below st15).tight hby (by decide) (HT.out.below (hb012.trans (st15.mono hb012.size)) hT) (Nat.lt_of_lt_of_le hT (Nat.le_trans hb012.size st15.size))
            rw [HP4.out] at kc
            unfold DLE at kc
            simp only [logV] at kc
            go_simp
            refine kc.mono ?_
            rintro e wt16 ⟨⟨vr, rfl, hdr⟩, hb⟩
            clear kc
            obtain ⟨r1, r2, r3, r4, rfl, _, _⟩ := hdr.parts
            have st16 := st15.trans (hb.mono st15.size)
            have hgb := hgb.below hb
            have ltgb := Nat.lt_of_lt_of_le ltgb hb.size
            have hga := hga.below hb
            have ltga := Nat.lt_of_lt_of_le ltga hb.size
            refine hK.out _ _ st16 ?_
            clear hK K hb hby
            refine wpAnyH_part [(false, 4), (false, 5), (false, 6), (false, 7)] (by kernel_rfl) st16 ?_
            repeat (first | (refine heldI_skip rfl rfl ?_; simp only [Act.put, List.setIfInBounds_toArray, List.set_cons_zero, List.set_cons_succ]) | (refine heldI_take rfl ?_ rfl (fun w' hw' => ?_) ?_; rotate_left; (go_simp; first | done | with_reducible rfl); (try simp only [Act.put, List.setIfInBounds_toArray, List.set_cons_zero, List.set_cons_succ])))
            refine heldI_nil ?_
            refine wpAnyH_end [(true, 10), (true, 11), (false, 12)] (by kernel_rfl) st16 ?_
            obtain ⟨_, _, _, _, hrA⟩ := hga.row
            obtain ⟨wx, hst, _, hbx, hzx, hkx, _⟩ := storeBig info_disk hrA rfl #[.slice r1 d3.secs.length r2, .slice r3 d3.loose.length r4, .int .i64 d3.fuse, .bool d3.down] rfl (ones4 rfl rfl rfl rfl)
            have sx : Below w12.heap.size w12 wx := st16.trans (hbx.mono (Nat.le_trans (Nat.le_refl _) lga))
            refine heldI_act rfl rfl fun K hK => ?_
            refine op_store (.tmp 8) (.tmp 44) 25 rfl rfl rfl hst ?_
            refine hK.out _ _ sx ?_
            clear hK K hst
            simp only [Act.put, List.setIfInBounds_toArray, List.set_cons_zero, List.set_cons_succ]
            have hrB : wx.heap[gb]? = _ := (hkx gb (Ne.symm (Ne.symm ngbga))).trans hgb
            obtain ⟨wy, hst, _, hby2, hzy, hky, _⟩ := storeBig info_log hrB rfl #[.int .i64 1, .int .i64 2, .int .i64 4, .int .i64 2] rfl (ones4 rfl rfl rfl rfl)
            have sy : Below w12.heap.size w12 wy := sx.trans (hby2.mono lgb)
            refine heldI_act rfl rfl fun K hK => ?_
            refine op_store (.tmp 9) (.tmp 45) 27 rfl rfl rfl hst ?_
            refine hK.out _ _ sy ?_
            clear hK K hst
            simp only [Act.put, List.setIfInBounds_toArray, List.set_cons_zero, List.set_cons_succ]
            repeat (first | (refine heldI_skip rfl rfl ?_; simp only [Act.put, List.setIfInBounds_toArray, List.set_cons_zero, List.set_cons_succ]) | (refine heldI_take rfl ?_ rfl (fun w' hw' => ?_) ?_; rotate_left; (go_simp; first | done | with_reducible rfl); (try simp only [Act.put, List.setIfInBounds_toArray, List.set_cons_zero, List.set_cons_succ])))
            refine heldI_nil ?_
            clear hzx hkx hzy hky hrA hrB
            go_wp2_with fail
            go_meet
            case rel => exact ⟨rfl, sy⟩
    · skip
      obtain ⟨wt17, ga, hw, hg, hga, hb, hlt, hle⟩ := fresh_disk wd
      have st17 := s0.trans (hb.mono s0.size)
      have lga := Nat.le_trans s0.size hle
      have ltga := hlt
      refine op_alloc 25 rfl (zero_disk _) hw.out ?_
      rw [← hg.out]
      refine hK.out _ _ st17 ?_
      clear hK K hw hg hb hlt hle
      simp only [Act.put, List.setIfInBounds_toArray, List.set_cons_zero, List.set_cons_succ]
      refine wpAnyH_ready (rs := [2, 9]) (by kernel_rfl) (by simp) ?_
      refine ready_cons rfl rfl (fun K hK => ?_) (ready_cons rfl rfl (fun K hK => ?_) AllReadyH.nil)
      · skip
        obtain ⟨wt18, gm, hmk, hb, hby⟩ := make500 wt17
        have st18 := st17.trans (hb.mono st17.size)
        have hga := hga.below hb
        have ltga := Nat.lt_of_lt_of_le ltga hb.size
        go_simp
        refine hK.out _ _ st18 ?_
        clear hK K hmk hb
        refine wpAnyH_ready (rs := [3, 9]) (by kernel_rfl) (by simp) ?_
        refine ready_cons rfl rfl (fun K hK => ?_) (ready_cons rfl rfl (fun K hK => ?_) AllReadyH.nil)
        · skip
          have kc := append_any _ _ d3 ⟨1, 2, 4, 2⟩ (List.replicate 500 0) wt18 (hv.below st18).tight hby (by decide) (HT.out.below (hb012.trans (st18.mono hb012.size)) hT) (Nat.lt_of_lt_of_le hT (Nat.le_trans hb012.size st18.size))
          rw [HP4.out] at kc
          unfold DLE at kc
          simp only [logV] at kc
          go_simp
          refine kc.mono ?_
          rintro e wt19 ⟨⟨vr, rfl, hdr⟩, hb⟩
          clear kc
          obtain ⟨r1, r2, r3, r4, rfl, _, _⟩ := hdr.parts
          have st19 := st18.trans (hb.mono st18.size)
          have hga := hga.below hb
          have ltga := Nat.lt_of_lt_of_le ltga hb.size
          refine hK.out _ _ st19 ?_
          clear hK K hb hby
          refine wpAnyH_part [(false, 4), (false, 5), (false, 6), (false, 7)] (by kernel_rfl) st19 ?_
          repeat (first | (refine heldI_skip rfl rfl ?_; simp only [Act.put, List.setIfInBounds_toArray, List.set_cons_zero, List.set_cons_succ]) | (refine heldI_take rfl ?_ rfl (fun w' hw' => ?_) ?_; rotate_left; (go_simp; first | done | with_reducible rfl); (try simp only [Act.put, List.setIfInBounds_toArray, List.set_cons_zero, List.set_cons_succ])))
          refine heldI_nil ?_
          refine wpAnyH_ready (rs := [9]) (by kernel_rfl) (by simp) ?_
          refine ready_cons rfl rfl (fun K hK => ?_) AllReadyH.nil
          · skip
            obtain ⟨wt20, gb, hw, hg, hgb, hb, hlt, hle⟩ := fresh_log wt19
            have st20 := st19.trans (hb.mono st19.size)
            have lgb := Nat.le_trans st19.size hle
            have hga := hga.below hb
            have ngagb : ga ≠ gb := Nat.ne_of_lt (Nat.lt_of_lt_of_le ltga hle)
            have ltga := Nat.lt_trans ltga (Nat.lt_of_le_of_lt hle hlt)
            have hdr := (hdr.below hb).tight
            have ltgb := hlt
            refine op_alloc 27 rfl (zero_log _) hw.out ?_
            rw [← hg.out]
            refine hK.out _ _ st20 ?_
            clear hK K hw hg hb hlt hle
            simp only [Act.put, List.setIfInBounds_toArray, List.set_cons_zero, List.set_cons_succ]
            refine wpAnyH_end [(true, 10), (true, 11), (false, 12)] (by kernel_rfl) st20 ?_
            obtain ⟨_, _, _, _, hrA⟩ := hga.row
            obtain ⟨wx, hst, _, hbx, hzx, hkx, _⟩ := storeBig info_disk hrA rfl #[.slice r1 d3.secs.length r2, .slice r3 d3.loose.length r4, .int .i64 d3.fuse, .bool d3.down] rfl (ones4 rfl rfl rfl rfl)
            have sx : Below w12.heap.size w12 wx := st20.trans (hbx.mono (Nat.le_trans (Nat.le_refl _) lga))
            refine heldI_act rfl rfl fun K hK => ?_
            refine op_store (.tmp 8) (.tmp 44) 25 rfl rfl rfl hst ?_
            refine hK.out _ _ sx ?_
            clear hK K hst
            simp only [Act.put, List.setIfInBounds_toArray, List.set_cons_zero, List.set_cons_succ]
            have hrB : wx.heap[gb]? = _ := (hkx gb (Ne.symm (ngagb))).trans hgb
            obtain ⟨wy, hst, _, hby2, hzy, hky, _⟩ := storeBig info_log hrB rfl #[.int .i64 1, .int .i64 2, .int .i64 4, .int .i64 2] rfl (ones4 rfl rfl rfl rfl)
            have sy : Below w12.heap.size w12 wy := sx.trans (hby2.mono lgb)
            refine heldI_act rfl rfl fun K hK => ?_
            refine op_store (.tmp 9) (.tmp 45) 27 rfl rfl rfl hst ?_
            refine hK.out _ _ sy ?_
            clear hK K hst
            simp only [Act.put, List.setIfInBounds_toArray, List.set_cons_zero, List.set_cons_succ]
            repeat (first | (refine heldI_skip rfl rfl ?_; simp only [Act.put, List.setIfInBounds_toArray, List.set_cons_zero, List.set_cons_succ]) | (refine heldI_take rfl ?_ rfl (fun w' hw' => ?_) ?_; rotate_left; (go_simp; first | done | with_reducible rfl); (try simp only [Act.put, List.setIfInBounds_toArray, List.set_cons_zero, List.set_cons_succ])))
            refine heldI_nil ?_
            clear hzx hkx hzy hky hrA hrB
            go_wp2_with fail
            go_meet
            case rel => exact ⟨rfl, sy⟩
        · skip
          obtain ⟨wt21, gb, hw, hg, hgb, hb, hlt, hle⟩ := fresh_log wt18
          have st21 := st18.trans (hb.mono st18.size)
          have lgb := Nat.le_trans st18.size hle
          have hga := hga.below hb
          have ngagb : ga ≠ gb := Nat.ne_of_lt (Nat.lt_of_lt_of_le ltga hle)
          have ltga := Nat.lt_trans ltga (Nat.lt_of_le_of_lt hle hlt)
          have hby := (hby.below hb).tight
          have ltgb := hlt
          refine op_alloc 27 rfl (zero_log _) hw.out ?_
          rw [← hg.out]
          refine hK.out _ _ st21 ?_
          clear hK K hw hg hb hlt hle
          simp only [Act.put, List.setIfInBounds_toArray, List.set_cons_zero, List.set_cons_succ]
          refine wpAnyH_ready (rs := [3]) (by kernel_rfl) (by simp) ?_
          refine ready_cons rfl rfl (fun K hK => ?_) AllReadyH.nil
          · skip
            have kc := append_any _ _ d3 ⟨1, 2, 4, 2⟩ (List.replicate 500 0) wt21 (hv.below st21).tight hby (by decide) (HT.out.below (hb012.trans (st21.mono hb012.size)) hT) (Nat.lt_of_lt_of_le hT (Nat.le_trans hb012.size st21.size))
            rw [HP4.out] at kc
            unfold DLE at kc
            simp only [logV] at kc
            go_simp
            refine kc.mono ?_
            rintro e wt22 ⟨⟨vr, rfl, hdr⟩, hb⟩
            clear kc
            obtain ⟨r1, r2, r3, r4, rfl, _, _⟩ := hdr.parts
            have st22 := st21.trans (hb.mono st21.size)
            have hga := hga.below hb
            have ltga := Nat.lt_of_lt_of_le ltga hb.size
            have hgb := hgb.below hb
            have ltgb := Nat.lt_of_lt_of_le ltgb hb.size
            refine hK.out _ _ st22 ?_
            clear hK K hb hby
            refine wpAnyH_part [(false, 4), (false, 5), (false, 6), (false, 7)] (by kernel_rfl) st22 ?_
            repeat (first | (refine heldI_skip rfl rfl ?_; simp only [Act.put, List.setIfInBounds_toArray, List.set_cons_zero, List.set_cons_succ]) | (refine heldI_take rfl ?_ rfl (fun w' hw' => ?_) ?_; rotate_left; (go_simp; first | done | with_reducible rfl); (try simp only [Act.put, List.setIfInBounds_toArray, List.set_cons_zero, List.set_cons_succ])))
            refine heldI_nil ?_
            refine wpAnyH_end [(true, 10), (true, 11), (false, 12)] (by kernel_rfl) st22 ?_
            obtain ⟨_, _, _, _, hrA⟩ := hga.row
            obtain ⟨wx, hst, _, hbx, hzx, hkx, _⟩ := storeBig info_disk hrA rfl #[.slice r1 d3.secs.length r2, .slice r3 d3.loose.length r4, .int .i64 d3.fuse, .bool d3.down] rfl (ones4 rfl rfl rfl rfl)
            have sx : Below w12.heap.size w12 wx := st22.trans (hbx.mono (Nat.le_trans (Nat.le_refl _) lga))
            refine heldI_act rfl rfl fun K hK => ?_
            refine op_store (.tmp 8) (.tmp 44) 25 rfl rfl rfl hst ?_
            refine hK.out _ _ sx ?_
            clear hK K hst
            simp only [Act.put, List.setIfInBounds_toArray, List.set_cons_zero, List.set_cons_succ]
            have hrB : wx.heap[gb]? = _ := (hkx gb (Ne.symm (ngagb))).trans hgb
            obtain ⟨wy, hst, _, hby2, hzy, hky, _⟩ := storeBig info_log hrB rfl #[.int .i64 1, .int .i64 2, .int .i64 4, .int .i64 2] rfl (ones4 rfl rfl rfl rfl)
            have sy : Below w12.heap.size w12 wy := sx.trans (hby2.mono lgb)
            refine heldI_act rfl rfl fun K hK => ?_
            refine op_store (.tmp 9) (.tmp 45) 27 rfl rfl rfl hst ?_
            refine hK.out _ _ sy ?_
            clear hK K hst
            simp only [Act.put, List.setIfInBounds_toArray, List.set_cons_zero, List.set_cons_succ]
            repeat (first | (refine heldI_skip rfl rfl ?_; simp only [Act.put, List.setIfInBounds_toArray, List.set_cons_zero, List.set_cons_succ]) | (refine heldI_take rfl ?_ rfl (fun w' hw' => ?_) ?_; rotate_left; (go_simp; first | done | with_reducible rfl); (try simp only [Act.put, List.setIfInBounds_toArray, List.set_cons_zero, List.set_cons_succ])))
            refine heldI_nil ?_
            clear hzx hkx hzy hky hrA hrB
            go_wp2_with fail
            go_meet
            case rel => exact ⟨rfl, sy⟩
      · skip
        obtain ⟨wt23, gb, hw, hg, hgb, hb, hlt, hle⟩ := fresh_log wt17
        have st23 := st17.trans (hb.mono st17.size)
        have lgb := Nat.le_trans st17.size hle
        have hga := hga.below hb
        have ngagb : ga ≠ gb := Nat.ne_of_lt (Nat.lt_of_lt_of_le ltga hle)
        have ltga := Nat.lt_trans ltga (Nat.lt_of_le_of_lt hle hlt)
        have ltgb := hlt
        refine op_alloc 27 rfl (zero_log _) hw.out ?_
        rw [← hg.out]
        refine hK.out _ _ st23 ?_
        clear hK K hw hg hb hlt hle
        simp only [Act.put, List.setIfInBounds_toArray, List.set_cons_zero, List.set_cons_succ]
        refine wpAnyH_ready (rs := [2]) (by kernel_rfl) (by simp) ?_
        refine ready_cons rfl rfl (fun K hK => ?_) AllReadyH.nil
        · skip
          obtain ⟨wt24, gm, hmk, hb, hby⟩ := make500 wt23
          have st24 := st23.trans (hb.mono st23.size)
          have hga := hga.below hb
          have ltga := Nat.lt_of_lt_of_le ltga hb.size
          have hgb := hgb.below hb
          have ltgb := Nat.lt_of_lt_of_le ltgb hb.size
          go_simp
          refine hK.out _ _ st24 ?_
          clear hK K hmk hb
          refine wpAnyH_ready (rs := [3]) (by kernel_rfl) (by simp) ?_
          refine ready_cons rfl rfl (fun K hK => ?_) AllReadyH.nil
          · skip
            have kc := append_any _ _ d3 ⟨1, 2, 4, 2⟩ (List.replicate 500 0) wt24 (hv.below st24).tight hby (by decide) (HT.out.below (hb012.trans (st24.mono hb012.size)) hT) (Nat.lt_of_lt_of_le hT (Nat.le_trans hb012.size st24.size))
            rw [HP4.out] at kc
            unfold DLE at kc
            simp only [logV] at kc
            go_simp
            refine kc.mono ?_
            rintro e wt25 ⟨⟨vr, rfl, hdr⟩, hb⟩
            clear kc
            obtain ⟨r1, r2, r3, r4, rfl, _, _⟩ := hdr.parts
            have st25 := st24.trans (hb.mono st24.size)
            have hga := hga.below hb
            have ltga := Nat.lt_of_lt_of_le ltga hb.size
            have hgb := hgb.below hb
            have ltgb := Nat.lt_of_lt_of_le ltgb hb.size
            refine hK.out _ _ st25 ?_
            clear hK K hb hby
            refine wpAnyH_part [(false, 4), (false, 5), (false, 6), (false, 7)] (by kernel_rfl) st25 ?_
            repeat (first | (refine heldI_skip rfl rfl ?_; simp only [Act.put, List.setIfInBounds_toArray, List.set_cons_zero, List.set_cons_succ]) | (refine heldI_take rfl ?_ rfl (fun w' hw' => ?_) ?_; rotate_left; (go_simp; first | done | with_reducible rfl); (try simp only [Act.put, List.setIfInBounds_toArray, List.set_cons_zero, List.set_cons_succ])))
            refine heldI_nil ?_
            refine wpAnyH_end [(true, 10), (true, 11), (false, 12)] (by kernel_rfl) st25 ?_
            obtain ⟨_, _, _, _, hrA⟩ := hga.row
            obtain ⟨wx, hst, _, hbx, hzx, hkx, _⟩ := storeBig info_disk hrA rfl #[.slice r1 d3.secs.length r2, .slice r3 d3.loose.length r4, .int .i64 d3.fuse, .bool d3.down] rfl (ones4 rfl rfl rfl rfl)
            have sx : Below w12.heap.size w12 wx := st25.trans (hbx.mono (Nat.le_trans (Nat.le_refl _) lga))
            refine heldI_act rfl rfl fun K hK => ?_
            refine op_store (.tmp 8) (.tmp 44) 25 rfl rfl rfl hst ?_
            refine hK.out _ _ sx ?_
            clear hK K hst
            simp only [Act.put, List.setIfInBounds_toArray, List.set_cons_zero, List.set_cons_succ]
            have hrB : wx.heap[gb]? = _ := (hkx gb (Ne.symm (ngagb))).trans hgb
            obtain ⟨wy, hst, _, hby2, hzy, hky, _⟩ := storeBig info_log hrB rfl #[.int .i64 1, .int .i64 2, .int .i64 4, .int .i64 2] rfl (ones4 rfl rfl rfl rfl)
            have sy : Below w12.heap.size w12 wy := sx.trans (hby2.mono lgb)
            refine heldI_act rfl rfl fun K hK => ?_
            refine op_store (.tmp 9) (.tmp 45) 27 rfl rfl rfl hst ?_
            refine hK.out _ _ sy ?_
            clear hK K hst
            simp only [Act.put, List.setIfInBounds_toArray, List.set_cons_zero, List.set_cons_succ]
            repeat (first | (refine heldI_skip rfl rfl ?_; simp only [Act.put, List.setIfInBounds_toArray, List.set_cons_zero, List.set_cons_succ]) | (refine heldI_take rfl ?_ rfl (fun w' hw' => ?_) ?_; rotate_left; (go_simp; first | done | with_reducible rfl); (try simp only [Act.put, List.setIfInBounds_toArray, List.set_cons_zero, List.set_cons_succ])))
            refine heldI_nil ?_
            clear hzx hkx hzy hky hrA hrB
            go_wp2_with fail
            go_meet
            case rel => exact ⟨rfl, sy⟩
    · skip
      obtain ⟨wt26, gb, hw, hg, hgb, hb, hlt, hle⟩ := fresh_log wd
      have st26 := s0.trans (hb.mono s0.size)
      have lgb := Nat.le_trans s0.size hle
      have ltgb := hlt
      refine op_alloc 27 rfl (zero_log _) hw.out ?_
      rw [← hg.out]
      refine hK.out _ _ st26 ?_
      clear hK K hw hg hb hlt hle
      simp only [Act.put, List.setIfInBounds_toArray, List.set_cons_zero, List.set_cons_succ]
      refine wpAnyH_ready (rs := [2, 8]) (by kernel_rfl) (by simp) ?_
      refine ready_cons rfl rfl (fun K hK => ?_) (ready_cons rfl rfl (fun K hK => ?_) AllReadyH.nil)
      · skip
        obtain ⟨wt27, gm, hmk, hb, hby⟩ := make500 wt26
        have st27 := st26.trans (hb.mono st26.size)
        have hgb := hgb.below hb
        have ltgb := Nat.lt_of_lt_of_le ltgb hb.size
        go_simp
        refine hK.out _ _ st27 ?_
        clear hK K hmk hb
        refine wpAnyH_ready (rs := [3, 8]) (by kernel_rfl) (by simp) ?_
        refine ready_cons rfl rfl (fun K hK => ?_) (ready_cons rfl rfl (fun K hK => ?_) AllReadyH.nil)
        · skip
          have kc := append_any _ _ d3 ⟨1, 2, 4, 2⟩ (List.replicate 500 0) wt27 (hv.below st27).tight hby (by decide) (HT.out.below (hb012.trans (st27.mono hb012.size)) hT) (Nat.lt_of_lt_of_le hT (Nat.le_trans hb012.size st27.size))
          rw [HP4.out] at kc
          unfold DLE at kc
          simp only [logV] at kc
          go_simp
          refine kc.mono ?_
          rintro e wt28 ⟨⟨vr, rfl, hdr⟩, hb⟩
          clear kc
          obtain ⟨r1, r2, r3, r4, rfl, _, _⟩ := hdr.parts
          have st28 := st27.trans (hb.mono st27.size)
          have hgb := hgb.below hb
          have ltgb := Nat.lt_of_lt_of_le ltgb hb.size
          refine hK.out _ _ st28 ?_
          clear hK K hb hby
          refine wpAnyH_part [(false, 4), (false, 5), (false, 6), (false, 7)] (by kernel_rfl) st28 ?_
          repeat (first | (refine heldI_skip rfl rfl ?_; simp only [Act.put, List.setIfInBounds_toArray, List.set_cons_zero, List.set_cons_succ]) | (refine heldI_take rfl ?_ rfl (fun w' hw' => ?_) ?_; rotate_left; (go_simp; first | done | with_reducible rfl); (try simp only [Act.put, List.setIfInBounds_toArray, List.set_cons_zero, List.set_cons_succ])))
          refine heldI_nil ?_
          refine wpAnyH_ready (rs := [8]) (by kernel_rfl) (by simp) ?_
          refine ready_cons rfl rfl (fun K hK => ?_) AllReadyH.nil
          · skip
            obtain ⟨wt29, ga, hw, hg, hga, hb, hlt, hle⟩ := fresh_disk wt28
            have st29 := st28.trans (hb.mono st28.size)
            have lga := Nat.le_trans st28.size hle
            have hgb := hgb.below hb
            have ngbga : gb ≠ ga := Nat.ne_of_lt (Nat.lt_of_lt_of_le ltgb hle)
            have ltgb := Nat.lt_trans ltgb (Nat.lt_of_le_of_lt hle hlt)
            have hdr := (hdr.below hb).tight
            have ltga := hlt
            refine op_alloc 25 rfl (zero_disk _) hw.out ?_
            rw [← hg.out]
            refine hK.out _ _ st29 ?_
            clear hK K hw hg hb hlt hle
            simp only [Act.put, List.setIfInBounds_toArray, List.set_cons_zero, List.set_cons_succ]
            refine wpAnyH_end [(true, 10), (true, 11), (false, 12)] (by kernel_rfl) st29 ?_
            obtain ⟨_, _, _, _, hrA⟩ := hga.row
            obtain ⟨wx, hst, _, hbx, hzx, hkx, _⟩ := storeBig info_disk hrA rfl #[.slice r1 d3.secs.length r2, .slice r3 d3.loose.length r4, .int .i64 d3.fuse, .bool d3.down] rfl (ones4 rfl rfl rfl rfl)
            have sx : Below w12.heap.size w12 wx := st29.trans (hbx.mono (Nat.le_trans (Nat.le_refl _) lga))
            refine heldI_act rfl rfl fun K hK => ?_
            refine op_store (.tmp 8) (.tmp 44) 25 rfl rfl rfl hst ?_
            refine hK.out _ _ sx ?_
            clear hK K hst
            simp only [Act.put, List.setIfInBounds_toArray, List.set_cons_zero, List.set_cons_succ]
            have hrB : wx.heap[gb]? = _ := (hkx gb (Ne.symm (Ne.symm ngbga))).trans hgb
            obtain ⟨wy, hst, _, hby2, hzy, hky, _⟩ := storeBig info_log hrB rfl #[.int .i64 1, .int .i64 2, .int .i64 4, .int .i64 2] rfl (ones4 rfl rfl rfl rfl)
            have sy : Below w12.heap.size w12 wy := sx.trans (hby2.mono lgb)
            refine heldI_act rfl rfl fun K hK => ?_
            refine op_store (.tmp 9) (.tmp 45) 27 rfl rfl rfl hst ?_
            refine hK.out _ _ sy ?_
            clear hK K hst
            simp only [Act.put, List.setIfInBounds_toArray, List.set_cons_zero, List.set_cons_succ]
            repeat (first | (refine heldI_skip rfl rfl ?_; simp only [Act.put, List.setIfInBounds_toArray, List.set_cons_zero, List.set_cons_succ]) | (refine heldI_take rfl ?_ rfl (fun w' hw' => ?_) ?_; rotate_left; (go_simp; first | done | with_reducible rfl); (try simp only [Act.put, List.setIfInBounds_toArray, List.set_cons_zero, List.set_cons_succ])))
            refine heldI_nil ?_
            clear hzx hkx hzy hky hrA hrB
            go_wp2_with fail
            go_meet
            case rel => exact ⟨rfl, sy⟩
        · skip
          obtain ⟨wt30, ga, hw, hg, hga, hb, hlt, hle⟩ := fresh_disk wt27
          have st30 := st27.trans (hb.mono st27.size)
          have lga := Nat.le_trans st27.size hle
          have hgb := hgb.below hb
          have ngbga : gb ≠ ga := Nat.ne_of_lt (Nat.lt_of_lt_of_le ltgb hle)
          have ltgb := Nat.lt_trans ltgb (Nat.lt_of_le_of_lt hle hlt)
          have hby := (hby.below hb).tight
          have ltga := hlt
          refine op_alloc 25 rfl (zero_disk _) hw.out ?_
          rw [← hg.out]
          refine hK.out _ _ st30 ?_
          clear hK K hw hg hb hlt hle
          simp only [Act.put, List.setIfInBounds_toArray, List.set_cons_zero, List.set_cons_succ]
          refine wpAnyH_ready (rs := [3]) (by kernel_rfl) (by simp) ?_
          refine ready_cons rfl rfl (fun K hK => ?_) AllReadyH.nil
          · skip
            have kc := append_any _ _ d3 ⟨1, 2, 4, 2⟩ (List.replicate 500 0) wt30 (hv.below st30).tight hby (by decide) (HT.out.below (hb012.trans (st30.mono hb012.size)) hT) (Nat.lt_of_lt_of_le hT (Nat.le_trans hb012.size st30.size))
            rw [HP4.out] at kc
            unfold DLE at kc
            simp only [logV] at kc
            go_simp
            refine kc.mono ?_
            rintro e wt31 ⟨⟨vr, rfl, hdr⟩, hb⟩
            clear kc
            obtain ⟨r1, r2, r3, r4, rfl, _, _⟩ := hdr.parts
            have st31 := st30.trans (hb.mono st30.size)
            have hgb := hgb.below hb
            have ltgb := Nat.lt_of_lt_of_le ltgb hb.size
            have hga := hga.below hb
            have ltga := Nat.lt_of_lt_of_le ltga hb.size
            refine hK.out _ _ st31 ?_
            clear hK K hb hby
            refine wpAnyH_part [(false, 4), (false, 5), (false, 6), (false, 7)] (by kernel_rfl) st31 ?_
            repeat (first | (refine heldI_skip rfl rfl ?_; simp only [Act.put, List.setIfInBounds_toArray, List.set_cons_zero, List.set_cons_succ]) | (refine heldI_take rfl ?_ rfl (fun w' hw' => ?_) ?_; rotate_left; (go_simp; first | done | with_reducible rfl); (try simp only [Act.put, List.setIfInBounds_toArray, List.set_cons_zero, List.set_cons_succ])))
            refine heldI_nil ?_
            refine wpAnyH_end [(true, 10), (true, 11), (false, 12)] (by kernel_rfl) st31 ?_
            obtain ⟨_, _, _, _, hrA⟩ := hga.row
            obtain ⟨wx, hst, _, hbx, hzx, hkx, _⟩ := storeBig info_disk hrA rfl #[.slice r1 d3.secs.length r2, .slice r3 d3.loose.length r4, .int .i64 d3.fuse, .bool d3.down] rfl (ones4 rfl rfl rfl rfl)
            have sx : Below w12.heap.size w12 wx := st31.trans (hbx.mono (Nat.le_trans (Nat.le_refl _) lga))
            refine heldI_act rfl rfl fun K hK => ?_
            refine op_store (.tmp 8) (.tmp 44) 25 rfl rfl rfl hst ?_
            refine hK.out _ _ sx ?_
            clear hK K hst
            simp only [Act.put, List.setIfInBounds_toArray, List.set_cons_zero, List.set_cons_succ]
            have hrB : wx.heap[gb]? = _ := (hkx gb (Ne.symm (Ne.symm ngbga))).trans hgb
            obtain ⟨wy, hst, _, hby2, hzy, hky, _⟩ := storeBig info_log hrB rfl #[.int .i64 1, .int .i64 2, .int .i64 4, .int .i64 2] rfl (ones4 rfl rfl rfl rfl)
            have sy : Below w12.heap.size w12 wy := sx.trans (hby2.mono lgb)
            refine heldI_act rfl rfl fun K hK => ?_
            refine op_store (.tmp 9) (.tmp 45) 27 rfl rfl rfl hst ?_
            refine hK.out _ _ sy ?_
            clear hK K hst
            simp only [Act.put, List.setIfInBounds_toArray, List.set_cons_zero, List.set_cons_succ]
            repeat (first | (refine heldI_skip rfl rfl ?_; simp only [Act.put, List.setIfInBounds_toArray, List.set_cons_zero, List.set_cons_succ]) | (refine heldI_take rfl ?_ rfl (fun w' hw' => ?_) ?_; rotate_left; (go_simp; first | done | with_reducible rfl); (try simp only [Act.put, List.setIfInBounds_toArray, List.set_cons_zero, List.set_cons_succ])))
            refine heldI_nil ?_
            clear hzx hkx hzy hky hrA hrB
            go_wp2_with fail
            go_meet
            case rel => exact ⟨rfl, sy⟩
      · skip
        obtain ⟨wt32, ga, hw, hg, hga, hb, hlt, hle⟩ := fresh_disk wt26
        have st32 := st26.trans (hb.mono st26.size)
        have lga := Nat.le_trans st26.size hle
        have hgb := hgb.below hb
        have ngbga : gb ≠ ga := Nat.ne_of_lt (Nat.lt_of_lt_of_le ltgb hle)
        have ltgb := Nat.lt_trans ltgb (Nat.lt_of_le_of_lt hle hlt)
        have ltga := hlt
        refine op_alloc 25 rfl (zero_disk _) hw.out ?_
        rw [← hg.out]
        refine hK.out _ _ st32 ?_
        clear hK K hw hg hb hlt hle
        simp only [Act.put, List.setIfInBounds_toArray, List.set_cons_zero, List.set_cons_succ]
        refine wpAnyH_ready (rs := [2]) (by kernel_rfl) (by simp) ?_
        refine ready_cons rfl rfl (fun K hK => ?_) AllReadyH.nil
        · skip
          obtain ⟨wt33, gm, hmk, hb, hby⟩ := make500 wt32
          have st33 := st32.trans (hb.mono st32.size)
          have hgb := hgb.below hb
          have ltgb := Nat.lt_of_lt_of_le ltgb hb.size
          have hga := hga.below hb
          have ltga := Nat.lt_of_lt_of_le ltga hb.size
          go_simp
          refine hK.out _ _ st33 ?_
          clear hK K hmk hb
          refine wpAnyH_ready (rs := [3]) (by kernel_rfl) (by simp) ?_
          refine ready_cons rfl rfl (fun K hK => ?_) AllReadyH.nil
          · skip
            have kc := append_any _ _ d3 ⟨1, 2, 4, 2⟩ (List.replicate 500 0) wt33 (hv.below st33).tight hby (by decide) (HT.out.below (hb012.trans (st33.mono hb012.size)) hT) (Nat.lt_of_lt_of_le hT (Nat.le_trans hb012.size st33.size))
            rw [HP4.out] at kc
            unfold DLE at kc
            simp only [logV] at kc
            go_simp
            refine kc.mono ?_
            rintro e wt34 ⟨⟨vr, rfl, hdr⟩, hb⟩
            clear kc
            obtain ⟨r1, r2, r3, r4, rfl, _, _⟩ := hdr.parts
            have st34 := st33.trans (hb.mono st33.size)
            have hgb := hgb.below hb
            have ltgb := Nat.lt_of_lt_of_le ltgb hb.size
            have hga := hga.below hb
            have ltga := Nat.lt_of_lt_of_le ltga hb.size
            refine hK.out _ _ st34 ?_
            clear hK K hb hby
            refine wpAnyH_part [(false, 4), (false, 5), (false, 6), (false, 7)] (by kernel_rfl) st34 ?_
            repeat (first | (refine heldI_skip rfl rfl ?_; simp only [Act.put, List.setIfInBounds_toArray, List.set_cons_zero, List.set_cons_succ]) | (refine heldI_take rfl ?_ rfl (fun w' hw' => ?_) ?_; rotate_left; (go_simp; first | done | with_reducible rfl); (try simp only [Act.put, List.setIfInBounds_toArray, List.set_cons_zero, List.set_cons_succ])))
            refine heldI_nil ?_
            refine wpAnyH_end [(true, 10), (true, 11), (false, 12)] (by kernel_rfl) st34 ?_
            obtain ⟨_, _, _, _, hrA⟩ := hga.row
            obtain ⟨wx, hst, _, hbx, hzx, hkx, _⟩ := storeBig info_disk hrA rfl #[.slice r1 d3.secs.length r2, .slice r3 d3.loose.length r4, .int .i64 d3.fuse, .bool d3.down] rfl (ones4 rfl rfl rfl rfl)
            have sx : Below w12.heap.size w12 wx := st34.trans (hbx.mono (Nat.le_trans (Nat.le_refl _) lga))
            refine heldI_act rfl rfl fun K hK => ?_
            refine op_store (.tmp 8) (.tmp 44) 25 rfl rfl rfl hst ?_
            refine hK.out _ _ sx ?_
            clear hK K hst
            simp only [Act.put, List.setIfInBounds_toArray, List.set_cons_zero, List.set_cons_succ]
            have hrB : wx.heap[gb]? = _ := (hkx gb (Ne.symm (Ne.symm ngbga))).trans hgb
            obtain ⟨wy, hst, _, hby2, hzy, hky, _⟩ := storeBig info_log hrB rfl #[.int .i64 1, .int .i64 2, .int .i64 4, .int .i64 2] rfl (ones4 rfl rfl rfl rfl)
            have sy : Below w12.heap.size w12 wy := sx.trans (hby2.mono lgb)
            refine heldI_act rfl rfl fun K hK => ?_
            refine op_store (.tmp 9) (.tmp 45) 27 rfl rfl rfl hst ?_
            refine hK.out _ _ sy ?_
            clear hK K hst
            simp only [Act.put, List.setIfInBounds_toArray, List.set_cons_zero, List.set_cons_succ]
            repeat (first | (refine heldI_skip rfl rfl ?_; simp only [Act.put, List.setIfInBounds_toArray, List.set_cons_zero, List.set_cons_succ]) | (refine heldI_take rfl ?_ rfl (fun w' hw' => ?_) ?_; rotate_left; (go_simp; first | done | with_reducible rfl); (try simp only [Act.put, List.setIfInBounds_toArray, List.set_cons_zero, List.set_cons_succ])))
            refine heldI_nil ?_
            clear hzx hkx hzy hky hrA hrB
            go_wp2_with fail
            go_meet
            case rel => exact ⟨rfl, sy⟩
  case rest =>
    obtain ⟨rfl, hb12⟩ := hcut
    obtain ⟨b1, off1, a', c', rfl, hbl, _, hcx1, hcx2, hl, hby⟩ := load_piece (k := 1) (HP12.out.below hb12).pieces (by decide)
    have hl := hl wc (fun _ _ => rfl)
    have hs := run_bytes_string (P := Tryd.prog) Tryd.underlying43 Tryd.underlying5 Tryd.underlying9 hby
    have e3 : ([[1], [116, 119, 111]] : List (List UInt8))[1].length = 3 := rfl
    have e4 : strB ([[1], [116, 119, 111]] : List (List UInt8))[1] = ⟨#[116, 119, 111]⟩ := rfl
    rw [e4] at hs
    rw [e3] at hl hs
    clear e3 e4 hbl hby hk12
    obtain ⟨N0, N1, N2, N3, _⟩ := (hL12.below hb12).four
    dsimp only at N0 N1 N2 N3
    clear hL12 hD12
    go_wp2_with fail
    go_ret
    exact ⟨rfl, hb012.trans (hb12.mono hb012.size)⟩
end Go.Proofs.YtaijompnohkmaaaDoor
/- Layer 5 (wal): what the statements' walks share. -/
namespace Go.Proofs.YtaijompnohkmaaaDoor
open Go.RowKit WalP PackP
theorem sl_far {T : Nat} {B : Nat} {w : World} {v : Value} {sz n : Nat} {cs : List Value} {C : Array Value} {e : TypeId} {fz : Nat × Nat} (hsz : 64 ≤ sz) (h : Row B w v sz n cs) (hT : w.heap[T]? = some (.cells C e fz)) (hC : C.size < 64) : Sl (· ≠ T) v := by
  obtain ⟨hl, a, cap, rfl, _, _, h3⟩ := h
  intro a' n' c' hv hp
  cases hv
  obtain ⟨b, off, hb, _, hc⟩ := h3 hp
  cases hb
  show b ≠ T
  intro e1
  subst e1
  have hlen : off + 63 < off + cs.length := by
    rw [hl]
    have : sz ≤ n * sz := Nat.le_mul_of_pos_left sz hp
    omega
  have h63 : 63 < cs.length := by omega
  have := hc 63 _ (List.getElem?_eq_getElem h63)
  unfold World.cell? at this
  rw [hT] at this
  simp only at this
  have h4 : C[off + 63]? = none := Array.getElem?_eq_none (by omega)
  rw [h4] at this
  cases this
/-- What is stored elsewhere, over a small block, leaves a disk as it is. -/
theorem DiskV.kept {B T : Nat} {w w' : World} {v : Value} {d : DiskP} {C : Array Value} {e : TypeId} {fz : Nat × Nat} (h : DiskV B w v d) (hT : w.heap[T]? = some (.cells C e fz)) (hC : C.size < 64) (hk : ∀ k, k ≠ T → w'.heap[k]? = w.heap[k]?) : DiskV B w' v d := by
  obtain ⟨sv, lv, rfl, hs, hl⟩ := h
  exact ⟨sv, lv, rfl, ⟨hs.1, hs.2.keepS (sl_far (by decide) hs.2 hT hC) (fun k hk1 _ => hk k hk1)⟩, ⟨hl.1, hl.2.keepS (sl_far (by decide) hl.2 hT hC) (fun k hk1 _ => hk k hk1)⟩⟩
theorem DAt.kept {T D : Nat} {w w' : World} {d : DiskP} {C : Array Value} {e : TypeId} {fz : Nat × Nat} (h : DAt w D d) (hT : w.heap[T]? = some (.cells C e fz)) (hC : C.size < 64) (hk : ∀ k, k ≠ T → w'.heap[k]? = w.heap[k]?) (hne : D ≠ T) : DAt w' D d := by
  obtain ⟨a0, n0, a1, n1, h1, h2⟩ := h
  exact ⟨a0, n0, a1, n1, (hk D hne).trans h1, (h2.kept hT hC hk).tight⟩
theorem LAt.kept {T L : Nat} {w w' : World} {l : LogP} (h : LAt w L l) (hk : ∀ k, k ≠ T → w'.heap[k]? = w.heap[k]?) (hne : L ≠ T) : LAt w' L l := (hk L hne).trans h
/-- A disk is stored into its variable. -/
theorem DAt.stored {D : Nat} {w w' : World} {d d' : DiskP} {y0 y1 y2 y3 : Value} (h : DAt w D d) (hd : DiskV w.heap.size w (.agg #[y0, y1, y2, y3]) d') (hr : w'.heap[D]? = some (.cells #[y0, y1, y2, y3] 25 (0, 0))) (hk : ∀ k, k ≠ D → w'.heap[k]? = w.heap[k]?) : DAt w' D d' := by
  obtain ⟨x0, x1, x2, x3, hx⟩ := h.row
  obtain ⟨p1, q1, p2, q2, hv, _, _⟩ := hd.parts
  have hd' := (hd.kept hx (by simp) hk).tight
  simp only [Value.agg.injEq, Array.mk.injEq, List.cons.injEq] at hv
  obtain ⟨rfl, rfl, rfl, rfl, _⟩ := hv
  exact ⟨p1, q1, p2, q2, hr, hd'⟩
/-- A step's disk and log, in fresh variables. -/
def DLBox (w : World) (r : DiskP × LogP × Int) (wx : World) (s1 s2 s3 : Value) : Prop :=
  ∃ ga gb, s1 = .pointer (some ⟨ga, 0, none⟩) ∧ s2 = .pointer (some ⟨gb, 0, none⟩) ∧ s3 = .int .i64 r.2.2 ∧ w.heap.size ≤ ga ∧ w.heap.size ≤ gb ∧ ga ≠ gb ∧ DAt wx ga r.1 ∧ LAt wx gb r.2.1 ∧ Below w.heap.size w wx
theorem greatB0 (list : List (List UInt8)) : greatB 0 0 list = decide (20000 < greatN list 0) := by simp [greatB]
end Go.Proofs.YtaijompnohkmaaaDoor
/- A load of many cells in a still region. -/
namespace Go.Proofs.YtaijompnohkmaaaDoor
open Go.RowKit
theorem still_load {P : Program} {ops : Array Oper} {rest : List Oper} {o : Oper} {a : Act} {w : World} {Q : Act → Prop} (x : Operand) (t : TypeId) (hgd : o.guard = none) (ho : o.op = .load t x) {ad : Addr} {v : Value} (hx : a.eval x = .pointer (some ad)) (hl : (loadVar t ad).run P w = .ok v w)
    (h : wpStill P ops w Q rest (a.put o.dst v)) : wpStill P ops w Q (o :: rest) a := by
  refine wpStill_step fun K hK => ?_
  simp only [Region.wanted, hgd, if_true]
  unfold Oper.still execOp
  simp only [ho, hx, Instr.loadAt, Instr.sureAddr, Sem.run_bind, Sem.run_pure, Result.andThen_ok, hl, Oper.stillUpon_value]
  exact hK _ h
end Go.Proofs.YtaijompnohkmaaaDoor
