/- Layer 5 (wal): WalRooms, walked. -/
import Derived.Test.YtaijompnohkmaaaDoorML
import Derived.Test.YtaijompnohkmaaaDoorZRefSameW
namespace Go.Proofs.YtaijompnohkmaaaDoor
open Go.RowKit WalP PackP
/-- What the loop keeps. -/
def RoomsInv (W : World) (D L S : Nat) (w : World) : Prop := ∃ d l cur, DAt w D d ∧ LAt w L l ∧ Holds S d l cur ∧ Below W.heap.size W w
set_option maxRecDepth 100000 in
set_option maxHeartbeats 8000000 in
theorem WalRooms_walk (v : Value) (n : Int) (list : List (List UInt8)) (W : World) (ht : TabAt W) (hT : 0 < W.heap.size) (h0 : 0 ≤ n) (h1 : n < 65536) (hv : Pieces W.heap.size W v list) (hl : ∀ b ∈ list, b.length ≤ 2 ^ 50) :
    Calls Tryd.prog 7 #[.int .u16 n, v] W fun e w' => e = .returned (.bool true) ∧ Below W.heap.size W w' := by
  obtain ⟨_, ⟨_, la, lc, rfl, hn1, hn2, _⟩, _⟩ := id hv
  unfold maxLen at hn2
  obtain ⟨N, hN⟩ : ∃ N, N = list.length := ⟨_, rfl⟩
  rw [← hN] at hv hn1 ⊢
  have HN := Lib.hid hN
  have HV := Lib.hid hv
  have HLL := Lib.hid hl
  have HT := Lib.hid ht
  clear hN hv hl
  obtain ⟨S, hS⟩ : ∃ S : Nat, n % 300 = (S : Int) := ⟨(n % 300).toNat, by omega⟩
  have hS3 : S ≤ 300 := by omega
  have ka := walAlive_any W ht hT
  have HS := Lib.hid hS
  have hcn := calm_new (n := S) (by omega)
  have kn : ∀ w, Calls Tryd.prog 26 #[.int .i64 (n % 300)] w fun e w' => (∃ v', e = .returned (.tuple #[v', .int .i64 0]) ∧ DiskV w'.heap.size w' v' (newP S).1) ∧ Below w.heap.size w w' := fun w => by
    have h := refnew_any (n % 300) w
    rw [hS] at h
    rw [hS]
    have e0 : (newP (S : Int)).2 = 0 := by unfold newP; rw [if_pos (by omega)]
    rw [e0] at h
    exact h
  obtain ⟨d0, hd0⟩ : ∃ d, d = (newP S).1 := ⟨_, rfl⟩
  rw [← hd0] at kn hcn
  have KN := Lib.hid kn
  have HC := Lib.hid hcn
  have hgL : Tryd.prog.eqGuardType Tryd.prog.depth 27 = false := by kernel_rfl
  clear hd0 kn hcn hS ht
  go_enter Tryd.func7, Tryd.ntmps7
  go_wp2_with fail
  refine ka.mono ?_
  rintro e w0 ⟨rfl, hb0⟩
  clear ka
  go_wp2_with fail
  refine (KN.out w0).mono ?_
  rintro e w1 ⟨⟨v1, rfl, hd1⟩, hb1⟩
  obtain ⟨p1, q1, p2, q2, rfl, _, _⟩ := hd1.parts
  obtain ⟨w2, D, HW2, HG2, hD2, hb2, lt2, le2⟩ := fresh_disk w1
  obtain ⟨w3, x0, x1, x2, x3, HW3, ⟨C0, C1, C2, C3, Z⟩, HX3⟩ := pack_disk hD2 (hd1.below hb2).tight
  go_wp2_with (with_reducible refine wp_alloc_to (w' := w2) 25 rfl rfl (zero_disk _) HW2.out ?_; refine Halt.in ?_)
  refine Halt.out ?_
  rw [← HG2.out]
  go_upto_region 4 with (fail)
  rw [← HW3.out]
  clear C0 C1 C2 C3 Z hd1 hD2
  obtain ⟨hD3, hz3, _, hbb3⟩ := HX3.out
  have hb02 := hb0.trans ((hb1.trans (hb2.mono hb1.size)).mono hb0.size)
  have hDw : W.heap.size ≤ D := Nat.le_trans hb0.size (Nat.le_trans hb1.size le2)
  have hb03 := hbb3 W.heap.size W hb02 hDw
  clear hz3 hbb3 HX3 HW3 hb1 hb2 lt2 le2 hb02 hb0
  have hv3 := (HV.out.below hb03)
  have kg := great_any _ _ disk0 list w3 (DiskV.mk (d := disk0) (Secs.nil 0 _) (Loose.nil 0 _)) hv3.tight HLL.out
  obtain ⟨G, hG⟩ : ∃ G, G = greatB 0 0 list := ⟨_, rfl⟩
  rw [show greatB disk0.secs.length disk0.loose.length list = greatB 0 0 list from rfl, ← hG] at kg
  have HG := Lib.hid hG
  clear hG hv3
  go_wp2_with fail
  refine kg.mono ?_
  rintro e w4 ⟨rfl, hb4⟩
  clear kg
  have hb04 := hb03.trans (hb4.mono hb03.size)
  cases G with
  | true =>
    go_wp2_with fail
    go_ret
    exact ⟨rfl, hb04⟩
  | false =>
    have hD4 := hD3.below hb4
    have hlen : N ≤ 400 := by
      have hg := HG.out
      rw [greatB0] at hg
      have h2 := greatN_len list 0 (by have := of_decide_eq_false hg.symm; omega)
      rw [HN.out]; omega
    clear hD3 hb4 hb03
    obtain ⟨w5, g5, HW5, HG5, hb5, hp5⟩ := one_rec w4
    have hD5 := hD4.below hb5
    have hb05 := hb04.trans (hb5.mono hb04.size)
    obtain ⟨da, na, db, nb, T, hv⟩ := id hD4
    obtain ⟨C0, C1, C2, C3, _⟩ := Four.of T
    clear T
    have kf := format_any _ _ d0 [[1]] w5 (hv.below hb5).tight hp5 (HT.out.below hb05 hT) (Nat.lt_of_lt_of_le hT hb05.size) (fun b hb => by rw [List.mem_singleton.1 hb]; decide) (by decide)
    obtain ⟨r, hr⟩ : ∃ r, r = formatP d0 [[1]] := ⟨_, rfl⟩
    rw [← hr] at kf
    have HR := Lib.hid hr
    unfold DLE at kf
    simp only [logV] at kf
    clear hr
    go_wp2_with fail
    rw [← HW5.out, ← HG5.out]
    refine kf.mono ?_
    rintro e w6 ⟨⟨v6, rfl, hd6⟩, hb6⟩
    clear kf C0 C1 C2 C3
    obtain ⟨p3, q3, p4, q4, rfl, _, _⟩ := hd6.parts
    obtain ⟨w7, L, HW7, HG7, hL7, hb7, lt7, le7⟩ := fresh_log w6
    have hb57 := hb6.trans (hb7.mono hb6.size)
    have hD7 := hD5.below hb57
    have hDL : D ≠ L := by have := hD5.lt; have := hb6.size; omega
    have hLw : W.heap.size ≤ L := Nat.le_trans (Nat.le_trans hb05.size hb6.size) le7
    obtain ⟨w8, x0, x1, x2, x3, HW8, ⟨C0, C1, C2, C3, Z⟩, ⟨N0, N1, N2, N3, Y⟩, HX8⟩ := pack_store r.2.1 hD7 hL7 (hd6.below hb7).tight hDL
    go_wp2_with (with_reducible refine wp_alloc_to (w' := w7) 27 rfl rfl (zero_log _) HW7.out ?_; refine Halt.in ?_)
    refine Halt.out ?_
    rw [← HG7.out]
    go_upto_region 7 with (fail)
    rw [← HW8.out]
    clear C0 C1 C2 C3 Z N0 N1 N2 N3 Y hd6 hD7 hL7 hD5 hD4 hp5
    obtain ⟨hD8, hL8, hz8, hk8, hbb8⟩ := HX8.out
    have hb08 := hbb8 W.heap.size W (hb05.trans (hb57.mono hb05.size)) hDw hLw
    clear hz8 hk8 hbb8 HX8 HW8 hb04 hb05 hb57 hb6 hb7 lt7 le7 hb5
    rcases format_holds HC.out (by omega) [[1]] with ⟨htt, _⟩ | ⟨m, htt, hm, hf⟩ | ⟨_, _, _, he0, _, hho⟩
    · exact absurd htt (by decide)
    · have e1 : r = (d0, log0, 8) := HR.out.trans hf
      have hmS : n % 300 < 4 := by
        rw [show total [[1]] = some 2 from rfl] at htt
        cases htt
        have := HS.out
        omega
      have e2 : r.2.2 = 8 := by rw [e1]
      have q1 : (r.2.2 != 0) = true := by rw [e2]; rfl
      have q2 : (r.2.2 == 8) = true := by rw [e2]; rfl
      have q3 : decide (n % 300 < 4) = true := by simpa using hmS
      clear e1 e2 hf htt hm hmS
      go_wp2_with fail
      go_ret
      exact ⟨rfl, hb08⟩
    · have q1 : (r.2.2 != 0) = false := by rw [HR.out, he0]; rfl
      rw [← HR.out] at hho
      have HHO := Lib.hid hho
      clear he0 hho
      have HI := Lib.hid (show RoomsInv W D L S w8 from ⟨r.1, r.2.1, _, hD8, hL8, HHO.out, hb08⟩)
      clear hD8 hL8 hb08
      go_wp2_with fail
      go_loopw [9] (fun i wr => ∃ k : Nat, k ≤ N ∧ i = .int .i64 k ∧ RoomsInv W D L S wr) (fun i _ => N - (intOf i).toNat)
      case atStart => exact ⟨0, Nat.zero_le _, rfl, HI.out⟩
      case round =>
        obtain ⟨k, hk, rfl, d, l, cur, hD, hL, hho, hb⟩ := hrel
        have HHO := Lib.hid hho
        clear hho HI
        by_cases hkN : k < N
        · skip
          have hkl : k < list.length := HN.out ▸ hkN
          have k0 : decide ((k : Int) < (N : Int)) = true := by simp; omega
          have k1 : (0 : Int) ≤ (k : Int) := by omega
          have k2 : (k : Int) < (N : Int) := by omega
          obtain ⟨bb, off, ax, cx, rfl, hbb, -, hcc1, hcc2, hle, hbx⟩ := load_piece HV.out hkl
          have hle2 : ∀ w', Below wr.heap.size wr w' → w'.cell? ⟨bb, off + k, none⟩ = some (.slice ax list[k].length cx) := fun w' hw => hle w' (fun p hp => (hb.trans (hw.mono hb.size)).cell hp)
          have hbr := hbx.below hb
          obtain ⟨b, hbb0⟩ : ∃ b, b = list[k] := ⟨_, rfl⟩
          rw [← hbb0] at hle2 hbr
          obtain ⟨M, hM⟩ : ∃ M, M = b.length := ⟨_, rfl⟩
          rw [← hM] at hle2 hbr
          have HM := Lib.hid hM
          have HB0 := Lib.hid hbb0
          have h00 : Below wr.heap.size wr wr.drew := below_draws (Below.refl _ _) 1
          clear hle hbx hM hbb0 hbb
          obtain ⟨da, na, db, nb, T, hv⟩ := id hD
          have L0 := fun w' (h : Below wr.heap.size wr w') => cell_of_row w' _ 0 _ _ _ ((h.block _ (block_lt T)).trans T)
          have L1 := fun w' (h : Below wr.heap.size wr w') => cell_of_row w' _ 1 _ _ _ ((h.block _ (block_lt T)).trans T)
          have L2 := fun w' (h : Below wr.heap.size wr w') => cell_of_row w' _ 2 _ _ _ ((h.block _ (block_lt T)).trans T)
          have L3 := fun w' (h : Below wr.heap.size wr w') => cell_of_row w' _ 3 _ _ _ ((h.block _ (block_lt T)).trans T)
          clear T
          have T := hL
          unfold LAt at T
          try dsimp only at T
          have M0 := fun w' (h : Below wr.heap.size wr w') => cell_of_row w' _ 0 _ _ _ ((h.block _ (block_lt T)).trans T)
          have M1 := fun w' (h : Below wr.heap.size wr w') => cell_of_row w' _ 1 _ _ _ ((h.block _ (block_lt T)).trans T)
          have M2 := fun w' (h : Below wr.heap.size wr w') => cell_of_row w' _ 2 _ _ _ ((h.block _ (block_lt T)).trans T)
          have M3 := fun w' (h : Below wr.heap.size wr w') => cell_of_row w' _ 3 _ _ _ ((h.block _ (block_lt T)).trans T)
          clear T
          have kr := room_any _ d l wr.drew (hv.below h00) (by have := HHO.out.half; omega)
          simp only [logV] at kr
          rw [HHO.out.room] at kr
          have kt := fun w' => takes_any (M : Int) w'
          obtain ⟨tk, htk⟩ : ∃ t : Nat, t = takes M := ⟨_, rfl⟩
          have kt : ∀ w', Calls Tryd.prog 20 #[.int .i64 M] w' fun e w'' => e = .returned (.int .i64 (tk : Nat)) ∧ w' = w'' := fun w' => by
            have h := takes_any (M : Int) w'
            rw [takesZ_nat, ← htk] at h
            exact h
          obtain ⟨ro, hro⟩ : ∃ r : Nat, r = half d - posN cur := ⟨_, rfl⟩
          rw [← hro] at kr
          have HRO := Lib.hid hro
          have HTK := Lib.hid htk
          have KT := Lib.hid kt
          have htk95 : tk ≤ 95 := by rw [htk]; exact takes_le M
          have hro2 : ro ≤ 2048 := by
            have h1 := HHO.out.hS
            have h2 := half_of HHO.out.calm
            rw [hro, h2]; omega
          clear hro htk kt
          go_upto_region 12 with (fail)
          go_cut [10, 11] from 51 to 59 (fun s10 s11 wx => s10 = .int .i64 ro ∧ s11 = .int .i64 tk ∧ Below wr.heap.size wr wx)
          case first =>
            refine wp_region_I [(false, 0), (false, 1), (false, 3), (false, 4), (false, 5), (false, 6), (false, 7), (true, 2), (true, 8), (false, 9), (false, 10)] (fun w' => Below wr.heap.size wr w') (by kernel_rfl) (by kernel_rfl) h00 ?_
            repeat (first | (refine heldI_skip rfl rfl ?_; simp only [Act.put, List.setIfInBounds_toArray, List.set_cons_zero, List.set_cons_succ]) | (refine heldI_take rfl ?_ rfl (fun w' hw' => ?_) ?_; rotate_left; (go_simp; first | done | with_reducible rfl); (try simp only [Act.put, List.setIfInBounds_toArray, List.set_cons_zero, List.set_cons_succ])))
            refine heldI_act rfl rfl fun K hK => ?_
            go_simp
            refine kr.mono ?_
            rintro e wa ⟨rfl, hba⟩
            have sa := h00.trans (hba.mono h00.size)
            refine hK.out _ _ sa ?_
            clear hK K kr
            refine heldI_act rfl rfl fun K hK => ?_
            go_simp
            refine (KT.out wa).mono ?_
            rintro e wb ⟨rfl, rfl⟩
            refine hK.out _ _ sa ?_
            clear hK K
            repeat (first | (refine heldI_skip rfl rfl ?_; simp only [Act.put, List.setIfInBounds_toArray, List.set_cons_zero, List.set_cons_succ]) | (refine heldI_take rfl ?_ rfl (fun w' hw' => ?_) ?_; rotate_left; (go_simp; first | done | with_reducible rfl); (try simp only [Act.put, List.setIfInBounds_toArray, List.set_cons_zero, List.set_cons_succ])))
            refine heldI_nil ?_
            go_wp2_with fail
            go_meet
            case rel => exact ⟨rfl, rfl, sa⟩
          case rest =>
            obtain ⟨rfl, rfl, hb12⟩ := hcut
            clear L0 L1 L2 L3 M0 M1 M2 M3 kr h00
            have hbr := hbr.below (hb12.mono hb.size)
            have hD := hD.below hb12
            have hL := hL.below hb12
            have hb := hb.trans (hb12.mono hb.size)
            have hle3 : ∀ w', Below wc.heap.size wc w' → w'.cell? ⟨bb, off + k, none⟩ = some (.slice ax M cx) := fun w' hw => hle2 w' (hb12.trans (hw.mono hb12.size))
            obtain ⟨wr0, hwr0⟩ : ∃ w0, w0 = wc := ⟨_, rfl⟩
            rw [← hwr0] at hD hL hb hle3 hbr ⊢
            clear hwr0 hle2 hb12
            obtain ⟨r, hr⟩ : ∃ r, r = appendP d l b := ⟨_, rfl⟩
            have HRR := Lib.hid hr
            clear hr
            obtain ⟨da, na, db, nb, T, hv⟩ := id hD
            have L0 := fun w' (h : Below wr0.heap.size wr0 w') => cell_of_row w' _ 0 _ _ _ ((h.block _ (block_lt T)).trans T)
            have L1 := fun w' (h : Below wr0.heap.size wr0 w') => cell_of_row w' _ 1 _ _ _ ((h.block _ (block_lt T)).trans T)
            have L2 := fun w' (h : Below wr0.heap.size wr0 w') => cell_of_row w' _ 2 _ _ _ ((h.block _ (block_lt T)).trans T)
            have L3 := fun w' (h : Below wr0.heap.size wr0 w') => cell_of_row w' _ 3 _ _ _ ((h.block _ (block_lt T)).trans T)
            clear T
            have T := hL
            unfold LAt at T
            try dsimp only at T
            have M0 := fun w' (h : Below wr0.heap.size wr0 w') => cell_of_row w' _ 0 _ _ _ ((h.block _ (block_lt T)).trans T)
            have M1 := fun w' (h : Below wr0.heap.size wr0 w') => cell_of_row w' _ 1 _ _ _ ((h.block _ (block_lt T)).trans T)
            have M2 := fun w' (h : Below wr0.heap.size wr0 w') => cell_of_row w' _ 2 _ _ _ ((h.block _ (block_lt T)).trans T)
            have M3 := fun w' (h : Below wr0.heap.size wr0 w') => cell_of_row w' _ 3 _ _ _ ((h.block _ (block_lt T)).trans T)
            clear T
            go_upto_region 13 with (fail)
            go_cut [12, 13, 14] from 60 to 70 (fun s12 s13 s14 wx => DLBox wr0 r wx s12 s13 s14)
            case first =>
              have s0 : Below wr0.heap.size wr0 wr0.drew := below_draws (Below.refl _ _) 1
              refine wp_region_start (fun w' => Below wr0.heap.size wr0 w') (by kernel_rfl) s0 ?_
              obtain ⟨wd, hwd⟩ : ∃ wd, wd = wr0.drew := ⟨_, rfl⟩
              rw [← hwd] at s0 ⊢
              clear hwd
              refine wpAnyH_part [(false, 0), (false, 1), (false, 2), (false, 3), (false, 4), (false, 5)] (by kernel_rfl) s0 ?_
              repeat (first | (refine heldI_skip rfl rfl ?_; simp only [Act.put, List.setIfInBounds_toArray, List.set_cons_zero, List.set_cons_succ]) | (refine heldI_take rfl ?_ rfl (fun w' hw' => ?_) ?_; rotate_left; (go_simp; first | done | with_reducible rfl); (try simp only [Act.put, List.setIfInBounds_toArray, List.set_cons_zero, List.set_cons_succ])))
              refine heldI_nil ?_
              refine wpAnyH_ready (rs := [6, 11, 12]) (by kernel_rfl) (by simp) ?_
              refine ready_cons rfl rfl (fun K hK => ?_) (ready_cons rfl rfl (fun K hK => ?_) (ready_cons rfl rfl (fun K hK => ?_) AllReadyH.nil))
              · skip
                have kc := append_any _ _ d l b wd (hv.below s0).tight (show Bytes wd.heap.size wd (.slice ax M cx) b from (hbr.below (s0.mono hb.size)).tight) (by have := HHO.out.half; omega) (HT.out.below (hb.trans (s0.mono hb.size)) hT) (Nat.lt_of_lt_of_le hT (Nat.le_trans hb.size s0.size))
                rw [← HRR.out] at kc
                unfold DLE at kc
                simp only [logV] at kc
                go_simp
                refine kc.mono ?_
                rintro e wt1 ⟨⟨vr, rfl, hdr⟩, hb⟩
                clear kc
                obtain ⟨r1, r2, r3, r4, rfl, _, _⟩ := hdr.parts
                have st1 := s0.trans (hb.mono s0.size)
                refine hK.out _ _ st1 ?_
                clear hK K hb
                refine wpAnyH_part [(false, 7), (false, 8), (false, 9), (false, 10)] (by kernel_rfl) st1 ?_
                repeat (first | (refine heldI_skip rfl rfl ?_; simp only [Act.put, List.setIfInBounds_toArray, List.set_cons_zero, List.set_cons_succ]) | (refine heldI_take rfl ?_ rfl (fun w' hw' => ?_) ?_; rotate_left; (go_simp; first | done | with_reducible rfl); (try simp only [Act.put, List.setIfInBounds_toArray, List.set_cons_zero, List.set_cons_succ])))
                refine heldI_nil ?_
                refine wpAnyH_ready (rs := [11, 12]) (by kernel_rfl) (by simp) ?_
                refine ready_cons rfl rfl (fun K hK => ?_) (ready_cons rfl rfl (fun K hK => ?_) AllReadyH.nil)
                · skip
                  obtain ⟨wt2, ga, hw, hg, hga, hb, hlt, hle⟩ := fresh_disk wt1
                  have st2 := st1.trans (hb.mono st1.size)
                  have lga := Nat.le_trans st1.size hle
                  have hdr := (hdr.below hb).tight
                  have ltga := hlt
                  refine op_alloc 25 rfl (zero_disk _) hw.out ?_
                  rw [← hg.out]
                  refine hK.out _ _ st2 ?_
                  clear hK K hw hg hb hlt hle
                  simp only [Act.put, List.setIfInBounds_toArray, List.set_cons_zero, List.set_cons_succ]
                  refine wpAnyH_ready (rs := [12]) (by kernel_rfl) (by simp) ?_
                  refine ready_cons rfl rfl (fun K hK => ?_) AllReadyH.nil
                  · skip
                    obtain ⟨wt3, gb, hw, hg, hgb, hb, hlt, hle⟩ := fresh_log wt2
                    have st3 := st2.trans (hb.mono st2.size)
                    have lgb := Nat.le_trans st2.size hle
                    have hga := hga.below hb
                    have ngagb : ga ≠ gb := Nat.ne_of_lt (Nat.lt_of_lt_of_le ltga hle)
                    have ltga := Nat.lt_trans ltga (Nat.lt_of_le_of_lt hle hlt)
                    have hdr := (hdr.below hb).tight
                    have ltgb := hlt
                    refine op_alloc 27 rfl (zero_log _) hw.out ?_
                    rw [← hg.out]
                    refine hK.out _ _ st3 ?_
                    clear hK K hw hg hb hlt hle
                    simp only [Act.put, List.setIfInBounds_toArray, List.set_cons_zero, List.set_cons_succ]
                    refine wpAnyH_end [(true, 13), (true, 14), (false, 15)] (by kernel_rfl) st3 ?_
                    obtain ⟨_, _, _, _, hrA⟩ := hga.row
                    obtain ⟨wx, hst, hnA, hbx, hzx, hkx, _⟩ := storeBig info_disk hrA rfl #[.slice r1 r.1.secs.length r2, .slice r3 r.1.loose.length r4, .int .i64 r.1.fuse, .bool r.1.down] rfl (ones4 rfl rfl rfl rfl)
                    have sx : Below wr0.heap.size wr0 wx := st3.trans (hbx.mono lga)
                    have hA1 := hga.stored hdr hnA hkx
                    refine heldI_act rfl rfl fun K hK => ?_
                    refine op_store (.tmp 12) (.tmp 68) 25 rfl rfl rfl hst ?_
                    refine hK.out _ _ sx ?_
                    clear hK K hst
                    simp only [Act.put, List.setIfInBounds_toArray, List.set_cons_zero, List.set_cons_succ]
                    have nab : ga ≠ gb := ngagb
                    have hrB : wx.heap[gb]? = _ := (hkx gb (Ne.symm nab)).trans hgb
                    obtain ⟨wy, hst, hnB, hby2, hzy, hky, _⟩ := storeBig info_log hrB rfl #[.int .i64 r.2.1.half, .int .i64 r.2.1.gen, .int .i64 r.2.1.used, .int .i64 r.2.1.count] rfl (ones4 rfl rfl rfl rfl)
                    have sy : Below wr0.heap.size wr0 wy := sx.trans (hby2.mono lgb)
                    have hA2 := hA1.kept hrB (by simp) hky nab
                    refine heldI_act rfl rfl fun K hK => ?_
                    refine op_store (.tmp 13) (.tmp 69) 27 rfl rfl rfl hst ?_
                    refine hK.out _ _ sy ?_
                    clear hK K hst
                    simp only [Act.put, List.setIfInBounds_toArray, List.set_cons_zero, List.set_cons_succ]
                    repeat (first | (refine heldI_skip rfl rfl ?_; simp only [Act.put, List.setIfInBounds_toArray, List.set_cons_zero, List.set_cons_succ]) | (refine heldI_take rfl ?_ rfl (fun w' hw' => ?_) ?_; rotate_left; (go_simp; first | done | with_reducible rfl); (try simp only [Act.put, List.setIfInBounds_toArray, List.set_cons_zero, List.set_cons_succ])))
                    refine heldI_nil ?_
                    clear hzx hkx hzy hky hrA hrB hdr
                    go_wp2_with fail
                    go_meet
                    case rel => exact ⟨ga, gb, rfl, rfl, rfl, lga, lgb, nab, hA2, hnB, sy⟩
                · skip
                  obtain ⟨wt4, gb, hw, hg, hgb, hb, hlt, hle⟩ := fresh_log wt1
                  have st4 := st1.trans (hb.mono st1.size)
                  have lgb := Nat.le_trans st1.size hle
                  have hdr := (hdr.below hb).tight
                  have ltgb := hlt
                  refine op_alloc 27 rfl (zero_log _) hw.out ?_
                  rw [← hg.out]
                  refine hK.out _ _ st4 ?_
                  clear hK K hw hg hb hlt hle
                  simp only [Act.put, List.setIfInBounds_toArray, List.set_cons_zero, List.set_cons_succ]
                  refine wpAnyH_ready (rs := [11]) (by kernel_rfl) (by simp) ?_
                  refine ready_cons rfl rfl (fun K hK => ?_) AllReadyH.nil
                  · skip
                    obtain ⟨wt5, ga, hw, hg, hga, hb, hlt, hle⟩ := fresh_disk wt4
                    have st5 := st4.trans (hb.mono st4.size)
                    have lga := Nat.le_trans st4.size hle
                    have hgb := hgb.below hb
                    have ngbga : gb ≠ ga := Nat.ne_of_lt (Nat.lt_of_lt_of_le ltgb hle)
                    have ltgb := Nat.lt_trans ltgb (Nat.lt_of_le_of_lt hle hlt)
                    have hdr := (hdr.below hb).tight
                    have ltga := hlt
                    refine op_alloc 25 rfl (zero_disk _) hw.out ?_
                    rw [← hg.out]
                    refine hK.out _ _ st5 ?_
                    clear hK K hw hg hb hlt hle
                    simp only [Act.put, List.setIfInBounds_toArray, List.set_cons_zero, List.set_cons_succ]
                    refine wpAnyH_end [(true, 13), (true, 14), (false, 15)] (by kernel_rfl) st5 ?_
                    obtain ⟨_, _, _, _, hrA⟩ := hga.row
                    obtain ⟨wx, hst, hnA, hbx, hzx, hkx, _⟩ := storeBig info_disk hrA rfl #[.slice r1 r.1.secs.length r2, .slice r3 r.1.loose.length r4, .int .i64 r.1.fuse, .bool r.1.down] rfl (ones4 rfl rfl rfl rfl)
                    have sx : Below wr0.heap.size wr0 wx := st5.trans (hbx.mono lga)
                    have hA1 := hga.stored hdr hnA hkx
                    refine heldI_act rfl rfl fun K hK => ?_
                    refine op_store (.tmp 12) (.tmp 68) 25 rfl rfl rfl hst ?_
                    refine hK.out _ _ sx ?_
                    clear hK K hst
                    simp only [Act.put, List.setIfInBounds_toArray, List.set_cons_zero, List.set_cons_succ]
                    have nab : ga ≠ gb := Ne.symm ngbga
                    have hrB : wx.heap[gb]? = _ := (hkx gb (Ne.symm nab)).trans hgb
                    obtain ⟨wy, hst, hnB, hby2, hzy, hky, _⟩ := storeBig info_log hrB rfl #[.int .i64 r.2.1.half, .int .i64 r.2.1.gen, .int .i64 r.2.1.used, .int .i64 r.2.1.count] rfl (ones4 rfl rfl rfl rfl)
                    have sy : Below wr0.heap.size wr0 wy := sx.trans (hby2.mono lgb)
                    have hA2 := hA1.kept hrB (by simp) hky nab
                    refine heldI_act rfl rfl fun K hK => ?_
                    refine op_store (.tmp 13) (.tmp 69) 27 rfl rfl rfl hst ?_
                    refine hK.out _ _ sy ?_
                    clear hK K hst
                    simp only [Act.put, List.setIfInBounds_toArray, List.set_cons_zero, List.set_cons_succ]
                    repeat (first | (refine heldI_skip rfl rfl ?_; simp only [Act.put, List.setIfInBounds_toArray, List.set_cons_zero, List.set_cons_succ]) | (refine heldI_take rfl ?_ rfl (fun w' hw' => ?_) ?_; rotate_left; (go_simp; first | done | with_reducible rfl); (try simp only [Act.put, List.setIfInBounds_toArray, List.set_cons_zero, List.set_cons_succ])))
                    refine heldI_nil ?_
                    clear hzx hkx hzy hky hrA hrB hdr
                    go_wp2_with fail
                    go_meet
                    case rel => exact ⟨ga, gb, rfl, rfl, rfl, lga, lgb, nab, hA2, hnB, sy⟩
              · skip
                obtain ⟨wt6, ga, hw, hg, hga, hb, hlt, hle⟩ := fresh_disk wd
                have st6 := s0.trans (hb.mono s0.size)
                have lga := Nat.le_trans s0.size hle
                have ltga := hlt
                refine op_alloc 25 rfl (zero_disk _) hw.out ?_
                rw [← hg.out]
                refine hK.out _ _ st6 ?_
                clear hK K hw hg hb hlt hle
                simp only [Act.put, List.setIfInBounds_toArray, List.set_cons_zero, List.set_cons_succ]
                refine wpAnyH_ready (rs := [6, 12]) (by kernel_rfl) (by simp) ?_
                refine ready_cons rfl rfl (fun K hK => ?_) (ready_cons rfl rfl (fun K hK => ?_) AllReadyH.nil)
                · skip
                  have kc := append_any _ _ d l b wt6 (hv.below st6).tight (show Bytes wt6.heap.size wt6 (.slice ax M cx) b from (hbr.below (st6.mono hb.size)).tight) (by have := HHO.out.half; omega) (HT.out.below (hb.trans (st6.mono hb.size)) hT) (Nat.lt_of_lt_of_le hT (Nat.le_trans hb.size st6.size))
                  rw [← HRR.out] at kc
                  unfold DLE at kc
                  simp only [logV] at kc
                  go_simp
                  refine kc.mono ?_
                  rintro e wt7 ⟨⟨vr, rfl, hdr⟩, hb⟩
                  clear kc
                  obtain ⟨r1, r2, r3, r4, rfl, _, _⟩ := hdr.parts
                  have st7 := st6.trans (hb.mono st6.size)
                  have hga := hga.below hb
                  have ltga := Nat.lt_of_lt_of_le ltga hb.size
                  refine hK.out _ _ st7 ?_
                  clear hK K hb
                  refine wpAnyH_part [(false, 7), (false, 8), (false, 9), (false, 10)] (by kernel_rfl) st7 ?_
                  repeat (first | (refine heldI_skip rfl rfl ?_; simp only [Act.put, List.setIfInBounds_toArray, List.set_cons_zero, List.set_cons_succ]) | (refine heldI_take rfl ?_ rfl (fun w' hw' => ?_) ?_; rotate_left; (go_simp; first | done | with_reducible rfl); (try simp only [Act.put, List.setIfInBounds_toArray, List.set_cons_zero, List.set_cons_succ])))
                  refine heldI_nil ?_
                  refine wpAnyH_ready (rs := [12]) (by kernel_rfl) (by simp) ?_
                  refine ready_cons rfl rfl (fun K hK => ?_) AllReadyH.nil
                  · skip
                    obtain ⟨wt8, gb, hw, hg, hgb, hb, hlt, hle⟩ := fresh_log wt7
                    have st8 := st7.trans (hb.mono st7.size)
                    have lgb := Nat.le_trans st7.size hle
                    have hga := hga.below hb
                    have ngagb : ga ≠ gb := Nat.ne_of_lt (Nat.lt_of_lt_of_le ltga hle)
                    have ltga := Nat.lt_trans ltga (Nat.lt_of_le_of_lt hle hlt)
                    have hdr := (hdr.below hb).tight
                    have ltgb := hlt
                    refine op_alloc 27 rfl (zero_log _) hw.out ?_
                    rw [← hg.out]
                    refine hK.out _ _ st8 ?_
                    clear hK K hw hg hb hlt hle
                    simp only [Act.put, List.setIfInBounds_toArray, List.set_cons_zero, List.set_cons_succ]
                    refine wpAnyH_end [(true, 13), (true, 14), (false, 15)] (by kernel_rfl) st8 ?_
                    obtain ⟨_, _, _, _, hrA⟩ := hga.row
                    obtain ⟨wx, hst, hnA, hbx, hzx, hkx, _⟩ := storeBig info_disk hrA rfl #[.slice r1 r.1.secs.length r2, .slice r3 r.1.loose.length r4, .int .i64 r.1.fuse, .bool r.1.down] rfl (ones4 rfl rfl rfl rfl)
                    have sx : Below wr0.heap.size wr0 wx := st8.trans (hbx.mono lga)
                    have hA1 := hga.stored hdr hnA hkx
                    refine heldI_act rfl rfl fun K hK => ?_
                    refine op_store (.tmp 12) (.tmp 68) 25 rfl rfl rfl hst ?_
                    refine hK.out _ _ sx ?_
                    clear hK K hst
                    simp only [Act.put, List.setIfInBounds_toArray, List.set_cons_zero, List.set_cons_succ]
                    have nab : ga ≠ gb := ngagb
                    have hrB : wx.heap[gb]? = _ := (hkx gb (Ne.symm nab)).trans hgb
                    obtain ⟨wy, hst, hnB, hby2, hzy, hky, _⟩ := storeBig info_log hrB rfl #[.int .i64 r.2.1.half, .int .i64 r.2.1.gen, .int .i64 r.2.1.used, .int .i64 r.2.1.count] rfl (ones4 rfl rfl rfl rfl)
                    have sy : Below wr0.heap.size wr0 wy := sx.trans (hby2.mono lgb)
                    have hA2 := hA1.kept hrB (by simp) hky nab
                    refine heldI_act rfl rfl fun K hK => ?_
                    refine op_store (.tmp 13) (.tmp 69) 27 rfl rfl rfl hst ?_
                    refine hK.out _ _ sy ?_
                    clear hK K hst
                    simp only [Act.put, List.setIfInBounds_toArray, List.set_cons_zero, List.set_cons_succ]
                    repeat (first | (refine heldI_skip rfl rfl ?_; simp only [Act.put, List.setIfInBounds_toArray, List.set_cons_zero, List.set_cons_succ]) | (refine heldI_take rfl ?_ rfl (fun w' hw' => ?_) ?_; rotate_left; (go_simp; first | done | with_reducible rfl); (try simp only [Act.put, List.setIfInBounds_toArray, List.set_cons_zero, List.set_cons_succ])))
                    refine heldI_nil ?_
                    clear hzx hkx hzy hky hrA hrB hdr
                    go_wp2_with fail
                    go_meet
                    case rel => exact ⟨ga, gb, rfl, rfl, rfl, lga, lgb, nab, hA2, hnB, sy⟩
                · skip
                  obtain ⟨wt9, gb, hw, hg, hgb, hb, hlt, hle⟩ := fresh_log wt6
                  have st9 := st6.trans (hb.mono st6.size)
                  have lgb := Nat.le_trans st6.size hle
                  have hga := hga.below hb
                  have ngagb : ga ≠ gb := Nat.ne_of_lt (Nat.lt_of_lt_of_le ltga hle)
                  have ltga := Nat.lt_trans ltga (Nat.lt_of_le_of_lt hle hlt)
                  have ltgb := hlt
                  refine op_alloc 27 rfl (zero_log _) hw.out ?_
                  rw [← hg.out]
                  refine hK.out _ _ st9 ?_
                  clear hK K hw hg hb hlt hle
                  simp only [Act.put, List.setIfInBounds_toArray, List.set_cons_zero, List.set_cons_succ]
                  refine wpAnyH_ready (rs := [6]) (by kernel_rfl) (by simp) ?_
                  refine ready_cons rfl rfl (fun K hK => ?_) AllReadyH.nil
                  · skip
                    have kc := append_any _ _ d l b wt9 (hv.below st9).tight (show Bytes wt9.heap.size wt9 (.slice ax M cx) b from (hbr.below (st9.mono hb.size)).tight) (by have := HHO.out.half; omega) (HT.out.below (hb.trans (st9.mono hb.size)) hT) (Nat.lt_of_lt_of_le hT (Nat.le_trans hb.size st9.size))
                    rw [← HRR.out] at kc
                    unfold DLE at kc
                    simp only [logV] at kc
                    go_simp
                    refine kc.mono ?_
                    rintro e wt10 ⟨⟨vr, rfl, hdr⟩, hb⟩
                    clear kc
                    obtain ⟨r1, r2, r3, r4, rfl, _, _⟩ := hdr.parts
                    have st10 := st9.trans (hb.mono st9.size)
                    have hga := hga.below hb
                    have ltga := Nat.lt_of_lt_of_le ltga hb.size
                    have hgb := hgb.below hb
                    have ltgb := Nat.lt_of_lt_of_le ltgb hb.size
                    refine hK.out _ _ st10 ?_
                    clear hK K hb
                    refine wpAnyH_part [(false, 7), (false, 8), (false, 9), (false, 10)] (by kernel_rfl) st10 ?_
                    repeat (first | (refine heldI_skip rfl rfl ?_; simp only [Act.put, List.setIfInBounds_toArray, List.set_cons_zero, List.set_cons_succ]) | (refine heldI_take rfl ?_ rfl (fun w' hw' => ?_) ?_; rotate_left; (go_simp; first | done | with_reducible rfl); (try simp only [Act.put, List.setIfInBounds_toArray, List.set_cons_zero, List.set_cons_succ])))
                    refine heldI_nil ?_
                    refine wpAnyH_end [(true, 13), (true, 14), (false, 15)] (by kernel_rfl) st10 ?_
                    obtain ⟨_, _, _, _, hrA⟩ := hga.row
                    obtain ⟨wx, hst, hnA, hbx, hzx, hkx, _⟩ := storeBig info_disk hrA rfl #[.slice r1 r.1.secs.length r2, .slice r3 r.1.loose.length r4, .int .i64 r.1.fuse, .bool r.1.down] rfl (ones4 rfl rfl rfl rfl)
                    have sx : Below wr0.heap.size wr0 wx := st10.trans (hbx.mono lga)
                    have hA1 := hga.stored hdr hnA hkx
                    refine heldI_act rfl rfl fun K hK => ?_
                    refine op_store (.tmp 12) (.tmp 68) 25 rfl rfl rfl hst ?_
                    refine hK.out _ _ sx ?_
                    clear hK K hst
                    simp only [Act.put, List.setIfInBounds_toArray, List.set_cons_zero, List.set_cons_succ]
                    have nab : ga ≠ gb := ngagb
                    have hrB : wx.heap[gb]? = _ := (hkx gb (Ne.symm nab)).trans hgb
                    obtain ⟨wy, hst, hnB, hby2, hzy, hky, _⟩ := storeBig info_log hrB rfl #[.int .i64 r.2.1.half, .int .i64 r.2.1.gen, .int .i64 r.2.1.used, .int .i64 r.2.1.count] rfl (ones4 rfl rfl rfl rfl)
                    have sy : Below wr0.heap.size wr0 wy := sx.trans (hby2.mono lgb)
                    have hA2 := hA1.kept hrB (by simp) hky nab
                    refine heldI_act rfl rfl fun K hK => ?_
                    refine op_store (.tmp 13) (.tmp 69) 27 rfl rfl rfl hst ?_
                    refine hK.out _ _ sy ?_
                    clear hK K hst
                    simp only [Act.put, List.setIfInBounds_toArray, List.set_cons_zero, List.set_cons_succ]
                    repeat (first | (refine heldI_skip rfl rfl ?_; simp only [Act.put, List.setIfInBounds_toArray, List.set_cons_zero, List.set_cons_succ]) | (refine heldI_take rfl ?_ rfl (fun w' hw' => ?_) ?_; rotate_left; (go_simp; first | done | with_reducible rfl); (try simp only [Act.put, List.setIfInBounds_toArray, List.set_cons_zero, List.set_cons_succ])))
                    refine heldI_nil ?_
                    clear hzx hkx hzy hky hrA hrB hdr
                    go_wp2_with fail
                    go_meet
                    case rel => exact ⟨ga, gb, rfl, rfl, rfl, lga, lgb, nab, hA2, hnB, sy⟩
              · skip
                obtain ⟨wt11, gb, hw, hg, hgb, hb, hlt, hle⟩ := fresh_log wd
                have st11 := s0.trans (hb.mono s0.size)
                have lgb := Nat.le_trans s0.size hle
                have ltgb := hlt
                refine op_alloc 27 rfl (zero_log _) hw.out ?_
                rw [← hg.out]
                refine hK.out _ _ st11 ?_
                clear hK K hw hg hb hlt hle
                simp only [Act.put, List.setIfInBounds_toArray, List.set_cons_zero, List.set_cons_succ]
                refine wpAnyH_ready (rs := [6, 11]) (by kernel_rfl) (by simp) ?_
                refine ready_cons rfl rfl (fun K hK => ?_) (ready_cons rfl rfl (fun K hK => ?_) AllReadyH.nil)
                · skip
                  have kc := append_any _ _ d l b wt11 (hv.below st11).tight (show Bytes wt11.heap.size wt11 (.slice ax M cx) b from (hbr.below (st11.mono hb.size)).tight) (by have := HHO.out.half; omega) (HT.out.below (hb.trans (st11.mono hb.size)) hT) (Nat.lt_of_lt_of_le hT (Nat.le_trans hb.size st11.size))
                  rw [← HRR.out] at kc
                  unfold DLE at kc
                  simp only [logV] at kc
                  go_simp
                  refine kc.mono ?_
                  rintro e wt12 ⟨⟨vr, rfl, hdr⟩, hb⟩
                  clear kc
                  obtain ⟨r1, r2, r3, r4, rfl, _, _⟩ := hdr.parts
                  have st12 := st11.trans (hb.mono st11.size)
                  have hgb := hgb.below hb
                  have ltgb := Nat.lt_of_lt_of_le ltgb hb.size
                  refine hK.out _ _ st12 ?_
                  clear hK K hb
                  refine wpAnyH_part [(false, 7), (false, 8), (false, 9), (false, 10)] (by kernel_rfl) st12 ?_
                  repeat (first | (refine heldI_skip rfl rfl ?_; simp only [Act.put, List.setIfInBounds_toArray, List.set_cons_zero, List.set_cons_succ]) | (refine heldI_take rfl ?_ rfl (fun w' hw' => ?_) ?_; rotate_left; (go_simp; first | done | with_reducible rfl); (try simp only [Act.put, List.setIfInBounds_toArray, List.set_cons_zero, List.set_cons_succ])))
                  refine heldI_nil ?_
                  refine wpAnyH_ready (rs := [11]) (by kernel_rfl) (by simp) ?_
                  refine ready_cons rfl rfl (fun K hK => ?_) AllReadyH.nil
                  · skip
                    obtain ⟨wt13, ga, hw, hg, hga, hb, hlt, hle⟩ := fresh_disk wt12
                    have st13 := st12.trans (hb.mono st12.size)
                    have lga := Nat.le_trans st12.size hle
                    have hgb := hgb.below hb
                    have ngbga : gb ≠ ga := Nat.ne_of_lt (Nat.lt_of_lt_of_le ltgb hle)
                    have ltgb := Nat.lt_trans ltgb (Nat.lt_of_le_of_lt hle hlt)
                    have hdr := (hdr.below hb).tight
                    have ltga := hlt
                    refine op_alloc 25 rfl (zero_disk _) hw.out ?_
                    rw [← hg.out]
                    refine hK.out _ _ st13 ?_
                    clear hK K hw hg hb hlt hle
                    simp only [Act.put, List.setIfInBounds_toArray, List.set_cons_zero, List.set_cons_succ]
                    refine wpAnyH_end [(true, 13), (true, 14), (false, 15)] (by kernel_rfl) st13 ?_
                    obtain ⟨_, _, _, _, hrA⟩ := hga.row
                    obtain ⟨wx, hst, hnA, hbx, hzx, hkx, _⟩ := storeBig info_disk hrA rfl #[.slice r1 r.1.secs.length r2, .slice r3 r.1.loose.length r4, .int .i64 r.1.fuse, .bool r.1.down] rfl (ones4 rfl rfl rfl rfl)
                    have sx : Below wr0.heap.size wr0 wx := st13.trans (hbx.mono lga)
                    have hA1 := hga.stored hdr hnA hkx
                    refine heldI_act rfl rfl fun K hK => ?_
                    refine op_store (.tmp 12) (.tmp 68) 25 rfl rfl rfl hst ?_
                    refine hK.out _ _ sx ?_
                    clear hK K hst
                    simp only [Act.put, List.setIfInBounds_toArray, List.set_cons_zero, List.set_cons_succ]
                    have nab : ga ≠ gb := Ne.symm ngbga
                    have hrB : wx.heap[gb]? = _ := (hkx gb (Ne.symm nab)).trans hgb
                    obtain ⟨wy, hst, hnB, hby2, hzy, hky, _⟩ := storeBig info_log hrB rfl #[.int .i64 r.2.1.half, .int .i64 r.2.1.gen, .int .i64 r.2.1.used, .int .i64 r.2.1.count] rfl (ones4 rfl rfl rfl rfl)
                    have sy : Below wr0.heap.size wr0 wy := sx.trans (hby2.mono lgb)
                    have hA2 := hA1.kept hrB (by simp) hky nab
                    refine heldI_act rfl rfl fun K hK => ?_
                    refine op_store (.tmp 13) (.tmp 69) 27 rfl rfl rfl hst ?_
                    refine hK.out _ _ sy ?_
                    clear hK K hst
                    simp only [Act.put, List.setIfInBounds_toArray, List.set_cons_zero, List.set_cons_succ]
                    repeat (first | (refine heldI_skip rfl rfl ?_; simp only [Act.put, List.setIfInBounds_toArray, List.set_cons_zero, List.set_cons_succ]) | (refine heldI_take rfl ?_ rfl (fun w' hw' => ?_) ?_; rotate_left; (go_simp; first | done | with_reducible rfl); (try simp only [Act.put, List.setIfInBounds_toArray, List.set_cons_zero, List.set_cons_succ])))
                    refine heldI_nil ?_
                    clear hzx hkx hzy hky hrA hrB hdr
                    go_wp2_with fail
                    go_meet
                    case rel => exact ⟨ga, gb, rfl, rfl, rfl, lga, lgb, nab, hA2, hnB, sy⟩
                · skip
                  obtain ⟨wt14, ga, hw, hg, hga, hb, hlt, hle⟩ := fresh_disk wt11
                  have st14 := st11.trans (hb.mono st11.size)
                  have lga := Nat.le_trans st11.size hle
                  have hgb := hgb.below hb
                  have ngbga : gb ≠ ga := Nat.ne_of_lt (Nat.lt_of_lt_of_le ltgb hle)
                  have ltgb := Nat.lt_trans ltgb (Nat.lt_of_le_of_lt hle hlt)
                  have ltga := hlt
                  refine op_alloc 25 rfl (zero_disk _) hw.out ?_
                  rw [← hg.out]
                  refine hK.out _ _ st14 ?_
                  clear hK K hw hg hb hlt hle
                  simp only [Act.put, List.setIfInBounds_toArray, List.set_cons_zero, List.set_cons_succ]
                  refine wpAnyH_ready (rs := [6]) (by kernel_rfl) (by simp) ?_
                  refine ready_cons rfl rfl (fun K hK => ?_) AllReadyH.nil
                  · skip
                    have kc := append_any _ _ d l b wt14 (hv.below st14).tight (show Bytes wt14.heap.size wt14 (.slice ax M cx) b from (hbr.below (st14.mono hb.size)).tight) (by have := HHO.out.half; omega) (HT.out.below (hb.trans (st14.mono hb.size)) hT) (Nat.lt_of_lt_of_le hT (Nat.le_trans hb.size st14.size))
                    rw [← HRR.out] at kc
                    unfold DLE at kc
                    simp only [logV] at kc
                    go_simp
                    refine kc.mono ?_
                    rintro e wt15 ⟨⟨vr, rfl, hdr⟩, hb⟩
                    clear kc
                    obtain ⟨r1, r2, r3, r4, rfl, _, _⟩ := hdr.parts
                    have st15 := st14.trans (hb.mono st14.size)
                    have hgb := hgb.below hb
                    have ltgb := Nat.lt_of_lt_of_le ltgb hb.size
                    have hga := hga.below hb
                    have ltga := Nat.lt_of_lt_of_le ltga hb.size
                    refine hK.out _ _ st15 ?_
                    clear hK K hb
                    refine wpAnyH_part [(false, 7), (false, 8), (false, 9), (false, 10)] (by kernel_rfl) st15 ?_
                    repeat (first | (refine heldI_skip rfl rfl ?_; simp only [Act.put, List.setIfInBounds_toArray, List.set_cons_zero, List.set_cons_succ]) | (refine heldI_take rfl ?_ rfl (fun w' hw' => ?_) ?_; rotate_left; (go_simp; first | done | with_reducible rfl); (try simp only [Act.put, List.setIfInBounds_toArray, List.set_cons_zero, List.set_cons_succ])))
                    refine heldI_nil ?_
                    refine wpAnyH_end [(true, 13), (true, 14), (false, 15)] (by kernel_rfl) st15 ?_
                    obtain ⟨_, _, _, _, hrA⟩ := hga.row
                    obtain ⟨wx, hst, hnA, hbx, hzx, hkx, _⟩ := storeBig info_disk hrA rfl #[.slice r1 r.1.secs.length r2, .slice r3 r.1.loose.length r4, .int .i64 r.1.fuse, .bool r.1.down] rfl (ones4 rfl rfl rfl rfl)
                    have sx : Below wr0.heap.size wr0 wx := st15.trans (hbx.mono lga)
                    have hA1 := hga.stored hdr hnA hkx
                    refine heldI_act rfl rfl fun K hK => ?_
                    refine op_store (.tmp 12) (.tmp 68) 25 rfl rfl rfl hst ?_
                    refine hK.out _ _ sx ?_
                    clear hK K hst
                    simp only [Act.put, List.setIfInBounds_toArray, List.set_cons_zero, List.set_cons_succ]
                    have nab : ga ≠ gb := Ne.symm ngbga
                    have hrB : wx.heap[gb]? = _ := (hkx gb (Ne.symm nab)).trans hgb
                    obtain ⟨wy, hst, hnB, hby2, hzy, hky, _⟩ := storeBig info_log hrB rfl #[.int .i64 r.2.1.half, .int .i64 r.2.1.gen, .int .i64 r.2.1.used, .int .i64 r.2.1.count] rfl (ones4 rfl rfl rfl rfl)
                    have sy : Below wr0.heap.size wr0 wy := sx.trans (hby2.mono lgb)
                    have hA2 := hA1.kept hrB (by simp) hky nab
                    refine heldI_act rfl rfl fun K hK => ?_
                    refine op_store (.tmp 13) (.tmp 69) 27 rfl rfl rfl hst ?_
                    refine hK.out _ _ sy ?_
                    clear hK K hst
                    simp only [Act.put, List.setIfInBounds_toArray, List.set_cons_zero, List.set_cons_succ]
                    repeat (first | (refine heldI_skip rfl rfl ?_; simp only [Act.put, List.setIfInBounds_toArray, List.set_cons_zero, List.set_cons_succ]) | (refine heldI_take rfl ?_ rfl (fun w' hw' => ?_) ?_; rotate_left; (go_simp; first | done | with_reducible rfl); (try simp only [Act.put, List.setIfInBounds_toArray, List.set_cons_zero, List.set_cons_succ])))
                    refine heldI_nil ?_
                    clear hzx hkx hzy hky hrA hrB hdr
                    go_wp2_with fail
                    go_meet
                    case rel => exact ⟨ga, gb, rfl, rfl, rfl, lga, lgb, nab, hA2, hnB, sy⟩
            case rest =>
              obtain ⟨ga, gb, rfl, rfl, rfl, lga, lgb, nab, hA, hB, hb13⟩ := hcut
              clear L0 L1 L2 L3 M0 M1 M2 M3 hle3
              have hDlt := hD.lt
              have hLlt := hL.lt
              have nDa : D ≠ ga := by omega
              have nDb : D ≠ gb := by omega
              have nLa : L ≠ ga := by omega
              have nLb : L ≠ gb := by omega
              have hD := hD.below hb13
              have hL := hL.below hb13
              have hbc := hb.trans (hb13.mono hb.size)
              clear hb13 hb lga lgb hDlt hLlt
              rcases append_holds HHO.out b with ⟨e0, he⟩ | ⟨e0, e1, he⟩ | ⟨e0, e1, e2, e3, e4⟩
              · obtain rfl : r = (d, l, 1) := HRR.out.trans he
                have t0 : tk = 0 := by rw [HTK.out, HM.out]; exact e0
                have q0 : ((tk : Int) == 0) = true := by simp [t0]
                have HHX := Lib.hid HHO.out
                clear e0 he t0
                go_upto_region 22 with (fail)
                obtain ⟨xa, xn, xb, xm, TA, hvA⟩ := id hA
                have TB := hB
                unfold LAt at TB
                have s0 : Two ga gb _ _ wc.drew := ⟨TA, TB⟩
                obtain ⟨oa, hoa⟩ : ∃ o, o = Obj.cells #[.slice xa (d : DiskP).secs.length xn, .slice xb (d : DiskP).loose.length xm, .int .i64 (d : DiskP).fuse, .bool (d : DiskP).down] 25 (0, 0) := ⟨_, rfl⟩
                obtain ⟨ob, hob⟩ : ∃ o, o = Obj.cells #[.int .i64 (l : LogP).half, .int .i64 (l : LogP).gen, .int .i64 (l : LogP).used, .int .i64 (l : LogP).count] 27 (0, 0) := ⟨_, rfl⟩
                rw [← hoa, ← hob] at s0
                have L0 := fun w' (h : Two ga gb oa ob w') => cell_of_row w' _ 0 _ _ _ (h.1.trans (congrArg some hoa))
                have L1 := fun w' (h : Two ga gb oa ob w') => cell_of_row w' _ 1 _ _ _ (h.1.trans (congrArg some hoa))
                have L2 := fun w' (h : Two ga gb oa ob w') => cell_of_row w' _ 2 _ _ _ (h.1.trans (congrArg some hoa))
                have L3 := fun w' (h : Two ga gb oa ob w') => cell_of_row w' _ 3 _ _ _ (h.1.trans (congrArg some hoa))
                have M0 := fun w' (h : Two ga gb oa ob w') => cell_of_row w' _ 0 _ _ _ (h.2.trans (congrArg some hob))
                have M1 := fun w' (h : Two ga gb oa ob w') => cell_of_row w' _ 1 _ _ _ (h.2.trans (congrArg some hob))
                have M2 := fun w' (h : Two ga gb oa ob w') => cell_of_row w' _ 2 _ _ _ (h.2.trans (congrArg some hob))
                have M3 := fun w' (h : Two ga gb oa ob w') => cell_of_row w' _ 3 _ _ _ (h.2.trans (congrArg some hob))
                try dsimp only at L0 L1 L2 L3 M0 M1 M2 M3
                have hbd : Below wc.heap.size wc wc.drew := below_draws (Below.refl _ _) 1
                have hD1 := hD.below hbd
                have hL1 := hL.below hbd
                have hv1 := (hvA.below hbd).tight
                have hbc1 := hbc.trans (hbd.mono hbc.size)
                obtain ⟨_, _, _, _, hrD⟩ := hD1.row
                obtain ⟨wx, hst1, hnD, hbx, -, hkx, -⟩ := storeBig info_disk hrD rfl #[.slice xa (d : DiskP).secs.length xn, .slice xb (d : DiskP).loose.length xm, .int .i64 (d : DiskP).fuse, .bool (d : DiskP).down] rfl (ones4 rfl rfl rfl rfl)
                have hD2 := hD1.stored hv1 hnD hkx
                have hL2 := hL1.kept hkx (Ne.symm hDL)
                have s1 : Two ga gb oa ob wx := ⟨(hkx _ (Ne.symm nDa)).trans s0.1, (hkx _ (Ne.symm nDb)).trans s0.2⟩
                have hL2' := hL2
                unfold LAt at hL2'
                obtain ⟨wy, hst2, hnL, hby, -, hky, -⟩ := storeBig info_log hL2' rfl #[.int .i64 (l : LogP).half, .int .i64 (l : LogP).gen, .int .i64 (l : LogP).used, .int .i64 (l : LogP).count] rfl (ones4 rfl rfl rfl rfl)
                have hD3 := hD2.kept hL2' (by simp) hky hDL
                have s2 : Two ga gb oa ob wy := ⟨(hky _ (Ne.symm nLa)).trans s1.1, (hky _ (Ne.symm nLb)).trans s1.2⟩
                have hby1 := (hbc1.trans (hbx.mono hDw)).trans (hby.mono hLw)
                have HFIN := Lib.hid (show RoomsInv W D L S wy from ⟨d, l, cur, hD3, hnL, HHX.out, hby1⟩)
                clear hoa hob hrD hnD hbx hkx hnL hby hky hD1 hL1 hv1 hbc1 hD2 hL2 hL2' hD3 hby1 TA TB hvA
                refine wp_region_I [(false, 0), (false, 1), (true, 2), (true, 3)] (Two ga gb oa ob) (by kernel_rfl) (by kernel_rfl) s0 ?_
                repeat (first | (refine heldI_skip rfl rfl ?_; simp only [Act.put, List.setIfInBounds_toArray, List.set_cons_zero, List.set_cons_succ]) | (refine heldI_take rfl ?_ rfl (fun w' hw' => ?_) ?_; rotate_left; (go_simp; first | done | with_reducible rfl); (try simp only [Act.put, List.setIfInBounds_toArray, List.set_cons_zero, List.set_cons_succ])))
                refine heldI_act rfl rfl fun K hK => ?_
                refine op_store (.tmp 5) (.tmp 119) 25 rfl rfl rfl hst1 ?_
                refine hK.out _ _ s1 ?_
                clear hK K hst1
                simp only [Act.put, List.setIfInBounds_toArray, List.set_cons_zero, List.set_cons_succ]
                refine heldI_act rfl rfl fun K hK => ?_
                refine op_store (.tmp 7) (.tmp 120) 27 rfl rfl rfl hst2 ?_
                refine hK.out _ _ s2 ?_
                clear hK K hst2
                simp only [Act.put, List.setIfInBounds_toArray, List.set_cons_zero, List.set_cons_succ]
                refine heldI_nil ?_
                clear L0 L1 L2 L3 M0 M1 M2 M3 s0 s1 s2
                go_wp2_with fail
                go_roundw
                case rel => exact ⟨k + 1, by omega, by go_num, HFIN.out⟩
                case measure => simp [intOf]; omega
              · obtain rfl : r = (d, l, 8) := HRR.out.trans he
                have hroom := HHO.out.room
                rw [← HRO.out] at hroom
                have hlt : ro < tk := by rw [hroom, ← HM.out, ← HTK.out] at e1; omega
                have q0 : ((tk : Int) == 0) = false := by simp; omega
                have q1 : decide ((ro : Int) < (tk : Int)) = true := by simp; omega
                have HHX := Lib.hid HHO.out
                clear e0 e1 he hroom
                obtain ⟨da, na, db, nb, T, hv⟩ := id hD
                obtain ⟨C0, C1, C2, C3, _⟩ := Four.of T
                clear T
                have hvD := hv
                clear hv
                obtain ⟨da2, na2, db2, nb2, T2, hv2⟩ := id hA
                obtain ⟨E0, E1, E2, E3, _⟩ := Four.of T2
                clear T2
                obtain ⟨N0, N1, N2, N3, _⟩ := hL.four
                try dsimp only at N0 N1 N2 N3
                obtain ⟨F0, F1, F2, F3, _⟩ := hB.four
                try dsimp only at F0 F1 F2 F3
                have ks := same_any _ _ d wc hv2 hvD
                clear hv2 hvD
                go_wp2_with fail
                refine ks.mono ?_
                rintro e w14 ⟨rfl, hb14⟩
                clear ks C0 C1 C2 C3 E0 E1 E2 E3 N0 N1 N2 N3 F0 F1 F2 F3
                have hA := hA.below hb14
                have hB := hB.below hb14
                have hD := hD.below hb14
                have hL := hL.below hb14
                have hbc := hbc.trans (hb14.mono hbc.size)
                clear hb14
                go_upto_region 22 with (fail)
                obtain ⟨xa, xn, xb, xm, TA, hvA⟩ := id hA
                have TB := hB
                unfold LAt at TB
                have s0 : Two ga gb _ _ w14.drew := ⟨TA, TB⟩
                obtain ⟨oa, hoa⟩ : ∃ o, o = Obj.cells #[.slice xa (d : DiskP).secs.length xn, .slice xb (d : DiskP).loose.length xm, .int .i64 (d : DiskP).fuse, .bool (d : DiskP).down] 25 (0, 0) := ⟨_, rfl⟩
                obtain ⟨ob, hob⟩ : ∃ o, o = Obj.cells #[.int .i64 (l : LogP).half, .int .i64 (l : LogP).gen, .int .i64 (l : LogP).used, .int .i64 (l : LogP).count] 27 (0, 0) := ⟨_, rfl⟩
                rw [← hoa, ← hob] at s0
                have L0 := fun w' (h : Two ga gb oa ob w') => cell_of_row w' _ 0 _ _ _ (h.1.trans (congrArg some hoa))
                have L1 := fun w' (h : Two ga gb oa ob w') => cell_of_row w' _ 1 _ _ _ (h.1.trans (congrArg some hoa))
                have L2 := fun w' (h : Two ga gb oa ob w') => cell_of_row w' _ 2 _ _ _ (h.1.trans (congrArg some hoa))
                have L3 := fun w' (h : Two ga gb oa ob w') => cell_of_row w' _ 3 _ _ _ (h.1.trans (congrArg some hoa))
                have M0 := fun w' (h : Two ga gb oa ob w') => cell_of_row w' _ 0 _ _ _ (h.2.trans (congrArg some hob))
                have M1 := fun w' (h : Two ga gb oa ob w') => cell_of_row w' _ 1 _ _ _ (h.2.trans (congrArg some hob))
                have M2 := fun w' (h : Two ga gb oa ob w') => cell_of_row w' _ 2 _ _ _ (h.2.trans (congrArg some hob))
                have M3 := fun w' (h : Two ga gb oa ob w') => cell_of_row w' _ 3 _ _ _ (h.2.trans (congrArg some hob))
                try dsimp only at L0 L1 L2 L3 M0 M1 M2 M3
                have hbd : Below w14.heap.size w14 w14.drew := below_draws (Below.refl _ _) 1
                have hD1 := hD.below hbd
                have hL1 := hL.below hbd
                have hv1 := (hvA.below hbd).tight
                have hbc1 := hbc.trans (hbd.mono hbc.size)
                obtain ⟨_, _, _, _, hrD⟩ := hD1.row
                obtain ⟨wx, hst1, hnD, hbx, -, hkx, -⟩ := storeBig info_disk hrD rfl #[.slice xa (d : DiskP).secs.length xn, .slice xb (d : DiskP).loose.length xm, .int .i64 (d : DiskP).fuse, .bool (d : DiskP).down] rfl (ones4 rfl rfl rfl rfl)
                have hD2 := hD1.stored hv1 hnD hkx
                have hL2 := hL1.kept hkx (Ne.symm hDL)
                have s1 : Two ga gb oa ob wx := ⟨(hkx _ (Ne.symm nDa)).trans s0.1, (hkx _ (Ne.symm nDb)).trans s0.2⟩
                have hL2' := hL2
                unfold LAt at hL2'
                obtain ⟨wy, hst2, hnL, hby, -, hky, -⟩ := storeBig info_log hL2' rfl #[.int .i64 (l : LogP).half, .int .i64 (l : LogP).gen, .int .i64 (l : LogP).used, .int .i64 (l : LogP).count] rfl (ones4 rfl rfl rfl rfl)
                have hD3 := hD2.kept hL2' (by simp) hky hDL
                have s2 : Two ga gb oa ob wy := ⟨(hky _ (Ne.symm nLa)).trans s1.1, (hky _ (Ne.symm nLb)).trans s1.2⟩
                have hby1 := (hbc1.trans (hbx.mono hDw)).trans (hby.mono hLw)
                have HFIN := Lib.hid (show RoomsInv W D L S wy from ⟨d, l, cur, hD3, hnL, HHX.out, hby1⟩)
                clear hoa hob hrD hnD hbx hkx hnL hby hky hD1 hL1 hv1 hbc1 hD2 hL2 hL2' hD3 hby1 TA TB hvA
                refine wp_region_I [(false, 0), (false, 1), (true, 2), (true, 3)] (Two ga gb oa ob) (by kernel_rfl) (by kernel_rfl) s0 ?_
                repeat (first | (refine heldI_skip rfl rfl ?_; simp only [Act.put, List.setIfInBounds_toArray, List.set_cons_zero, List.set_cons_succ]) | (refine heldI_take rfl ?_ rfl (fun w' hw' => ?_) ?_; rotate_left; (go_simp; first | done | with_reducible rfl); (try simp only [Act.put, List.setIfInBounds_toArray, List.set_cons_zero, List.set_cons_succ])))
                refine heldI_act rfl rfl fun K hK => ?_
                refine op_store (.tmp 5) (.tmp 119) 25 rfl rfl rfl hst1 ?_
                refine hK.out _ _ s1 ?_
                clear hK K hst1
                simp only [Act.put, List.setIfInBounds_toArray, List.set_cons_zero, List.set_cons_succ]
                refine heldI_act rfl rfl fun K hK => ?_
                refine op_store (.tmp 7) (.tmp 120) 27 rfl rfl rfl hst2 ?_
                refine hK.out _ _ s2 ?_
                clear hK K hst2
                simp only [Act.put, List.setIfInBounds_toArray, List.set_cons_zero, List.set_cons_succ]
                refine heldI_nil ?_
                clear L0 L1 L2 L3 M0 M1 M2 M3 s0 s1 s2
                go_wp2_with fail
                go_roundw
                case rel => exact ⟨k + 1, by omega, by go_num, HFIN.out⟩
                case measure => simp [intOf]; omega
              · rw [← HRR.out] at e2 e3 e4
                obtain ⟨rd, rl, re⟩ := r
                dsimp only at e2 e3 e4 hA hB
                subst e2
                subst e3
                have hroom := HHO.out.room
                rw [← HRO.out] at hroom
                have hge : tk ≤ ro := by rw [hroom, ← HM.out, ← HTK.out] at e1; omega
                have hcnt : 0 ≤ l.count ∧ l.count ≤ 5000 := by
                  have h1 := HHO.out.count
                  have h2 := len_le_posN cur HHO.out.tk
                  have h3 := HHO.out.fits
                  have h4 := half_of HHO.out.calm
                  have h5 := HHO.out.hS
                  rw [h1]; rw [h4] at h3; omega
                obtain ⟨hcn0, hcn1⟩ := hcnt
                have q0 : ((tk : Int) == 0) = false := by
                  rw [← HM.out, ← HTK.out] at e0
                  simp; omega
                have q1 : decide ((ro : Int) < (tk : Int)) = false := by simp; omega
                obtain ⟨da2, na2, db2, nb2, T2, hv2⟩ := id hA
                obtain ⟨E0, E1, E2, E3, _⟩ := Four.of T2
                have kr := room_any _ rd ⟨l.half, l.gen, l.used + takes b.length, l.count + 1⟩ wc hv2 (by have := HHO.out.half; show -9223372036854775808 ≤ l.half ∧ l.half ≤ 9223372036854775807; omega)
                have hrr : roomP rd ⟨l.half, l.gen, l.used + takes b.length, l.count + 1⟩ = (ro : Int) - (tk : Int) := by
                  have h1 := e4.room
                  have h2 : roomP rd { l with used := l.used + takes b.length, count := l.count + 1 } = roomP rd ⟨l.half, l.gen, l.used + takes b.length, l.count + 1⟩ := rfl
                  rw [← h2, h1, half_of e4.calm, HRO.out, half_of HHO.out.calm, posN_append, HTK.out, HM.out]
                  have h3 : posN [b] = takes b.length := by simp [posN]
                  have h4 := HRO.out
                  rw [half_of HHO.out.calm] at h4
                  rw [← HM.out, ← HTK.out] at h3
                  rw [h3, ← HM.out, ← HTK.out]
                  omega
                rw [hrr] at kr
                simp only [logV] at kr
                have HHX := Lib.hid e4
                clear T2 hv2 hrr e0 e1 e4 hroom
                obtain ⟨N0, N1, N2, N3, _⟩ := hL.four
                try dsimp only at N0 N1 N2 N3
                obtain ⟨F0, F1, F2, F3, _⟩ := hB.four
                try dsimp only at F0 F1 F2 F3
                go_wp2_with fail
                refine kr.mono ?_
                rintro e w14 ⟨rfl, hb14⟩
                clear kr E0 E1 E2 E3 N0 N1 N2 N3 F0 F1 F2 F3
                have hA := hA.below hb14
                have hB := hB.below hb14
                have hD := hD.below hb14
                have hL := hL.below hb14
                have hbc := hbc.trans (hb14.mono hbc.size)
                clear hb14
                obtain ⟨N0, N1, N2, N3, _⟩ := hL.four
                try dsimp only at N0 N1 N2 N3
                obtain ⟨F0, F1, F2, F3, _⟩ := hB.four
                try dsimp only at F0 F1 F2 F3
                go_upto_region 22 with (fail)
                clear N0 N1 N2 N3 F0 F1 F2 F3
                obtain ⟨xa, xn, xb, xm, TA, hvA⟩ := id hA
                have TB := hB
                unfold LAt at TB
                have s0 : Two ga gb _ _ w14.drew := ⟨TA, TB⟩
                obtain ⟨oa, hoa⟩ : ∃ o, o = Obj.cells #[.slice xa (rd : DiskP).secs.length xn, .slice xb (rd : DiskP).loose.length xm, .int .i64 (rd : DiskP).fuse, .bool (rd : DiskP).down] 25 (0, 0) := ⟨_, rfl⟩
                obtain ⟨ob, hob⟩ : ∃ o, o = Obj.cells #[.int .i64 (⟨l.half, l.gen, l.used + takes b.length, l.count + 1⟩ : LogP).half, .int .i64 (⟨l.half, l.gen, l.used + takes b.length, l.count + 1⟩ : LogP).gen, .int .i64 (⟨l.half, l.gen, l.used + takes b.length, l.count + 1⟩ : LogP).used, .int .i64 (⟨l.half, l.gen, l.used + takes b.length, l.count + 1⟩ : LogP).count] 27 (0, 0) := ⟨_, rfl⟩
                rw [← hoa, ← hob] at s0
                have L0 := fun w' (h : Two ga gb oa ob w') => cell_of_row w' _ 0 _ _ _ (h.1.trans (congrArg some hoa))
                have L1 := fun w' (h : Two ga gb oa ob w') => cell_of_row w' _ 1 _ _ _ (h.1.trans (congrArg some hoa))
                have L2 := fun w' (h : Two ga gb oa ob w') => cell_of_row w' _ 2 _ _ _ (h.1.trans (congrArg some hoa))
                have L3 := fun w' (h : Two ga gb oa ob w') => cell_of_row w' _ 3 _ _ _ (h.1.trans (congrArg some hoa))
                have M0 := fun w' (h : Two ga gb oa ob w') => cell_of_row w' _ 0 _ _ _ (h.2.trans (congrArg some hob))
                have M1 := fun w' (h : Two ga gb oa ob w') => cell_of_row w' _ 1 _ _ _ (h.2.trans (congrArg some hob))
                have M2 := fun w' (h : Two ga gb oa ob w') => cell_of_row w' _ 2 _ _ _ (h.2.trans (congrArg some hob))
                have M3 := fun w' (h : Two ga gb oa ob w') => cell_of_row w' _ 3 _ _ _ (h.2.trans (congrArg some hob))
                try dsimp only at L0 L1 L2 L3 M0 M1 M2 M3
                have hbd : Below w14.heap.size w14 w14.drew := below_draws (Below.refl _ _) 1
                have hD1 := hD.below hbd
                have hL1 := hL.below hbd
                have hv1 := (hvA.below hbd).tight
                have hbc1 := hbc.trans (hbd.mono hbc.size)
                obtain ⟨_, _, _, _, hrD⟩ := hD1.row
                obtain ⟨wx, hst1, hnD, hbx, -, hkx, -⟩ := storeBig info_disk hrD rfl #[.slice xa (rd : DiskP).secs.length xn, .slice xb (rd : DiskP).loose.length xm, .int .i64 (rd : DiskP).fuse, .bool (rd : DiskP).down] rfl (ones4 rfl rfl rfl rfl)
                have hD2 := hD1.stored hv1 hnD hkx
                have hL2 := hL1.kept hkx (Ne.symm hDL)
                have s1 : Two ga gb oa ob wx := ⟨(hkx _ (Ne.symm nDa)).trans s0.1, (hkx _ (Ne.symm nDb)).trans s0.2⟩
                have hL2' := hL2
                unfold LAt at hL2'
                obtain ⟨wy, hst2, hnL, hby, -, hky, -⟩ := storeBig info_log hL2' rfl #[.int .i64 (⟨l.half, l.gen, l.used + takes b.length, l.count + 1⟩ : LogP).half, .int .i64 (⟨l.half, l.gen, l.used + takes b.length, l.count + 1⟩ : LogP).gen, .int .i64 (⟨l.half, l.gen, l.used + takes b.length, l.count + 1⟩ : LogP).used, .int .i64 (⟨l.half, l.gen, l.used + takes b.length, l.count + 1⟩ : LogP).count] rfl (ones4 rfl rfl rfl rfl)
                have hD3 := hD2.kept hL2' (by simp) hky hDL
                have s2 : Two ga gb oa ob wy := ⟨(hky _ (Ne.symm nLa)).trans s1.1, (hky _ (Ne.symm nLb)).trans s1.2⟩
                have hby1 := (hbc1.trans (hbx.mono hDw)).trans (hby.mono hLw)
                have HFIN := Lib.hid (show RoomsInv W D L S wy from ⟨rd, _, cur ++ [b], hD3, hnL, HHX.out, hby1⟩)
                clear hoa hob hrD hnD hbx hkx hnL hby hky hD1 hL1 hv1 hbc1 hD2 hL2 hL2' hD3 hby1 TA TB hvA
                refine wp_region_I [(false, 0), (false, 1), (true, 2), (true, 3)] (Two ga gb oa ob) (by kernel_rfl) (by kernel_rfl) s0 ?_
                repeat (first | (refine heldI_skip rfl rfl ?_; simp only [Act.put, List.setIfInBounds_toArray, List.set_cons_zero, List.set_cons_succ]) | (refine heldI_take rfl ?_ rfl (fun w' hw' => ?_) ?_; rotate_left; (go_simp; first | done | with_reducible rfl); (try simp only [Act.put, List.setIfInBounds_toArray, List.set_cons_zero, List.set_cons_succ])))
                refine heldI_act rfl rfl fun K hK => ?_
                refine op_store (.tmp 5) (.tmp 119) 25 rfl rfl rfl hst1 ?_
                refine hK.out _ _ s1 ?_
                clear hK K hst1
                simp only [Act.put, List.setIfInBounds_toArray, List.set_cons_zero, List.set_cons_succ]
                refine heldI_act rfl rfl fun K hK => ?_
                refine op_store (.tmp 7) (.tmp 120) 27 rfl rfl rfl hst2 ?_
                refine hK.out _ _ s2 ?_
                clear hK K hst2
                simp only [Act.put, List.setIfInBounds_toArray, List.set_cons_zero, List.set_cons_succ]
                refine heldI_nil ?_
                clear L0 L1 L2 L3 M0 M1 M2 M3 s0 s1 s2
                go_wp2_with fail
                go_roundw
                case rel => exact ⟨k + 1, by omega, by go_num, HFIN.out⟩
                case measure => simp [intOf]; omega
        · have k0 : decide ((k : Int) < (N : Int)) = false := by simp; omega
          go_wp2_with fail
          go_ret
          exact ⟨rfl, hb⟩
end Go.Proofs.YtaijompnohkmaaaDoor
