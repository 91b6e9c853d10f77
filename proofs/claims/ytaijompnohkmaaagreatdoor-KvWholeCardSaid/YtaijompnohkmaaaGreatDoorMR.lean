/- Layer 6 (kv): Open (the code's). -/
import Derived.Test.YtaijompnohkmaaaGreatDoorMQ
set_option linter.unusedSimpArgs false
set_option linter.unusedVariables false
namespace Go.Proofs.YtaijompnohkmaaaGreatDoor
open Go.RowKit KvP PackP WalP
theorem Own.kept {B : Nat} {w w' : World} {e : TypeId} {v : Value} {sz n : Nat} {cs : List Value} (h : Own B w e v sz n cs) (hk : ∀ k, B ≤ k → w'.heap[k]? = w.heap[k]?) : Own B w' e v sz n cs := by
  obtain ⟨h1, a, cap, rfl, h2, h3, h4⟩ := h
  refine ⟨h1, a, cap, rfl, h2, h3, ?_⟩
  rcases h4 with h4 | ⟨g, cur, rfl, hg, hh, hs, ht⟩
  · exact .inl h4
  · exact .inr ⟨g, cur, rfl, hg, (hk g hg).trans hh, hs, ht⟩
theorem played_step {recs : List (List UInt8)} {j : Nat} {P : List PairP} (hj : j < recs.length) : playedP (recs.drop j) P = if (decodeP recs[j]).2 = 0 then (if pairsB (doP P (decodeP recs[j]).1) then playedP (recs.drop (j + 1)) (doP P (decodeP recs[j]).1) else ([], 3)) else ([], 3) := by
  rw [List.drop_eq_getElem_cons hj, playedP]
theorem decodeP_changes {b : List UInt8} (h : (decodeP b).2 = 0) : changesB (decodeP b).1 = true := by
  obtain ⟨M, hM, _⟩ := count_nat (RS.mk b 0)
  by_cases h1 : (decN M ((RS.mk b 0).count 400).1).1.doneE = 0
  · cases hc : changesB (decN M ((RS.mk b 0).count 400).1).2 with
    | true =>
      rw [decodeP_good b M hM h1 hc]
      exact hc
    | false =>
      rw [decodeP_form b M hM h1 hc] at h
      cases h
  · rw [decodeP_bad b M hM h1] at h
    exact absurd h h1
theorem pairs_lens {l : List PairP} (h : pairsB l = true) : l.length ≤ 400 ∧ Rising l ∧ ∀ p ∈ l, p.key.length ≤ 64 ∧ p.val.length ≤ 4096 := by
  obtain ⟨h1, h2, h3⟩ := pairsB_parts h
  refine ⟨h1, h3, fun p hp => ?_⟩
  have h := h2 p hp
  unfold mayP at h
  simp only [Bool.and_eq_true, decide_eq_true_eq] at h
  exact ⟨h.1.2, h.2⟩
set_option maxRecDepth 100000 in
set_option maxHeartbeats 8000000 in
theorem kopen_any {B : Nat} (v : Value) (d : DiskP) (w : World) (hd : DiskV B w v d) (ht : TabAt w) (hT : 1 < w.heap.size) :
    Calls Tryz.prog 18 #[v] w (KE w (openK d)) := by
  have hd := hd.tight
  obtain ⟨p1, q1, p2, q2, rfl, _, _⟩ := hd.parts
  obtain ⟨w1, hw1, hb1, hs1, R0, R1, R2⟩ := three w (.cells #[.slice p1 d.secs.length q1, .slice p2 d.loose.length q2, .int .i64 d.fuse, .bool d.down] 38) (.cells #[.slice none 0 0, .slice none 0 0, .int .i64 0, .bool false] 38) (.cells #[.int .i64 0, .int .i64 0, .int .i64 0, .int .i64 0, .slice none 0 0] 44)
  have hd1 := (hd.below hb1).tight
  obtain ⟨r, hr⟩ : ∃ r, r = openP d := ⟨_, rfl⟩
  obtain ⟨K0, hK0⟩ : ∃ x, x = openK d := ⟨_, rfl⟩
  have hKo : K0 = if r.2.2.2 = 0 then (if (playedP r.2.2.1 []).2 = 0 then (r.1, ⟨r.2.1, (playedP r.2.2.1 []).1⟩, 0) else (r.1, store0, 3)) else (r.1, store0, r.2.2.2) := by rw [hK0, hr]; rfl
  rw [← hK0]
  have HK0 := Lib.hid hKo
  have ko := open_any _ d w1 hd1 (ht.below hb1 hT) (Nat.lt_of_lt_of_le hT hb1.size)
  rw [← hr] at ko
  unfold OpenE logV at ko
  have HW1 := Lib.hid hw1
  have HS1 := Lib.hid hs1
  have C0 := cell_of_row w1 _ 0 _ _ _ R0
  have C1 := cell_of_row w1 _ 1 _ _ _ R0
  have C2 := cell_of_row w1 _ 2 _ _ _ R0
  have C3 := cell_of_row w1 _ 3 _ _ _ R0
  clear hr hK0 hKo hw1 hs1 ht hT
  go_enter Tryz.func18, Tryz.ntmps18
  go_upto_region 1 with (fail)
  rw [← HW1.out]
  go_wp2_with fail
  refine ko.mono ?_
  rintro e w4 ⟨⟨va, lv, rfl, hda, hpa⟩, hb4⟩
  clear ko C0 C1 C2 C3
  obtain ⟨y1, z1, y2, z2, rfl, _, _⟩ := hda.parts
  have hD4 : DAt w4 w.heap.size d := ⟨p1, q1, p2, q2, (hb4.block _ (block_lt R0)).trans R0, (hd1.below hb4).tight⟩
  have S1 := (hb4.block _ (block_lt R1)).trans R1
  have S2 := (hb4.block _ (block_lt R2)).trans R2
  have hs1 := HS1.out
  have hs4 := hb4.size
  obtain ⟨w5, G, HWb, HGb, hL5, hb5, lt5, le5⟩ := fresh_log w4
  have hDg : w.heap.size ≠ G := by omega
  obtain ⟨w6, x0, x1, x2, x3, hw6, ⟨C0, C1, C2, C3, Z⟩, ⟨N0, N1, N2, N3, Y⟩, HX6⟩ := pack_store r.2.1 (hD4.below hb5) hL5 (hda.below hb5).tight hDg
  have hw6 := hw6.out
  try dsimp only at hw6
  have HW6 := Lib.hid hw6
  clear hw6
  go_wp2_with (with_reducible refine wp_alloc_to (w' := w5) 41 rfl rfl (zero_log _) HWb.out ?_; refine Halt.in ?_)
  refine Halt.out ?_
  rw [← HGb.out]
  go_upto_region 2 with (fail)
  rw [← HW6.out]
  clear C0 C1 C2 C3 Z N0 N1 N2 N3 Y
  obtain ⟨hD6, hL6, hz6, hk6, hbb6⟩ := HX6.out
  have hs6 : w6.heap.size = w5.heap.size := hz6
  have hRC : w6.heap[w.heap.size + 1]? = _ := (hk6 _ (by omega) (by omega)).trans ((hb5.block _ (by omega)).trans S1)
  have hRS : w6.heap[w.heap.size + 1 + 1]? = _ := (hk6 _ (by omega) (by omega)).trans ((hb5.block _ (by omega)).trans S2)
  have hb06 : Below w.heap.size w w6 := hbb6 w.heap.size w ((hb1.trans (hb4.mono hb1.size)).trans (hb5.mono (by omega))) (Nat.le_refl _) (by omega)
  have hlv6 : PiecesS (fun b => w1.heap.size ≤ b) w4.heap.size w6 lv r.2.2.1 := hpa.keep (fun k h1 h2 => (hk6 k (by omega) (by omega)).trans (hb5.block k h2))
  have hPV := hlv6.tight.pieces
  obtain ⟨la, lc, rfl, hlc, hlm, hat⟩ := hPV.at_
  obtain ⟨M, hM⟩ : ∃ M, M = r.2.2.1.length := ⟨_, rfl⟩
  rw [← hM] at hlc ⊢
  have hs36 : w.heap.size + 3 ≤ w6.heap.size := by omega
  have hG6 : w.heap.size + 3 ≤ G := by omega
  have HMM := Lib.hid hM
  have HAT := Lib.hid hat
  have HD6 := Lib.hid hD6
  have HL6 := Lib.hid hL6
  have HRC := Lib.hid hRC
  have HRS := Lib.hid hRS
  have HB06 := Lib.hid hb06
  clear hM hat hD6 hL6 hz6 hk6 hbb6 HX6 hlv6 hPV hpa hda hD4 hL5 hb4 hb5 S1 S2 lt5 le5 hDg hRC hRS hb06 R0 R1 R2 hd1 hb1
  by_cases he : r.2.2.2 = 0
  · have q0 : (r.2.2.2 != 0) = false := by simp [he]
    have HE := Lib.hid he
    clear he
    go_wp2_with fail
    go_loopw [8, 27] (fun s8 i wr => ∃ (j : Nat) (P : List PairP), j ≤ M ∧ i = .int .i64 j ∧ PairsO w6.heap.size wr s8 P ∧ Below w6.heap.size w6 wr ∧ Hid (pairsB P = true ∧ playedP r.2.2.1 [] = playedP (r.2.2.1.drop j) P)) (fun _ i _ => M - (intOf i).toNat)
    case atStart => exact ⟨0, [], Nat.zero_le _, rfl, PairsO.none _ _ _, Below.refl _ _, Lib.hid ⟨rfl, rfl⟩⟩
    case round =>
      obtain ⟨j, P, hj, rfl, hP, hb, HPL⟩ := hrel
      by_cases hjM : j < M
      · have j0 : decide ((j : Int) < (M : Int)) = true := by simp; omega
        have j1 : (0 : Int) ≤ (j : Int) := by omega
        have j2 : (j : Int) < (M : Int) := by omega
        have hjl : j < r.2.2.1.length := HMM.out ▸ hjM
        obtain ⟨b, off, a2, c2, rfl, hbB, hcell⟩ := HAT.out j hjl
        obtain ⟨S0, hby⟩ := hcell wr hb
        have hst := played_step (P := P) hjl
        obtain ⟨bs, hbs⟩ : ∃ x, x = r.2.2.1[j] := ⟨_, rfl⟩
        rw [← hbs] at S0 hby hst
        have kd := decode_any _ bs wr hby
        obtain ⟨dp, hdp⟩ : ∃ x, x = decodeP bs := ⟨_, rfl⟩
        rw [← hdp] at kd hst
        have HDP := Lib.hid hdp
        have HST := Lib.hid hst
        have HP := Lib.hid hP
        have HB := Lib.hid hb
        clear hst hdp hbs hcell hby hP hb
        go_wp2_with fail
        refine kd.mono ?_
        rintro e w7 ⟨⟨u, rfl, hC7⟩, hb7⟩
        clear kd S0
        have HC7 := Lib.hid hC7
        have HB7 := Lib.hid (HB.out.trans (hb7.mono HB.out.size))
        have HP7 := Lib.hid (Own.below HP.out hb7 (Nat.le_refl _))
        clear hC7 hb7 HP HB
        by_cases hde : dp.2 = 0
        · have q7 : (dp.2 != 0) = false := by simp [hde]
          have hch : changesB dp.1 = true := by rw [HDP.out]; exact decodeP_changes (by rw [← HDP.out]; exact hde)
          obtain ⟨cl1, cl2⟩ := changesB_len hch
          obtain ⟨pl1, pl2, pl3⟩ := pairs_lens HPL.out.1
          have kk := do_any _ _ P dp.1 w7 (PairsO.v HP7.out) (ChangesO.v HC7.out) pl2 (by omega) (by omega) (fun p hp => by have := pl3 p hp; omega) (fun x hx => by have := cl2 x hx; omega)
          obtain ⟨P2, hP2⟩ : ∃ x, x = doP P dp.1 := ⟨_, rfl⟩
          rw [← hP2] at kk
          have HP2 := Lib.hid hP2
          have HDE := Lib.hid hde
          clear hch cl1 cl2 pl1 pl2 pl3 hP2 hde
          go_wp2_with fail
          refine kk.mono ?_
          rintro e w8 ⟨x8, rfl, hP8, hb8⟩
          clear kk
          have hs7 := HB7.out.size
          have HP8 := Lib.hid (Own.lower hP8 hs7)
          have HB8 := Lib.hid (HB7.out.trans (hb8.mono hs7))
          have kp := paired_any _ P2 w8 (PairsO.v HP8.out)
          obtain ⟨pb, hpb⟩ : ∃ x, x = pairsB P2 := ⟨_, rfl⟩
          rw [← hpb] at kp
          have HPB := Lib.hid hpb
          clear hP8 hb8 hpb HP7 HC7
          go_wp2_with fail
          refine kp.mono ?_
          rintro e w9 ⟨rfl, hb9⟩
          clear kp
          have hs8 := HB8.out.size
          have HP9 := Lib.hid (Own.below HP8.out hb9 (Nat.le_refl _))
          have HB9 := Lib.hid (HB8.out.trans (hb9.mono hs8))
          clear hb9 HP8 HB8 HB7
          cases pb with
          | false =>
            have hbx := HB06.out.trans (HB9.out.mono HB06.out.size)
            have hDx := HD6.out.below HB9.out
            have hRC := (HB9.out.block _ (by omega)).trans HRC.out
            have hRS := (HB9.out.block _ (by omega)).trans HRS.out
            obtain ⟨a0, n0, b0, m0, TX, hvX⟩ := id hDx
            obtain ⟨wa, wb, st1, st2, ka, kb, HLD⟩ := laid_DS (wx := w9) (a0 := a0) (a1 := b0) (n0 := n0) (n1 := m0) (d := r.1) (l := log0) (pv := (.slice none 0 0)) (s := ([] : List PairP)) hRC rfl hRS rfl (by omega) hvX ⟨none, 0, rfl⟩ (fun w' _ _ => Row.nil _ _ _)
            have HBZ := Lib.hid (HLD.out.2.2.2.2 w.heap.size w hbx (by omega) (by omega))
            have C0 := cell_of_row w9 _ 0 _ _ _ TX
            have C1 := cell_of_row w9 _ 1 _ _ _ TX
            have C2 := cell_of_row w9 _ 2 _ _ _ TX
            have C3 := cell_of_row w9 _ 3 _ _ _ TX
            have HKF := Lib.hid (show K0 = (r.1, ⟨log0, []⟩, 3) from by rw [HK0.out, if_pos HE.out, HPL.out.2, HST.out, if_pos HDE.out, ← HP2.out, ← HPB.out]; rfl)
            have ST2 := Lib.hid st2
            clear ka kb TX hvX st2
            go_wp2_with (with_reducible refine wp_store_r (.tmp 2) (.tmp 46) 38 st1 rfl rfl ?_; refine Halt.in ?_)
            refine Halt.out ?_
            have st2 := ST2.out
            clear st1 C0 C1 C2 C3
            go_wp2_with (with_reducible refine wp_store_r (.tmp 3) (.tmp 47) 44 st2 rfl rfl ?_; refine Halt.in ?_)
            refine Halt.out ?_
            clear st2
            go_wp2_with fail
            refine bodyPost_ret (results_cct rfl _ _ (w.heap.size + 1) (w.heap.size + 1 + 1) _ _ _ _ _ _ _ _ rfl rfl HLD.out.1 HLD.out.2.1 Tryz.underlying38 rfl size_disk Tryz.underlying44 rfl size_store) rfl ?_
            rw [HKF.out]
            exact ⟨⟨_, _, rfl, HLD.out.2.2.1, HLD.out.2.2.2.1⟩, HBZ.out⟩
          | true =>
            have hnext : playedP r.2.2.1 [] = playedP (r.2.2.1.drop (j + 1)) P2 := by rw [HPL.out.2, HST.out, if_pos HDE.out, ← HP2.out, ← HPB.out, if_pos rfl]
            have HNX := Lib.hid (And.intro HPB.out.symm hnext)
            clear hnext
            go_wp2_with fail
            go_roundw
            case rel => exact ⟨j + 1, P2, by omega, by go_num, HP9.out, HB9.out, HNX⟩
            case measure => simp [intOf]; omega
        · have q7 : (dp.2 != 0) = true := by simp [hde]
          have HDE := Lib.hid hde
          have hbx := HB06.out.trans (HB7.out.mono HB06.out.size)
          have hDx := HD6.out.below HB7.out
          have hRC := (HB7.out.block _ (by omega)).trans HRC.out
          have hRS := (HB7.out.block _ (by omega)).trans HRS.out
          clear hde
          obtain ⟨a0, n0, b0, m0, TX, hvX⟩ := id hDx
          obtain ⟨wa, wb, st1, st2, ka, kb, HLD⟩ := laid_DS (wx := w7) (a0 := a0) (a1 := b0) (n0 := n0) (n1 := m0) (d := r.1) (l := log0) (pv := (.slice none 0 0)) (s := ([] : List PairP)) hRC rfl hRS rfl (by omega) hvX ⟨none, 0, rfl⟩ (fun w' _ _ => Row.nil _ _ _)
          have HBZ := Lib.hid (HLD.out.2.2.2.2 w.heap.size w hbx (by omega) (by omega))
          have C0 := cell_of_row w7 _ 0 _ _ _ TX
          have C1 := cell_of_row w7 _ 1 _ _ _ TX
          have C2 := cell_of_row w7 _ 2 _ _ _ TX
          have C3 := cell_of_row w7 _ 3 _ _ _ TX
          have HKF := Lib.hid (show K0 = (r.1, ⟨log0, []⟩, 3) from by rw [HK0.out, if_pos HE.out, HPL.out.2, HST.out, if_neg HDE.out]; rfl)
          have ST2 := Lib.hid st2
          clear ka kb TX hvX st2
          go_wp2_with (with_reducible refine wp_store_r (.tmp 2) (.tmp 38) 38 st1 rfl rfl ?_; refine Halt.in ?_)
          refine Halt.out ?_
          have st2 := ST2.out
          clear st1 C0 C1 C2 C3
          go_wp2_with (with_reducible refine wp_store_r (.tmp 3) (.tmp 39) 44 st2 rfl rfl ?_; refine Halt.in ?_)
          refine Halt.out ?_
          clear st2
          go_wp2_with fail
          refine bodyPost_ret (results_cct rfl _ _ (w.heap.size + 1) (w.heap.size + 1 + 1) _ _ _ _ _ _ _ _ rfl rfl HLD.out.1 HLD.out.2.1 Tryz.underlying38 rfl size_disk Tryz.underlying44 rfl size_store) rfl ?_
          rw [HKF.out]
          exact ⟨⟨_, _, rfl, HLD.out.2.2.1, HLD.out.2.2.2.1⟩, HBZ.out⟩
      · have j0 : decide ((j : Int) < (M : Int)) = false := by simp; omega
        obtain rfl : j = M := by omega
        have hend : playedP r.2.2.1 [] = (P, 0) := by
          rw [HPL.out.2, List.drop_eq_nil_of_le (by have := HMM.out; omega)]
          rfl
        have hKF : K0 = (r.1, ⟨r.2.1, P⟩, 0) := by rw [HK0.out, if_pos HE.out, hend, if_pos rfl]
        have HKF := Lib.hid hKF
        have HPX := Lib.hid hP
        have hbx := HB06.out.trans (hb.mono HB06.out.size)
        have hDx := HD6.out.below hb
        have hLx := HL6.out.below hb
        have hRC := (hb.block _ (by omega)).trans HRC.out
        have hRS := (hb.block _ (by omega)).trans HRS.out
        obtain ⟨pa, pc, hpv, _⟩ := pairs_len (PairsO.v hP)
        subst hpv
        clear hend hKF hP
        obtain ⟨a0, n0, b0, m0, TX, hvX⟩ := id hDx
        have s0 : KeptBut (w.heap.size + 1) (w.heap.size + 1 + 1) wr wr.drew := KeptBut.drew (KeptBut.refl _ _ _)
        obtain ⟨wa, wb, st1, st2, ka, kb, HLD⟩ := laid_DS (wx := wr.drew) (a0 := a0) (a1 := b0) (n0 := n0) (n1 := m0) (d := r.1) (l := r.2.1) (pv := (.slice pa P.length pc)) (s := P) hRC rfl hRS rfl (by omega) ((hvX.below (below_draws (Below.refl _ _) 1)).tight) ⟨pa, pc, rfl⟩ (fun w' hk hz => by have := Own.kept HPX.out (w' := w') (fun k hk1 => hk k (by omega) (by omega)); exact Own.row this)
        have sa : KeptBut (w.heap.size + 1) (w.heap.size + 1 + 1) wr wa := KeptBut.trans_ s0 (fun k h1 _ => ka k h1)
        have sb : KeptBut (w.heap.size + 1) (w.heap.size + 1 + 1) wr wb := KeptBut.trans_ s0 kb
        have X0 : ∀ w' : World, KeptBut (w.heap.size + 1) (w.heap.size + 1 + 1) wr w' → w'.cell? ⟨w.heap.size, 0, none⟩ = some (.slice a0 r.1.secs.length n0) := fun w' h => cell_of_row w' _ 0 _ _ _ ((h w.heap.size (by omega) (by omega)).trans TX)
        have X1 : ∀ w' : World, KeptBut (w.heap.size + 1) (w.heap.size + 1 + 1) wr w' → w'.cell? ⟨w.heap.size, 1, none⟩ = some (.slice b0 r.1.loose.length m0) := fun w' h => cell_of_row w' _ 1 _ _ _ ((h w.heap.size (by omega) (by omega)).trans TX)
        have X2 : ∀ w' : World, KeptBut (w.heap.size + 1) (w.heap.size + 1 + 1) wr w' → w'.cell? ⟨w.heap.size, 2, none⟩ = some (.int .i64 r.1.fuse) := fun w' h => cell_of_row w' _ 2 _ _ _ ((h w.heap.size (by omega) (by omega)).trans TX)
        have X3 : ∀ w' : World, KeptBut (w.heap.size + 1) (w.heap.size + 1 + 1) wr w' → w'.cell? ⟨w.heap.size, 3, none⟩ = some (.bool r.1.down) := fun w' h => cell_of_row w' _ 3 _ _ _ ((h w.heap.size (by omega) (by omega)).trans TX)
        have N0 : ∀ w' : World, KeptBut (w.heap.size + 1) (w.heap.size + 1 + 1) wr w' → w'.cell? ⟨G, 0, none⟩ = some (.int .i64 r.2.1.half) := fun w' h => cell_of_row w' _ 0 _ _ _ ((h G (by omega) (by omega)).trans hLx)
        have N1 : ∀ w' : World, KeptBut (w.heap.size + 1) (w.heap.size + 1 + 1) wr w' → w'.cell? ⟨G, 1, none⟩ = some (.int .i64 r.2.1.gen) := fun w' h => cell_of_row w' _ 1 _ _ _ ((h G (by omega) (by omega)).trans hLx)
        have N2 : ∀ w' : World, KeptBut (w.heap.size + 1) (w.heap.size + 1 + 1) wr w' → w'.cell? ⟨G, 2, none⟩ = some (.int .i64 r.2.1.used) := fun w' h => cell_of_row w' _ 2 _ _ _ ((h G (by omega) (by omega)).trans hLx)
        have N3 : ∀ w' : World, KeptBut (w.heap.size + 1) (w.heap.size + 1 + 1) wr w' → w'.cell? ⟨G, 3, none⟩ = some (.int .i64 r.2.1.count) := fun w' h => cell_of_row w' _ 3 _ _ _ ((h G (by omega) (by omega)).trans hLx)
        have HBZ := Lib.hid (HLD.out.2.2.2.2 w.heap.size w ((hbx).trans (below_draws (Below.refl _ _) 1)) (by omega) (by omega))
        clear ka kb TX hvX
        go_wp2_with fail
        refine wp_region_I [(false, 0), (false, 1), (false, 2), (false, 3), (true, 4), (true, 5), (false, 6)] (KeptBut (w.heap.size + 1) (w.heap.size + 1 + 1) wr) (by kernel_rfl) (by kernel_rfl) s0 ?_
        repeat (first | (refine heldI_skip rfl rfl ?_; simp only [Act.put, List.setIfInBounds_toArray, List.set_cons_zero, List.set_cons_succ]) | (refine heldI_take rfl ?_ rfl (fun w' hw' => ?_) ?_; rotate_left; (go_simp; first | done | with_reducible rfl); (try simp only [Act.put, List.setIfInBounds_toArray, List.set_cons_zero, List.set_cons_succ])))
        refine heldI_act rfl rfl fun K hK => ?_
        refine op_store (.tmp 2) (.tmp 49) 38 rfl rfl rfl st1 ?_
        refine hK.out _ _ sa ?_
        clear hK K st1
        simp only [Act.put, List.setIfInBounds_toArray, List.set_cons_zero, List.set_cons_succ]
        refine heldI_act rfl rfl fun K hK => ?_
        refine op_store (.tmp 3) (.tmp 52) 44 rfl rfl rfl st2 ?_
        refine hK.out _ _ sb ?_
        clear hK K st2
        simp only [Act.put, List.setIfInBounds_toArray, List.set_cons_zero, List.set_cons_succ]
        repeat (first | (refine heldI_skip rfl rfl ?_; simp only [Act.put, List.setIfInBounds_toArray, List.set_cons_zero, List.set_cons_succ]) | (refine heldI_take rfl ?_ rfl (fun w' hw' => ?_) ?_; rotate_left; (go_simp; first | done | with_reducible rfl); (try simp only [Act.put, List.setIfInBounds_toArray, List.set_cons_zero, List.set_cons_succ])))
        refine heldI_nil ?_
        go_wp2_with fail
        refine bodyPost_ret (results_cct rfl _ _ (w.heap.size + 1) (w.heap.size + 1 + 1) _ _ _ _ _ _ _ _ rfl rfl HLD.out.1 HLD.out.2.1 Tryz.underlying38 rfl size_disk Tryz.underlying44 rfl size_store) rfl ?_
        rw [HKF.out]
        exact ⟨⟨_, _, rfl, HLD.out.2.2.1, HLD.out.2.2.2.1⟩, HBZ.out⟩
  · have q0 : (r.2.2.2 != 0) = true := by simp [he]
    have hDx := HD6.out
    have hRC := HRC.out
    have hRS := HRS.out
    have hbx := HB06.out
    have HE := Lib.hid he
    clear he
    obtain ⟨a0, n0, b0, m0, TX, hvX⟩ := id hDx
    obtain ⟨wa, wb, st1, st2, ka, kb, HLD⟩ := laid_DS (wx := w6) (a0 := a0) (a1 := b0) (n0 := n0) (n1 := m0) (d := r.1) (l := log0) (pv := (.slice none 0 0)) (s := ([] : List PairP)) hRC rfl hRS rfl (by omega) hvX ⟨none, 0, rfl⟩ (fun w' _ _ => Row.nil _ _ _)
    have HBZ := Lib.hid (HLD.out.2.2.2.2 w.heap.size w hbx (by omega) (by omega))
    have C0 := cell_of_row w6 _ 0 _ _ _ TX
    have C1 := cell_of_row w6 _ 1 _ _ _ TX
    have C2 := cell_of_row w6 _ 2 _ _ _ TX
    have C3 := cell_of_row w6 _ 3 _ _ _ TX
    have HKF := Lib.hid (show K0 = (r.1, ⟨log0, []⟩, r.2.2.2) from by rw [HK0.out, if_neg HE.out]; rfl)
    have ST2 := Lib.hid st2
    clear ka kb TX hvX st2
    go_wp2_with (with_reducible refine wp_store_r (.tmp 2) (.tmp 22) 38 st1 rfl rfl ?_; refine Halt.in ?_)
    refine Halt.out ?_
    have st2 := ST2.out
    clear st1 C0 C1 C2 C3
    go_wp2_with (with_reducible refine wp_store_r (.tmp 3) (.tmp 23) 44 st2 rfl rfl ?_; refine Halt.in ?_)
    refine Halt.out ?_
    clear st2
    go_wp2_with fail
    refine bodyPost_ret (results_cct rfl _ _ (w.heap.size + 1) (w.heap.size + 1 + 1) _ _ _ _ _ _ _ _ rfl rfl HLD.out.1 HLD.out.2.1 Tryz.underlying38 rfl size_disk Tryz.underlying44 rfl size_store) rfl ?_
    rw [HKF.out]
    exact ⟨⟨_, _, rfl, HLD.out.2.2.1, HLD.out.2.2.2.1⟩, HBZ.out⟩
end Go.Proofs.YtaijompnohkmaaaGreatDoor
