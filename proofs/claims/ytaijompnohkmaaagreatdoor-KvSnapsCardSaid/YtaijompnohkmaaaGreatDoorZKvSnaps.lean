/- Layer 6 (kv): a snapshot of pairs, done from nothing, is these pairs, and each of its transactions may be a record: the law's walk. -/
import Derived.Test.YtaijompnohkmaaaGreatDoorMT
import Derived.Test.YtaijompnohkmaaaGreatDoorZKvR1
import Derived.Test.YtaijompnohkmaaaGreatDoorZKvR7
namespace Go.Proofs.YtaijompnohkmaaaGreatDoor
open Go.RowKit KvP PackP WalP
/-- What a chunk is, as bytes. -/
theorem chunk_at {l : List PairP} (hm : ∀ p ∈ l, mayP p.key p.val = true) {j : Nat} (hj : j < (snapP l).length) :
    ∃ c, (snapF l [])[j]? = some c ∧ ChunkOk c ∧ (snapP l)[j] = bytesP c := by
  unfold snapP at hj ⊢
  rw [List.length_map] at hj
  exact ⟨(snapF l [])[j], List.getElem?_eq_getElem hj, snap_ok hm _ (List.getElem_mem hj), by rw [List.getElem_map]⟩
theorem done_succ {l : List PairP} {j : Nat} {c : List ChangeP} (h : (snapF l [])[j]? = some c) : ((snapF l []).take (j + 1)).foldl doP [] = doP (((snapF l []).take j).foldl doP []) c := by
  obtain ⟨hj, rfl⟩ := List.getElem?_eq_some_iff.1 h
  rw [List.take_succ_eq_append_getElem hj, List.foldl_append]
  rfl
set_option maxRecDepth 100000 in
set_option maxHeartbeats 8000000 in
theorem KvSnaps_walk (v : Value) (l : List PairP) (w : World) (ht : TabAt w) (hT : 1 < w.heap.size) (hp : PairsV w.heap.size w v l) :
    Calls Tryz.prog 7 #[v] w fun e w' => e = .returned (.bool true) ∧ Below w.heap.size w w' := by
  have ka := kvAlive_any w ht hT
  obtain ⟨a, c, rfl, hlc⟩ := pairs_len hp
  obtain ⟨N, hN⟩ : ∃ n, n = l.length := ⟨_, rfl⟩
  have HP := Lib.hid hp
  rw [← hN]
  have HN := Lib.hid hN
  clear hp ht hT hN hlc
  go_enter Tryz.func7, Tryz.ntmps7
  go_wp2_with fail
  refine ka.mono ?_
  rintro e w1 ⟨rfl, hb1⟩
  clear ka
  have kg := kvGreat_any (.slice a l.length c) (.slice none 0 0) l [] w1 (HP.out.below hb1) (Row.nil 0 w1 3)
  rw [← HN.out] at kg
  go_wp2_with fail
  refine kg.mono ?_
  rintro e w2 ⟨⟨g, rfl⟩, hb2⟩
  clear kg
  have HB2 := Lib.hid (hb1.trans (hb2.mono hb1.size))
  clear hb1 hb2
  cases g with
  | true =>
    go_wp2_with fail
    go_ret
    exact ⟨rfl, HB2.out⟩
  | false =>
    have kp := refpairs_any _ l w2 (HP.out.below HB2.out)
    rw [← HN.out] at kp
    obtain ⟨pb, hpb⟩ : ∃ x, x = pairsB l := ⟨_, rfl⟩
    rw [← hpb] at kp
    have HPB := Lib.hid hpb
    clear hpb
    go_wp2_with fail
    refine kp.mono ?_
    rintro e w3 ⟨rfl, hb3⟩
    clear kp
    have HB3 := Lib.hid (HB2.out.trans (hb3.mono HB2.out.size))
    clear hb3
    cases pb with
    | false =>
      go_wp2_with fail
      go_ret
      exact ⟨rfl, HB3.out⟩
    | true =>
      obtain ⟨p1, p2, p3⟩ := pairsB_parts HPB.out.symm
      have ks := snapshot_any _ l w3 (HP.out.below HB3.out) p2 p1
      rw [← HN.out] at ks
      have HP2 := Lib.hid p2
      have HP3 := Lib.hid p3
      have HP1 := Lib.hid p1
      clear p1 p2 p3
      go_wp2_with fail
      refine ks.mono ?_
      rintro e w4 ⟨u, rfl, hR, hb4⟩
      clear ks
      have HB4 := Lib.hid (HB3.out.trans (hb4.mono HB3.out.size))
      obtain ⟨ra, rc, rfl, hrc, hrm, hat⟩ := hR.pieces.at_
      obtain ⟨M, hM⟩ : ∃ M, M = (snapP l).length := ⟨_, rfl⟩
      rw [← hM] at hrc ⊢
      have hM1 : 1 ≤ M := by
        rw [hM]
        unfold snapP
        rw [List.length_map]
        exact List.length_pos_iff.2 (snapF_ne l [])
      have HM := Lib.hid hM
      have HAT := Lib.hid hat
      clear hR hb4 hM hat
      go_wp2_with fail
      go_loopw [4, 5] (fun s4 i wr => ∃ j : Nat, j ≤ M ∧ i = .int .i64 j ∧ PairsV wr.heap.size wr s4 (((snapF l []).take j).foldl doP []) ∧ Below w4.heap.size w4 wr) (fun _ i _ => M - (intOf i).toNat)
      case atStart => exact ⟨0, Nat.zero_le _, rfl, Row.nil _ _ _, Below.refl _ _⟩
      case round =>
        obtain ⟨j, hj, rfl, hP, hb⟩ := hrel
        by_cases hjM : j < M
        · have j0 : decide ((j : Int) < (M : Int)) = true := by simp; omega
          have j1 : (0 : Int) ≤ (j : Int) := by omega
          have j2 : (j : Int) < (M : Int) := by omega
          have hjl : j < (snapP l).length := HM.out ▸ hjM
          obtain ⟨cs, hcs, hck, heq⟩ := chunk_at HP2.out hjl
          obtain ⟨b, off, a2, c2, rfl, _, hcell⟩ := HAT.out j hjl
          obtain ⟨S0, hby⟩ := hcell wr hb
          have hSt := fun w' (h : Below w4.heap.size w4 w') => (hcell w' h).1
          rw [heq] at S0 hby hSt
          have hdec := decode_bytes hck.changes
          have kd := decode_any _ _ wr hby
          rw [hdec] at kd
          obtain ⟨n, hn⟩ : ∃ n, n = (bytesP cs).length := ⟨_, rfl⟩
          have hn6 : n ≤ 6000 := by rw [hn]; exact hck.2.1
          have hn8 : 8 ≤ n := by rw [hn]; exact bytes_ge cs
          rw [← hn] at S0 kd hSt
          have hds := done_succ hcs
          obtain ⟨k, hpk⟩ := prefix_done HP3.out j
          rw [hpk] at hP hds
          have HCK := Lib.hid hck
          have HDS := Lib.hid hds
          have HPT := Lib.hid hP
          have HST := Lib.hid hSt
          have HB := Lib.hid hb
          clear hn hck hds hP hSt hpk hcs heq hby hdec hcell hb
          go_wp2_with fail
          refine kd.mono ?_
          rintro e w5 ⟨⟨u5, rfl, hC5⟩, hb5⟩
          clear kd S0
          have HB5 := Lib.hid (HB.out.trans (hb5.mono HB.out.size))
          have HP5 := Lib.hid (HPT.out.below hb5).tight
          have HC5 := Lib.hid (ChangesO.v hC5)
          have S0 := HST.out w5 HB5.out
          obtain ⟨cl1, cl2⟩ := ChunkOk.len HCK.out
          have htk : (l.take k).length ≤ 400 := by rw [List.length_take]; have := HP1.out; omega
          have kk := do_any _ _ (l.take k) cs w5 HP5.out HC5.out (List.Pairwise.sublist (List.take_sublist k l) HP3.out) (by omega) (by omega) (fun p hp => by
            have h := HP2.out p (List.mem_of_mem_take hp)
            unfold mayP at h
            simp only [Bool.and_eq_true, decide_eq_true_eq] at h
            omega) (fun x hx => by have := cl2 x hx; omega)
          rw [← HDS.out] at kk
          clear hC5 hb5 cl1 cl2 htk HPT
          go_wp2_with fail
          refine kk.mono ?_
          rintro e w6 ⟨x6, rfl, hP6, hb6⟩
          clear kk S0
          have HB6 := Lib.hid (HB5.out.trans (hb6.mono HB5.out.size))
          have HP6 := Lib.hid (PairsO.v hP6)
          clear hP6 hb6
          go_wp2_with fail
          go_roundw
          case rel => exact ⟨j + 1, by omega, by go_num, HP6.out, HB6.out⟩
          case measure => simp [intOf]; omega
        · have j0 : decide ((j : Int) < (M : Int)) = false := by simp; omega
          obtain rfl : j = M := by omega
          have hM2 : decide ((1 : Int) ≤ (j : Int)) = true := by simp; omega
          have hend : ((snapF l []).take j).foldl doP [] = l := by
            rw [List.take_of_length_le (by have := HM.out; unfold snapP at this; rw [List.length_map] at this; omega), snap_done HP3.out]
          rw [hend] at hP
          have ksp := samePairs_any _ _ l l wr hP ((HP.out.below HB4.out).below (hb.mono HB4.out.size))
          rw [decide_eq_true rfl, ← HN.out] at ksp
          have HBR := Lib.hid (HB4.out.trans (hb.mono HB4.out.size))
          clear hend hP hb
          go_wp2_with fail
          refine ksp.mono ?_
          rintro e w7 ⟨rfl, hb7⟩
          clear ksp
          have HB7 := Lib.hid (HBR.out.trans (hb7.mono HBR.out.size))
          clear hb7
          go_wp2_with fail
          go_ret
          exact ⟨rfl, HB7.out⟩
end Go.Proofs.YtaijompnohkmaaaGreatDoor
