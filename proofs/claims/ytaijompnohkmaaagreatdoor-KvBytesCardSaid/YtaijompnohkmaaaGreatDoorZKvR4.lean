/- Layer 6 (kv), the document's answer: Decode. -/
import Derived.Test.YtaijompnohkmaaaGreatDoorZKvR2
import Derived.Test.YtaijompnohkmaaaGreatDoorMT
namespace Go.Proofs.YtaijompnohkmaaaGreatDoor
open Go.RowKit KvP PackP
theorem refdoneE_any (B g : Nat) (w : World) (r : RS) (h : RdAt 87 B g w r) : Calls Tryz.prog 56 #[.pointer (some ⟨g, 0, none⟩)] w fun e w' => e = .returned (.int .i64 r.doneE) ∧ RdEnd 87 B g w w' r := by
  refine (refRDone_any B g w r h).mono ?_
  rintro e w' ⟨rfl, rfl⟩
  exact ⟨rfl, h, only_refl _ _⟩
set_option maxRecDepth 100000 in
set_option maxHeartbeats 4000000 in
theorem refdecode_any {B : Nat} (v : Value) (bs : List UInt8) (w : World) (hv : Bytes B w v bs) :
    Calls Tryz.prog 15 #[v] w fun e w' => (∃ u, e = .returned (.tuple #[u, .int .i64 (decodeP bs).2]) ∧ ChangesO w.heap.size w' u (decodeP bs).1) ∧ Below w.heap.size w w' := by
  have hv := hv.tight
  obtain ⟨M, hM, hM4⟩ := count_nat (RS.mk bs 0)
  obtain ⟨g, hg⟩ : ∃ g, g = w.heap.size := ⟨_, rfl⟩
  obtain ⟨r0, hr0⟩ : ∃ r, r = ((RS.mk bs 0).count 400).1 := ⟨_, rfl⟩
  have hD1 := decodeP_bad bs M hM
  have hD2 := decodeP_form bs M hM
  have hD3 := decodeP_good bs M hM
  rw [← hr0] at hD1 hD2 hD3
  have HD1 := Lib.hid hD1
  have HD2 := Lib.hid hD2
  have HD3 := Lib.hid hD3
  have HG := Lib.hid hg
  clear hD1 hD2 hD3 hg
  obtain ⟨_, a, c, rfl, _, _, _⟩ := id hv
  have hbw : Below w.heap.size w (w.alloc (.cells #[.slice a bs.length c, .int .i64 0] 87)) := Below.alloc (Below.refl _ _) (Nat.le_refl _) _
  have hR0 : RdAt 87 w.heap.size w.heap.size (w.alloc (.cells #[.slice a bs.length c, .int .i64 0] 87)) ⟨bs, 0⟩ := ⟨_, heap_alloc_new w _, hv.below hbw, Nat.le_refl _⟩
  obtain ⟨w1, hw1⟩ : ∃ x, x = w.alloc (.cells #[.slice a bs.length c, .int .i64 0] 87) := ⟨_, rfl⟩
  rw [← hw1, ← HG.out] at hR0 hbw
  have kcount := refRCount_any g g w1 ⟨bs, 0⟩ 400 hR0
  rw [hM, ← hr0] at kcount
  have HW1 := Lib.hid hw1
  clear hw1 hM hr0 hv
  rw [← HG.out]
  go_enter Tryz.func15, Tryz.ntmps15
  go_upto_region 3 with (fail)
  rw [← HW1.out, ← HG.out]
  go_wp2_with fail
  refine kcount.mono ?_
  rintro e w2 ⟨rfl, hR, hgw⟩
  have hb2 : Below g w w2 := hbw.trans (below_of_only hgw (Nat.le_refl _) (by have := hbw.size; have := HG.out; omega))
  have hs2 : g + 1 ≤ w2.heap.size := by have := hR.parts; obtain ⟨_, h, _⟩ := this; exact block_lt h
  clear kcount hbw hR0 hgw
  have HR2 := Lib.hid hR
  clear hR
  go_wp2_with fail
  go_loopw [5, 6] (fun l i wr => ∃ k : Nat, k ≤ M ∧ i = .int .i64 ((M - k : Nat) : Int) ∧ RdAt 87 g g wr (decN k r0).1 ∧ ChangesO (g + 1) wr l (decN k r0).2 ∧ Below g w wr ∧ g + 1 ≤ wr.heap.size) (fun _ i _ => (intOf i).toNat)
  case atStart => exact ⟨0, Nat.zero_le _, rfl, HR2.out, ChangesO.none _ _ _, hb2, hs2⟩
  case round =>
    obtain ⟨k, hk, rfl, hR, hO, hb, hs⟩ := hrel
    clear hb2 hs2 HR2
    obtain ⟨r, hr⟩ : ∃ x, x = (decN k r0).1 := ⟨_, rfl⟩
    obtain ⟨cs, hcs⟩ : ∃ x, x = (decN k r0).2 := ⟨_, rfl⟩
    have hlen : cs.length = k := by rw [hcs, len_decN]
    have hsn := decN_snoc k r0
    rw [← hr, ← hcs] at hsn
    rw [← hr] at hR
    rw [← hcs] at hO
    by_cases hkM : k < M
    · have k0 : decide ((0 : Int) < ((M - k : Nat) : Int)) = true := by simp; omega
      obtain ⟨_, C0, _, _, _, C1, _, _⟩ := hR.parts
      clear C0
      by_cases hre : r.e = 0
      · have q0 : (r.e == 0) = true := by rw [hre]; rfl
        obtain ⟨z, hz⟩ : ∃ x, x = r.num.2 := ⟨_, rfl⟩
        obtain ⟨r1, hr1⟩ : ∃ x, x = r.num.1 := ⟨_, rfl⟩
        obtain ⟨r2, hr2⟩ : ∃ x, x = r1.fail (decide (1 < z)) 3 := ⟨_, rfl⟩
        obtain ⟨r3, hr3⟩ : ∃ x, x = r2.text.1 := ⟨_, rfl⟩
        obtain ⟨s, hs0⟩ : ∃ x, x = r2.text.2 := ⟨_, rfl⟩
        have kc := refRNum_any g g _ r hR
        rw [← hz, ← hr1] at kc
        have HO := Lib.hid hO
        have HRK := Lib.hid hR
        have HLEN := Lib.hid hlen
        have HSN := Lib.hid hsn
        have HB := Lib.hid hb
        have e1 : z = 1 → (decN (k + 1) r0) = (r3, cs ++ [⟨s, [], true⟩]) := fun h => by
          rw [hsn, dec1_gone (by rw [← hz]; exact h), ← hr1, ← hz, ← hr2, ← hr3, ← hs0]
        have e2 : z ≠ 1 → (decN (k + 1) r0) = (r3.text.1, cs ++ [⟨s, r3.text.2, false⟩]) := fun h => by
          rw [hsn, dec1_put (by rw [← hz]; exact h), ← hr1, ← hz, ← hr2, ← hr3, ← hs0]
        have E1 := Lib.hid e1
        have E2 := Lib.hid e2
        have kf := fun w1 (h : RdAt 87 g g w1 r1) => refRFail_any g g w1 r1 (decide (1 < z)) h
        rw [← hr2] at kf
        have kt := fun w1 (h : RdAt 87 g g w1 r2) => refRText_any g g w1 r2 h
        rw [← hr3, ← hs0] at kt
        have KF := Lib.hid kf
        have KT := Lib.hid kt
        clear hz hr1 hr2 hr3 hs0 hsn hlen hR hO e1 e2 kf kt hb hr hcs
        try clear hre
            go_wp2_with fail
            refine kc.mono ?_
            rintro e w3 ⟨rfl, hR3, hg3⟩
            clear kc
        try clear C1
            have kc := KF.out w3 hR3
            clear hR3
            go_wp2_with fail
            refine kc.mono ?_
            rintro e w4 ⟨rfl, hR4, hg4⟩
            clear kc KF
            have kc := KT.out w4 hR4
            have hO4 := (Own.far HO.out hg3 (Nat.lt_succ_self _)).far hg4 (Nat.lt_succ_self _)
            have hgs : w4.grownBy w4 (some g) := only_refl _ _
            clear hR4 HO HRK
            go_wp2_with fail
            refine kc.mono ?_
            rintro e w5 ⟨rfl, hR5, hg5⟩
            clear kc KT hgs
            have hO5 := Own.far hO4 hg5 (Nat.lt_succ_self _)
            have hb35 := only_trans (only_trans hg3 hg4) hg5
            have hs5 := Nat.le_trans hs hb35.size
            have hb5 : Below g w w5 := HB.out.trans (below_of_only hb35 (Nat.le_refl _) (by omega))
            clear hO4 hg3 hg4 hg5 HB hb35 hs
            obtain ⟨i0, z0, hi, hz0, hz1, hz2, hz3⟩ := zero_parts infoz_change
            obtain ⟨S, hS⟩ : ∃ x, x = strB s := ⟨_, rfl⟩
            rw [← hS]
            have HS := Lib.hid hS
            clear hS
            by_cases hz1' : z = 1
        · have c1 : (z == 1) = true := by rw [hz1']; rfl
          obtain ⟨w6, hw6⟩ : ∃ x, x = w5.alloc (.cells #[.string S, .string (ByteArray.mk #[]), .bool true] 33) := ⟨_, rfl⟩
          obtain ⟨gc, hgc⟩ : ∃ x, x = w5.heap.size := ⟨_, rfl⟩
          have hb56 : Below w5.heap.size w5 w6 := by rw [hw6]; exact Below.alloc (Below.refl _ _) (Nat.le_refl _) _
          have hbox : w6.heap[gc]? = some (.cells #[.string S, .string (ByteArray.mk #[]), .bool true] 33 (0, 0)) := by rw [hw6, hgc]; exact heap_alloc_new w5 _
          have HW6 := Lib.hid hw6
          have HGC := Lib.hid hgc
          have HE := Lib.hid (E1.out hz1')
          have hO6 := Own.below hO5 hb56 (Nat.le_refl _)
          have hR6 := hR5.below (hb56.mono hs5)
          have hs6 := Nat.le_trans hs5 hb56.size
          have hb6 := hb5.trans (hb56.mono (by omega))
          clear hw6 hgc E1 E2 hO5 hR5 hb5 hb56 hs5 hz1'
          go_upto_region 11 with (fail)
          rw [← HW6.out, ← HGC.out]
          have C0 := cell_of_row w6 _ 0 _ _ _ hbox
          have C1 := cell_of_row w6 _ 1 _ _ _ hbox
          have C2 := cell_of_row w6 _ 2 _ _ _ hbox
          clear hbox
          have hbs := run_bsC S (ByteArray.mk #[]) true w6
          obtain ⟨w8, hw8⟩ : ∃ x, x = w6.alloc (.cells #[.string S, .string (ByteArray.mk #[]), .bool true] 33) := ⟨_, rfl⟩
          obtain ⟨gs, hgs⟩ : ∃ x, x = w6.heap.size := ⟨_, rfl⟩
          rw [← hw8, ← hgs] at hbs
          have hsrc : Src Tryz.prog w8 (.slice (some ⟨gs, 0, none⟩) 1 1) 3 1 (changeCells ⟨s, [], true⟩) := by
            rw [hw8, hgs]
            refine Row.src (Row.fresh (by simp [changeCells]) (Nat.le_refl _) (by decide) (fun k u hk => ?_))
            simp only [changeCells, str] at hk
            rw [HS.out]; simpa [strB] using hk
          have hb68 : Below w6.heap.size w6 w8 := by rw [hw8]; exact Below.alloc (Below.refl _ _) (Nat.le_refl _) _
          have hO8 := Own.below hO6 hb68 (Nat.le_refl _)
          have hs8 : g + 1 ≤ w8.heap.size := Nat.le_trans hs6 hb68.size
          have hone := ones_change ⟨s, [], true⟩
          have hn : cs.length + 1 ≤ maxLen := by have := HLEN.out; unfold maxLen; omega
          have hn2 : (cs.length + 1) * 40 ≤ 140737488355328 := by have := HLEN.out; omega
          have R1 := Lib.hid hn
          have R2 := Lib.hid hn2
          have HB6 := Lib.hid (hb6.trans (hb68.mono (by omega)))
          have HRd := Lib.hid (hR6.below (hb68.mono (by omega)))
          have HW8 := Lib.hid hw8
          clear hw8 hgs hn hn2 hO6 hb68 hb6 hs6
          go_wp2_with (with_reducible refine wp_buildSlice_r 22 1 [(0, .tmp 44)] hbs rfl ?_; refine Halt.in ?_)
          refine Halt.out ?_
          refine wp_append2 rfl (.tmp 43) (.tmp 45) 22 22 33 rfl i0 z0 3 40 Tryz.underlying22 (.inl ⟨_, Tryz.underlying22⟩) hi hz0 hz1 hz2 hz3 rfl rfl hO8 hsrc hone R1.out R2.out hs8 ?_
          intro v9 w9 hown9 hb9 _
          have HO9 := Lib.hid (ChangesO.snoc hown9)
          have HR9 := Lib.hid (HRd.out.below hb9)
          have HB9 := Lib.hid (HB6.out.trans (hb9.mono (by omega)))
          have hs9 := Nat.le_trans hs8 hb9.size
          clear hbs hsrc hO8 hone hown9 hb9 HRd HB6 hi hz0 hz1 hz2 hz3
          go_wp2_with fail
          go_roundw
          case rel => exact ⟨k + 1, by omega, by first | go_num | (congr 2; omega) | (simp; omega), by rw [HE.out]; exact HR9.out, by rw [HE.out]; exact HO9.out, HB9.out, hs9⟩
          case measure => simp [intOf]; omega
        · have c1 : (z == 1) = false := by rw [beq_eq_false_iff_ne]; exact hz1'
          obtain ⟨w6, hw6⟩ : ∃ x, x = w5.alloc (.cells #[.string S, .string (ByteArray.mk #[]), .bool false] 33) := ⟨_, rfl⟩
          obtain ⟨gc, hgc⟩ : ∃ x, x = w5.heap.size := ⟨_, rfl⟩
          have hb56 : Below w5.heap.size w5 w6 := by rw [hw6]; exact Below.alloc (Below.refl _ _) (Nat.le_refl _) _
          have hbox : w6.heap[gc]? = some (.cells #[.string S, .string (ByteArray.mk #[]), .bool false] 33 (0, 0)) := by rw [hw6, hgc]; exact heap_alloc_new w5 _
          have HW6 := Lib.hid hw6
          have HGC := Lib.hid hgc
          have hgcl : g < gc := by omega
          have hO6 := Own.below hO5 hb56 (Nat.le_refl _)
          have hR6 := hR5.below (hb56.mono hs5)
          have hs6 := Nat.le_trans hs5 hb56.size
          have hb6 := hb5.trans (hb56.mono (by omega))
          have hb5' := hb5
          clear hw6 E1 hR5 hb5 hb56
          go_upto_region 10 with (fail)
          rw [← HW6.out, ← HGC.out]
          have kc := refRText_any g g w6 r3 hR6
          obtain ⟨s2, hs2⟩ : ∃ x, x = r3.text.2 := ⟨_, rfl⟩
          obtain ⟨r4, hr4⟩ : ∃ x, x = r3.text.1 := ⟨_, rfl⟩
          have hE2 := E2.out hz1'
          rw [← hs2, ← hr4] at hE2 kc
          have HE := Lib.hid hE2
          obtain ⟨S2, hS2⟩ : ∃ x, x = strB s2 := ⟨_, rfl⟩
          rw [← hS2] at kc
          have HS2 := Lib.hid hS2
          clear E2 hs2 hr4 hE2 hS2 hR6 hz1'
          go_wp2_with fail
          refine kc.mono ?_
          rintro e w7 ⟨rfl, hR7, hg7⟩
          clear kc
          have hbox7 := (hg7.block gc (block_lt hbox) (fun e => by cases e; omega)).trans hbox
          obtain ⟨wq, hwq⟩ : ∃ x, x = w7.setCell ⟨gc, 1, none⟩ (.string S2) := ⟨_, rfl⟩
          have hgq : w7.grownBy wq (some gc) := by rw [hwq]; exact only_set _ _ _ _
          have hboxq : wq.heap[gc]? = some (.cells #[.string S, .string S2, .bool false] 33 (0, 0)) := by rw [hwq]; simp [World.setCell, Array.getElem?_modify, hbox7]
          have hg56 : w5.grownBy w6 (some g) := by rw [HW6.out]; exact World.grownBy_alloc _ _ _
          have hg5q : w5.grownBy wq (some g) := only_new (only_trans hg56 hg7) hgq (by omega)
          have hO6q := Own.far hO5 hg5q (Nat.lt_succ_self _)
          have hRq := hR7.far hgq (fun k e => by cases e; exact ⟨by omega, by omega⟩)
          have hbq := hb5'.trans (below_of_only hg5q (Nat.le_refl _) (by omega))
          have hsq := Nat.le_trans hs5 hg5q.size
          have D0 := cell_of_row w7 _ 0 _ _ _ hbox7
          have D1 := cell_of_row w7 _ 1 _ _ _ hbox7
          have D2 := cell_of_row w7 _ 2 _ _ _ hbox7
          have DF : w7.frozen? ⟨gc, 1, none⟩ = false := by simp [World.frozen?, hbox7]
          have C0 := cell_of_row wq _ 0 _ _ _ hboxq
          have C1 := cell_of_row wq _ 1 _ _ _ hboxq
          have C2 := cell_of_row wq _ 2 _ _ _ hboxq
          have HWQ := Lib.hid hwq
          clear hwq hboxq hbox7 hbox hgq hg56 hg5q hR7 hg7 hO5 hO6 hb6 hs6 hb5' hgc
          go_upto_region 11 with (fail)
          rw [← HWQ.out]
          clear D0 D1 D2 DF
          have hO6 := hO6q
          have hb6 := hbq
          have hs6 := hsq
          clear hO6q hbq hsq
          have hbs := run_bsC S S2 false wq
          obtain ⟨w8, hw8⟩ : ∃ x, x = wq.alloc (.cells #[.string S, .string S2, .bool false] 33) := ⟨_, rfl⟩
          obtain ⟨gs, hgs⟩ : ∃ x, x = wq.heap.size := ⟨_, rfl⟩
          rw [← hw8, ← hgs] at hbs
          have hsrc : Src Tryz.prog w8 (.slice (some ⟨gs, 0, none⟩) 1 1) 3 1 (changeCells ⟨s, s2, false⟩) := by
            rw [hw8, hgs]
            refine Row.src (Row.fresh (by simp [changeCells]) (Nat.le_refl _) (by decide) (fun k u hk => ?_))
            simp only [changeCells, str] at hk
            rw [HS.out, HS2.out]; simpa [strB] using hk
          have hb68 : Below wq.heap.size wq w8 := by rw [hw8]; exact Below.alloc (Below.refl _ _) (Nat.le_refl _) _
          have hO8 := Own.below hO6 hb68 (Nat.le_refl _)
          have hs8 : g + 1 ≤ w8.heap.size := Nat.le_trans hs6 hb68.size
          have hone := ones_change ⟨s, s2, false⟩
          have hn : cs.length + 1 ≤ maxLen := by have := HLEN.out; unfold maxLen; omega
          have hn2 : (cs.length + 1) * 40 ≤ 140737488355328 := by have := HLEN.out; omega
          have R1 := Lib.hid hn
          have R2 := Lib.hid hn2
          have HB6 := Lib.hid (hb6.trans (hb68.mono (by omega)))
          have HRd := Lib.hid (hRq.below (hb68.mono (by omega)))
          have HW8 := Lib.hid hw8
          clear hw8 hgs hn hn2 hO6 hb68 hb6 hs6
          go_wp2_with (with_reducible refine wp_buildSlice_r 22 1 [(0, .tmp 44)] hbs rfl ?_; refine Halt.in ?_)
          refine Halt.out ?_
          refine wp_append2 rfl (.tmp 43) (.tmp 45) 22 22 33 rfl i0 z0 3 40 Tryz.underlying22 (.inl ⟨_, Tryz.underlying22⟩) hi hz0 hz1 hz2 hz3 rfl rfl hO8 hsrc hone R1.out R2.out hs8 ?_
          intro v9 w9 hown9 hb9 _
          have HO9 := Lib.hid (ChangesO.snoc hown9)
          have HR9 := Lib.hid (HRd.out.below hb9)
          have HB9 := Lib.hid (HB6.out.trans (hb9.mono (by omega)))
          have hs9 := Nat.le_trans hs8 hb9.size
          clear hbs hsrc hO8 hone hown9 hb9 HRd HB6 hi hz0 hz1 hz2 hz3
          go_wp2_with fail
          go_roundw
          case rel => exact ⟨k + 1, by omega, by first | go_num | (congr 2; omega) | (simp; omega), by rw [HE.out]; exact HR9.out, by rw [HE.out]; exact HO9.out, HB9.out, hs9⟩
          case measure => simp [intOf]; omega
      · have q0 : (r.e == 0) = false := by rw [beq_eq_false_iff_ne]; exact hre
        have hbadM : (decN M r0).1.e ≠ 0 ∧ (decN M r0).1.doneE = r.e := by
          have h := decN_stuck M k r0 (by omega) (by rw [← hr]; exact hre)
          rw [h, ← hr]
          exact ⟨hre, doneE_bad hre⟩
        have hdp : decodeP bs = ([], r.e) := by
          have := HD1.out (by rw [hbadM.2]; exact hre)
          rw [this, hbadM.2]
        have hde : r.doneE = r.e := doneE_bad hre
        have HDP := Lib.hid hdp
        have q1 : (r.e == 0) = false := q0
        have kc := refdoneE_any g g _ r hR
        rw [hde] at kc
        obtain ⟨E, hE⟩ : ∃ x, x = r.e := ⟨_, rfl⟩
        rw [← hE] at kc C1 q0 q1 HDP
        clear hre hbadM hdp hde hsn hr hcs hlen
        go_wp2_with fail
        refine kc.mono ?_
        rintro e w3 ⟨rfl, hR3, hg3⟩
        clear kc C1 hE
        have HBF := Lib.hid (hb.trans (below_of_only hg3 (Nat.le_refl _) (by omega)))
        clear hR3 hg3 hb hR hO
        go_wp2_with fail
        go_ret2
        exact ⟨⟨_, by rw [HDP.out]; rfl, by rw [HDP.out]; exact ChangesO.none _ _ none⟩, by first | exact HBF.out | (rw [← HG.out]; exact HBF.out)⟩
    · have k0 : decide ((0 : Int) < ((M - k : Nat) : Int)) = false := by simp; omega
      obtain rfl : k = M := by omega
      have kc := refdoneE_any g g _ r hR
      rw [← hr] at HD1 HD2 HD3
      rw [← hcs] at HD2 HD3
      obtain ⟨E, hE⟩ : ∃ x, x = r.doneE := ⟨_, rfl⟩
      rw [← hE] at kc HD1 HD2 HD3
      have HO := Lib.hid hO
      have HB := Lib.hid hb
      clear hE hsn hr hcs hO hb
      go_wp2_with fail
      refine kc.mono ?_
      rintro e w3 ⟨rfl, hR3, hg3⟩
      clear kc
      have hO3 := Own.far HO.out hg3 (Nat.lt_succ_self _)
      have hb3 : Below g w w3 := HB.out.trans (below_of_only hg3 (Nat.le_refl _) (by omega))
      clear hR3 hg3 HO HB hR hlen
      by_cases hE0 : E = 0
      · have q0 : (E == 0) = true := by rw [hE0]; rfl
        have kc := refchanges_any _ cs w3 (ChangesO.v hO3)
        obtain ⟨cb, hcb⟩ : ∃ x, x = changesB cs := ⟨_, rfl⟩
        rw [← hcb] at kc
        have HCB := Lib.hid hcb
        have HE0 := Lib.hid hE0
        have HO3 := Lib.hid hO3
        have HB3 := Lib.hid hb3
        clear hcb hE0 hO3 hb3
        go_wp2_with fail
        refine kc.mono ?_
        rintro e w4 ⟨rfl, hb4⟩
        clear kc
        have hs3 := HB3.out.size
        have HB4 := Lib.hid (HB3.out.trans (hb4.mono (by have := HG.out; omega)))
        have HO4 := Lib.hid (Own.below HO3.out hb4 (Nat.le_refl _))
        clear hb4 HO3 HB3 hs3
        cases cb with
        | false =>
          have hdp := HD2.out HE0.out HCB.out.symm
          have HDP := Lib.hid hdp
          clear hdp
          go_wp2_with fail
          go_ret2
          exact ⟨⟨_, by rw [HDP.out]; rfl, by rw [HDP.out]; exact ChangesO.none _ _ none⟩, by first | exact HB4.out | (rw [← HG.out]; exact HB4.out)⟩
        | true =>
          have hdp := HD3.out HE0.out HCB.out.symm
          have HDP := Lib.hid hdp
          clear hdp
          go_wp2_with fail
          go_ret2
          exact ⟨⟨_, by rw [HDP.out]; rfl, by rw [HDP.out]; exact Own.lower HO4.out (by have := HG.out; omega)⟩, by first | exact HB4.out | (rw [← HG.out]; exact HB4.out)⟩
      · have q0 : (E == 0) = false := by rw [beq_eq_false_iff_ne]; exact hE0
        have hdp := HD1.out hE0
        have HDP := Lib.hid hdp
        have HB3 := Lib.hid hb3
        clear hdp hE0 hb3 hO3
        go_wp2_with fail
        go_ret2
        exact ⟨⟨_, by rw [HDP.out]; rfl, by rw [HDP.out]; exact ChangesO.none _ _ none⟩, by first | exact HB3.out | (rw [← HG.out]; exact HB3.out)⟩
end Go.Proofs.YtaijompnohkmaaaGreatDoor
