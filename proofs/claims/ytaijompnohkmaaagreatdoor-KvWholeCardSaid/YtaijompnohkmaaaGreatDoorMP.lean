/- Layer 6 (kv): Decode (the code's). -/
import Derived.Test.YtaijompnohkmaaaGreatDoorMO
import Derived.Maps.OwnOps
import Derived.Laws.MakeOwn
import Derived.Shelf.Small.Strs
import Derived.Shelf.Strings.Prefix
set_option linter.unusedSimpArgs false
set_option linter.unusedVariables false
namespace Go.Proofs.YtaijompnohkmaaaGreatDoor
open Go.RowKit KvP PackP
theorem only_new {a b c : World} {g gc : Nat} (h : a.grownBy b (some g)) (k : b.grownBy c (some gc)) (hgc : a.heap.size ≤ gc) : a.grownBy c (some g) :=
  ⟨k.os.trans h.os, k.tape.trans h.tape, k.output.trans h.output, Nat.le_trans h.size k.size, fun i hi hne => (k.block i (Nat.lt_of_lt_of_le hi h.size) (fun e => by cases e; omega)).trans (h.block i hi hne)⟩
theorem infoz_change : (Tryz.prog.info? 33).bind (fun i => i.zero.map fun z => (i.size, i.bytes, z.cells.size)) = some (3, 40, 3) := by kernel_rfl
theorem Own.far {B g : Nat} {w w' : World} {e : TypeId} {v : Value} {sz n : Nat} {cs : List Value} (h : Own B w e v sz n cs) (hg : w.grownBy w' (some g)) (hB : g < B) : Own B w' e v sz n cs := by
  obtain ⟨h1, a, cap, rfl, h2, h3, h4⟩ := h
  refine ⟨h1, a, cap, rfl, h2, h3, ?_⟩
  rcases h4 with h4 | ⟨x, cur, rfl, hx, hh, hs, ht⟩
  · exact .inl h4
  · exact .inr ⟨x, cur, rfl, hx, (hg.block x (block_lt hh) (fun e => by cases e; omega)).trans hh, hs, ht⟩
theorem RdAt.below {T : TypeId} {B g : Nat} {w w' : World} {r : RS} (h : RdAt T B g w r) (hb : Below (g + 1) w w') : RdAt T B g w' r := by
  obtain ⟨v, h1, h2, h3⟩ := h
  exact ⟨v, (hb.block g (Nat.lt_succ_self _)).trans h1, h2.below (hb.mono (by omega)), h3⟩
theorem run_bsC (k v : ByteArray) (b : Bool) (w : World) : (Instr.buildSlice 22 1 #[(0, .agg #[.string k, .string v, .bool b])]).run Tryz.prog w = .ok (.slice (some ⟨w.heap.size, 0, none⟩) 1 1) (w.alloc (.cells #[.string k, .string v, .bool b] 33)) := by kernel_rfl
theorem changes_snoc (l : List ChangeP) (c : ChangeP) : ((l ++ [c]).map changeCells).flatten = (l.map changeCells).flatten ++ changeCells c := by simp
theorem ones_change (c : ChangeP) : ∀ u ∈ changeCells c, u.oneCell' = true := by
  intro u hu
  simp only [changeCells, str, List.mem_cons, List.not_mem_nil, or_false] at hu
  rcases hu with rfl | rfl | rfl <;> rfl
/-- One change more. -/
theorem ChangesO.snoc {B : Nat} {w : World} {v : Value} {l : List ChangeP} {c : ChangeP} (h : Own B w 33 v 3 (l.length + 1) ((l.map changeCells).flatten ++ changeCells c)) : ChangesO B w v (l ++ [c]) := by
  unfold ChangesO
  rw [changes_snoc, List.length_append, List.length_singleton]
  exact h
set_option maxRecDepth 100000 in
set_option maxHeartbeats 4000000 in
theorem decode_any {B : Nat} (v : Value) (bs : List UInt8) (w : World) (hv : Bytes B w v bs) :
    Calls Tryz.prog 14 #[v] w fun e w' => (∃ u, e = .returned (.tuple #[u, .int .i64 (decodeP bs).2]) ∧ ChangesO w.heap.size w' u (decodeP bs).1) ∧ Below w.heap.size w w' := by
  have hv := hv.tight
  obtain ⟨M, hM, hM4⟩ := count_nat (RS.mk bs 0)
  obtain ⟨g, hg⟩ : ∃ g, g = w.heap.size := ⟨_, rfl⟩
  obtain ⟨r0, hr0⟩ : ∃ r, r = ((RS.mk bs 0).count 400).1 := ⟨_, rfl⟩
  have hD1 := decodeP_bad bs M hM
  have hD2 := decodeP_form bs M hM
  have hD3 := decodeP_good bs M hM
  rw [← hr0] at hD1 hD2 hD3
  have HD1 := Lib.hid hD1
  have HD2 := Lib.hid hD2
  have HD3 := Lib.hid hD3
  have HG := Lib.hid hg
  clear hD1 hD2 hD3 hg
  have kfrom := from_at w.heap.size w.heap.size v bs w hv (Nat.le_refl _)
  go_enter Tryz.func14, Tryz.ntmps14
  go_wp2_with fail
  refine kfrom.mono ?_
  rintro e w1 ⟨rfl, hR0, hb1⟩
  rw [← HG.out] at hR0 hb1 ⊢
  have kcount := rcount_any g g w1 ⟨bs, 0⟩ 400 hR0
  rw [hM, ← hr0] at kcount
  clear hM hr0 hv kfrom
  go_wp2_with fail
  refine kcount.mono ?_
  rintro e w2 ⟨rfl, hR, hgw⟩
  have hb2 : Below g w w2 := hb1.trans (below_of_only hgw (Nat.le_refl _) (by have := hb1.size; have := HG.out; omega))
  have hs2 : g + 1 ≤ w2.heap.size := by have := hR.parts; obtain ⟨_, h, _⟩ := this; exact block_lt h
  clear kcount hb1 hR0 hgw
  have HR2 := Lib.hid hR
  clear hR
  go_wp2_with fail
  go_loopw [5, 13] (fun l i wr => ∃ k : Nat, k ≤ M ∧ i = .int .i64 k ∧ RdAt 118 g g wr (decN k r0).1 ∧ ChangesO (g + 1) wr l (decN k r0).2 ∧ Below g w wr ∧ g + 1 ≤ wr.heap.size) (fun _ i _ => M - (intOf i).toNat)
  case atStart => exact ⟨0, Nat.zero_le _, rfl, HR2.out, ChangesO.none _ _ _, hb2, hs2⟩
  case round =>
    obtain ⟨k, hk, rfl, hR, hO, hb, hs⟩ := hrel
    clear hb2 hs2 HR2
    obtain ⟨r, hr⟩ : ∃ x, x = (decN k r0).1 := ⟨_, rfl⟩
    obtain ⟨cs, hcs⟩ : ∃ x, x = (decN k r0).2 := ⟨_, rfl⟩
    have hlen : cs.length = k := by rw [hcs, len_decN]
    have hsn := decN_snoc k r0
    rw [← hr, ← hcs] at hsn
    rw [← hr] at hR
    rw [← hcs] at hO
    by_cases hkM : k < M
    · have k0 : decide ((k : Int) < (M : Int)) = true := by simp; omega
      obtain ⟨z, hz⟩ : ∃ x, x = r.num.2 := ⟨_, rfl⟩
      obtain ⟨r1, hr1⟩ : ∃ x, x = r.num.1 := ⟨_, rfl⟩
      obtain ⟨r2, hr2⟩ : ∃ x, x = r1.fail (decide (1 < z)) 3 := ⟨_, rfl⟩
      obtain ⟨r3, hr3⟩ : ∃ x, x = r2.text.1 := ⟨_, rfl⟩
      obtain ⟨s, hs0⟩ : ∃ x, x = r2.text.2 := ⟨_, rfl⟩
      have kc := rnum_any g g _ r hR
      rw [← hz, ← hr1] at kc
      have HO := Lib.hid hO
      have HRK := Lib.hid hR
      have HLEN := Lib.hid hlen
      have HSN := Lib.hid hsn
      have HB := Lib.hid hb
      have e1 : z = 1 → (decN (k + 1) r0) = (r3, cs ++ [⟨s, [], true⟩]) := fun h => by
        rw [hsn, dec1_gone (by rw [← hz]; exact h), ← hr1, ← hz, ← hr2, ← hr3, ← hs0]
      have e2 : z ≠ 1 → (decN (k + 1) r0) = (r3.text.1, cs ++ [⟨s, r3.text.2, false⟩]) := fun h => by
        rw [hsn, dec1_put (by rw [← hz]; exact h), ← hr1, ← hz, ← hr2, ← hr3, ← hs0]
      have E1 := Lib.hid e1
      have E2 := Lib.hid e2
      have kf := fun w1 (h : RdAt 118 g g w1 r1) => rfail_any g g w1 r1 (decide (1 < z)) h
      rw [← hr2] at kf
      have kt := fun w1 (h : RdAt 118 g g w1 r2) => rtext_any g g w1 r2 h
      rw [← hr3, ← hs0] at kt
      have KF := Lib.hid kf
      have KT := Lib.hid kt
      clear hz hr1 hr2 hr3 hs0 hsn hlen hR hO e1 e2 kf kt hb hr hcs
      go_wp2_with fail
      refine kc.mono ?_
      rintro e w3 ⟨rfl, hR3, hg3⟩
      clear kc
      have kc := KF.out w3 hR3
      clear hR3
      go_wp2_with fail
      refine kc.mono ?_
      rintro e w4 ⟨rfl, hR4, hg4⟩
      clear kc KF
      have kc := KT.out w4 hR4
      have hO4 := (Own.far HO.out hg3 (Nat.lt_succ_self _)).far hg4 (Nat.lt_succ_self _)
      have hgs : w4.grownBy w4 (some g) := only_refl _ _
      clear hR4 HO HRK
      go_wp2_with fail
      refine kc.mono ?_
      rintro e w5 ⟨rfl, hR5, hg5⟩
      clear kc KT hgs
      have hO5 := Own.far hO4 hg5 (Nat.lt_succ_self _)
      have hb35 := only_trans (only_trans hg3 hg4) hg5
      have hs5 := Nat.le_trans hs hb35.size
      have hb5 : Below g w w5 := HB.out.trans (below_of_only hb35 (Nat.le_refl _) (by omega))
      clear hO4 hg3 hg4 hg5 HB hb35 hs
      obtain ⟨i0, z0, hi, hz0, hz1, hz2, hz3⟩ := zero_parts infoz_change
      obtain ⟨S, hS⟩ : ∃ x, x = strB s := ⟨_, rfl⟩
      rw [← hS]
      have HS := Lib.hid hS
      clear hS
      by_cases hz1' : z = 1
      · have c1 : (z == 1) = true := by rw [hz1']; rfl
        obtain ⟨w6, hw6⟩ : ∃ x, x = w5.alloc (.cells #[.string S, .string (ByteArray.mk #[]), .bool true] 33) := ⟨_, rfl⟩
        obtain ⟨gc, hgc⟩ : ∃ x, x = w5.heap.size := ⟨_, rfl⟩
        have hb56 : Below w5.heap.size w5 w6 := by rw [hw6]; exact Below.alloc (Below.refl _ _) (Nat.le_refl _) _
        have hbox : w6.heap[gc]? = some (.cells #[.string S, .string (ByteArray.mk #[]), .bool true] 33 (0, 0)) := by rw [hw6, hgc]; exact heap_alloc_new w5 _
        have HW6 := Lib.hid hw6
        have HGC := Lib.hid hgc
        have HE := Lib.hid (E1.out hz1')
        have hO6 := Own.below hO5 hb56 (Nat.le_refl _)
        have hR6 := hR5.below (hb56.mono hs5)
        have hs6 := Nat.le_trans hs5 hb56.size
        have hb6 := hb5.trans (hb56.mono (by omega))
        clear hw6 hgc E1 E2 hO5 hR5 hb5 hb56 hs5 hz1'
        go_upto_region 10 with (fail)
        rw [← HW6.out, ← HGC.out]
        have C0 := cell_of_row w6 _ 0 _ _ _ hbox
        have C1 := cell_of_row w6 _ 1 _ _ _ hbox
        have C2 := cell_of_row w6 _ 2 _ _ _ hbox
        clear hbox
        have hbs := run_bsC S (ByteArray.mk #[]) true w6
        obtain ⟨w8, hw8⟩ : ∃ x, x = w6.alloc (.cells #[.string S, .string (ByteArray.mk #[]), .bool true] 33) := ⟨_, rfl⟩
        obtain ⟨gs, hgs⟩ : ∃ x, x = w6.heap.size := ⟨_, rfl⟩
        rw [← hw8, ← hgs] at hbs
        have hsrc : Src Tryz.prog w8 (.slice (some ⟨gs, 0, none⟩) 1 1) 3 1 (changeCells ⟨s, [], true⟩) := by
          rw [hw8, hgs]
          refine Row.src (Row.fresh (by simp [changeCells]) (Nat.le_refl _) (by decide) (fun k u hk => ?_))
          simp only [changeCells, str] at hk
          rw [HS.out]; simpa [strB] using hk
        have hb68 : Below w6.heap.size w6 w8 := by rw [hw8]; exact Below.alloc (Below.refl _ _) (Nat.le_refl _) _
        have hO8 := Own.below hO6 hb68 (Nat.le_refl _)
        have hs8 : g + 1 ≤ w8.heap.size := Nat.le_trans hs6 hb68.size
        have hone := ones_change ⟨s, [], true⟩
        have hn : cs.length + 1 ≤ maxLen := by have := HLEN.out; unfold maxLen; omega
        have hn2 : (cs.length + 1) * 40 ≤ 140737488355328 := by have := HLEN.out; omega
        have R1 := Lib.hid hn
        have R2 := Lib.hid hn2
        have HB6 := Lib.hid (hb6.trans (hb68.mono (by omega)))
        have HRd := Lib.hid (hR6.below (hb68.mono (by omega)))
        have HW8 := Lib.hid hw8
        clear hw8 hgs hn hn2 hO6 hb68 hb6 hs6
        go_wp2_with (with_reducible refine wp_buildSlice_r 22 1 [(0, .tmp 33)] hbs rfl ?_; refine Halt.in ?_)
        refine Halt.out ?_
        refine wp_append2 rfl (.tmp 32) (.tmp 34) 22 22 33 rfl i0 z0 3 40 Tryz.underlying22 (.inl ⟨_, Tryz.underlying22⟩) hi hz0 hz1 hz2 hz3 rfl rfl hO8 hsrc hone R1.out R2.out hs8 ?_
        intro v9 w9 hown9 hb9 _
        have HO9 := Lib.hid (ChangesO.snoc hown9)
        have HR9 := Lib.hid (HRd.out.below hb9)
        have HB9 := Lib.hid (HB6.out.trans (hb9.mono (by omega)))
        have hs9 := Nat.le_trans hs8 hb9.size
        clear hbs hsrc hO8 hone hown9 hb9 HRd HB6 hi hz0 hz1 hz2 hz3
        go_wp2_with fail
        go_roundw
        case rel => exact ⟨k + 1, by omega, by first | go_num | (congr 2; omega) | (simp; omega), by rw [HE.out]; exact HR9.out, by rw [HE.out]; exact HO9.out, HB9.out, hs9⟩
        case measure => simp [intOf]; omega
      · have c1 : (z == 1) = false := by rw [beq_eq_false_iff_ne]; exact hz1'
        obtain ⟨w6, hw6⟩ : ∃ x, x = w5.alloc (.cells #[.string S, .string (ByteArray.mk #[]), .bool false] 33) := ⟨_, rfl⟩
        obtain ⟨gc, hgc⟩ : ∃ x, x = w5.heap.size := ⟨_, rfl⟩
        have hb56 : Below w5.heap.size w5 w6 := by rw [hw6]; exact Below.alloc (Below.refl _ _) (Nat.le_refl _) _
        have hbox : w6.heap[gc]? = some (.cells #[.string S, .string (ByteArray.mk #[]), .bool false] 33 (0, 0)) := by rw [hw6, hgc]; exact heap_alloc_new w5 _
        have HW6 := Lib.hid hw6
        have HGC := Lib.hid hgc
        have hgcl : g < gc := by omega
        have hO6 := Own.below hO5 hb56 (Nat.le_refl _)
        have hR6 := hR5.below (hb56.mono hs5)
        have hs6 := Nat.le_trans hs5 hb56.size
        have hb6 := hb5.trans (hb56.mono (by omega))
        have hb5' := hb5
        clear hw6 E1 hR5 hb5 hb56
        go_upto_region 9 with (fail)
        rw [← HW6.out, ← HGC.out]
        have kc := rtext_any g g w6 r3 hR6
        obtain ⟨s2, hs2⟩ : ∃ x, x = r3.text.2 := ⟨_, rfl⟩
        obtain ⟨r4, hr4⟩ : ∃ x, x = r3.text.1 := ⟨_, rfl⟩
        have hE2 := E2.out hz1'
        rw [← hs2, ← hr4] at hE2 kc
        have HE := Lib.hid hE2
        obtain ⟨S2, hS2⟩ : ∃ x, x = strB s2 := ⟨_, rfl⟩
        rw [← hS2] at kc
        have HS2 := Lib.hid hS2
        clear E2 hs2 hr4 hE2 hS2 hR6 hz1'
        go_wp2_with fail
        refine kc.mono ?_
        rintro e w7 ⟨rfl, hR7, hg7⟩
        clear kc
        have hbox7 := (hg7.block gc (block_lt hbox) (fun e => by cases e; omega)).trans hbox
        obtain ⟨wq, hwq⟩ : ∃ x, x = w7.setCell ⟨gc, 1, none⟩ (.string S2) := ⟨_, rfl⟩
        have hgq : w7.grownBy wq (some gc) := by rw [hwq]; exact only_set _ _ _ _
        have hboxq : wq.heap[gc]? = some (.cells #[.string S, .string S2, .bool false] 33 (0, 0)) := by rw [hwq]; simp [World.setCell, Array.getElem?_modify, hbox7]
        have hg56 : w5.grownBy w6 (some g) := by rw [HW6.out]; exact World.grownBy_alloc _ _ _
        have hg5q : w5.grownBy wq (some g) := only_new (only_trans hg56 hg7) hgq (by omega)
        have hO6q := Own.far hO5 hg5q (Nat.lt_succ_self _)
        have hRq := hR7.far hgq (fun k e => by cases e; exact ⟨by omega, by omega⟩)
        have hbq := hb5'.trans (below_of_only hg5q (Nat.le_refl _) (by omega))
        have hsq := Nat.le_trans hs5 hg5q.size
        have D0 := cell_of_row w7 _ 0 _ _ _ hbox7
        have D1 := cell_of_row w7 _ 1 _ _ _ hbox7
        have D2 := cell_of_row w7 _ 2 _ _ _ hbox7
        have DF : w7.frozen? ⟨gc, 1, none⟩ = false := by simp [World.frozen?, hbox7]
        have C0 := cell_of_row wq _ 0 _ _ _ hboxq
        have C1 := cell_of_row wq _ 1 _ _ _ hboxq
        have C2 := cell_of_row wq _ 2 _ _ _ hboxq
        have HWQ := Lib.hid hwq
        clear hwq hboxq hbox7 hbox hgq hg56 hg5q hR7 hg7 hO5 hO6 hb6 hs6 hb5' hgc
        go_upto_region 10 with (fail)
        rw [← HWQ.out]
        clear D0 D1 D2 DF
        have hO6 := hO6q
        have hb6 := hbq
        have hs6 := hsq
        clear hO6q hbq hsq
        have hbs := run_bsC S S2 false wq
        obtain ⟨w8, hw8⟩ : ∃ x, x = wq.alloc (.cells #[.string S, .string S2, .bool false] 33) := ⟨_, rfl⟩
        obtain ⟨gs, hgs⟩ : ∃ x, x = wq.heap.size := ⟨_, rfl⟩
        rw [← hw8, ← hgs] at hbs
        have hsrc : Src Tryz.prog w8 (.slice (some ⟨gs, 0, none⟩) 1 1) 3 1 (changeCells ⟨s, s2, false⟩) := by
          rw [hw8, hgs]
          refine Row.src (Row.fresh (by simp [changeCells]) (Nat.le_refl _) (by decide) (fun k u hk => ?_))
          simp only [changeCells, str] at hk
          rw [HS.out, HS2.out]; simpa [strB] using hk
        have hb68 : Below wq.heap.size wq w8 := by rw [hw8]; exact Below.alloc (Below.refl _ _) (Nat.le_refl _) _
        have hO8 := Own.below hO6 hb68 (Nat.le_refl _)
        have hs8 : g + 1 ≤ w8.heap.size := Nat.le_trans hs6 hb68.size
        have hone := ones_change ⟨s, s2, false⟩
        have hn : cs.length + 1 ≤ maxLen := by have := HLEN.out; unfold maxLen; omega
        have hn2 : (cs.length + 1) * 40 ≤ 140737488355328 := by have := HLEN.out; omega
        have R1 := Lib.hid hn
        have R2 := Lib.hid hn2
        have HB6 := Lib.hid (hb6.trans (hb68.mono (by omega)))
        have HRd := Lib.hid (hRq.below (hb68.mono (by omega)))
        have HW8 := Lib.hid hw8
        clear hw8 hgs hn hn2 hO6 hb68 hb6 hs6
        go_wp2_with (with_reducible refine wp_buildSlice_r 22 1 [(0, .tmp 33)] hbs rfl ?_; refine Halt.in ?_)
        refine Halt.out ?_
        refine wp_append2 rfl (.tmp 32) (.tmp 34) 22 22 33 rfl i0 z0 3 40 Tryz.underlying22 (.inl ⟨_, Tryz.underlying22⟩) hi hz0 hz1 hz2 hz3 rfl rfl hO8 hsrc hone R1.out R2.out hs8 ?_
        intro v9 w9 hown9 hb9 _
        have HO9 := Lib.hid (ChangesO.snoc hown9)
        have HR9 := Lib.hid (HRd.out.below hb9)
        have HB9 := Lib.hid (HB6.out.trans (hb9.mono (by omega)))
        have hs9 := Nat.le_trans hs8 hb9.size
        clear hbs hsrc hO8 hone hown9 hb9 HRd HB6 hi hz0 hz1 hz2 hz3
        go_wp2_with fail
        go_roundw
        case rel => exact ⟨k + 1, by omega, by first | go_num | (congr 2; omega) | (simp; omega), by rw [HE.out]; exact HR9.out, by rw [HE.out]; exact HO9.out, HB9.out, hs9⟩
        case measure => simp [intOf]; omega
    · have k0 : decide ((k : Int) < (M : Int)) = false := by simp; omega
      obtain rfl : k = M := by omega
      have kc := rdone_any g g _ r hR
      rw [← hr] at HD1 HD2 HD3
      rw [← hcs] at HD2 HD3
      obtain ⟨E, hE⟩ : ∃ x, x = r.doneE := ⟨_, rfl⟩
      rw [← hE] at kc HD1 HD2 HD3
      have HO := Lib.hid hO
      have HB := Lib.hid hb
      clear hE hsn hr hcs hO hb
      go_wp2_with fail
      refine kc.mono ?_
      rintro e w3 ⟨rfl, hR3, hg3⟩
      clear kc
      have hO3 := Own.far HO.out hg3 (Nat.lt_succ_self _)
      have hb3 : Below g w w3 := HB.out.trans (below_of_only hg3 (Nat.le_refl _) (by omega))
      clear hR3 hg3 HO HB hR hlen
      by_cases hE0 : E = 0
      · have q0 : (E == 0) = true := by rw [hE0]; rfl
        have kc := changed_any _ cs w3 (ChangesO.v hO3)
        obtain ⟨cb, hcb⟩ : ∃ x, x = changesB cs := ⟨_, rfl⟩
        rw [← hcb] at kc
        have HCB := Lib.hid hcb
        have HE0 := Lib.hid hE0
        have HO3 := Lib.hid hO3
        have HB3 := Lib.hid hb3
        clear hcb hE0 hO3 hb3
        go_wp2_with fail
        refine kc.mono ?_
        rintro e w4 ⟨rfl, hb4⟩
        clear kc
        have hs3 := HB3.out.size
        have HB4 := Lib.hid (HB3.out.trans (hb4.mono (by have := HG.out; omega)))
        have HO4 := Lib.hid (Own.below HO3.out hb4 (Nat.le_refl _))
        clear hb4 HO3 HB3 hs3
        cases cb with
        | false =>
          have hdp := HD2.out HE0.out HCB.out.symm
          have HDP := Lib.hid hdp
          clear hdp
          go_wp2_with fail
          go_ret2
          exact ⟨⟨_, by rw [HDP.out]; rfl, by rw [HDP.out]; exact ChangesO.none _ _ none⟩, by first | exact HB4.out | (rw [← HG.out]; exact HB4.out)⟩
        | true =>
          have hdp := HD3.out HE0.out HCB.out.symm
          have HDP := Lib.hid hdp
          clear hdp
          go_wp2_with fail
          go_ret2
          exact ⟨⟨_, by rw [HDP.out]; rfl, by rw [HDP.out]; exact Own.lower HO4.out (by have := HG.out; omega)⟩, by first | exact HB4.out | (rw [← HG.out]; exact HB4.out)⟩
      · have q0 : (E == 0) = false := by rw [beq_eq_false_iff_ne]; exact hE0
        have hdp := HD1.out hE0
        have HDP := Lib.hid hdp
        have HB3 := Lib.hid hb3
        clear hdp hE0 hb3 hO3
        go_wp2_with fail
        go_ret2
        exact ⟨⟨_, by rw [HDP.out]; rfl, by rw [HDP.out]; exact ChangesO.none _ _ none⟩, by first | exact HB3.out | (rw [← HG.out]; exact HB3.out)⟩
end Go.Proofs.YtaijompnohkmaaaGreatDoor
/- Layer 6 (kv): records of the call's own, whose blocks' types are known. -/
namespace Go.Proofs.YtaijompnohkmaaaGreatDoor
open Go.RowKit KvP PackP
/-- Blocks of other element types are as they were. -/
def Typed (e : TypeId) (w w' : World) : Prop := ∀ (T : Nat) (cs : Array Value) (t : TypeId) (fr : Nat × Nat), w.heap[T]? = some (.cells cs t fr) → t ≠ e → w'.heap[T]? = w.heap[T]?
theorem Own.typed {B : Nat} {w w' : World} {e e2 : TypeId} {v : Value} {sz n : Nat} {cs : List Value} (h : Own B w e v sz n cs) (ht : Typed e2 w w') (hne : e ≠ e2) : Own B w' e v sz n cs := by
  obtain ⟨h1, a, cap, rfl, h2, h3, h4⟩ := h
  refine ⟨h1, a, cap, rfl, h2, h3, ?_⟩
  rcases h4 with h4 | ⟨g, cur, rfl, hg, hh, hs, hk⟩
  · exact .inl h4
  · exact .inr ⟨g, cur, rfl, hg, (ht _ _ _ _ hh hne).trans hh, hs, hk⟩
/-- Records of the call's own, each one too. -/
def RecsT (B : Nat) (w : World) (lv : Value) (list : List (List UInt8)) : Prop :=
  ∃ vs : List Value, Own B w 23 lv 1 list.length vs ∧ ∀ (k : Nat) (h : k < list.length), ∃ u, vs[k]? = some u ∧ OwnB B w u list[k]
theorem RecsT.none (B : Nat) (w : World) (a : Option Addr) : RecsT B w (.slice a 0 0) [] := ⟨[], Own.none _ _ _ _ _, fun k h => absurd h (Nat.not_lt_zero _)⟩
theorem RecsT.below {B B' : Nat} {w w' : World} {lv : Value} {list : List (List UInt8)} (h : RecsT B w lv list) (hb : Below B' w w') (hB : w.heap.size ≤ B') : RecsT B w' lv list := by
  obtain ⟨vs, h1, h2⟩ := h
  exact ⟨vs, Own.below h1 hb hB, fun k hk => let ⟨u, h3, h4⟩ := h2 k hk; ⟨u, h3, Own.below h4 hb hB⟩⟩
theorem RecsT.typed {B : Nat} {w w' : World} {e : TypeId} {lv : Value} {list : List (List UInt8)} (h : RecsT B w lv list) (ht : Typed e w w') (h1 : 23 ≠ e) (h2 : 5 ≠ e) : RecsT B w' lv list := by
  obtain ⟨vs, g1, g2⟩ := h
  exact ⟨vs, Own.typed g1 ht h1, fun k hk => let ⟨u, h3, h4⟩ := g2 k hk; ⟨u, h3, Own.typed h4 ht h2⟩⟩
theorem RecsT.lower {B B' : Nat} {w : World} {lv : Value} {list : List (List UInt8)} (h : RecsT B w lv list) (hB : B' ≤ B) : RecsT B' w lv list := by
  obtain ⟨vs, h1, h2⟩ := h
  exact ⟨vs, Own.lower h1 hB, fun k hk => let ⟨u, h3, h4⟩ := h2 k hk; ⟨u, h3, Own.lower h4 hB⟩⟩
theorem RecsT.pieces {B : Nat} {w : World} {lv : Value} {list : List (List UInt8)} (h : RecsT B w lv list) : Pieces w.heap.size w lv list := by
  obtain ⟨vs, h1, h2⟩ := h
  exact ⟨vs, h1.row, fun k hk => let ⟨u, h3, h4⟩ := h2 k hk; ⟨u, h3, Own.row h4⟩⟩
/-- One record more. -/
theorem RecsT.snoc {B : Nat} {w w' : World} {vs : List Value} {v' u : Value} {list : List (List UInt8)} {bs : List UInt8} (hv : vs.length = list.length) (hown : Own B w' 23 v' 1 (list.length + 1) (vs ++ [u]))
    (hel : ∀ (k : Nat) (h : k < list.length), ∃ u, vs[k]? = some u ∧ OwnB B w u list[k]) (hu : OwnB B w u bs) (ht : Typed 23 w w') : RecsT B w' v' (list ++ [bs]) := by
  refine ⟨vs ++ [u], by rw [List.length_append]; exact hown, fun k hk => ?_⟩
  rw [List.length_append, List.length_singleton] at hk
  by_cases hkl : k < list.length
  · obtain ⟨x, h1, h2⟩ := hel k hkl
    refine ⟨x, by rw [List.getElem?_append_left (by omega)]; exact h1, ?_⟩
    rw [List.getElem_append_left hkl]
    exact Own.typed h2 ht (by decide)
  · obtain rfl : k = list.length := by omega
    refine ⟨u, by rw [List.getElem?_append_right (by omega), hv, Nat.sub_self]; rfl, ?_⟩
    rw [List.getElem_append_right (Nat.le_refl _)]
    simp only [Nat.sub_self, List.getElem_cons_zero]
    exact Own.typed hu ht (by decide)
/-- The parts of a list of records ahead of one more, in any world that keeps what was there. -/
theorem RecsT.open_ {B : Nat} {w w' : World} {lv : Value} {list : List (List UInt8)} (h : RecsT B w lv list) (hb : Below w.heap.size w w') :
    ∃ vs, vs.length = list.length ∧ Own B w' 23 lv 1 list.length vs ∧ ∀ (k : Nat) (h : k < list.length), ∃ u, vs[k]? = some u ∧ OwnB B w' u list[k] := by
  obtain ⟨vs, h1, h2⟩ := h.below hb (Nat.le_refl _)
  exact ⟨vs, by have := h1.1; omega, h1, h2⟩
theorem snapF_cons_great (p : PairP) (l : List PairP) (c : List ChangeP) (h : 6000 < (bytesP (c ++ [chg p])).length) : snapF (p :: l) c = c :: snapF l [chg p] := by rw [snapF, if_pos h]
theorem snapF_cons_small (p : PairP) (l : List PairP) (c : List ChangeP) (h : ¬ 6000 < (bytesP (c ++ [chg p])).length) : snapF (p :: l) c = snapF l (c ++ [chg p]) := by rw [snapF, if_neg h]
theorem chunk_nil : ChunkOk [] := ⟨by simp, by rw [bytes_nil]; decide, by rw [bytes_nil]; simp⟩
theorem ChunkOk.snoc {c : List ChangeP} {p : PairP} (h : ChunkOk c) (hm : mayP p.key p.val = true) (hn : ¬ 6000 < (bytesP (c ++ [chg p])).length) : ChunkOk (c ++ [chg p]) := by
  obtain ⟨h1, h2, h3⟩ := h
  refine ⟨fun x hx => ?_, by omega, ?_⟩
  · rcases List.mem_append.1 hx with hx | hx
    · exact h1 x hx
    · rw [List.mem_singleton.1 hx]; exact okC_chg hm
  · have h4 : 1 ≤ p.key.length := by
      unfold mayP at hm
      simp only [Bool.and_eq_true, decide_eq_true_eq] at hm
      exact hm.1.1
    rw [bytes_snoc, length_chg hm, List.length_append, List.length_singleton]
    omega
theorem ChunkOk.one {p : PairP} (hm : mayP p.key p.val = true) : ChunkOk [chg p] := by
  have h := length_chg hm
  unfold mayP at hm
  simp only [Bool.and_eq_true, decide_eq_true_eq] at hm
  have := ChunkOk.snoc (p := p) chunk_nil (by unfold mayP; simp only [Bool.and_eq_true, decide_eq_true_eq]; exact hm) (by rw [bytes_snoc, bytes_nil, h]; omega)
  simpa using this
theorem ChunkOk.len {c : List ChangeP} (h : ChunkOk c) : c.length ≤ 353 ∧ ∀ x ∈ c, x.key.length ≤ 64 ∧ x.val.length ≤ 4096 := ⟨by have := h.2.1; have := h.2.2; omega, fun x hx => len_okC (h.1 x hx)⟩
end Go.Proofs.YtaijompnohkmaaaGreatDoor
/- Layer 6 (kv): Snapshot (the code's). -/
namespace Go.Proofs.YtaijompnohkmaaaGreatDoor
open Go.RowKit KvP PackP
set_option maxRecDepth 100000 in
set_option maxHeartbeats 4000000 in
theorem snapshot_any {B : Nat} (v : Value) (l : List PairP) (w : World) (hv : PairsV B w v l) (hm : ∀ p ∈ l, mayP p.key p.val = true) (hN4 : l.length ≤ 400) :
    Calls Tryz.prog 34 #[v] w fun e w' => ∃ u, e = .returned u ∧ RecsT w.heap.size w' u (snapP l) ∧ Below w.heap.size w w' := by
  have hv := hv.tight
  obtain ⟨_, a, c, rfl, h1, h2, _⟩ := id hv
  unfold maxLen at h2
  obtain ⟨N, hN⟩ : ∃ N, N = l.length := ⟨_, rfl⟩
  rw [← hN] at hv h1 hN4 ⊢
  have HN := Lib.hid hN
  have HV := Lib.hid hv
  have HM := Lib.hid hm
  clear hN hv hm
  go_enter Tryz.func34, Tryz.ntmps34
  go_wp2_with fail
  go_loopw [3, 4, 5, 11] (fun lv cv size i wr => ∃ (k : Nat) (list : List (List UInt8)) (cs : List ChangeP), k ≤ N ∧ i = .int .i64 k ∧ list.length ≤ k ∧ size = .int .i64 ((bytesP cs).length : Int) ∧ RecsT w.heap.size wr lv list ∧ ChangesO w.heap.size wr cv cs ∧ Below w.heap.size w wr ∧ Hid (ChunkOk cs) ∧ Hid (snapP l = list ++ (snapF (l.drop k) cs).map bytesP)) (fun _ _ _ i _ => N - (intOf i).toNat)
  case atStart => exact ⟨0, [], [], Nat.zero_le _, rfl, Nat.le_refl _, by rw [bytes_nil]; rfl, RecsT.none _ _ _, ChangesO.none _ _ _, Below.refl _ _, Lib.hid chunk_nil, Lib.hid rfl⟩
  case round =>
    obtain ⟨k, list, cs, hk, rfl, hlk, rfl, hR, hC, hb, HCK, HSN⟩ := hrel
    obtain ⟨L, hL⟩ : ∃ L, L = (bytesP cs).length := ⟨_, rfl⟩
    have hL6 : L ≤ 6000 := by rw [hL]; exact HCK.out.2.1
    rw [← hL]
    have HL := Lib.hid hL
    clear hL
    by_cases hkN : k < N
    · have hkl : k < l.length := HN.out ▸ hkN
      have k1 : (0 : Int) ≤ (k : Int) := by omega
      have k2 : (k : Int) < (N : Int) := by omega
      have k0 : decide ((k : Int) < (N : Int)) = true := by simp; omega
      obtain ⟨b, off, rfl, hbb, hc⟩ := load_pair HV.out hkl
      obtain ⟨S0, S1⟩ := hc wr hb
      have hmay := HM.out _ (List.getElem_mem hkl)
      have hdrop : l.drop k = l[k] :: l.drop (k + 1) := List.drop_eq_getElem_cons hkl
      obtain ⟨⟨key, val⟩, hx⟩ : ∃ x, x = l[k] := ⟨_, rfl⟩
      rw [← hx] at S0 S1 hmay hdrop
      dsimp only at S0 S1
      obtain ⟨sk, hsk⟩ : ∃ s, s = ByteArray.mk key.toArray := ⟨_, rfl⟩
      obtain ⟨sv, hsv⟩ : ∃ s, s = ByteArray.mk val.toArray := ⟨_, rfl⟩
      change wr.cell? _ = some (.string _) at S0
      change wr.cell? _ = some (.string _) at S1
      rw [← hsk] at S0
      rw [← hsv] at S1
      have hlc := length_chg (p := ⟨key, val⟩) hmay
      have hm4 : key.length ≤ 64 ∧ val.length ≤ 4096 := by
        have h := hmay
        unfold mayP at h
        simp only [Bool.and_eq_true, decide_eq_true_eq] at h
        exact ⟨h.1.2, h.2⟩
      obtain ⟨nk, hnk⟩ : ∃ n, n = sk.size := ⟨_, rfl⟩
      obtain ⟨nv, hnv⟩ : ∃ n, n = sv.size := ⟨_, rfl⟩
      have hnk4 : nk ≤ 64 := by rw [hnk, hsk, str_size]; exact hm4.1
      have hnv4 : nv ≤ 4096 := by rw [hnv, hsv, str_size]; exact hm4.2
      have hlc2 : (changeB (chg ⟨key, val⟩)).length = 16 + nk + nv := by rw [hlc, hnk, hnv, hsk, hsv, str_size, str_size]
      have hgreat : 6000 < L + (16 + nk + nv) → snapF (l.drop k) cs = cs :: snapF (l.drop (k + 1)) [chg ⟨key, val⟩] := fun h => by
        rw [hdrop]
        exact snapF_cons_great _ _ _ (by rw [bytes_snoc, hlc2, ← HL.out]; exact h)
      have hsmall : ¬ 6000 < L + (16 + nk + nv) → snapF (l.drop k) cs = snapF (l.drop (k + 1)) (cs ++ [chg ⟨key, val⟩]) := fun h => by
        rw [hdrop]
        exact snapF_cons_small _ _ _ (by rw [bytes_snoc, hlc2, ← HL.out]; exact h)
      have q1 : (sk.size : Int) = (nk : Int) := by rw [hnk]
      have q2 : (sv.size : Int) = (nv : Int) := by rw [hnv]
      have HSK := Lib.hid hsk
      have HSV := Lib.hid hsv
      have HLC := Lib.hid hlc2
      have HMAY := Lib.hid hmay
      have HG := Lib.hid hgreat
      have HS := Lib.hid hsmall
      obtain ⟨w1, hw1⟩ : ∃ x, x = wr.alloc (.cells #[.string sk, .string sv] 76) := ⟨_, rfl⟩
      obtain ⟨g, hg⟩ : ∃ g, g = wr.heap.size := ⟨_, rfl⟩
      have HW1 := Lib.hid hw1
      have HGG := Lib.hid hg
      clear hsk hsv hnk hnv hlc hlc2 hmay hgreat hsmall hw1 hg hm4 hdrop hx hc
      go_upto_region 7 with (fail)
      rw [← HW1.out, ← HGG.out]
      clear S0 S1
      have hb1 : Below wr.heap.size wr w1 := by rw [HW1.out]; exact Below.alloc (Below.refl _ _) (Nat.le_refl _) _
      have hbox : w1.heap[g]? = some (.cells #[.string sk, .string sv] 76 (0, 0)) := by rw [HW1.out, HGG.out]; exact heap_alloc_new wr _
      have C0 := cell_of_row w1 _ 0 _ _ _ hbox
      have C1 := cell_of_row w1 _ 1 _ _ _ hbox
      have HR1 := Lib.hid (hR.below hb1 (Nat.le_refl _))
      have HC1 := Lib.hid (Own.below hC hb1 (Nat.le_refl _))
      have HB1 := Lib.hid (hb.trans (hb1.mono hb.size))
      have HBOX := Lib.hid hbox
      have hi1 : IntKind.i64.wrap (16 + (nk : Int)) = 16 + (nk : Int) := by
        simp only [IntKind.wrap, IntKind.bits, IntKind.signed]
        simp
        omega
      clear hR hC hb hb1 hbox
      have q3 : (16 : Int) + (nk : Int) = ((16 + nk : Nat) : Int) := by omega
      clear hi1 q3
      go_upto_region 8 with (fail)
      obtain ⟨n, hn⟩ : ∃ n, n = 16 + nk + nv := ⟨_, rfl⟩
      have hni : (16 : Int) + (nk : Int) + (nv : Int) = (n : Int) := by omega
      have hn5 : n ≤ 4176 := by omega
      by_cases h6 : 6000 < L + n
      · have q6 : decide ((6000 : Int) < (L : Int) + (n : Int)) = true := by simp; omega
        have hsn := HG.out (by omega)
        have HSN2 := Lib.hid hsn
        have HN1 := Lib.hid hn
        clear hsn hn
        go_upto_region 9 with (fail)
        have kb := bytes_any _ cs w1 (ChangesO.v HC1.out) (by have := (ChunkOk.len (HCK.out)).1; omega) (fun x hx => by have := (ChunkOk.len (HCK.out)).2 x hx; omega)
        go_wp2_with fail
        refine kb.mono ?_
        rintro e w2 ⟨u, rfl, hu, hb2⟩
        clear kb
        obtain ⟨_, ua, uc, rfl, _, _, _⟩ := id hu.bytes
        obtain ⟨un, hun⟩ : ∃ n, n = (bytesP cs).length := ⟨_, rfl⟩
        have hu2 : OwnB w.heap.size w2 (.slice ua un uc) (bytesP cs) := by rw [hun]; exact Own.lower hu (HB1.out).size
        rw [← hun]
        clear hu hun
        obtain ⟨w3, hw3⟩ : ∃ x, x = w2.alloc (.cells #[.slice ua un uc] 23) := ⟨_, rfl⟩
        have hb3 : Below w2.heap.size w2 w3 := by rw [hw3]; exact Below.alloc (Below.refl _ _) (Nat.le_refl _) _
        have hb13 : Below w1.heap.size w1 w3 := hb2.trans (hb3.mono hb2.size)
        obtain ⟨vs, hvl, hown8, hel8⟩ := RecsT.open_ HR1.out hb13
        have hu3 : OwnB w.heap.size w3 (.slice ua un uc) (bytesP cs) := Own.below hu2 hb3 (Nat.le_refl _)
        have hsrc : Src Tryz.prog w3 (.slice (some ⟨w2.heap.size, 0, none⟩) 1 1) 1 1 [.slice ua un uc] := by
          rw [hw3]
          exact Row.src (Row.fresh (by simp) (Nat.le_refl _) (by decide) (fun k u hk => by simpa using hk))
        have hone : ∀ u ∈ [Value.slice ua un uc], u.oneCell' = true := fun u hu => by rw [List.mem_singleton.1 hu]; rfl
        obtain ⟨i0, z0, hi, hz0, hz1, hz2, hz3⟩ := zero_parts infoz_bytes
        have R1 : list.length + 1 ≤ maxLen := by unfold maxLen; omega
        have R2 : (list.length + 1) * 24 ≤ 140737488355328 := by omega
        have hs3 : w.heap.size ≤ w3.heap.size := Nat.le_trans (HB1.out).size hb13.size
        have HB3 := Lib.hid ((HB1.out).trans (hb13.mono (HB1.out).size))
        have hx13 := hb13
        have HU3 := Lib.hid hu3
        have HVL := Lib.hid hvl
        have HEL := Lib.hid hel8
        rw [hw3] at hown8 hsrc hs3
        have HW3 := Lib.hid hw3
        clear hb2 hb3 hb13 hu2 hu3 hvl hel8 hw3
        go_wp2_with (at_builtin; refine wp_append2 rfl (.tmp 27) (.tmp 30) 66 66 23 rfl i0 z0 1 24 Tryz.underlying66 (.inl ⟨_, Tryz.underlying66⟩) hi hz0 hz1 hz2 hz3 rfl rfl hown8 hsrc hone R1 R2 hs3 ?_; intro v5 w5 hown5 hb5 hty5; refine Halt.in ?_)
        refine Halt.out ?_
        rw [← HW3.out] at hb5 hty5
        have HR5 := Lib.hid (RecsT.snoc HVL.out hown5 HEL.out HU3.out hty5)
        have HB5 := Lib.hid (HB3.out.trans hb5)
        have HTY := Lib.hid hty5
        have HX13 := Lib.hid hx13
        clear hsrc hone hown8 hown5 hb5 hty5 R1 R2 hs3 hi hz0 hz1 hz2 hz3 hx13
        have hbox5 : w5.heap[g]? = some (.cells #[.string sk, .string sv] 76 (0, 0)) := ((HTY.out _ _ _ _ ((HX13.out.block _ (block_lt HBOX.out)).trans HBOX.out) (by decide)).trans ((HX13.out.block _ (block_lt HBOX.out)).trans HBOX.out))
        clear C0 C1 HTY HX13
        have C0 := cell_of_row w5 _ 0 _ _ _ hbox5
        have C1 := cell_of_row w5 _ 1 _ _ _ hbox5
        clear hbox5
        go_upto_region 11 with (fail)
        have hbs := run_bsC sk sv false w5
        obtain ⟨w8, hw8⟩ : ∃ x, x = w5.alloc (.cells #[.string sk, .string sv, .bool false] 33) := ⟨_, rfl⟩
        obtain ⟨gs, hgs⟩ : ∃ x, x = w5.heap.size := ⟨_, rfl⟩
        rw [← hw8, ← hgs] at hbs
        have hsrc : Src Tryz.prog w8 (.slice (some ⟨gs, 0, none⟩) 1 1) 3 1 (changeCells (chg ⟨key, val⟩)) := by
          rw [hw8, hgs]
          refine Row.src (Row.fresh (by simp [changeCells]) (Nat.le_refl _) (by decide) (fun k u hk => ?_))
          simp only [changeCells, str, chg] at hk
          rw [HSK.out, HSV.out]; simpa using hk
        have hb8 : Below w5.heap.size w5 w8 := by rw [hw8]; exact Below.alloc (Below.refl _ _) (Nat.le_refl _) _
        have hO8 := Own.below (ChangesO.none w.heap.size w5 none) hb8 (Nat.le_refl _)
        have HR8 := Lib.hid (RecsT.below HR5.out hb8 (Nat.le_refl _))
        have HB8 := Lib.hid ((HB5.out).trans (hb8.mono (HB5.out).size))
        have hs8 : w.heap.size ≤ w8.heap.size := HB8.out.size
        have hone := ones_change (chg ⟨key, val⟩)
        obtain ⟨i0, z0, hi, hz0, hz1, hz2, hz3⟩ := zero_parts infoz_change
        have hcl := (ChunkOk.len (chunk_nil)).1
        have R1 := Lib.hid (show ([] : List ChangeP).length + 1 ≤ maxLen by unfold maxLen; omega)
        have R2 := Lib.hid (show ([] : List ChangeP).length * 40 + 40 ≤ 140737488355328 by omega)
        clear hw8 hgs hb8 hcl
        go_wp2_with (with_reducible refine wp_buildSlice_r 22 1 [(0, .tmp 37)] hbs rfl ?_; refine Halt.in ?_)
        refine Halt.out ?_
        refine wp_append2 rfl (.tmp 32) (.tmp 38) 22 22 33 rfl i0 z0 3 40 Tryz.underlying22 (.inl ⟨_, Tryz.underlying22⟩) hi hz0 hz1 hz2 hz3 rfl rfl hO8 hsrc hone R1.out (by rw [Nat.add_mul]; exact R2.out) hs8 ?_
        intro v9 w9 hown9 hb9 hty9
        have HC9 := Lib.hid (ChangesO.snoc hown9)
        have HR9 := Lib.hid (HR8.out.typed (e := 33) hty9 (by decide) (by decide))
        have HB9 := Lib.hid (HB8.out.trans hb9)
        have HCK9 := Lib.hid (ChunkOk.one (p := ⟨key, val⟩) HMAY.out)
        have HLN := Lib.hid (show (((bytesP ([] ++ [chg ⟨key, val⟩])).length : Nat) : Int) = 8 + (n : Int) by rw [bytes_snoc, bytes_nil, HLC.out, ← HN1.out]; omega)
        have HSN9 := Lib.hid (show snapP l = (list ++ [bytesP cs]) ++ (snapF (l.drop (k + 1)) ([] ++ [chg ⟨key, val⟩])).map bytesP by rw [HSN.out, HSN2.out]; simp)
        clear hbs hsrc hO8 hone hown9 hb9 hty9 hi hz0 hz1 hz2 hz3 HR8 HB8
        go_wp2_with fail
        go_roundw
        case rel => exact ⟨k + 1, list ++ [bytesP cs], ([] : List ChangeP) ++ [chg ⟨key, val⟩], by omega, by go_num, by rw [List.length_append, List.length_singleton]; omega, by rw [HLN.out] <;> first | rfl | go_num | (congr 1; omega) | (simp; omega), HR9.out, HC9.out, HB9.out, HCK9, HSN9⟩
        case measure => simp [intOf]; omega
      · have q6 : decide ((6000 : Int) < (L : Int) + (n : Int)) = false := by simp; omega
        have hsn := HS.out (by omega)
        have HSN2 := Lib.hid hsn
        have HN1 := Lib.hid hn
        clear hsn hn
        go_upto_region 11 with (fail)
        have hbs := run_bsC sk sv false w1
        obtain ⟨w8, hw8⟩ : ∃ x, x = w1.alloc (.cells #[.string sk, .string sv, .bool false] 33) := ⟨_, rfl⟩
        obtain ⟨gs, hgs⟩ : ∃ x, x = w1.heap.size := ⟨_, rfl⟩
        rw [← hw8, ← hgs] at hbs
        have hsrc : Src Tryz.prog w8 (.slice (some ⟨gs, 0, none⟩) 1 1) 3 1 (changeCells (chg ⟨key, val⟩)) := by
          rw [hw8, hgs]
          refine Row.src (Row.fresh (by simp [changeCells]) (Nat.le_refl _) (by decide) (fun k u hk => ?_))
          simp only [changeCells, str, chg] at hk
          rw [HSK.out, HSV.out]; simpa using hk
        have hb8 : Below w1.heap.size w1 w8 := by rw [hw8]; exact Below.alloc (Below.refl _ _) (Nat.le_refl _) _
        have hO8 := Own.below HC1.out hb8 (Nat.le_refl _)
        have HR8 := Lib.hid (RecsT.below HR1.out hb8 (Nat.le_refl _))
        have HB8 := Lib.hid ((HB1.out).trans (hb8.mono (HB1.out).size))
        have hs8 : w.heap.size ≤ w8.heap.size := HB8.out.size
        have hone := ones_change (chg ⟨key, val⟩)
        obtain ⟨i0, z0, hi, hz0, hz1, hz2, hz3⟩ := zero_parts infoz_change
        have hcl := (ChunkOk.len (HCK.out)).1
        have R1 := Lib.hid (show cs.length + 1 ≤ maxLen by unfold maxLen; omega)
        have R2 := Lib.hid (show cs.length * 40 + 40 ≤ 140737488355328 by omega)
        clear hw8 hgs hb8 hcl
        go_wp2_with (with_reducible refine wp_buildSlice_r 22 1 [(0, .tmp 37)] hbs rfl ?_; refine Halt.in ?_)
        refine Halt.out ?_
        refine wp_append2 rfl (.tmp 32) (.tmp 38) 22 22 33 rfl i0 z0 3 40 Tryz.underlying22 (.inl ⟨_, Tryz.underlying22⟩) hi hz0 hz1 hz2 hz3 rfl rfl hO8 hsrc hone R1.out (by rw [Nat.add_mul]; exact R2.out) hs8 ?_
        intro v9 w9 hown9 hb9 hty9
        have HC9 := Lib.hid (ChangesO.snoc hown9)
        have HR9 := Lib.hid (HR8.out.typed (e := 33) hty9 (by decide) (by decide))
        have HB9 := Lib.hid (HB8.out.trans hb9)
        have HCK9 := Lib.hid (ChunkOk.snoc (p := ⟨key, val⟩) HCK.out HMAY.out (by rw [bytes_snoc, HLC.out, ← HN1.out, ← HL.out]; exact h6))
        have HLN := Lib.hid (show (((bytesP (cs ++ [chg ⟨key, val⟩])).length : Nat) : Int) = (L : Int) + (n : Int) by rw [bytes_snoc, HLC.out, ← HN1.out, ← HL.out]; omega)
        have HSN9 := Lib.hid (show snapP l = list ++ (snapF (l.drop (k + 1)) (cs ++ [chg ⟨key, val⟩])).map bytesP by rw [HSN.out, HSN2.out])
        clear hbs hsrc hO8 hone hown9 hb9 hty9 hi hz0 hz1 hz2 hz3 HR8 HB8
        go_wp2_with fail
        go_roundw
        case rel => exact ⟨k + 1, list, cs ++ [chg ⟨key, val⟩], by omega, by go_num, by omega, by rw [HLN.out] <;> first | rfl | go_num | (congr 1; omega) | (simp; omega), HR9.out, HC9.out, HB9.out, HCK9, HSN9⟩
        case measure => simp [intOf]; omega
    · have k0 : decide ((k : Int) < (N : Int)) = false := by simp; omega
      obtain rfl : k = N := by omega
      have hend : snapP l = list ++ [bytesP cs] := by
        rw [HSN.out, List.drop_eq_nil_of_le (by have := HN.out; omega)]
        rfl
      have HEND := Lib.hid hend
      have HR1 := Lib.hid hR
      have HC1 := Lib.hid hC
      have HB1 := Lib.hid hb
      clear hend hR hC hb
      have kb := bytes_any _ cs wr (ChangesO.v HC1.out) (by have := (ChunkOk.len (HCK.out)).1; omega) (fun x hx => by have := (ChunkOk.len (HCK.out)).2 x hx; omega)
      go_wp2_with fail
      refine kb.mono ?_
      rintro e w2 ⟨u, rfl, hu, hb2⟩
      clear kb
      obtain ⟨_, ua, uc, rfl, _, _, _⟩ := id hu.bytes
      obtain ⟨un, hun⟩ : ∃ n, n = (bytesP cs).length := ⟨_, rfl⟩
      have hu2 : OwnB w.heap.size w2 (.slice ua un uc) (bytesP cs) := by rw [hun]; exact Own.lower hu (HB1.out).size
      rw [← hun]
      clear hu hun
      obtain ⟨w3, hw3⟩ : ∃ x, x = w2.alloc (.cells #[.slice ua un uc] 23) := ⟨_, rfl⟩
      have hb3 : Below w2.heap.size w2 w3 := by rw [hw3]; exact Below.alloc (Below.refl _ _) (Nat.le_refl _) _
      have hb13 : Below wr.heap.size wr w3 := hb2.trans (hb3.mono hb2.size)
      obtain ⟨vs, hvl, hown8, hel8⟩ := RecsT.open_ HR1.out hb13
      have hu3 : OwnB w.heap.size w3 (.slice ua un uc) (bytesP cs) := Own.below hu2 hb3 (Nat.le_refl _)
      have hsrc : Src Tryz.prog w3 (.slice (some ⟨w2.heap.size, 0, none⟩) 1 1) 1 1 [.slice ua un uc] := by
        rw [hw3]
        exact Row.src (Row.fresh (by simp) (Nat.le_refl _) (by decide) (fun k u hk => by simpa using hk))
      have hone : ∀ u ∈ [Value.slice ua un uc], u.oneCell' = true := fun u hu => by rw [List.mem_singleton.1 hu]; rfl
      obtain ⟨i0, z0, hi, hz0, hz1, hz2, hz3⟩ := zero_parts infoz_bytes
      have R1 : list.length + 1 ≤ maxLen := by unfold maxLen; omega
      have R2 : (list.length + 1) * 24 ≤ 140737488355328 := by omega
      have hs3 : w.heap.size ≤ w3.heap.size := Nat.le_trans (HB1.out).size hb13.size
      have HB3 := Lib.hid ((HB1.out).trans (hb13.mono (HB1.out).size))
      have hx13 := hb13
      have HU3 := Lib.hid hu3
      have HVL := Lib.hid hvl
      have HEL := Lib.hid hel8
      rw [hw3] at hown8 hsrc hs3
      have HW3 := Lib.hid hw3
      clear hb2 hb3 hb13 hu2 hu3 hvl hel8 hw3
      go_wp2_with (at_builtin; refine wp_append2 rfl (.tmp 44) (.tmp 47) 66 66 23 rfl i0 z0 1 24 Tryz.underlying66 (.inl ⟨_, Tryz.underlying66⟩) hi hz0 hz1 hz2 hz3 rfl rfl hown8 hsrc hone R1 R2 hs3 ?_; intro v5 w5 hown5 hb5 hty5; refine Halt.in ?_)
      refine Halt.out ?_
      rw [← HW3.out] at hb5 hty5
      have HR5 := Lib.hid (RecsT.snoc HVL.out hown5 HEL.out HU3.out hty5)
      have HB5 := Lib.hid (HB3.out.trans hb5)
      have HTY := Lib.hid hty5
      have HX13 := Lib.hid hx13
      clear hsrc hone hown8 hown5 hb5 hty5 R1 R2 hs3 hi hz0 hz1 hz2 hz3 hx13
      go_wp2_with fail
      go_ret
      exact ⟨_, rfl, by rw [HEND.out]; exact HR5.out, HB5.out⟩
end Go.Proofs.YtaijompnohkmaaaGreatDoor
/- Layer 6 (kv): Do (the code's), by a map. -/
namespace Go.Proofs.YtaijompnohkmaaaGreatDoor
open Go.RowKit KvP Go.Maps Go.Sort
/-- Pairs in a slice of the call's own. -/
def PairsO (B : Nat) (w : World) (v : Value) (l : List PairP) : Prop := Own B w 76 v 2 l.length (l.map pairCells).flatten
theorem PairsO.v {B : Nat} {w : World} {v : Value} {l : List PairP} (h : PairsO B w v l) : PairsV w.heap.size w v l := Own.row h
theorem PairsO.none (B : Nat) (w : World) (a : Option Addr) : PairsO B w (.slice a 0 0) [] := Own.none _ _ _ _ _
theorem PairsO.snoc {B : Nat} {w : World} {v : Value} {l : List PairP} {c : PairP} (h : Own B w 76 v 2 (l.length + 1) ((l.map pairCells).flatten ++ pairCells c)) : PairsO B w v (l ++ [c]) := by
  unfold PairsO
  rw [show ((l ++ [c]).map pairCells).flatten = (l.map pairCells).flatten ++ pairCells c by simp, List.length_append, List.length_singleton]
  exact h
theorem ones_pair (c : PairP) : ∀ u ∈ pairCells c, u.oneCell' = true := by
  intro u hu
  simp only [pairCells, str, List.mem_cons, List.not_mem_nil, or_false] at hu
  rcases hu with rfl | rfl <;> rfl
theorem infoz_pair : (Tryz.prog.info? 76).bind (fun i => i.zero.map fun z => (i.size, i.bytes, z.cells.size)) = some (2, 32, 2) := by kernel_rfl
theorem run_bsP (k v : ByteArray) (w : World) : (Instr.buildSlice 42 1 #[(0, .agg #[.string k, .string v])]).run Tryz.prog w = .ok (.slice (some ⟨w.heap.size, 0, none⟩) 1 1) (w.alloc (.cells #[.string k, .string v] 76)) := by kernel_rfl
theorem map_law : Keyed Tryz.prog 9 := string_keyed Tryz.underlying9
theorem run_makeMapN (n : Nat) (w : World) : (Instr.makeMap 102 (some (.int .i64 (n : Int)))).run Tryz.prog w = .ok (.map (some w.heap.size)) (w.alloc (.map #[] 0)) := by
  simp [Instr.makeMap, run_underlying Tryz.underlying102, asInt, asIntOf, newObj]
  rfl
theorem ownsMap_below {P : Program} {k : TypeId} {R : Value → Option (DataW Unit × List MemPlace)} {w w' : World} {b n B : Nat} {D : DataW Unit} (h : w.ownsMap P k R b n D) (hb : Below B w w') (hB : b < B) : w'.ownsMap P k R b n D := by
  obtain ⟨es, clock, h1, F, hs, hD⟩ := h
  exact ⟨es, clock, (hb.block b hB).trans h1, F, hs, hD⟩
theorem doP_take (l : List PairP) (c : List ChangeP) (k : Nat) (hk : k < c.length) : doP l (c.take (k + 1)) = do1 (doP l (c.take k)) c[k] := by
  unfold doP
  rw [List.take_succ_eq_append_getElem hk, List.foldl_append]
  rfl
theorem len_putK (l : List PairP) (k v : List UInt8) : (putK l k v).length ≤ l.length + 1 := by
  induction l with
  | nil => exact Nat.le_refl _
  | cons p l ih =>
    rw [putK]
    split
    · simpa using ih
    · split <;> simp
theorem len_do1 (l : List PairP) (x : ChangeP) : (do1 l x).length ≤ l.length + 1 := by
  unfold do1
  split
  · exact Nat.le_succ_of_le (List.length_filter_le _ _)
  · exact len_putK _ _ _
theorem len_doP (l : List PairP) (c : List ChangeP) : (doP l c).length ≤ l.length + c.length := by
  unfold doP
  induction c generalizing l with
  | nil => exact Nat.le_refl _
  | cons x c ih =>
    rw [List.foldl_cons, List.length_cons]
    have := ih (do1 l x)
    have := len_do1 l x
    omega
/-- Sorted keys, as a row of the call's own. -/
theorem keys_own {base : Nat} {w : World} {v : Value} {n : Nat} {xs : List Value} (h : w.ownsRow base 9 1 v n xs) : Own base w 9 v 1 n xs := by
  obtain ⟨h1, h2⟩ := h
  rcases h2 with ⟨rfl, rfl⟩ | ⟨g, cap, cur, rfl, hg, hh, hn, hc, hs, ht⟩
  · have e : xs = [] := List.eq_nil_of_length_eq_zero (by simpa using h1)
    rw [e]
    exact Own.none _ _ _ _ _
  · exact ⟨h1, _, cap, rfl, hn, hc, .inr ⟨g, cur, rfl, hg, hh, hs, ht⟩⟩
theorem mem_strKeys {es : List (Lit × DataW Unit)} {k : List UInt8} (h : Maps.has (.map es) (.string k) = true) : k ∈ strKeys (.map es : DataW Unit) := by
  rw [has_eq, List.any_eq_true] at h
  obtain ⟨p, hp, hs⟩ := h
  refine List.mem_map.2 ⟨p, hp, ?_⟩
  obtain ⟨a, b⟩ := p
  cases a <;> simp [Lit.sameKey, strOf] at hs ⊢
  exact hs
theorem zero_str (w : World) : (zeroValue 9).run Tryz.prog w = .ok (.string (ByteArray.mk #[])) w := by kernel_rfl
theorem made_own {B : Nat} {w : World} {cur : Array Value} {e : TypeId} {R sz : Nat} (hB : B ≤ w.heap.size) (hs : cur.size = R * sz) (hR : R ≤ maxLen) : Own B (w.alloc (.cells cur e)) e (.slice (some ⟨w.heap.size, 0, none⟩) 0 R) sz 0 [] :=
  ⟨by simp, _, R, rfl, Nat.zero_le _, hR, .inr ⟨w.heap.size, cur, rfl, hB, heap_alloc_new w _, hs, by simp⟩⟩
end Go.Proofs.YtaijompnohkmaaaGreatDoor
/- Layer 6 (kv): Do (the code's). -/
namespace Go.Proofs.YtaijompnohkmaaaGreatDoor
open Go.RowKit KvP Go.Maps Go.Sort
set_option maxRecDepth 100000 in
set_option maxHeartbeats 4000000 in
theorem do_any {B B' : Nat} (u v : Value) (l : List PairP) (c : List ChangeP) (w : World) (hu : PairsV B w u l) (hv : ChangesV B' w v c) (hr : Rising l) (hl : l.length ≤ 2 ^ 20) (hcl : c.length ≤ 2 ^ 20)
    (hsl : ∀ p ∈ l, p.key.length ≤ 2 ^ 20 ∧ p.val.length ≤ 2 ^ 20) (hsc : ∀ x ∈ c, x.key.length ≤ 2 ^ 20 ∧ x.val.length ≤ 2 ^ 20) :
    Calls Tryz.prog 35 #[u, v] w fun e w' => ∃ x, e = .returned x ∧ PairsO w.heap.size w' x (doP l c) ∧ Below w.heap.size w w' := by
  have hu := hu.tight
  have hv := hv.tight
  obtain ⟨_, a, ca, rfl, h1, h2, _⟩ := id hu
  obtain ⟨_, b', cb, rfl, h3, h4, _⟩ := id hv
  unfold maxLen at h2 h4
  obtain ⟨N, hN⟩ : ∃ N, N = l.length := ⟨_, rfl⟩
  obtain ⟨M, hM⟩ : ∃ M, M = c.length := ⟨_, rfl⟩
  obtain ⟨m, hm⟩ : ∃ m, m = w.heap.size := ⟨_, rfl⟩
  rw [← hN, ← hm] at hu
  rw [← hM, ← hm] at hv
  rw [← hN] at h1 hl ⊢
  rw [← hM] at h3 hcl ⊢
  rw [← hm]
  have kmk := run_makeMapN N w
  obtain ⟨w1, hw1⟩ : ∃ x, x = w.alloc (.map #[] 0) := ⟨_, rfl⟩
  have hown1 : w1.ownsMap Tryz.prog 9 (plainElem (H := Unit) Tryz.prog 9) m 0 (.map []) := by rw [hw1, hm]; exact World.ownsMap_made _ _ _ _
  have hb1 : Below m w w1 := by rw [hw1]; exact Below.alloc (Below.refl _ _) (by rw [hm]; exact Nat.le_refl _) _
  rw [← hw1, ← hm] at kmk
  have HN := Lib.hid hN
  have HM := Lib.hid hM
  have HU := Lib.hid hu
  have HV := Lib.hid hv
  have HSL := Lib.hid hsl
  have HSC := Lib.hid hsc
  have HR := Lib.hid hr
  have HO1 := Lib.hid hown1
  have HLEN := Lib.hid (len_doP l c)
  have HMS := Lib.hid hm
  clear hN hM hm hu hv hsl hsc hr hown1 hw1
  go_enter Tryz.func35, Tryz.ntmps35
  go_wp2_with fail
  clear kmk
  go_loopw [18] (fun i wr => ∃ (k : Nat) (D : DataW Unit), k ≤ N ∧ i = .int .i64 k ∧ wr.ownsMap Tryz.prog 9 (plainElem Tryz.prog 9) m k D ∧ Below m w wr ∧ Hid (AgreeM D (l.take k))) (fun i _ => N - (intOf i).toNat)
  case atStart => exact ⟨0, .map [], Nat.zero_le _, rfl, HO1.out, hb1, Lib.hid AgreeM.nil⟩
  case round =>
    obtain ⟨k, D, hk, rfl, hown, hb, HA⟩ := hrel
    clear HO1 hb1
    by_cases hkN : k < N
    · have hkl : k < l.length := HN.out ▸ hkN
      have k1 : (0 : Int) ≤ (k : Int) := by omega
      have k2 : (k : Int) < (N : Int) := by omega
      have k0 : decide ((k : Int) < (N : Int)) = true := by simp; omega
      obtain ⟨b, off, rfl, hbb, hc⟩ := load_pair HU.out hkl
      obtain ⟨S0, S1⟩ := hc wr hb
      have hz := HSL.out _ (List.getElem_mem hkl)
      have hpt := putK_take HR.out k hkl
      obtain ⟨⟨key, val⟩, hx⟩ : ∃ x, x = l[k] := ⟨_, rfl⟩
      rw [← hx] at S0 S1 hz hpt
      dsimp only at S0 S1 hz hpt
      obtain ⟨sk, hsk⟩ : ∃ s, s = ByteArray.mk key.toArray := ⟨_, rfl⟩
      obtain ⟨sv, hsv⟩ : ∃ s, s = ByteArray.mk val.toArray := ⟨_, rfl⟩
      change wr.cell? _ = some (.string _) at S0
      change wr.cell? _ = some (.string _) at S1
      rw [← hsk] at S0
      rw [← hsv] at S1
      have hkey : keyOf Tryz.prog 9 (.string sk) = some (.string key) := by
        have h := WideMaps.keyOf_string_mk (P := Tryz.prog) Tryz.underlying9 (s := sk) (by rw [hsk, str_size]; unfold maxLen; omega)
        rw [h, hsk]
      have hval : plainElem (H := Unit) Tryz.prog 9 (.string sv) = some (.lit (.string val), []) := by
        have h := plainElem_string (H := Unit) (P := Tryz.prog) Tryz.underlying9 (s := sv) (by rw [hsv, str_size]; unfold maxLen; omega)
        rw [h, hsv]
      obtain ⟨wA, hwA⟩ : ∃ x, x = wr.alloc (.cells #[.string sk, .string sv] 76) := ⟨_, rfl⟩
      obtain ⟨g, hg⟩ : ∃ g, g = wr.heap.size := ⟨_, rfl⟩
      have hownA : wA.ownsMap Tryz.prog 9 (plainElem Tryz.prog 9) m k D := by rw [hwA]; exact hown.alloc _
      have hmlt := hown.lt
      have hbA : Below m w wA := by rw [hwA]; exact Below.alloc hb (by omega) _
      have hbox : wA.heap[g]? = some (.cells #[.string sk, .string sv] 76 (0, 0)) := by rw [hwA, hg]; exact heap_alloc_new wr _
      have hsA : m ≤ wA.heap.size := by have := hownA.lt; omega
      have HWA := Lib.hid hwA
      have HGG := Lib.hid hg
      have HA2 := Lib.hid (hpt ▸ HA.out.put hown.isMap key val)
      clear hsk hsv hwA hg hz hpt hx hc hown hb hmlt
      go_upto_region 5 with (fail)
      rw [← HWA.out, ← HGG.out]
      clear S0 S1
      have C0 := cell_of_row wA _ 0 _ _ _ hbox
      have C1 := cell_of_row wA _ 1 _ _ _ hbox
      go_wp2_with (at_mapUpdate; refine wpList_mapUpdate_own _ rfl _ _ _ 102 rfl 9 9 map_law Tryz.underlying102 (plainElem (H := Unit) Tryz.prog 9) m k D rfl hownA (by unfold maxLen; omega) _ _ (.string key) rfl rfl hkey (.lit (.string val)) [] hval ?_; intro w5 hown5 hgrow5; refine Halt.in ?_)
      refine Halt.out ?_
      have HB5 := Lib.hid (hbA.trans (below_of_only hgrow5 (Nat.le_refl _) hsA))
      have HO5 := Lib.hid hown5
      clear C0 C1 hbox hownA hbA hsA hgrow5 hown5 hkey hval HA
      go_wp2_with fail
      go_roundw
      case rel => exact ⟨k + 1, _, by omega, by go_num, HO5.out, HB5.out, HA2⟩
      case measure => simp [intOf]; omega
    · have k0 : decide ((k : Int) < (N : Int)) = false := by simp; omega
      obtain rfl : k = N := by omega
      have HA2 : Hid (AgreeM D (doP l (c.take 0))) := Lib.hid (by
        have := HA.out
        rw [List.take_of_length_le (by have := HN.out; omega)] at this
        exact this)
      have HO2 := Lib.hid hown
      have HB2 := Lib.hid hb
      clear hown hb HA
      go_wp2_with fail
      go_loopw [30] (fun i wr => ∃ (j : Nat) (D : DataW Unit), j ≤ M ∧ i = .int .i64 j ∧ wr.ownsMap Tryz.prog 9 (plainElem Tryz.prog 9) m (k + j) D ∧ Below m w wr ∧ Hid (AgreeM D (doP l (c.take j)))) (fun i _ => M - (intOf i).toNat)
      case atStart => exact ⟨0, D, Nat.zero_le _, rfl, HO2.out, HB2.out, HA2⟩
      case round =>
        obtain ⟨j, D, hj, rfl, hown, hb, HA⟩ := hrel
        clear HO2 HB2 HA2
        by_cases hjM : j < M
        · have hjl : j < c.length := HM.out ▸ hjM
          have j1 : (0 : Int) ≤ (j : Int) := by omega
          have j2 : (j : Int) < (M : Int) := by omega
          have j0 : decide ((j : Int) < (M : Int)) = true := by simp; omega
          obtain ⟨b, off, rfl, hbb, hc⟩ := load_change HV.out hjl
          obtain ⟨S0, S1, S2⟩ := hc wr hb
          have hz := HSC.out _ (List.getElem_mem hjl)
          have hpt := doP_take l c j hjl
          obtain ⟨⟨key, val, gn⟩, hx⟩ : ∃ x, x = c[j] := ⟨_, rfl⟩
          rw [← hx] at S0 S1 S2 hz hpt
          dsimp only at S0 S1 S2 hz hpt
          obtain ⟨sk, hsk⟩ : ∃ s, s = ByteArray.mk key.toArray := ⟨_, rfl⟩
          obtain ⟨sv, hsv⟩ : ∃ s, s = ByteArray.mk val.toArray := ⟨_, rfl⟩
          change wr.cell? _ = some (.string _) at S0
          change wr.cell? _ = some (.string _) at S1
          rw [← hsk] at S0
          rw [← hsv] at S1
          have hkey : keyOf Tryz.prog 9 (.string sk) = some (.string key) := by
            have h := WideMaps.keyOf_string_mk (P := Tryz.prog) Tryz.underlying9 (s := sk) (by rw [hsk, str_size]; unfold maxLen; omega)
            rw [h, hsk]
          have hval : plainElem (H := Unit) Tryz.prog 9 (.string sv) = some (.lit (.string val), []) := by
            have h := plainElem_string (H := Unit) (P := Tryz.prog) Tryz.underlying9 (s := sv) (by rw [hsv, str_size]; unfold maxLen; omega)
            rw [h, hsv]
          obtain ⟨wA, hwA⟩ : ∃ x, x = wr.alloc (.cells #[.string sk, .string sv, .bool gn] 33) := ⟨_, rfl⟩
          obtain ⟨g, hg⟩ : ∃ g, g = wr.heap.size := ⟨_, rfl⟩
          have hownA : wA.ownsMap Tryz.prog 9 (plainElem Tryz.prog 9) m (k + j) D := by rw [hwA]; exact hown.alloc _
          have hmlt := hown.lt
          have hbA : Below m w wA := by rw [hwA]; exact Below.alloc hb (by omega) _
          have hbox : wA.heap[g]? = some (.cells #[.string sk, .string sv, .bool gn] 33 (0, 0)) := by rw [hwA, hg]; exact heap_alloc_new wr _
          have hsA : m ≤ wA.heap.size := by have := hownA.lt; omega
          have HWA := Lib.hid hwA
          have HGG := Lib.hid hg
          have HPT := Lib.hid hpt
          have hIM := hown.isMap
          clear hsk hsv hwA hg hz hpt hx hc hown hb hmlt
          go_upto_region 10 with (fail)
          rw [← HWA.out, ← HGG.out]
          clear S0 S1 S2
          have C0 := cell_of_row wA _ 0 _ _ _ hbox
          have C1 := cell_of_row wA _ 1 _ _ _ hbox
          have C2 := cell_of_row wA _ 2 _ _ _ hbox
          cases gn with
          | true =>
            have HA2 : Hid (AgreeM (D.del (.string key)) (doP l (c.take (j + 1)))) := Lib.hid (by rw [HPT.out]; exact HA.out.del key)
            go_wp2_with (at_delete; refine wpList_delete_own _ rfl _ _ 102 9 rfl 9 map_law Tryz.underlying102 (plainElem (H := Unit) Tryz.prog 9) m (k + j) D rfl hownA _ (.string key) rfl hkey ?_; intro w5 hown5 hturn5; refine Halt.in ?_)
            refine Halt.out ?_
            have HB5 := Lib.hid (hbA.trans (below_of_only hturn5.grown (Nat.le_refl _) hsA))
            have HO5 := Lib.hid (hown5.mono (Nat.le_succ (k + j)))
            clear C0 C1 C2 hbox hownA hbA hsA hturn5 hown5 hkey hval HA hIM
            go_wp2_with fail
            go_roundw
            case rel => exact ⟨j + 1, _, by omega, by go_num, HO5.out, HB5.out, HA2⟩
            case measure => simp [intOf]; omega
          | false =>
            have HA2 : Hid (AgreeM (D.put (.string key) (.lit (.string val))) (doP l (c.take (j + 1)))) := Lib.hid (by rw [HPT.out]; exact HA.out.put hIM key val)
            go_wp2_with (at_mapUpdate; refine wpList_mapUpdate_own _ rfl _ _ _ 102 rfl 9 9 map_law Tryz.underlying102 (plainElem (H := Unit) Tryz.prog 9) m (k + j) D rfl hownA (by unfold maxLen; omega) _ _ (.string key) rfl rfl hkey (.lit (.string val)) [] hval ?_; intro w5 hown5 hgrow5; refine Halt.in ?_)
            refine Halt.out ?_
            have HB5 := Lib.hid (hbA.trans (below_of_only hgrow5 (Nat.le_refl _) hsA))
            have HO5 := Lib.hid hown5
            clear C0 C1 C2 hbox hownA hbA hsA hgrow5 hown5 hkey hval HA hIM
            go_wp2_with fail
            go_roundw
            case rel => exact ⟨j + 1, _, by omega, by go_num, HO5.out, HB5.out, HA2⟩
            case measure => simp [intOf]; omega
        · have j0 : decide ((j : Int) < (M : Int)) = false := by simp; omega
          obtain rfl : j = M := by omega
          have hA : AgreeM D (doP l c) := by
            have := HA.out
            rwa [List.take_of_length_le (by have := HM.out; omega)] at this
          obtain ⟨L, hL⟩ : ∃ L, L = doP l c := ⟨_, rfl⟩
          rw [← hL] at hA
          obtain ⟨R, hRn⟩ : ∃ R, R = L.length := ⟨_, rfl⟩
          have hR : R ≤ 2 ^ 21 := by rw [hRn, hL]; have := HLEN.out; have := HN.out; have := HM.out; omega
          have hsz := hA.size hown map_law Tryz.underlying9
          rw [← hRn] at hsz
          have hmlt := hown.lt
          obtain ⟨i0, z0, hi, hz0, hz1, hz2, hz3⟩ := zero_parts infoz_pair
          have kms := run_make (P := Tryz.prog) wr 42 76 i0 z0 Tryz.underlying42 hi hz0 .i64 .i64 0 (R : Int) (Int.le_refl _) (by omega) (by rw [hz2]; omega) (by omega)
          obtain ⟨cur, hcur⟩ : ∃ x, x = madeCells z0.cells ((R : Int).toNat * i0.size) := ⟨_, rfl⟩
          have hcs : cur.size = R * 2 := by rw [hcur, size_madeCells, hz1, Int.toNat_natCast]
          rw [← hcur, Int.toNat_zero, Int.toNat_natCast] at kms
          obtain ⟨w6, hw6⟩ : ∃ x, x = wr.alloc (.cells cur 76) := ⟨_, rfl⟩
          obtain ⟨g6, hg6⟩ : ∃ x, x = wr.heap.size := ⟨_, rfl⟩
          have hout : Own (m + 1) w6 76 (.slice (some ⟨g6, 0, none⟩) 0 R) 2 0 [] := by rw [hw6, hg6]; exact made_own (by omega) hcs (by unfold maxLen; omega)
          have hb6 : Below wr.heap.size wr w6 := by rw [hw6]; exact Below.alloc (Below.refl _ _) (Nat.le_refl _) _
          rw [← hw6, ← hg6] at kms
          have hown6 := ownsMap_below hown hb6 hmlt
          have HB6 := Lib.hid (hb.trans (hb6.mono (by omega)))
          have HSZ := Lib.hid hsz
          have HLD := Lib.hid hL
          have HRN := Lib.hid hRn
          have HAL := Lib.hid hA
          have HO6 := Lib.hid hown6
          have HOUT := Lib.hid hout
          have hms : m + 1 ≤ w6.heap.size := hown6.lt
          clear hcur hcs hw6 hg6 hi hz0 hz1 hz2 hz3 hb6 hown6 hout hA hL hRn hmlt hb HA
          go_wp2_with (at_len; refine wpList_len_own _ rfl _ 102 rfl 9 9 Tryz.underlying102 (plainElem (H := Unit) Tryz.prog 9) m (k + j) D rfl hown ?_; rw [HSZ.out]; refine Halt.in ?_)
          refine Halt.out ?_
          clear hown hsz
          have kk := callsIn_wide.1 (maps_Keys_73 (some m) w6)
          go_wp2_with fail
          refine kk.mono ?_
          rintro e w7 ⟨rfl, rfl⟩
          clear kk kms
          have kk := callsIn_wide.1 (slices_Sorted_keys_72_73 m (k + j) D (plainElem (H := Unit) Tryz.prog 9) w6 HO6.out (by rw [HSZ.out]; unfold maxLen; omega) (by rw [HSZ.out]; omega))
          go_wp2_with fail
          refine kk.mono ?_
          rintro e w8 ⟨kv, ss, rfl, hperm, hrow, _, hb8⟩
          clear kk
          have hb68 : Below w6.heap.size w6 w8 := (Below.alloc (Below.refl _ _) (Nat.le_refl _) _).trans (hb8.mono (Below.alloc (Below.refl w6.heap.size w6) (Nat.le_refl _) _).size)
          have hkeys := HAL.out.keys HO6.out map_law Tryz.underlying9 hperm
          have hss : ss.length = R := by
            have := congrArg List.length hkeys
            rw [List.length_mergeSort, List.length_map] at this
            rw [this, HRN.out]
          rw [hkeys, hss] at hrow
          have hko := Own.lower (keys_own hrow) (Nat.zero_le _)
          obtain ⟨_, ka, kc, rfl, hkc, hkm, _⟩ := id hko
          have HKO := Lib.hid hko
          have HO8 := Lib.hid (ownsMap_below HO6.out hb68 hms)
          have HP8 := Lib.hid (Own.below HOUT.out hb68 (Nat.le_refl _))
          have HB8 := Lib.hid (HB6.out.trans (hb68.mono (by omega)))
          have hms8 := Nat.le_trans hms hb68.size
          clear hkeys hss hrow hko hperm hb8 hb68 HO6 HOUT HB6 hms
          go_wp2_with fail
          go_loopw [10, 52] (fun ov i wx => ∃ q : Nat, q ≤ R ∧ i = .int .i64 q ∧ PairsO (m + 1) wx ov (L.take q) ∧ Own 0 wx 9 (.slice ka R kc) 1 R ((L.map PairP.key).map encStr) ∧ wx.ownsMap Tryz.prog 9 (plainElem (H := Unit) Tryz.prog 9) m (k + j) D ∧ Below m w wx) (fun _ i _ => R - (intOf i).toNat)
          case atStart => exact ⟨0, Nat.zero_le _, rfl, HP8.out, HKO.out, HO8.out, HB8.out⟩
          case round =>
            obtain ⟨q, hq, rfl, hP, hK, hown, hb⟩ := hrel
            clear HP8 HKO HO8 HB8 hms8
            by_cases hqR : q < R
            · have hql : q < L.length := HRN.out ▸ hqR
              have q1 : (0 : Int) ≤ (q : Int) := by omega
              have q2 : (q : Int) < (R : Int) := by omega
              have q0 : decide ((q : Int) < (R : Int)) = true := by simp; omega
              obtain ⟨_, _, _, hkv, _, _, hcells⟩ := id (Own.row hK)
              cases hkv
              obtain ⟨kb, ko, rfl, _, hcell⟩ := hcells (by omega)
              have hg := getP_mem HAL.out.1 (List.getElem_mem hql)
              have htk := List.take_succ_eq_append_getElem hql
              have S0 := hcell q (encStr L[q].key) (by rw [List.map_map, List.getElem?_map, List.getElem?_eq_getElem hql]; rfl)
              obtain ⟨⟨key, val⟩, hx⟩ : ∃ x, x = L[q] := ⟨_, rfl⟩
              rw [← hx] at hg htk S0
              dsimp only at hg S0
              obtain ⟨sk, hsk⟩ : ∃ s, s = ByteArray.mk key.toArray := ⟨_, rfl⟩
              obtain ⟨sv, hsv⟩ : ∃ s, s = ByteArray.mk val.toArray := ⟨_, rfl⟩
              change wr.cell? _ = some (.string _) at S0
              rw [← hsk] at S0
              have hsz9 := HAL.out
              have hkey : keyOf Tryz.prog 9 (.string sk) = some (.string key) := by
                have hl2 := strKeys_le hown Tryz.underlying9 key (by
                  obtain ⟨es, hes⟩ := hown.isMap
                  have hh := HAL.out.2.1 key
                  rw [hg] at hh
                  rw [hes] at hh ⊢
                  exact mem_strKeys hh)
                have h := WideMaps.keyOf_string_mk (P := Tryz.prog) Tryz.underlying9 (s := sk) (by rw [hsk, str_size]; exact hl2)
                rw [h, hsk]
              have hat := HAL.out.2.2 key (.lit (.string []))
              rw [hg] at hat
              dsimp only at hat
              have hz0' : (zeroValue 9).run Tryz.prog wr = .ok (.string (ByteArray.mk #[])) wr := zero_str wr
              have hzd : plainElem (H := Unit) Tryz.prog 9 (.string (ByteArray.mk #[])) = some (.lit (.string []), []) := plainElem_string (H := Unit) (P := Tryz.prog) Tryz.underlying9 (s := ByteArray.mk #[]) (by decide)
              obtain ⟨lv, ps, hrun, hlv⟩ := hown.lookup map_law Tryz.underlying102 hz0' hzd hkey
              rw [hat] at hlv
              obtain ⟨s, rfl, hs2, _⟩ := plainElem_string_inv Tryz.underlying9 hlv
              have hsv2 : s = sv := by
                simp only [Prod.mk.injEq, DataW.lit.injEq, Lit.string.injEq] at hs2
                rw [hsv, hs2.1]
              subst hsv2
              have hbs := run_bsP sk s wr
              obtain ⟨w9, hw9⟩ : ∃ x, x = wr.alloc (.cells #[.string sk, .string s] 76) := ⟨_, rfl⟩
              obtain ⟨gs, hgs⟩ : ∃ x, x = wr.heap.size := ⟨_, rfl⟩
              rw [← hw9, ← hgs] at hbs
              have hsrc : Src Tryz.prog w9 (.slice (some ⟨gs, 0, none⟩) 1 1) 2 1 (pairCells ⟨key, val⟩) := by
                rw [hw9, hgs]
                refine Row.src (Row.fresh (by simp [pairCells]) (Nat.le_refl _) (by decide) (fun k u hk => ?_))
                simp only [pairCells, str] at hk
                rw [hsk, hsv]; simpa using hk
              have hb9 : Below wr.heap.size wr w9 := by rw [hw9]; exact Below.alloc (Below.refl _ _) (Nat.le_refl _) _
              have hlq : (L.take q).length = q := by rw [List.length_take]; omega
              have hP9 : Own (m + 1) w9 76 u10 2 q ((L.take q).map pairCells).flatten := by
                have := Own.below hP hb9 (Nat.le_refl _)
                rwa [hlq] at this
              have hK9 := Own.below hK hb9 (Nat.le_refl _)
              have hm9 := hown.lt
              have hown9 := ownsMap_below hown hb9 hm9
              have hbm9 := hb.trans (hb9.mono (by omega))
              have hms9 : m + 1 ≤ w9.heap.size := hown9.lt
              have hone := ones_pair ⟨key, val⟩
              obtain ⟨i0, z0, hi, hz0, hz1, hz2, hz3⟩ := zero_parts infoz_pair
              have R1 := Lib.hid (show q + 1 ≤ maxLen by unfold maxLen; omega)
              have R2 := Lib.hid (show (q + 1) * 32 ≤ 140737488355328 by omega)
              have HTK := Lib.hid htk
              have HLQ := Lib.hid hlq
              have HK9 := Lib.hid hK9
              have HOW := Lib.hid hown9
              have HBM := Lib.hid hbm9
              clear hsk hsv hw9 hgs hat hz0' hzd hlv hs2 hkey hg htk hx hlq hK9 hown9 hbm9 hb9 hP hK hown hb hm9 hcells hcell hsz9
              go_wp2_with (with_reducible refine wp_buildSlice_r 42 1 [(0, .tmp 61)] hbs rfl ?_; refine Halt.in ?_)
              refine Halt.out ?_
              refine wp_append2 rfl (.tmp 56) (.tmp 62) 42 42 76 rfl i0 z0 2 32 Tryz.underlying42 (.inl ⟨_, Tryz.underlying42⟩) hi hz0 hz1 hz2 hz3 rfl rfl hP9 hsrc hone R1.out R2.out hms9 ?_
              intro v10 w10 hown10 hb10 hty10
              have hP10 : PairsO (m + 1) w10 v10 (L.take (q + 1)) := by
                rw [HTK.out]
                refine PairsO.snoc ?_
                rw [HLQ.out]
                exact hown10
              have HP10 := Lib.hid hP10
              have HK10 := Lib.hid (Own.typed HK9.out (e2 := 76) hty10 (by decide))
              have HO10 := Lib.hid (ownsMap_below HOW.out hb10 (Nat.lt_succ_self _))
              have HB10 := Lib.hid (HBM.out.trans (hb10.mono (Nat.le_succ m)))
              clear hbs hsrc hP9 hone hown10 hb10 hty10 hP10 hi hz0 hz1 hz2 hz3 hrun S0 HK9 HOW HBM
              go_wp2_with fail
              go_roundw
              case rel => exact ⟨q + 1, by omega, by go_num, HP10.out, HK10.out, HO10.out, HB10.out⟩
              case measure => simp [intOf]; omega
            · have q0 : decide ((q : Int) < (R : Int)) = false := by simp; omega
              obtain rfl : q = R := by omega
              have hP2 : PairsO m wr u10 (doP l c) := by
                have := Own.lower hP (Nat.le_succ m)
                rwa [List.take_of_length_le (by have := HRN.out; omega), HLD.out] at this
              have HP := Lib.hid hP2
              have HBF := Lib.hid hb
              clear hP hP2 hK hown hb
              go_wp2_with fail
              go_ret
              exact ⟨_, rfl, HP.out, HBF.out⟩
end Go.Proofs.YtaijompnohkmaaaGreatDoor
/- The library's contracts on strings.Compare and strings.HasPrefix, laid at this dump (by the shelf's own programs, in plain words); what they say of pairs' keys. -/
namespace Go.Proofs.YtaijompnohkmaaaGreatDoor
open Go.Shelf
def lays106_ren : Go.Shelf.Ren := ⟨fun | 106 => 122 | 213 => 149 | 265 => 171 | n => n, fun | 9 => 9 | 3 => 3 | n => n, fun | n => n⟩
theorem lays106 : Go.Proofs.Lays.n106 Tryz.prog lays106_ren := {
  mixed := by kernel_rfl
  f106 := Tryz.func122.trans (congrArg some (by kernel_rfl))
  f213 := Tryz.func149.trans (congrArg some (by kernel_rfl))
  f265 := Tryz.func171.trans (congrArg some (by kernel_rfl))
  t3 := Tryz.underlying3
  a3 := Tryz.isAgg3
  z3 := Tryz.sizeOf3
  v3 := Tryz.zeroValue3
  t9 := Tryz.underlying9
  a9 := Tryz.isAgg9
  z9 := Tryz.sizeOf9
  v9 := Tryz.zeroValue9 }
def lays99_ren : Go.Shelf.Ren := ⟨fun | 99 => 75 | 206 => 123 | n => n, fun | 9 => 9 | 4 => 4 | 3 => 3 | n => n, fun | n => n⟩
theorem lays99 : Go.Proofs.Lays.n99 Tryz.prog lays99_ren := {
  mixed := by kernel_rfl
  f99 := Tryz.func75.trans (congrArg some (by kernel_rfl))
  f206 := Tryz.func123.trans (congrArg some (by kernel_rfl))
  t3 := Tryz.underlying3
  a3 := Tryz.isAgg3
  z3 := Tryz.sizeOf3
  v3 := Tryz.zeroValue3
  t4 := Tryz.underlying4
  a4 := Tryz.isAgg4
  z4 := Tryz.sizeOf4
  v4 := Tryz.zeroValue4
  t9 := Tryz.underlying9
  a9 := Tryz.isAgg9
  z9 := Tryz.sizeOf9
  v9 := Tryz.zeroValue9 }
open Go.RowKit KvP
theorem compare_any (a b : List UInt8) (w : World) : Calls Tryz.prog 122 #[.string (ByteArray.mk a.toArray), .string (ByteArray.mk b.toArray)] w fun e w' => e = .returned (.int .i64 (Lib.compareBytes a b)) ∧ w' = w :=
  Any.strings_Compare lays106 (ByteArray.mk a.toArray) (ByteArray.mk b.toArray) w
theorem hasPrefix_any (a b : List UInt8) (w : World) : Calls Tryz.prog 75 #[.string (ByteArray.mk a.toArray), .string (ByteArray.mk b.toArray)] w fun e w' => e = .returned (.bool (Lib.hasPrefix a b)) ∧ w' = w :=
  Any.strings_HasPrefix lays99 (ByteArray.mk a.toArray) (ByteArray.mk b.toArray) w
theorem cmp_neg : ∀ a b : List UInt8, decide (Lib.compareBytes a b < 0) = decide (a < b)
  | [], [] => by simp [Lib.compareBytes]
  | [], _ :: _ => by simp [Lib.compareBytes]
  | _ :: _, [] => by simp [Lib.compareBytes]
  | x :: a, y :: b => by
    have ih := cmp_neg a b
    unfold Lib.compareBytes
    by_cases h : x < y
    · rw [if_pos h, decide_eq_true (by decide), decide_eq_true (List.cons_lt_cons_iff.2 (.inl h))]
    · rw [if_neg h]
      by_cases h2 : y < x
      · rw [if_pos h2, decide_eq_false (by decide), decide_eq_false]
        intro h3
        rcases List.cons_lt_cons_iff.1 h3 with h4 | ⟨rfl, _⟩
        · exact h h4
        · exact h h2
      · have e : x = y := UInt8.le_antisymm (UInt8.not_lt.1 h2) (UInt8.not_lt.1 h)
        rw [if_neg h2, ih]
        subst e
        rw [Bool.eq_iff_iff, decide_eq_true_eq, decide_eq_true_eq, List.cons_lt_cons_iff]
        simp
theorem cmp_zero : ∀ a b : List UInt8, (Lib.compareBytes a b == 0) = decide (a = b)
  | [], [] => by simp [Lib.compareBytes]
  | [], _ :: _ => by simp [Lib.compareBytes]
  | _ :: _, [] => by simp [Lib.compareBytes]
  | x :: a, y :: b => by
    have ih := cmp_zero a b
    unfold Lib.compareBytes
    by_cases h : x < y
    · have hne : x ≠ y := fun e => UInt8.lt_irrefl x (by rw [← e] at h; exact h)
      rw [if_pos h]
      simp [hne]
    · rw [if_neg h]
      by_cases h2 : y < x
      · have hne : x ≠ y := fun e => UInt8.lt_irrefl x (by rw [← e] at h2; exact h2)
        rw [if_pos h2]
        simp [hne]
      · have e : x = y := UInt8.le_antisymm (UInt8.not_lt.1 h2) (UInt8.not_lt.1 h)
        rw [if_neg h2, ih]
        subst e
        simp
set_option maxRecDepth 100000 in
set_option maxHeartbeats 4000000 in
theorem place1_any (p : PairP) (key : List UInt8) (w : World) : Calls Tryz.prog 121 #[.agg #[str p.key, str p.val], str key] w fun e w' => e = .returned (.int .i64 (Lib.compareBytes p.key key)) ∧ Below w.heap.size w w' := by
  unfold str
  have kc := compare_any p.key key (w.alloc (.cells #[.string (ByteArray.mk p.key.toArray), .string (ByteArray.mk p.val.toArray)] 76))
  obtain ⟨z, hz⟩ : ∃ z, z = Lib.compareBytes p.key key := ⟨_, rfl⟩
  rw [← hz] at kc ⊢
  obtain ⟨sk, hsk⟩ : ∃ s, s = ByteArray.mk p.key.toArray := ⟨_, rfl⟩
  obtain ⟨sv, hsv⟩ : ∃ s, s = ByteArray.mk p.val.toArray := ⟨_, rfl⟩
  obtain ⟨st, hst⟩ : ∃ s, s = ByteArray.mk key.toArray := ⟨_, rfl⟩
  rw [← hsk, ← hsv, ← hst] at kc
  rw [← hsk, ← hsv, ← hst]
  clear hz hsk hsv hst
  go_enter Tryz.func121, Tryz.ntmps121
  go_wp2_with fail
  refine kc.mono ?_
  rintro e w5 ⟨rfl, rfl⟩
  clear kc
  go_wp2_with fail
  go_ret
  exact ⟨rfl, Below.alloc (Below.refl _ _) (Nat.le_refl _) _⟩
end Go.Proofs.YtaijompnohkmaaaGreatDoor
