/- Layer 6 (kv): the fixed fact, walked. -/
import Derived.Test.YtaijompnohkmaaaGreatDoorMS
set_option linter.unusedSimpArgs false
set_option linter.unusedVariables false
namespace Go.Proofs.YtaijompnohkmaaaGreatDoor
open Go.RowKit KvP PackP WalP
/-- A store, in a variable, with its pairs. -/
def SVAt (w : World) (S : Nat) (s : StoreP) : Prop := ∃ a c, w.heap[S]? = some (.cells #[.int .i64 s.log.half, .int .i64 s.log.gen, .int .i64 s.log.used, .int .i64 s.log.count, .slice a s.pairs.length c] 44 (0, 0)) ∧ PairsV w.heap.size w (.slice a s.pairs.length c) s.pairs
theorem SVAt.below {w w' : World} {S : Nat} {s : StoreP} (h : SVAt w S s) (hb : Below w.heap.size w w') : SVAt w' S s := by
  obtain ⟨a, c, h1, h2⟩ := h
  exact ⟨a, c, (hb.block _ (block_lt h1)).trans h1, (h2.below hb).tight⟩
theorem SVAt.lt {w : World} {S : Nat} {s : StoreP} (h : SVAt w S s) : S < w.heap.size := by
  obtain ⟨a, c, h1, _⟩ := h
  exact block_lt h1
theorem SVAt.v {w : World} {S : Nat} {s : StoreP} (h : SVAt w S s) : ∃ a c, StoreV w.heap.size w (storeV s.log (.slice a s.pairs.length c)) s := by
  obtain ⟨a, c, _, h2⟩ := h
  exact ⟨a, c, _, rfl, h2⟩
/-- Pairs lie in no block without a text at its cells. -/
theorem pairs_off {B C : Nat} {w : World} {a : Option Addr} {n c : Nat} {l : List PairP} {cs : Array Value} {t : TypeId} {fr : Nat × Nat} (h : PairsV B w (.slice a n c) l) (hC : w.heap[C]? = some (.cells cs t fr)) (hn : ∀ (k : Nat) (s : ByteArray), cs[k]? ≠ some (.string s)) : ∀ b off, a = some ⟨b, off, none⟩ → 0 < l.length → b ≠ C := by
  intro b off ha hl e
  subst e
  obtain ⟨b', off', ha', _, hc⟩ := load_pair h hl
  rw [ha] at ha'
  cases ha'
  have h1 := (hc w (Below.refl _ _)).1
  rw [cell_of_row w _ _ _ _ _ hC] at h1
  exact hn _ _ h1
theorem PairsV.keptC {B C E : Nat} {w w' : World} {v : Value} {l : List PairP} {cc ce : Array Value} {tc te : TypeId} {fc fe : Nat × Nat} (h : PairsV B w v l) (hC : w.heap[C]? = some (.cells cc tc fc)) (hE : w.heap[E]? = some (.cells ce te fe))
    (h1 : ∀ (k : Nat) (s : ByteArray), cc[k]? ≠ some (.string s)) (h2 : ∀ (k : Nat) (s : ByteArray), ce[k]? ≠ some (.string s)) (hk : KeptBut C E w w') : PairsV w'.heap.size w' v l := by
  obtain ⟨a, c, rfl, _⟩ := pairs_len h
  have o1 := pairs_off h hC h1
  have o2 := pairs_off h hE h2
  refine Row.tight (B := B) ?_ (by decide)
  obtain ⟨g1, a', cap, hv, g2, g3, g4⟩ := h
  cases hv
  refine ⟨g1, a, c, rfl, g2, g3, fun hn => ?_⟩
  obtain ⟨b, off, rfl, g5, g6⟩ := g4 hn
  exact ⟨b, off, rfl, g5, fun k u hu => by rw [World.cell?_of_block (hk b (o1 b off rfl hn) (o2 b off rfl hn))]; exact g6 k u hu⟩
theorem no_str4 {a0 a1 : Option Addr} {n0 m0 n1 m1 : Nat} {z : Int} {b : Bool} : ∀ (k : Nat) (s : ByteArray), (#[Value.slice a0 n0 m0, .slice a1 n1 m1, .int .i64 z, .bool b] : Array Value)[k]? ≠ some (.string s)
  | 0, _ => by simp
  | 1, _ => by simp
  | 2, _ => by simp
  | 3, _ => by simp
  | k + 4, _ => by simp
theorem no_str5 {a : Option Addr} {n c : Nat} {z0 z1 z2 z3 : Int} : ∀ (k : Nat) (s : ByteArray), (#[Value.int .i64 z0, .int .i64 z1, .int .i64 z2, .int .i64 z3, .slice a n c] : Array Value)[k]? ≠ some (.string s)
  | 0, _ => by simp
  | 1, _ => by simp
  | 2, _ => by simp
  | 3, _ => by simp
  | 4, _ => by simp
  | k + 5, _ => by simp
/-- A disk and a store are laid into their variables. -/
theorem pack_DS {w : World} {D S : Nat} {d0 d : DiskP} {s0 s : StoreP} {a0 a1 : Option Addr} {n0 n1 : Nat} {sv : Value} (hD : DAt w D d0) (hS : SVAt w S s0) (hne : D ≠ S) (hd : DiskV w.heap.size w (.agg #[.slice a0 d.secs.length n0, .slice a1 d.loose.length n1, .int .i64 d.fuse, .bool d.down]) d) (hs : StoreV w.heap.size w sv s) :
    ∃ wa wb, (storeVar 38 ⟨D, 0, none⟩ (.agg #[.slice a0 d.secs.length n0, .slice a1 d.loose.length n1, .int .i64 d.fuse, .bool d.down])).run Tryz.prog w = .ok () wa ∧ (storeVar 44 ⟨S, 0, none⟩ sv).run Tryz.prog wa = .ok () wb ∧
      Hid (DAt wb D d ∧ SVAt wb S s ∧ wb.heap.size = w.heap.size ∧ (∀ k, k ≠ D → k ≠ S → wb.heap[k]? = w.heap[k]?) ∧ (∀ B w0, Below B w0 w → B ≤ D → B ≤ S → Below B w0 wb)) := by
  obtain ⟨pv, rfl, hp⟩ := hs
  obtain ⟨pa, pc, rfl, hpc⟩ := pairs_len hp
  obtain ⟨x0, y0, x1, y1, TD, _⟩ := id hD
  obtain ⟨sa, sc, TS, _⟩ := id hS
  obtain ⟨wa, r1, r2, r3, r4, r5, _⟩ := storeBig info_disk TD rfl #[.slice a0 d.secs.length n0, .slice a1 d.loose.length n1, .int .i64 d.fuse, .bool d.down] rfl (ones4 rfl rfl rfl rfl)
  have hE2 := (r5 S (Ne.symm hne)).trans TS
  obtain ⟨wb, t1, t2, t3, t4, t5, _⟩ := storeBig info_store hE2 rfl #[.int .i64 s.log.half, .int .i64 s.log.gen, .int .i64 s.log.used, .int .i64 s.log.count, .slice pa s.pairs.length pc] rfl (ones5 rfl rfl rfl rfl rfl)
  have hk : ∀ k, k ≠ D → k ≠ S → wb.heap[k]? = w.heap[k]? := fun k h1 h2 => (t5 k h2).trans (r5 k h1)
  have hd1 := hd.kept TD (by simp) r5
  have hd2 := hd1.kept hE2 (by simp) t5
  refine ⟨wa, wb, r1, t1, Lib.hid ⟨⟨a0, n0, a1, n1, (t5 D hne).trans r2, by rw [t4, r4]; exact hd2⟩, ⟨pa, pc, t2, PairsV.keptC hp TD TS no_str4 no_str5 hk⟩, t4.trans r4, hk, fun B w0 hb h1 h2 => (hb.trans (r3.mono h1)).trans (t3.mono h2)⟩⟩
theorem fresh_store (w : World) : ∃ w' g, Hid (w' = w.alloc (.cells (Value.agg #[.int .i64 0, .int .i64 0, .int .i64 0, .int .i64 0, .slice none 0 0]).cells 44)) ∧ Hid (g = w.heap.size) ∧ SVAt w' g store0 ∧ Below w.heap.size w w' ∧ g < w'.heap.size ∧ w.heap.size ≤ g :=
  ⟨_, _, Lib.hid rfl, Lib.hid rfl, ⟨none, 0, heap_alloc_new w _, Row.nil _ _ _⟩, Below.alloc (Below.refl _ _) (Nat.le_refl _) _, by simp, Nat.le_refl _⟩
theorem run_bsC2 (a b c d : ByteArray) (x y : Bool) (w : World) : (Instr.buildSlice 22 2 #[(0, .agg #[.string a, .string b, .bool x]), (1, .agg #[.string c, .string d, .bool y])]).run Tryz.prog w = .ok (.slice (some ⟨w.heap.size, 0, none⟩) 2 2) (w.alloc (.cells #[.string a, .string b, .bool x, .string c, .string d, .bool y] 33)) := by kernel_rfl
theorem changesA (w : World) : ChangesV (w.heap.size + 1) (w.alloc (.cells #[.string ⟨#[98]⟩, .string ⟨#[50]⟩, .bool false, .string ⟨#[97]⟩, .string ⟨#[49]⟩, .bool false] 33)) (.slice (some ⟨w.heap.size, 0, none⟩) 2 2) cA :=
  row_of_heap (sz := 3) (n := 2) (heap_alloc_new w _) (Nat.lt_succ_self _) rfl (Nat.le_refl _) (by decide) (fun k u hk => by
    rw [show (cA.map changeCells).flatten = [.string ⟨#[98]⟩, .string ⟨#[50]⟩, .bool false, .string ⟨#[97]⟩, .string ⟨#[49]⟩, .bool false] from rfl] at hk
    simpa using hk)
theorem changesB1 (w : World) : ChangesV (w.heap.size + 1) (w.alloc (.cells #[.string ⟨#[97]⟩, .string ⟨#[]⟩, .bool true] 33)) (.slice (some ⟨w.heap.size, 0, none⟩) 1 1) cB :=
  row_of_heap (sz := 3) (n := 1) (heap_alloc_new w _) (Nat.lt_succ_self _) rfl (Nat.le_refl _) (by decide) (fun k u hk => by
    rw [show (cB.map changeCells).flatten = [.string ⟨#[97]⟩, .string ⟨#[]⟩, .bool true] from rfl] at hk
    simpa using hk)
set_option maxRecDepth 100000 in
set_option maxHeartbeats 8000000 in
theorem kvAlive_any (w : World) (ht : TabAt w) (hT : 1 < w.heap.size) : Calls Tryz.prog 10 #[] w fun e w' => e = .returned (.bool true) ∧ Below w.heap.size w w' := by
  obtain ⟨d1, d2, d3, d4, l4, e1, e2, e3, e4⟩ := kalive_plain
  have HP1 := Lib.hid e1
  have HP2 := Lib.hid e2
  have HP3 := Lib.hid e3
  have HP4 := Lib.hid e4
  have HT := Lib.hid ht
  obtain ⟨d0, hd0⟩ : ∃ x, x = (newP 40).1 := ⟨_, rfl⟩
  obtain ⟨z0, hz0⟩ : ∃ x, x = (newP 40).2 := ⟨_, rfl⟩
  have kn := refnew_any 40 w
  rw [← hd0, ← hz0] at kn
  rw [← hd0] at HP1
  clear e1 e2 e3 e4 ht hd0 hz0
  go_enter Tryz.func10, Tryz.ntmps10
  go_wp2_with fail
  refine kn.mono ?_
  rintro e w1 ⟨⟨v1, rfl, hd1⟩, hb1⟩
  clear kn
  obtain ⟨p1, q1, p2, q2, rfl, _, _⟩ := hd1.parts
  obtain ⟨w2, D, HWa, HGa, hD2, hb2, lt2, le2⟩ := fresh_disk w1
  obtain ⟨_, _, _, _, hrD⟩ := hD2.row
  obtain ⟨w3, hst, hnD, hbx, hzx, hkx, _⟩ := storeBig info_disk hrD rfl #[.slice p1 d0.secs.length q1, .slice p2 d0.loose.length q2, .int .i64 d0.fuse, .bool d0.down] rfl (ones4 rfl rfl rfl rfl)
  have hD3 : DAt w3 D d0 := ⟨p1, q1, p2, q2, hnD, by rw [hzx]; exact (hd1.below hb2).tight.kept hrD (by simp) hkx⟩
  have hDw : w.heap.size ≤ D := Nat.le_trans hb1.size le2
  have hb03 : Below w.heap.size w w3 := (hb1.trans (hb2.mono hb1.size)).trans (hbx.mono hDw)
  clear hd1 hD2 hnD hbx hzx hkx hrD
  go_wp2_with (with_reducible refine wp_alloc_to (w' := w2) 38 rfl rfl (zero_disk _) HWa.out ?_; refine Halt.in ?_)
  refine Halt.out ?_
  rw [← HGa.out]
  go_wp2_with (with_reducible refine wp_store_r (.tmp 1) (.tmp 14) 38 hst rfl rfl ?_; refine Halt.in ?_)
  refine Halt.out ?_
  clear hst hb2 lt2 le2 hb1
  go_upto_region 2 with (fail)
  obtain ⟨da, na, db, nb, TD, hv⟩ := id hD3
  obtain ⟨C0, C1, C2, C3, _⟩ := Four.of TD
  clear TD
  have kf := kformat_any _ d0 w3 hv (HT.out.below hb03 hT) (Nat.lt_of_lt_of_le hT hb03.size)
  rw [HP1.out] at kf
  unfold KE at kf
  dsimp only at kf
  clear hv
  go_wp2_with fail
  refine kf.mono ?_
  rintro e w4 ⟨⟨v4, sv4, rfl, hd4, hs4⟩, hb4⟩
  clear kf C0 C1 C2 C3
  obtain ⟨p3, q3, p4, q4, rfl, _, _⟩ := hd4.parts
  obtain ⟨w5, S, HWb, HGb, hS5, hb5, lt5, le5⟩ := fresh_store w4
  have hb35 := hb4.trans (hb5.mono hb4.size)
  have hDS : D ≠ S := by have := hD3.lt; have := hb4.size; omega
  have hSw : w.heap.size ≤ S := Nat.le_trans (Nat.le_trans hb03.size hb4.size) le5
  have hD5 := hD3.below hb35
  go_wp2_with (with_reducible refine wp_alloc_to (w' := w5) 44 rfl rfl (zero_store _) HWb.out ?_; refine Halt.in ?_)
  refine Halt.out ?_
  rw [← HGb.out]
  obtain ⟨wa, wb, st1, st2, HX⟩ := pack_DS hD5 hS5 hDS (hd4.below hb5).tight (hs4.below hb5).tight
  have ST2 := Lib.hid st2
  clear st2
  go_wp2_with (with_reducible refine wp_store_r (.tmp 1) (.tmp 19) 38 st1 rfl rfl ?_; refine Halt.in ?_)
  refine Halt.out ?_
  have st2 := ST2.out
  clear st1
  go_wp2_with (with_reducible refine wp_store_r (.tmp 3) (.tmp 20) 44 st2 rfl rfl ?_; refine Halt.in ?_)
  refine Halt.out ?_
  clear st2 ST2
  go_upto_region 3 with (fail)
  obtain ⟨hD6, hS6, hz6, hk6, hbb6⟩ := HX.out
  have hb06 := hbb6 w.heap.size w (hb03.trans (hb35.mono hb03.size)) hDw hSw
  clear hz6 hk6 hbb6 HX hD3 hD5 hS5 hb03 hb35 hb4 hb5 lt5 le5 hd4 hs4
  obtain ⟨wA, hwA⟩ : ∃ x, x = wb := ⟨_, rfl⟩
  subst hwA
  obtain ⟨da, na, db, nb, TD, hv⟩ := id hD6
  obtain ⟨C0, C1, C2, C3, _⟩ := Four.of TD
  clear TD
  obtain ⟨sa, sc, TS, hsp⟩ := id hS6
  have F0 := cell_of_row wA _ 0 _ _ _ TS
  have F1 := cell_of_row wA _ 1 _ _ _ TS
  have F2 := cell_of_row wA _ 2 _ _ _ TS
  have F3 := cell_of_row wA _ 3 _ _ _ TS
  have F4 := cell_of_row wA _ 4 _ _ _ TS
  clear TS
  have hsv : StoreV wA.heap.size wA (storeV (⟨⟨0, 1, 2, 1⟩, []⟩ : StoreP).log (.slice sa (⟨⟨0, 1, 2, 1⟩, []⟩ : StoreP).pairs.length sc)) (⟨⟨0, 1, 2, 1⟩, []⟩ : StoreP) := ⟨_, rfl, hsp⟩
  obtain ⟨wc, hwc⟩ : ∃ x, x = wA.alloc (.cells #[.string ⟨#[98]⟩, .string ⟨#[50]⟩, .bool false, .string ⟨#[97]⟩, .string ⟨#[49]⟩, .bool false] 33) := ⟨_, rfl⟩
  obtain ⟨gc, hgc⟩ : ∃ x, x = wA.heap.size := ⟨_, rfl⟩
  have hcv := changesA wA
  have hbc : Below wA.heap.size wA wc := by rw [hwc]; exact Below.alloc (Below.refl _ _) (Nat.le_refl _) _
  have hbs := run_bsC2 ⟨#[98]⟩ ⟨#[50]⟩ ⟨#[97]⟩ ⟨#[49]⟩ false false wA
  rw [← hwc, ← hgc] at hbs hcv
  have hb0c := hb06.trans (hbc.mono hb06.size)
  have kc := kcommit_any _ _ _ d1 (⟨⟨0, 1, 2, 1⟩, []⟩ : StoreP) cA wc (hv.below hbc) (hsv.below hbc) hcv (by decide) (HT.out.below hb0c hT) (Nat.lt_of_lt_of_le hT hb0c.size)
  rw [HP2.out] at kc
  unfold KE storeV at kc
  dsimp only at kc
  have hDc := hD6.below hbc
  have hSc := hS6.below hbc
  have HWC := Lib.hid hwc
  clear hv hsv hsp hcv hwc hgc hbc
  go_wp2_with (with_reducible refine wp_buildSlice_r 22 2 [(0, .tmp 25), (1, .tmp 26)] hbs rfl ?_; refine Halt.in ?_)
  refine Halt.out ?_
  clear hbs
  go_wp2_with fail
  refine kc.mono ?_
  rintro e w7a ⟨⟨v7, sv7, rfl, hd7, hs7⟩, hb7⟩
  clear kc C0 C1 C2 C3 F0 F1 F2 F3 F4
  obtain ⟨p3, q3, p4, q4, rfl, _, _⟩ := hd7.parts
  have hb07 := hb0c.trans (hb7.mono hb0c.size)
  obtain ⟨wa, wb, st1, st2, HX⟩ := pack_DS (hDc.below hb7) (hSc.below hb7) hDS hd7 hs7
  have ST2 := Lib.hid st2
  clear st2
  go_wp2_with (with_reducible refine wp_store_r (.tmp 1) (.tmp 29) 38 st1 rfl rfl ?_; refine Halt.in ?_)
  refine Halt.out ?_
  have st2 := ST2.out
  clear st1
  go_wp2_with (with_reducible refine wp_store_r (.tmp 3) (.tmp 30) 44 st2 rfl rfl ?_; refine Halt.in ?_)
  refine Halt.out ?_
  clear st2 ST2
  go_upto_region 4 with (fail)
  obtain ⟨hD8a, hS8a, hz8, hk8, hbb8⟩ := HX.out
  have hb08a := hbb8 w.heap.size w hb07 hDw hSw
  clear hz8 hk8 hbb8 HX hDc hSc hd7 hs7 hb7 hb07 hb0c hD6 hS6 hb06 HWC
  obtain ⟨wB, hwB⟩ : ∃ x, x = wb := ⟨_, rfl⟩
  subst hwB
  obtain ⟨da, na, db, nb, TD, hv⟩ := id hD8a
  obtain ⟨C0, C1, C2, C3, _⟩ := Four.of TD
  clear TD
  obtain ⟨sa, sc, TS, hsp⟩ := id hS8a
  have F0 := cell_of_row wB _ 0 _ _ _ TS
  have F1 := cell_of_row wB _ 1 _ _ _ TS
  have F2 := cell_of_row wB _ 2 _ _ _ TS
  have F3 := cell_of_row wB _ 3 _ _ _ TS
  have F4 := cell_of_row wB _ 4 _ _ _ TS
  clear TS
  have hsv : StoreV wB.heap.size wB (storeV (⟨⟨0, 1, 4, 2⟩, prA⟩ : StoreP).log (.slice sa (⟨⟨0, 1, 4, 2⟩, prA⟩ : StoreP).pairs.length sc)) (⟨⟨0, 1, 4, 2⟩, prA⟩ : StoreP) := ⟨_, rfl, hsp⟩
  obtain ⟨wc, hwc⟩ : ∃ x, x = wB.alloc (.cells #[.string ⟨#[97]⟩, .string ⟨#[]⟩, .bool true] 33) := ⟨_, rfl⟩
  obtain ⟨gc, hgc⟩ : ∃ x, x = wB.heap.size := ⟨_, rfl⟩
  have hcv := changesB1 wB
  have hbc : Below wB.heap.size wB wc := by rw [hwc]; exact Below.alloc (Below.refl _ _) (Nat.le_refl _) _
  have hbs := run_bsC ⟨#[97]⟩ ⟨#[]⟩ true wB
  rw [← hwc, ← hgc] at hbs hcv
  have hb0c := hb08a.trans (hbc.mono hb08a.size)
  have kc := kcommit_any _ _ _ d2 (⟨⟨0, 1, 4, 2⟩, prA⟩ : StoreP) cB wc (hv.below hbc) (hsv.below hbc) hcv (by decide) (HT.out.below hb0c hT) (Nat.lt_of_lt_of_le hT hb0c.size)
  rw [HP3.out] at kc
  unfold KE storeV at kc
  dsimp only at kc
  have hDc := hD8a.below hbc
  have hSc := hS8a.below hbc
  have HWC := Lib.hid hwc
  clear hv hsv hsp hcv hwc hgc hbc
  go_wp2_with (with_reducible refine wp_buildSlice_r 22 1 [(0, .tmp 35)] hbs rfl ?_; refine Halt.in ?_)
  refine Halt.out ?_
  clear hbs
  go_wp2_with fail
  refine kc.mono ?_
  rintro e w7b ⟨⟨v7, sv7, rfl, hd7, hs7⟩, hb7⟩
  clear kc C0 C1 C2 C3 F0 F1 F2 F3 F4
  obtain ⟨p3, q3, p4, q4, rfl, _, _⟩ := hd7.parts
  have hb07 := hb0c.trans (hb7.mono hb0c.size)
  obtain ⟨wa, wb, st1, st2, HX⟩ := pack_DS (hDc.below hb7) (hSc.below hb7) hDS hd7 hs7
  have ST2 := Lib.hid st2
  clear st2
  go_wp2_with (with_reducible refine wp_store_r (.tmp 1) (.tmp 38) 38 st1 rfl rfl ?_; refine Halt.in ?_)
  refine Halt.out ?_
  have st2 := ST2.out
  clear st1
  go_wp2_with (with_reducible refine wp_store_r (.tmp 3) (.tmp 39) 44 st2 rfl rfl ?_; refine Halt.in ?_)
  refine Halt.out ?_
  clear st2 ST2
  go_upto_region 5 with (fail)
  obtain ⟨hD8b, hS8b, hz8, hk8, hbb8⟩ := HX.out
  have hb08b := hbb8 w.heap.size w hb07 hDw hSw
  clear hz8 hk8 hbb8 HX hDc hSc hd7 hs7 hb7 hb07 hb0c hD8a hS8a hb08a HWC
  obtain ⟨wC, hwC⟩ : ∃ x, x = wb := ⟨_, rfl⟩
  subst hwC
  obtain ⟨da, na, db, nb, TD, hv⟩ := id hD8b
  obtain ⟨C0, C1, C2, C3, _⟩ := Four.of TD
  clear TD
  have ko := kopen_any _ d3 wC hv (HT.out.below hb08b hT) (Nat.lt_of_lt_of_le hT hb08b.size)
  rw [HP4.out] at ko
  unfold KE at ko
  dsimp only at ko
  clear hv
  go_wp2_with fail
  refine ko.mono ?_
  rintro e w9 ⟨⟨v9, sv9, rfl, hd9, hs9⟩, hb9⟩
  clear ko C0 C1 C2 C3
  obtain ⟨p3, q3, p4, q4, rfl, _, _⟩ := hd9.parts
  obtain ⟨wD, D2, HWc, HGc, hDD, hbD, ltD, leD⟩ := fresh_disk w9
  obtain ⟨wE, S2, HWd, HGd, hSE, hbE, ltE, leE⟩ := fresh_store wD
  have hb9E := hbD.trans (hbE.mono hbD.size)
  have hS9 := (hS8b.below hb9).below hb9E
  have hb0E := (hb08b.trans (hb9.mono hb08b.size)).trans (hb9E.mono (Nat.le_trans hb08b.size hb9.size))
  have hs0 := Nat.le_trans hb08b.size hb9.size
  have hSlt := (hS8b.below hb9).lt
  go_wp2_with (with_reducible refine wp_alloc_to (w' := wD) 38 rfl rfl (zero_disk _) HWc.out ?_; refine Halt.in ?_)
  refine Halt.out ?_
  rw [← HGc.out]
  go_wp2_with (with_reducible refine wp_alloc_to (w' := wE) 44 rfl rfl (zero_store _) HWd.out ?_; refine Halt.in ?_)
  refine Halt.out ?_
  rw [← HGd.out]
  obtain ⟨wa, wb, st1, st2, HX⟩ := pack_DS (hDD.below hbE) hSE (show D2 ≠ S2 by omega) (hd9.below hb9E).tight (hs9.below hb9E).tight
  have ST2 := Lib.hid st2
  clear st2
  go_wp2_with (with_reducible refine wp_store_r (.tmp 7) (.tmp 44) 38 st1 rfl rfl ?_; refine Halt.in ?_)
  refine Halt.out ?_
  have st2 := ST2.out
  clear st1
  go_wp2_with (with_reducible refine wp_store_r (.tmp 8) (.tmp 45) 44 st2 rfl rfl ?_; refine Halt.in ?_)
  refine Halt.out ?_
  clear st2 ST2
  go_upto_region 6 with (fail)
  obtain ⟨wF, hwF⟩ : ∃ x, x = wb := ⟨_, rfl⟩
  subst hwF
  obtain ⟨_, hSF, hzF, hkF, hbbF⟩ := HX.out
  have hb0F := hbbF w.heap.size w hb0E (by omega) (by omega)
  obtain ⟨sa2, sc2, TS2, hsp2⟩ := id hS9
  have TS3 := (hkF S (by omega) (by omega)).trans TS2
  clear TS2 hsp2 HX hzF hkF hbbF hDD hSE hbD hbE hb9E hd9 hs9 hb9 hS9 hS8b hD8b hb08b hb0E
  obtain ⟨sa, sc, TS, hsp⟩ := id hSF
  have F0 := cell_of_row wF _ 0 _ _ _ TS
  have F1 := cell_of_row wF _ 1 _ _ _ TS
  have F2 := cell_of_row wF _ 2 _ _ _ TS
  have F3 := cell_of_row wF _ 3 _ _ _ TS
  have F4 := cell_of_row wF _ 4 _ _ _ TS
  clear TS
  have hsv : StoreV wF.heap.size wF (storeV l4 (.slice sa prB.length sc)) ⟨l4, prB⟩ := ⟨_, rfl, hsp⟩
  have kg := get_any _ ⟨l4, prB⟩ [98] wF hsv (show Rising prB by decide) (show prB.length ≤ 2 ^ 20 by decide)
  rw [show getP (⟨l4, prB⟩ : StoreP).pairs [98] = some [50] from rfl] at kg
  unfold storeV at kg
  rw [show str [98] = .string ⟨#[98]⟩ from rfl, show str ((some [50] : Option (List UInt8)).getD []) = .string ⟨#[50]⟩ from rfl] at kg
  dsimp only [Option.isSome] at kg
  have HTS3 := Lib.hid TS3
  have HSF := Lib.hid hSF
  clear hsv hsp TS3 hSF
  go_wp2_with fail
  refine kg.mono ?_
  rintro e wG ⟨rfl, hbG⟩
  clear kg F0 F1 F2 F3 F4
  have hb0G := hb0F.trans (hbG.mono hb0F.size)
  have T1 := (hbG.block _ (block_lt HTS3.out)).trans HTS3.out
  obtain ⟨sa, sc, TS, _⟩ := id (HSF.out.below hbG)
  have F4 := cell_of_row wG _ 4 _ _ _ TS
  have G4 := cell_of_row wG _ 4 _ _ _ T1
  have F4' : wG.cell? ⟨S2, 4, none⟩ = some (.slice sa 1 sc) := F4
  have G4' : wG.cell? ⟨S, 4, none⟩ = some (.slice sa2 1 sc2) := G4
  clear F4 G4 TS T1 hbG
  go_wp2_with fail
  go_ret
  exact ⟨rfl, hb0G⟩
end Go.Proofs.YtaijompnohkmaaaGreatDoor
/- Layer 6 (kv): more than is looked at (a number is reckoned; which one is of no weight). -/
namespace Go.Proofs.YtaijompnohkmaaaGreatDoor
open Go.RowKit KvP PackP WalP
set_option maxRecDepth 100000 in
set_option maxHeartbeats 4000000 in
theorem kvGreat_any {B B' : Nat} (u v : Value) (l : List PairP) (c : List ChangeP) (w : World) (hu : PairsV B w u l) (hv : ChangesV B' w v c) :
    Calls Tryz.prog 11 #[u, v] w fun e w' => (∃ g : Bool, e = .returned (.bool g)) ∧ Below w.heap.size w w' := by
  have hu := hu.tight
  have hv := hv.tight
  obtain ⟨_, a, ca, rfl, h1, h2, _⟩ := id hu
  obtain ⟨_, b', cb, rfl, h3, h4, _⟩ := id hv
  unfold maxLen at h2 h4
  obtain ⟨N, hN⟩ : ∃ N, N = l.length := ⟨_, rfl⟩
  obtain ⟨M, hM⟩ : ∃ M, M = c.length := ⟨_, rfl⟩
  rw [← hN] at hu h1 ⊢
  rw [← hM] at hv h3 ⊢
  have HN := Lib.hid hN
  have HM := Lib.hid hM
  have HU := Lib.hid hu
  have HV := Lib.hid hv
  clear hN hM hu hv
  go_enter Tryz.func11, Tryz.ntmps11
  go_wp2_with fail
  go_loopw [5, 6] (fun n i wr => ∃ (z : Int) (k : Nat), n = .int .i64 z ∧ k ≤ N ∧ i = .int .i64 k ∧ Below w.heap.size w wr) (fun _ i _ => N - (intOf i).toNat)
  case atStart => exact ⟨_, 0, rfl, Nat.zero_le _, rfl, Below.refl _ _⟩
  case round =>
    obtain ⟨z, k, rfl, hk, rfl, hb⟩ := hrel
    by_cases hkN : k < N
    · have k0 : decide ((k : Int) < (N : Int)) = true := by simp; omega
      by_cases hz : z ≤ 20000
      · have q0 : decide (z ≤ 20000) = true := decide_eq_true hz
        have hkl : k < l.length := HN.out ▸ hkN
        have k1 : (0 : Int) ≤ (k : Int) := by omega
        have k2 : (k : Int) < (N : Int) := by omega
        obtain ⟨b, off, rfl, hbb, hc⟩ := load_pair HU.out hkl
        obtain ⟨sk, hsk⟩ : ∃ s, s = ByteArray.mk l[k].key.toArray := ⟨_, rfl⟩
        obtain ⟨sv, hsv⟩ : ∃ s, s = ByteArray.mk l[k].val.toArray := ⟨_, rfl⟩
        have L0 : ∀ w', Below w.heap.size w w' → w'.cell? ⟨b, off + k * 2, none⟩ = some (.string sk) := fun w' h => by rw [hsk]; exact (hc w' h).1
        have L1 : ∀ w', Below w.heap.size w w' → w'.cell? ⟨b, off + k * 2 + 1, none⟩ = some (.string sv) := fun w' h => by rw [hsv]; exact (hc w' h).2
        have s0 : Below w.heap.size w wr.drew := below_draws hb 1
        clear hsk hsv hc hz
        go_upto_region 5 with (fail)
        refine wp_region_I [(false, 0), (false, 1), (false, 2), (false, 3), (false, 4), (false, 5), (false, 6), (false, 7), (false, 8), (false, 9), (false, 10), (false, 11), (false, 12), (false, 13), (false, 14), (false, 15)] (fun w' => Below w.heap.size w w') (by kernel_rfl) (by kernel_rfl) s0 ?_
        repeat (first | (refine heldI_skip rfl rfl ?_; simp only [Act.put, List.setIfInBounds_toArray, List.set_cons_zero, List.set_cons_succ]) | (refine heldI_take rfl ?_ rfl (fun w' hw' => ?_) ?_; rotate_left; (go_simp; first | done | with_reducible rfl); (try simp only [Act.put, List.setIfInBounds_toArray, List.set_cons_zero, List.set_cons_succ])))
        refine heldI_nil ?_
        go_wp2_with fail
        go_roundw
        case rel => exact ⟨_, k + 1, rfl, by omega, by go_num, s0⟩
        case measure => simp [intOf]; omega
      · have q0 : decide (z ≤ 20000) = false := decide_eq_false hz
        have HB := Lib.hid hb
        clear hz hb
        go_wp2_with fail
        go_loopw [5, 7] (fun n i wr => ∃ (z : Int) (k : Nat), n = .int .i64 z ∧ k ≤ M ∧ i = .int .i64 k ∧ Below w.heap.size w wr) (fun _ i _ => M - (intOf i).toNat)
        case atStart => exact ⟨_, 0, rfl, Nat.zero_le _, rfl, HB.out⟩
        case round =>
          obtain ⟨z, k, rfl, hk, rfl, hb⟩ := hrel
          by_cases hkN : k < M
          · have k0 : decide ((k : Int) < (M : Int)) = true := by simp; omega
            by_cases hz : z ≤ 20000
            · have q0 : decide (z ≤ 20000) = true := decide_eq_true hz
              have hkl : k < c.length := HM.out ▸ hkN
              have k1 : (0 : Int) ≤ (k : Int) := by omega
              have k2 : (k : Int) < (M : Int) := by omega
              obtain ⟨b, off, rfl, hbb, hc⟩ := load_change HV.out hkl
              obtain ⟨sk, hsk⟩ : ∃ s, s = ByteArray.mk c[k].key.toArray := ⟨_, rfl⟩
              obtain ⟨sv, hsv⟩ : ∃ s, s = ByteArray.mk c[k].val.toArray := ⟨_, rfl⟩
              have L0 : ∀ w', Below w.heap.size w w' → w'.cell? ⟨b, off + k * 3, none⟩ = some (.string sk) := fun w' h => by rw [hsk]; exact (hc w' h).1
              have L1 : ∀ w', Below w.heap.size w w' → w'.cell? ⟨b, off + k * 3 + 1, none⟩ = some (.string sv) := fun w' h => by rw [hsv]; exact (hc w' h).2.1
              have s0 : Below w.heap.size w wr.drew := below_draws hb 1
              clear hsk hsv hc hz
              go_upto_region 9 with (fail)
              refine wp_region_I [(false, 0), (false, 1), (false, 2), (false, 3), (false, 4), (false, 5), (false, 6), (false, 7), (false, 8), (false, 9), (false, 10), (false, 11), (false, 12), (false, 13), (false, 14), (false, 15)] (fun w' => Below w.heap.size w w') (by kernel_rfl) (by kernel_rfl) s0 ?_
              repeat (first | (refine heldI_skip rfl rfl ?_; simp only [Act.put, List.setIfInBounds_toArray, List.set_cons_zero, List.set_cons_succ]) | (refine heldI_take rfl ?_ rfl (fun w' hw' => ?_) ?_; rotate_left; (go_simp; first | done | with_reducible rfl); (try simp only [Act.put, List.setIfInBounds_toArray, List.set_cons_zero, List.set_cons_succ])))
              refine heldI_nil ?_
              go_wp2_with fail
              go_roundw
              case rel => exact ⟨_, k + 1, rfl, by omega, by go_num, s0⟩
              case measure => simp [intOf]; omega
            · have q0 : decide (z ≤ 20000) = false := decide_eq_false hz
              have HB := Lib.hid hb
              clear hz hb
              go_wp2_with fail
              go_ret
              exact ⟨⟨_, rfl⟩, HB.out⟩
          · have k0 : decide ((k : Int) < (M : Int)) = false := by simp; omega
            have HB := Lib.hid hb
            clear hb
            go_wp2_with fail
            go_ret
            exact ⟨⟨_, rfl⟩, HB.out⟩
    · have k0 : decide ((k : Int) < (N : Int)) = false := by simp; omega
      have HB := Lib.hid hb
      clear hb
      go_wp2_with fail
      go_loopw [5, 7] (fun n i wr => ∃ (z : Int) (k : Nat), n = .int .i64 z ∧ k ≤ M ∧ i = .int .i64 k ∧ Below w.heap.size w wr) (fun _ i _ => M - (intOf i).toNat)
      case atStart => exact ⟨_, 0, rfl, Nat.zero_le _, rfl, HB.out⟩
      case round =>
        obtain ⟨z, k, rfl, hk, rfl, hb⟩ := hrel
        by_cases hkN : k < M
        · have k0 : decide ((k : Int) < (M : Int)) = true := by simp; omega
          by_cases hz : z ≤ 20000
          · have q0 : decide (z ≤ 20000) = true := decide_eq_true hz
            have hkl : k < c.length := HM.out ▸ hkN
            have k1 : (0 : Int) ≤ (k : Int) := by omega
            have k2 : (k : Int) < (M : Int) := by omega
            obtain ⟨b, off, rfl, hbb, hc⟩ := load_change HV.out hkl
            obtain ⟨sk, hsk⟩ : ∃ s, s = ByteArray.mk c[k].key.toArray := ⟨_, rfl⟩
            obtain ⟨sv, hsv⟩ : ∃ s, s = ByteArray.mk c[k].val.toArray := ⟨_, rfl⟩
            have L0 : ∀ w', Below w.heap.size w w' → w'.cell? ⟨b, off + k * 3, none⟩ = some (.string sk) := fun w' h => by rw [hsk]; exact (hc w' h).1
            have L1 : ∀ w', Below w.heap.size w w' → w'.cell? ⟨b, off + k * 3 + 1, none⟩ = some (.string sv) := fun w' h => by rw [hsv]; exact (hc w' h).2.1
            have s0 : Below w.heap.size w wr.drew := below_draws hb 1
            clear hsk hsv hc hz
            go_upto_region 9 with (fail)
            refine wp_region_I [(false, 0), (false, 1), (false, 2), (false, 3), (false, 4), (false, 5), (false, 6), (false, 7), (false, 8), (false, 9), (false, 10), (false, 11), (false, 12), (false, 13), (false, 14), (false, 15)] (fun w' => Below w.heap.size w w') (by kernel_rfl) (by kernel_rfl) s0 ?_
            repeat (first | (refine heldI_skip rfl rfl ?_; simp only [Act.put, List.setIfInBounds_toArray, List.set_cons_zero, List.set_cons_succ]) | (refine heldI_take rfl ?_ rfl (fun w' hw' => ?_) ?_; rotate_left; (go_simp; first | done | with_reducible rfl); (try simp only [Act.put, List.setIfInBounds_toArray, List.set_cons_zero, List.set_cons_succ])))
            refine heldI_nil ?_
            go_wp2_with fail
            go_roundw
            case rel => exact ⟨_, k + 1, rfl, by omega, by go_num, s0⟩
            case measure => simp [intOf]; omega
          · have q0 : decide (z ≤ 20000) = false := decide_eq_false hz
            have HB := Lib.hid hb
            clear hz hb
            go_wp2_with fail
            go_ret
            exact ⟨⟨_, rfl⟩, HB.out⟩
        · have k0 : decide ((k : Int) < (M : Int)) = false := by simp; omega
          have HB := Lib.hid hb
          clear hb
          go_wp2_with fail
          go_ret
          exact ⟨⟨_, rfl⟩, HB.out⟩
end Go.Proofs.YtaijompnohkmaaaGreatDoor
