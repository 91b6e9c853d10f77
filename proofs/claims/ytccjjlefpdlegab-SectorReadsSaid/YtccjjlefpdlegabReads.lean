/- Layer 1 (sector): SectorReads, walked. -/
import Derived.Test.YtccjjlefpdlegabRefRead
import Derived.Test.YtccjjlefpdlegabRefNew
import Derived.Test.YtccjjlefpdlegabHeld
import Derived.Test.YtccjjlefpdlegabAlive
namespace Go.Proofs.Ytccjjlefpdlegab
open Go.RowKit
theorem sameB_self (d : DiskP) : sameB d d = true := by simp [sameB]
theorem zero_diskB : ∀ w, (zeroValue 27).run Try.prog w = .ok (.agg #[.slice none 0 0, .slice none 0 0, .int .i64 0, .bool false]) w := by
  have h : (Try.prog.info? 27).bind (fun i => i.zero) = some (.agg #[.slice none 0 0, .slice none 0 0, .int .i64 0, .bool false]) := by kernel_rfl
  obtain ⟨i, hi, hz⟩ := Option.bind_eq_some_iff.1 h
  intro w
  simp [zeroValue, typeInfo, hi, hz]
/-- A disk, laid into a fresh variable. -/
theorem fresh_put (w : World) (y0 y1 y2 y3 : Value) : ∃ w1 w2 g, Hid (w1 = w.alloc (.cells (Value.agg #[.slice none 0 0, .slice none 0 0, .int .i64 0, .bool false]).cells 27)) ∧ Hid (g = w.heap.size) ∧
    Hid (w2 = (((w1.setCell ⟨g, 0, none⟩ y0).setCell ⟨g, 1, none⟩ y1).setCell ⟨g, 2, none⟩ y2).setCell ⟨g, 3, none⟩ y3) ∧ w1.cell? ⟨g, 0, none⟩ = some (.slice none 0 0) ∧ w1.cell? ⟨g, 1, none⟩ = some (.slice none 0 0) ∧ w1.cell? ⟨g, 2, none⟩ = some (.int .i64 0) ∧ w1.cell? ⟨g, 3, none⟩ = some (.bool false) ∧ (∀ o, w1.frozen? ⟨g, o, none⟩ = false) ∧
    w2.heap[g]? = some (.cells #[y0, y1, y2, y3] 27 (0, 0)) ∧ Below w.heap.size w w2 := by
  have h := heap_alloc_new w (.cells #[.slice none 0 0, .slice none 0 0, .int .i64 0, .bool false] 27)
  have hb : Below w.heap.size w (w.alloc (.cells #[.slice none 0 0, .slice none 0 0, .int .i64 0, .bool false] 27)) := Below.alloc (Below.refl _ _) (Nat.le_refl _) _
  exact ⟨_, put4 (w.alloc (.cells #[.slice none 0 0, .slice none 0 0, .int .i64 0, .bool false] 27)) w.heap.size y0 y1 y2 y3, _, Lib.hid rfl, Lib.hid rfl, Lib.hid rfl, cell_of_row _ _ 0 _ _ _ h, cell_of_row _ _ 1 _ _ _ h, cell_of_row _ _ 2 _ _ _ h, cell_of_row _ _ 3 _ _ _ h, fun o => frozen_row h o, put4_heap h _ _ _ _, put4_below hb (Nat.le_refl _) _ _ _ _⟩
/-- A sector, laid into a fresh variable. -/
theorem fresh_sec (w : World) (s : List UInt8) (hs : s.length = 64) (Z : Array Value) (hZ : Z.size = 64) : ∃ w1 w2 g, Hid (w1 = w.alloc (.cells (Value.agg Z).cells 33)) ∧ Hid (g = w.heap.size) ∧ (storeVar 33 ⟨g, 0, none⟩ (.agg (u8s s).toArray)).run Try.prog w1 = .ok () w2 ∧
    w2.heap[g]? = some (.cells (u8s s).toArray 33 (0, 0)) ∧ Below w.heap.size w w2 := by
  have h := heap_alloc_new w (.cells Z 33)
  have hb : Below w.heap.size w (w.alloc (.cells Z 33)) := Below.alloc (Below.refl _ _) (Nat.le_refl _) _
  obtain ⟨w2, hst, h2, hb2, _, _, _⟩ := store64 h hZ (u8s s).toArray (by simp [length_u8s, hs]) (oneCell_u8s _)
  exact ⟨_, w2, _, Lib.hid rfl, Lib.hid rfl, hst, h2, hb.trans hb2⟩
theorem readP_len {B : Nat} {w : World} {v : Value} {d : DiskP} (h : DiskV B w v d) (at_ : Int) : (readP d at_).1.length = 64 := by
  obtain ⟨_, _, _, h1, h2⟩ := h
  have h1 := h1.1
  have h2 := h2.1
  unfold readP
  split
  · split
    · rfl
    · refine lastW_64 _ _ _ h2 ?_
      cases h : d.secs[at_.toNat]? with
      | none => rfl
      | some s => exact h1 s (List.mem_of_getElem? h)
  · rfl
set_option maxRecDepth 100000 in
set_option maxHeartbeats 8000000 in
theorem SectorReads_walk (v0 : Value) (d : DiskP) (a z : Int) (W : World) (h0 : DiskV W.heap.size W v0 d) :
    Calls Try.prog 4 #[v0, .int .i64 a, .int .i64 z] W fun e w' => e = .returned (.bool true) ∧ Below W.heap.size W w' := by
  obtain ⟨Z, hZ⟩ : ∃ Z : Array Value, Z = Array.replicate 64 (.int .u8 0) := ⟨_, rfl⟩
  have HZZ := Lib.hid (show ∀ w, (zeroValue 33).run Try.prog w = .ok (.agg Z) w by rw [hZ]; exact fun w => (zeroA w).1)
  have HZS := Lib.hid (show Z.size = 64 by rw [hZ]; simp)
  clear hZ
  have hlen := readP_len h0 a
  obtain ⟨a1, n1, a2, n2, rfl, _, _⟩ := h0.parts
  obtain ⟨w1, hw1⟩ : ∃ w1, w1 = W.alloc (.cells #[.slice a1 d.secs.length n1, .slice a2 d.loose.length n2, .int .i64 d.fuse, .bool d.down] 27) := ⟨_, rfl⟩
  have hb1 : Below W.heap.size W w1 := by rw [hw1]; exact Below.alloc (Below.refl _ _) (Nat.le_refl _) _
  have G0 : w1.heap[W.heap.size]? = some (.cells #[.slice a1 d.secs.length n1, .slice a2 d.loose.length n2, .int .i64 d.fuse, .bool d.down] 27 (0, 0)) := by rw [hw1]; exact heap_alloc_new W _
  have hd1 := (h0.below hb1).tight
  have HW1 := Lib.hid hw1
  have ka := alive_any w1
  obtain ⟨x, hx⟩ : ∃ x, x = readP d a := ⟨_, rfl⟩
  obtain ⟨n, hn⟩ : ∃ n, n = newP z := ⟨_, rfl⟩
  rw [← hx] at hlen
  have HX := Lib.hid hx
  have HN := Lib.hid hn
  have HLEN := Lib.hid hlen
  clear hw1 hx hn hlen h0
  go_enter Try.func4, Try.ntmps4
  go_upto_region 1 with (fail)
  rw [← HW1.out]
  go_wp2_with fail
  refine ka.mono ?_
  rintro e w2 ⟨rfl, hb2⟩
  clear ka
  have G2 := (hb2.block _ (block_lt G0)).trans G0
  have hd2 := (hd1.below hb2).tight
  have hbb := hb1.trans (hb2.mono hb1.size)
  have C0 := cell_of_row w2 _ 0 _ _ _ G2
  have C1 := cell_of_row w2 _ 1 _ _ _ G2
  have C2 := cell_of_row w2 _ 2 _ _ _ G2
  have C3 := cell_of_row w2 _ 3 _ _ _ G2
  have kg := great_any _ d w2 hd2
  obtain ⟨g, hg⟩ : ∃ g, g = greatB d := ⟨_, rfl⟩
  rw [← hg] at kg
  clear hg hd1 hb1 hb2 G0
  go_wp2_with fail
  refine kg.mono ?_
  rintro e w3 ⟨rfl, hb3⟩
  clear kg C0 C1 C2 C3
  have G3 := (hb3.block _ (block_lt G2)).trans G2
  have hd3 := (hd2.below hb3).tight
  have hbb := hbb.trans (hb3.mono hbb.size)
  clear hb3 hd2 G2
  cases g with
  | true =>
    go_wp2_with fail
    go_ret
    exact ⟨rfl, hbb⟩
  | false =>
    have C0 := cell_of_row w3 _ 0 _ _ _ G3
    have C1 := cell_of_row w3 _ 1 _ _ _ G3
    have C2 := cell_of_row w3 _ 2 _ _ _ G3
    have C3 := cell_of_row w3 _ 3 _ _ _ G3
    have kr := read_any _ d a w3 hd3
    rw [← HX.out] at kr
    go_wp2_with fail
    refine kr.mono ?_
    rintro e w4 ⟨rfl, hb4⟩
    clear kr C0 C1 C2 C3
    obtain ⟨w5, w6, g7, HW5, HG7, hst, R7, hb46⟩ := fresh_sec w4 x.1 HLEN.out Z HZS.out
    have hb36 := hb4.trans (hb46.mono hb4.size)
    have G6 := (hb36.block _ (block_lt G3)).trans G3
    have hd6 := (hd3.below hb36).tight
    have hbb := hbb.trans (hb36.mono hbb.size)
    clear hb4 hb46 hb36 hd3 G3
    go_wp2_with (with_reducible refine wp_alloc_to (w' := w5) 33 rfl rfl (HZZ.out _) HW5.out ?_; refine Halt.in ?_)
    refine Halt.out ?_
    rw [← HG7.out]
    refine wp_store_at (.tmp 7) (.tmp 23) 33 rfl rfl rfl rfl hst ?_
    clear hst
    have C0 := cell_of_row w6 _ 0 _ _ _ G6
    have C1 := cell_of_row w6 _ 1 _ _ _ G6
    have C2 := cell_of_row w6 _ 2 _ _ _ G6
    have C3 := cell_of_row w6 _ 3 _ _ _ G6
    have kr := refread_any _ d a w6 hd6
    rw [← HX.out] at kr
    go_wp2_with fail
    refine kr.mono ?_
    rintro e w7 ⟨rfl, hb7⟩
    clear kr C0 C1 C2 C3
    obtain ⟨w8, w9, g9, HW8, HG9, hst, R9, hb79⟩ := fresh_sec w7 x.1 HLEN.out Z HZS.out
    have hb69 := hb7.trans (hb79.mono hb7.size)
    have G9 := (hb69.block _ (block_lt G6)).trans G6
    have R7 := (hb69.block _ (block_lt R7)).trans R7
    have hd9 := (hd6.below hb69).tight
    have hbb := hbb.trans (hb69.mono hbb.size)
    clear hb7 hb79 hb69 hd6 G6
    go_wp2_with (with_reducible refine wp_alloc_to (w' := w8) 33 rfl rfl (HZZ.out _) HW8.out ?_; refine Halt.in ?_)
    refine Halt.out ?_
    rw [← HG9.out]
    refine wp_store_at (.tmp 9) (.tmp 29) 33 rfl rfl rfl rfl hst ?_
    clear hst
    have kn := new_any z w9 (fun _ => True) (fun _ _ => trivial)
    rw [← HN.out] at kn
    go_wp2_with fail
    refine kn.mono ?_
    rintro e w10 ⟨⟨v10, rfl, hx10, _⟩, hb10⟩
    clear kn
    obtain ⟨p1, q1, p2, q2, rfl, _, _⟩ := hx10.parts
    obtain ⟨w11, w12, gx, HW11, HGX, hw12, D0, D1, D2, D3, Zf, RX, hb1012⟩ := fresh_put w10 (.slice p1 n.1.secs.length q1) (.slice p2 n.1.loose.length q2) (.int .i64 n.1.fuse) (.bool n.1.down)
    have hb912 := hb10.trans (hb1012.mono hb10.size)
    have G12 := (hb912.block _ (block_lt G9)).trans G9
    have R7 := (hb912.block _ (block_lt R7)).trans R7
    have R9 := (hb912.block _ (block_lt R9)).trans R9
    have hd12 := (hd9.below hb912).tight
    have hx12 := (hx10.below hb1012).tight
    have hbb := hbb.trans (hb912.mono hbb.size)
    clear hb10 hb1012 hb912 hd9 hx10 G9
    go_wp2_with (with_reducible refine wp_alloc_to (w' := w11) 27 rfl rfl (zero_diskB _) HW11.out ?_; refine Halt.in ?_)
    refine Halt.out ?_
    rw [← HGX.out]
    go_upto_region 8 with (fail)
    rw [← hw12.out]
    clear D0 D1 D2 D3 Zf hw12
    have kn := refnew_any z w12
    rw [← HN.out] at kn
    go_wp2_with fail
    refine kn.mono ?_
    rintro e w13 ⟨⟨v13, rfl, hy13⟩, hb13⟩
    clear kn
    obtain ⟨p3, q3, p4, q4, rfl, _, _⟩ := hy13.parts
    obtain ⟨w14, w15, gy, HW14, HGY, hw15, D0, D1, D2, D3, Zf, RY, hb1315⟩ := fresh_put w13 (.slice p3 n.1.secs.length q3) (.slice p4 n.1.loose.length q4) (.int .i64 n.1.fuse) (.bool n.1.down)
    have hb1215 := hb13.trans (hb1315.mono hb13.size)
    have G15 := (hb1215.block _ (block_lt G12)).trans G12
    have R7 := (hb1215.block _ (block_lt R7)).trans R7
    have R9 := (hb1215.block _ (block_lt R9)).trans R9
    have RX := (hb1215.block _ (block_lt RX)).trans RX
    have hd := (hd12.below hb1215).tight
    have hx := (hx12.below hb1215).tight
    have hy := (hy13.below hb1315).tight
    have hbb := hbb.trans (hb1215.mono hbb.size)
    clear hb13 hb1315 hb1215 hd12 hx12 hy13 G12
    go_wp2_with (with_reducible refine wp_alloc_to (w' := w14) 27 rfl rfl (zero_diskB _) HW14.out ?_; refine Halt.in ?_)
    refine Halt.out ?_
    rw [← HGY.out]
    go_upto_region 9 with (fail)
    rw [← hw15.out]
    clear D0 D1 D2 D3 Zf hw15
    have s0 : Below w15.heap.size w15 w15.drew := below_draws (Below.refl _ _) 1
    obtain ⟨X, hX⟩ : ∃ X, X = (u8s x.1).toArray := ⟨_, rfl⟩
    have hq : ∀ w, (Op.equalIn 10000 33 (.agg X) (.agg X)).run Try.prog w = .ok true w := fun w => by rw [hX]; exact (equal44 HLEN.out HLEN.out w).trans (by simp)
    have hl7 : ∀ w', Below w15.heap.size w15 w' → (loadVar 33 ⟨g7, 0, none⟩).run Try.prog w' = .ok (.agg X) w' := fun w' h => by
      rw [hX]; exact run_loadVar_row (P := Try.prog) w' g7 33 33 _ (0, 0) _ ((h.block _ (block_lt R7)).trans R7) Try.underlying33 rfl (by simp only [List.size_toArray, length_u8s, HLEN.out]; exact size_sector)
    have hl9 : ∀ w', Below w15.heap.size w15 w' → (loadVar 33 ⟨g9, 0, none⟩).run Try.prog w' = .ok (.agg X) w' := fun w' h => by
      rw [hX]; exact run_loadVar_row (P := Try.prog) w' g9 33 33 _ (0, 0) _ ((h.block _ (block_lt R9)).trans R9) Try.underlying33 rfl (by simp only [List.size_toArray, length_u8s, HLEN.out]; exact size_sector)
    have L0 := fun w' (h : Below w15.heap.size w15 w') => cell_of_row w' _ 0 _ _ _ ((h.block _ (block_lt G15)).trans G15)
    have L1 := fun w' (h : Below w15.heap.size w15 w') => cell_of_row w' _ 1 _ _ _ ((h.block _ (block_lt G15)).trans G15)
    have L2 := fun w' (h : Below w15.heap.size w15 w') => cell_of_row w' _ 2 _ _ _ ((h.block _ (block_lt G15)).trans G15)
    have L3 := fun w' (h : Below w15.heap.size w15 w') => cell_of_row w' _ 3 _ _ _ ((h.block _ (block_lt G15)).trans G15)
    have X0 := fun w' (h : Below w15.heap.size w15 w') => cell_of_row w' _ 0 _ _ _ ((h.block _ (block_lt RX)).trans RX)
    have X1 := fun w' (h : Below w15.heap.size w15 w') => cell_of_row w' _ 1 _ _ _ ((h.block _ (block_lt RX)).trans RX)
    have X2 := fun w' (h : Below w15.heap.size w15 w') => cell_of_row w' _ 2 _ _ _ ((h.block _ (block_lt RX)).trans RX)
    have X3 := fun w' (h : Below w15.heap.size w15 w') => cell_of_row w' _ 3 _ _ _ ((h.block _ (block_lt RX)).trans RX)
    have Y0 := fun w' (h : Below w15.heap.size w15 w') => cell_of_row w' _ 0 _ _ _ ((h.block _ (block_lt RY)).trans RY)
    have Y1 := fun w' (h : Below w15.heap.size w15 w') => cell_of_row w' _ 1 _ _ _ ((h.block _ (block_lt RY)).trans RY)
    have Y2 := fun w' (h : Below w15.heap.size w15 w') => cell_of_row w' _ 2 _ _ _ ((h.block _ (block_lt RY)).trans RY)
    have Y3 := fun w' (h : Below w15.heap.size w15 w') => cell_of_row w' _ 3 _ _ _ ((h.block _ (block_lt RY)).trans RY)
    obtain ⟨R, hR⟩ : ∃ R, R = rightB d := ⟨_, rfl⟩
    obtain ⟨q, hqq⟩ : ∃ q, q = sameB n.1 d := ⟨_, rfl⟩
    have HRR := Lib.hid hR
    have HQQ := Lib.hid hqq
    clear hX hR hqq R7 R9 RX RY G15
    obtain ⟨wd, hwd⟩ : ∃ wd, wd = w15.drew := ⟨_, rfl⟩
    refine wp_region_I [(false, 0), (false, 1), (false, 2), (false, 3), (false, 4), (false, 5), (false, 6), (false, 7), (false, 8), (false, 9), (false, 10), (true, 11), (false, 12), (false, 13), (false, 14), (false, 15), (false, 16), (false, 17), (false, 18), (false, 19), (false, 21), (true, 20), (true, 22), (false, 23), (false, 24), (false, 25), (false, 26), (false, 27), (true, 28), (false, 29), (false, 30), (false, 31), (false, 32), (false, 34), (false, 35), (true, 33), (true, 36), (false, 37), (false, 38), (false, 39)] (fun w' => Below w15.heap.size w15 w') (by kernel_rfl) (by kernel_rfl) s0 ?_
    rw [← hwd] at s0 ⊢
    clear hwd
    refine heldI_load rfl (.tmp 7) 33 rfl rfl rfl hl7 ?_
    simp only [Act.put, List.setIfInBounds_toArray, List.set_cons_zero, List.set_cons_succ]
    refine heldI_load rfl (.tmp 9) 33 rfl rfl rfl hl9 ?_
    simp only [Act.put, List.setIfInBounds_toArray, List.set_cons_zero, List.set_cons_succ]
    clear hl7 hl9
    repeat (first | (refine heldI_skip rfl rfl ?_; simp only [Act.put, List.setIfInBounds_toArray, List.set_cons_zero, List.set_cons_succ]) | (refine heldI_take rfl ?_ rfl (fun w' hw' => ?_) ?_; rotate_left; (go_simp; first | done | with_reducible rfl); (try simp only [Act.put, List.setIfInBounds_toArray, List.set_cons_zero, List.set_cons_succ])))
    have kz := sameR_any _ _ n.1 n.1 wd (hx.below s0) (hy.below s0)
    rw [sameB_self] at kz
    refine heldI_act rfl rfl fun K hK => ?_
    go_simp
    refine kz.mono ?_
    rintro e u1 ⟨rfl, hb⟩
    have s1 := s0.trans (hb.mono s0.size)
    refine hK.out _ _ s1 ?_
    clear hK K kz hb
    repeat (first | (refine heldI_skip rfl rfl ?_; simp only [Act.put, List.setIfInBounds_toArray, List.set_cons_zero, List.set_cons_succ]) | (refine heldI_take rfl ?_ rfl (fun w' hw' => ?_) ?_; rotate_left; (go_simp; first | done | with_reducible rfl); (try simp only [Act.put, List.setIfInBounds_toArray, List.set_cons_zero, List.set_cons_succ])))
    have kz := right_any _ d u1 (hd.below s1)
    rw [← HRR.out] at kz
    refine heldI_act rfl rfl fun K hK => ?_
    go_simp
    refine kz.mono ?_
    rintro e u2 ⟨rfl, hb⟩
    have s2 := s1.trans (hb.mono s1.size)
    refine hK.out _ _ s2 ?_
    clear hK K kz hb
    have kz := refright_any _ d u2 (hd.below s2)
    rw [← HRR.out] at kz
    refine heldI_act rfl rfl fun K hK => ?_
    go_simp
    refine kz.mono ?_
    rintro e u3 ⟨rfl, hb⟩
    have s3 := s2.trans (hb.mono s2.size)
    refine hK.out _ _ s3 ?_
    clear hK K kz hb
    repeat (first | (refine heldI_skip rfl rfl ?_; simp only [Act.put, List.setIfInBounds_toArray, List.set_cons_zero, List.set_cons_succ]) | (refine heldI_take rfl ?_ rfl (fun w' hw' => ?_) ?_; rotate_left; (go_simp; first | done | with_reducible rfl); (try simp only [Act.put, List.setIfInBounds_toArray, List.set_cons_zero, List.set_cons_succ])))
    have kz := sameS_any _ _ d d u3 (hd.below s3) (hd.below s3)
    rw [sameB_self] at kz
    refine heldI_act rfl rfl fun K hK => ?_
    go_simp
    refine kz.mono ?_
    rintro e u4 ⟨rfl, hb⟩
    have s4 := s3.trans (hb.mono s3.size)
    refine hK.out _ _ s4 ?_
    clear hK K kz hb
    repeat (first | (refine heldI_skip rfl rfl ?_; simp only [Act.put, List.setIfInBounds_toArray, List.set_cons_zero, List.set_cons_succ]) | (refine heldI_take rfl ?_ rfl (fun w' hw' => ?_) ?_; rotate_left; (go_simp; first | done | with_reducible rfl); (try simp only [Act.put, List.setIfInBounds_toArray, List.set_cons_zero, List.set_cons_succ])))
    have kz := sameS_any _ _ n.1 d u4 (hx.below s4) (hd.below s4)
    rw [← HQQ.out] at kz
    refine heldI_act rfl rfl fun K hK => ?_
    go_simp
    refine kz.mono ?_
    rintro e u5 ⟨rfl, hb⟩
    have s5 := s4.trans (hb.mono s4.size)
    refine hK.out _ _ s5 ?_
    clear hK K kz hb
    have kz := sameR_any _ _ n.1 d u5 (hx.below s5) (hd.below s5)
    rw [← HQQ.out] at kz
    refine heldI_act rfl rfl fun K hK => ?_
    go_simp
    refine kz.mono ?_
    rintro e u6 ⟨rfl, hb⟩
    have s6 := s5.trans (hb.mono s5.size)
    refine hK.out _ _ s6 ?_
    clear hK K kz hb
    repeat (first | (refine heldI_skip rfl rfl ?_; simp only [Act.put, List.setIfInBounds_toArray, List.set_cons_zero, List.set_cons_succ]) | (refine heldI_take rfl ?_ rfl (fun w' hw' => ?_) ?_; rotate_left; (go_simp; first | done | with_reducible rfl); (try simp only [Act.put, List.setIfInBounds_toArray, List.set_cons_zero, List.set_cons_succ])))
    refine heldI_nil ?_
    clear L0 L1 L2 L3 X0 X1 X2 X3 Y0 Y1 Y2 Y3
    go_wp2_with fail
    go_ret
    exact ⟨by simp, hbb.trans (s6.mono hbb.size)⟩
end Go.Proofs.Ytccjjlefpdlegab
