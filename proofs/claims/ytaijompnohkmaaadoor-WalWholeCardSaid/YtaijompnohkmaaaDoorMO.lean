/- Layer 5 (wal), the document's answer: a sector of a disk. -/
import Derived.Test.YtaijompnohkmaaaDoorMN
namespace Go.Proofs.YtaijompnohkmaaaDoor
open Go.RowKit WalP PackP
set_option maxRecDepth 100000 in
set_option maxHeartbeats 2000000 in
theorem refSector_any {B : Nat} (v : Value) (d : DiskP) (at_ : Int) (w : World) (h : DiskV B w v d) :
    Calls Tryd.prog 65 #[v, .int .i64 at_] w fun e w' => e = .returned (.agg (u8s (readP d at_).1).toArray) ∧ Below w.heap.size w w' := by
  have hd := h.tight
  clear h
  obtain ⟨p1, q1, p2, q2, rfl, _, _⟩ := hd.parts
  obtain ⟨w1, hw1⟩ : ∃ w1, w1 = w.alloc (.cells #[.slice p1 d.secs.length q1, .slice p2 d.loose.length q2, .int .i64 d.fuse, .bool d.down] 25) := ⟨_, rfl⟩
  have hb1 : Below w.heap.size w w1 := by rw [hw1]; exact Below.alloc (Below.refl _ _) (Nat.le_refl _) _
  have hs1 : w1.heap.size = w.heap.size + 1 := by rw [hw1]; simp
  have hG1 : w1.heap[w.heap.size]? = some (.cells #[.slice p1 d.secs.length q1, .slice p2 d.loose.length q2, .int .i64 d.fuse, .bool d.down] 25 (0, 0)) := by rw [hw1]; exact heap_alloc_new w _
  obtain ⟨z0, hz0, hzr⟩ := zero44
  obtain ⟨w2, hw2⟩ : ∃ w2, w2 = w1.alloc (.cells z0.cells 73) := ⟨_, rfl⟩
  have hb2 : Below w1.heap.size w1 w2 := by rw [hw2]; exact Below.alloc (Below.refl _ _) (Nat.le_refl _) _
  have hs2 : w2.heap.size = w.heap.size + 2 := by rw [hw2]; simp [hs1]
  have hG2 : w2.heap[w.heap.size + 1]? = some (.cells (u8s zeroS).toArray 73 (0, 0)) := by rw [hw2, ← hs1, ← hz0]; exact heap_alloc_new w1 _
  have hG1 := (hb2.block _ (block_lt hG1)).trans hG1
  have hb02 := hb1.trans (hb2.mono hb1.size)
  have hd2 := hd.below hb02
  have kr : ∀ w' : World, Below w2.heap.size w2 w' → Calls Tryd.prog 83 #[.agg #[.slice p1 d.secs.length q1, .slice p2 d.loose.length q2, .int .i64 d.fuse, .bool d.down], .int .i64 at_] w' fun e w'' => e = .returned (.tuple #[.agg (u8s (readP d at_).1).toArray, .int .i64 (readP d at_).2]) ∧ Below w'.heap.size w' w'' := fun w' hb => refread_any _ d at_ w' (hd2.tight.below hb)
  have hxl := walReadLen hd at_
  obtain ⟨xs, hxs⟩ : ∃ xs, xs = (readP d at_).1 := ⟨_, rfl⟩
  obtain ⟨er, her⟩ : ∃ er, er = (readP d at_).2 := ⟨_, rfl⟩
  rw [← hxs] at hxl ⊢
  rw [← hxs, ← her] at kr
  obtain ⟨X, hX⟩ : ∃ X, X = (u8s xs).toArray := ⟨_, rfl⟩
  have hXs : X.size = 64 := by rw [hX]; simp [length_u8s, hxl]
  have hXo : ∀ v ∈ X.toList, v.oneCell' = true := by rw [hX]; simpa using oneCell_u8s xs
  rw [← hX] at kr ⊢
  have HXO := Lib.hid hXo
  have HXZ := Lib.hid hXs
  have KR := Lib.hid kr
  have HW1 := Lib.hid hw1
  have HW2 := Lib.hid hw2
  have HZ0 := Lib.hid hz0
  have HZR := Lib.hid hzr
  have HG2 := Lib.hid hG2
  have HB02 := Lib.hid hb02
  have HS2 := Lib.hid hs2
  have L0 : ∀ w', Below w2.heap.size w2 w' → w'.cell? ⟨w.heap.size, 0, none⟩ = some (.slice p1 d.secs.length q1) := fun w' h => cell_of_row w' _ 0 _ _ _ ((h.block _ (block_lt hG1)).trans hG1)
  have L1 : ∀ w', Below w2.heap.size w2 w' → w'.cell? ⟨w.heap.size, 1, none⟩ = some (.slice p2 d.loose.length q2) := fun w' h => cell_of_row w' _ 1 _ _ _ ((h.block _ (block_lt hG1)).trans hG1)
  have L2 : ∀ w', Below w2.heap.size w2 w' → w'.cell? ⟨w.heap.size, 2, none⟩ = some (.int .i64 d.fuse) := fun w' h => cell_of_row w' _ 2 _ _ _ ((h.block _ (block_lt hG1)).trans hG1)
  have L3 : ∀ w', Below w2.heap.size w2 w' → w'.cell? ⟨w.heap.size, 3, none⟩ = some (.bool d.down) := fun w' h => cell_of_row w' _ 3 _ _ _ ((h.block _ (block_lt hG1)).trans hG1)
  clear hd hd2 hw1 hw2 hb1 hb2 hs1 hs2 hG1 hG2 hb02 hz0 hzr kr hxl hxs her hX hXs hXo
  go_enter Tryd.func65, Tryd.ntmps65
  go_wp2_with (with_reducible refine wp_alloc_to (w' := w2) 73 rfl rfl (HZR.out _) (by rw [← HW1.out]; exact HW2.out) ?_; refine Halt.in ?_)
  refine Halt.out ?_
  have C0 := L0 w2 (Below.refl _ _)
  have C1 := L1 w2 (Below.refl _ _)
  have C2 := L2 w2 (Below.refl _ _)
  have C3 := L3 w2 (Below.refl _ _)
  clear L0 L1 L2 L3
  go_wp2_with fail
  refine (KR.out w2 (Below.refl _ _)).mono ?_
  rintro e w6 ⟨rfl, s6⟩
  obtain ⟨w7, hw7, s7, g7, l7, hgg⟩ := box_alloc HZ0.out s6
  obtain ⟨wc, hst1, hg, hG, hbx⟩ := box_store HXZ.out HXO.out g7 hgg s7
  have HW7 := Lib.hid hw7
  clear C0 C1 C2 C3 hw7
  go_wp2_with (with_reducible refine wp_alloc_to (w' := w7) 73 rfl rfl (HZR.out _) HW7.out ?_; refine Halt.in ?_)
  refine Halt.out ?_
  refine wp_store_at (.tmp 5) (.tmp 11) 73 rfl rfl rfl rfl hst1 ?_
  clear hst1
  obtain ⟨g, hgd⟩ : ∃ g, g = w6.heap.size := ⟨_, rfl⟩
  rw [← hgd] at hg hG ⊢
  clear hgd
  have hld := run_loadVar_row (P := Tryd.prog) wc g 73 73 X (0, 0) _ hG Tryd.underlying73 rfl (by rw [HXZ.out]; exact size_sector)
  have hG4 := (hbx.block _ (block_lt HG2.out)).trans HG2.out
  obtain ⟨w8, hst, G8, hb8, _, _, _⟩ := store64 hG4 (by simp [length_u8s, zeroS]) X HXZ.out HXO.out
  have HG8 := Lib.hid G8
  have HBB := Lib.hid ((HB02.out.trans (hbx.mono (by rw [HS2.out]; omega))).trans (hb8.mono (Nat.le_succ _)))
  clear hbx hG hg hG4 hb8 G8
  go_wp2_with (refine wp_load_at (.tmp 5) 73 rfl rfl rfl hld ?_; clear hld; refine Halt.in ?_)
  refine Halt.out ?_
  refine wp_store_at (.tmp 4) (.tmp 13) 73 rfl rfl rfl rfl hst ?_
  clear hst
  go_wp2_with fail
  refine bodyPost_ret (results_cell_row rfl _ _ (w.heap.size + 1) _ _ _ _ rfl HG8.out Tryd.underlying73 rfl (by rw [HXZ.out]; exact size_sector)) rfl ?_
  exact ⟨rfl, HBB.out⟩
end Go.Proofs.YtaijompnohkmaaaDoor
/- An array of 64 bytes that is filled from its first byte on. -/
namespace Go.Proofs.YtaijompnohkmaaaDoor
open Go.RowKit WalP PackP
theorem pad64_nil : pad64 [] = zeroS := rfl
theorem fill_set {b : List UInt8} {k : Nat} (h : k < b.length) (h64 : k < 64) : (pad64 (b.take k)).set k b[k] = pad64 (b.take (k + 1)) := by
  unfold pad64
  apply List.ext_getElem?
  intro i
  rw [List.take_take, List.take_take, Nat.min_eq_right (by omega), Nat.min_eq_right (by omega), List.length_take, List.length_take, Nat.min_eq_left (by omega), Nat.min_eq_left (by omega), List.getElem?_set]
  by_cases hi : k = i
  · subst hi
    rw [if_pos rfl, if_pos (by simp; omega), List.getElem?_append_left (by simp; omega)]
    simp [h]
  · rw [if_neg hi]
    by_cases h2 : i < k
    · rw [List.getElem?_append_left (by simp; omega), List.getElem?_append_left (by simp; omega)]
      simp [List.getElem?_take, h2, Nat.lt_succ_of_lt h2]
    · rw [List.getElem?_append_right (by simp; omega), List.getElem?_append_right (by simp; omega)]
      simp only [List.getElem?_replicate, List.length_take, Nat.min_eq_left (show k ≤ b.length by omega), Nat.min_eq_left (show k + 1 ≤ b.length by omega)]
      by_cases h3 : i < 64
      · rw [if_pos (by omega), if_pos (by omega)]
      · rw [if_neg (by omega), if_neg (by omega)]
theorem fill_all {b : List UInt8} {k : Nat} (h : b.length ≤ k ∨ 64 ≤ k) : pad64 (b.take k) = pad64 b := by
  unfold pad64
  rw [List.take_take, List.length_take]
  rcases h with h | h
  · rw [Nat.min_eq_right h]
    by_cases h2 : k ≤ 64
    · rw [Nat.min_eq_right h2, List.take_of_length_le h, List.take_of_length_le (show b.length ≤ 64 by omega)]
    · rw [Nat.min_eq_left (by omega)]
  · rw [Nat.min_eq_left h]
    congr 2
    omega
theorem fill_old {w : World} {g k : Nat} {b : List UInt8} {t : TypeId} (hg : w.heap[g]? = some (.cells (u8s (pad64 (b.take k))).toArray t (0, 0))) (h : k ≤ b.length) (h64 : k < 64) : w.cell? ⟨g, k, none⟩ = some (.int .u8 0) := by
  rw [cell_of_row w g k _ _ _ hg]
  have e : (pad64 (b.take k))[k]? = some 0 := by
    unfold pad64
    rw [List.take_take, List.length_take, Nat.min_eq_right (by omega), Nat.min_eq_left h, List.getElem?_append_right (by simp; omega), List.length_take, Nat.min_eq_left h, Nat.sub_self, List.getElem?_replicate, if_pos (by omega)]
  simp [u8s, u8, e]
/-- A byte is written into the row. -/
theorem fill_cell {w : World} {g k : Nat} {b : List UInt8} {t : TypeId} (hg : w.heap[g]? = some (.cells (u8s (pad64 (b.take k))).toArray t (0, 0))) (h : k < b.length) (h64 : k < 64) :
    (w.setCell ⟨g, k, none⟩ (.int .u8 (b[k].toNat : Int))).heap[g]? = some (.cells (u8s (pad64 (b.take (k + 1)))).toArray t (0, 0)) := by
  rw [← fill_set h h64]
  simp [World.setCell, Array.getElem?_modify, hg, u8s, u8, List.map_set]
end Go.Proofs.YtaijompnohkmaaaDoor
/- Layer 3 (pack): what the reference's writing functions lay. -/
namespace Go.Proofs.YtaijompnohkmaaaDoor
open Go.RowKit PackP
theorem run_make8 : ∀ w : World, (Instr.makeSlice 43 (.int .i64 8) (.int .i64 8)).run Tryd.prog w =
    .ok (.slice (some ⟨w.heap.size, 0, none⟩) 8 8) (w.alloc (.cells #[.int .u8 0, .int .u8 0, .int .u8 0, .int .u8 0, .int .u8 0, .int .u8 0, .int .u8 0, .int .u8 0] 5)) := fun _ => by kernel_rfl
theorem run_make4 : ∀ w : World, (Instr.makeSlice 43 (.int .i64 4) (.int .i64 4)).run Tryd.prog w =
    .ok (.slice (some ⟨w.heap.size, 0, none⟩) 4 4) (w.alloc (.cells #[.int .u8 0, .int .u8 0, .int .u8 0, .int .u8 0] 5)) := fun _ => by kernel_rfl
theorem run_make_u8 (k : Nat) (hk : k = 4 ∨ k = 8) (w : World) : (Instr.makeSlice 43 (.int .i64 k) (.int .i64 k)).run Tryd.prog w =
    .ok (.slice (some ⟨w.heap.size, 0, none⟩) k k) (w.alloc (.cells (Array.replicate k (.int .u8 0)) 5)) := by
  rcases hk with rfl | rfl
  · exact run_make4 w
  · exact run_make8 w
theorem own_made (w : World) (k : Nat) (hk : k = 4 ∨ k = 8) : OwnB w.heap.size (w.alloc (.cells (Array.replicate k (.int .u8 0)) 5)) (.slice (some ⟨w.heap.size, 0, none⟩) k k) (List.replicate k 0) := by
  unfold OwnB
  rw [List.length_replicate]
  refine ⟨by simp [u8s], _, k, rfl, Nat.le_refl _, by unfold maxLen; omega, .inr ⟨_, _, rfl, Nat.le_refl _, heap_alloc_new w _, by simp, ?_⟩⟩
  simp [u8s, u8]
theorem byte_mod (m : Nat) : (m : Int) % 256 = ((UInt8.ofNat m).toNat : Int) := by
  rw [UInt8.toNat_ofNat']; omega
theorem set_zeros (j : Nat) (ys : List UInt8) (c : UInt8) : (List.replicate (j + 1) 0 ++ ys).set j c = List.replicate j 0 ++ c :: ys := by
  apply List.ext_getElem?
  intro i
  rw [List.getElem?_set]
  by_cases h : j = i
  · subst h
    rw [if_pos rfl, if_pos (by simp; omega), List.getElem?_append_right (by simp)]; simp
  · rw [if_neg h]
    by_cases h2 : i < j
    · rw [List.getElem?_append_left (by simp; omega), List.getElem?_append_left (by simp; omega)]
      simp [h2, Nat.lt_succ_of_lt h2]
    · rw [List.getElem?_append_right (by simp; omega), List.getElem?_append_right (by simp; omega)]
      obtain ⟨d, rfl⟩ : ∃ d, i = j + 1 + d := ⟨i - (j + 1), by omega⟩
      simp only [List.length_replicate]
      rw [show j + 1 + d - (j + 1) = d by omega, show j + 1 + d - j = d + 1 by omega, List.getElem?_cons_succ]
set_option maxRecDepth 100000 in
set_option maxHeartbeats 1000000 in
theorem refBytes_any (n k : Nat) (w : World) (hk : k = 4 ∨ k = 8) (hn : n ≤ 2 ^ 62) :
    Calls Tryd.prog 91 #[.int .i64 n, .int .i64 k] w fun e w' => ∃ v', e = .returned v' ∧ OwnB w.heap.size w' v' (be k n) ∧ Below w.heap.size w w' := by
  have hmk := run_make_u8 k hk
  have hk8 : k ≤ 8 := by omega
  go_enter Tryd.func91, Tryd.ntmps91
  go_wp2
  clear hmk
  go_loopw [0, 6] (fun m i wr => ∃ (r M : Nat) (ys : List UInt8), r ≤ k ∧ M ≤ 2 ^ 62 ∧ i = .int .i64 ((r : Int) - 1) ∧ m = .int .i64 M ∧ be k n = be r M ++ ys ∧ ys.length = k - r ∧
      Own w.heap.size wr 5 (.slice (some ⟨w.heap.size, 0, none⟩) k k) 1 k (u8s (List.replicate r 0 ++ ys)) ∧ Below w.heap.size w wr) (fun _ i _ => (intOf i + 1).toNat)
  case atStart =>
    refine ⟨k, n, [], Nat.le_refl _, hn, rfl, rfl, by simp, by simp, ?_, Below.alloc (Below.refl _ _) (Nat.le_refl _) _⟩
    have := own_made w k hk
    unfold OwnB at this
    rw [List.length_replicate] at this
    simpa using this
  case round =>
    obtain ⟨r, M, ys, hr, hM, rfl, rfl, he, hyl, ho, hb⟩ := hrel
    have HE := Lib.hid he
    have HO := Lib.hid ho
    have HY := Lib.hid hyl
    clear he ho hyl
    by_cases hr0 : r = 0
    · subst hr0
      go_wp2
      go_ret
      refine ⟨_, rfl, ?_, hb⟩
      rw [HE.out]
      have h1 := HO.out
      have h2 := HY.out
      unfold OwnB
      rw [show be 0 M = [] from rfl, List.nil_append, h2]
      simpa using h1
    · obtain ⟨j, rfl⟩ : ∃ j, r = j + 1 := ⟨r - 1, by omega⟩
      obtain ⟨C, hC⟩ : ∃ C, C = UInt8.ofNat M := ⟨_, rfl⟩
      have hb8 := byte_mod M
      rw [← hC] at hb8
      have HC := Lib.hid hC
      clear hC
      obtain ⟨g, hg, _, _, hgc, hgf, hgs⟩ := HO.out.form (by omega)
      obtain rfl : w.heap.size = g := by injection hg with h; injection h
      have hjl : (u8s (List.replicate (j + 1) 0 ++ ys))[j]? = some (u8 0) := by
        rw [u8s, List.getElem?_map, List.getElem?_append_left (by simp)]; simp
      have hcell := hgc j _ hjl
      have hfz := hgf j
      have ho3 := hgs j (u8 C) (by omega)
      have hb3 := hb.setCell (p := ⟨w.heap.size, j, none⟩) (Nat.le_refl _) (u8 C)
      have HO3 := Lib.hid ho3
      clear hjl hgc hgf hgs ho3 hg
      unfold u8 at hcell
      go_wp2
      go_roundw
      case rel =>
        refine ⟨j, M / 256, C :: ys, by omega, by omega, rfl, by go_num, ?_, ?_, ?_, hb3⟩
        · rw [HE.out, be_low, HC.out, List.append_assoc]; rfl
        · rw [List.length_cons, HY.out]; omega
        · have h := HO3.out
          rw [show (u8s (List.replicate (j + 1) 0 ++ ys)).set j (u8 C) = u8s (List.replicate j 0 ++ C :: ys) by rw [← set_zeros]; unfold u8s; rw [List.map_set]] at h
          exact h
      case measure => simp [intOf] <;> omega
theorem ref_clamp (z z' : Int) (w : World) (hz : z' = (clamp z : Int)) :
    Calls Tryd.prog 91 #[.int .i64 z', .int .i64 8] w fun e w' => ∃ v', e = .returned v' ∧ OwnB w.heap.size w' v' (numB z) ∧ Below w.heap.size w w' := by
  subst hz
  have := clamp_le z
  exact refBytes_any (clamp z) 8 w (.inr rfl) (by omega)
theorem ref_len (n : Nat) (w : World) (hn : n ≤ 4096) :
    Calls Tryd.prog 91 #[.int .i64 n, .int .i64 4] w fun e w' => ∃ v', e = .returned v' ∧ OwnB w.heap.size w' v' (be 4 n) ∧ Below w.heap.size w w' :=
  refBytes_any n 4 w (.inl rfl) (by omega)
set_option maxRecDepth 100000 in
set_option maxHeartbeats 1000000 in
theorem refNum_any (B : Nat) (v : Value) (bs : List UInt8) (z : Int) (w : World) (hv : Bytes B w v bs) (hlen : bs.length + 8 ≤ 2 ^ 46) :
    Calls Tryd.prog 75 #[v, .int .i64 z] w fun e w' => ∃ v', e = .returned v' ∧ OwnB w.heap.size w' v' (bs ++ numB z) ∧ Below w.heap.size w w' := by
  replace hv := hv.tight
  have ho : OwnB w.heap.size (w.alloc (.cells #[] 5)) (.slice (some ⟨w.heap.size, 0, none⟩) 0 0) [] := Own.none _ _ _ _ _
  have hb : Below w.heap.size w (w.alloc (.cells #[] 5)) := Below.alloc (Below.refl _ _) (Nat.le_refl _) _
  have hs := Bytes.src (P := Tryd.prog) (hv.below hb)
  have hl0 : ([] : List UInt8).length + bs.length ≤ 2 ^ 46 := by simp; omega
  have hl1 : ([] ++ bs).length + (numB z).length ≤ 2 ^ 46 := by rw [length_numB, List.nil_append]; omega
  go_enter Tryd.func75, Tryd.ntmps75
  go_wp2_with (first
    | (at_builtin; refine ap_u8 rfl (.tmp 5) (.tmp 6) 43 rfl (.inl ⟨_, Tryd.underlying43⟩) rfl rfl ho hs hl0 hb.size ?_; intro v2 w2 ho2 hb2)
    | (go_at_call 91; ((refine (ref_clamp z _ _ ?hz).mono ?_); (case hz => unfold clamp; (repeat' split) <;> omega); rintro e w3 ⟨v3, rfl, ho3, hb3⟩; have ho4 := ho2.keep hb3 (Nat.le_refl _); have hs3 := Bytes.src (P := Tryd.prog) ho3.bytes; have hB3 := Nat.le_trans (Nat.le_trans hb.size hb2.size) hb3.size))
    | (at_builtin; refine ap_u8 rfl (.tmp 7) (.tmp 11) 43 rfl (.inl ⟨_, Tryd.underlying43⟩) rfl rfl ho4 hs3 hl1 hB3 ?_; intro v5 w5 ho5 hb5))
  all_goals
    go_ret
    exact ⟨_, rfl, ho5, ((hb.trans hb2).trans (hb3.mono (Nat.le_trans hb.size hb2.size))).trans hb5⟩
end Go.Proofs.YtaijompnohkmaaaDoor
/- Layer 5 (wal), the document's answer: a record's mark. -/
namespace Go.Proofs.YtaijompnohkmaaaDoor
open Go.RowKit WalP PackP
set_option maxRecDepth 100000 in
set_option maxHeartbeats 2000000 in
theorem refMark_any {B : Nat} (gen : Int) (k : Nat) (v : Value) (b : List UInt8) (w : World) (h : Bytes B w v b) (hlen : b.length ≤ 2 ^ 40) :
    Calls Tryd.prog 48 #[.int .i64 gen, .int .i64 k, v] w fun e w' => e = .returned (.agg (u8s (markOf gen k b)).toArray) ∧ Below w.heap.size w w' := by
  have h := h.tight
  have HV := Lib.hid h
  obtain ⟨_, va, vc, rfl, _, _, _⟩ := h
  obtain ⟨z0, hz0, hzr⟩ := zero44
  obtain ⟨w1, hw1⟩ : ∃ w1, w1 = w.alloc (.cells z0.cells 73) := ⟨_, rfl⟩
  have hb1 : Below w.heap.size w w1 := by rw [hw1]; exact Below.alloc (Below.refl _ _) (Nat.le_refl _) _
  have hs1 : w1.heap.size = w.heap.size + 1 := by rw [hw1]; simp
  have HG1 := Lib.hid (show w1.heap[w.heap.size]? = some (.cells (u8s zeroS).toArray 73 (0, 0)) by rw [hw1, ← hz0]; exact heap_alloc_new w _)
  obtain ⟨w2, hw2⟩ : ∃ w2, w2 = w1.alloc (.cells #[.int .u8 87, .int .u8 76, .int .u8 79, .int .u8 71] 5) := ⟨_, rfl⟩
  have hA2 : w2.heap[w1.heap.size]? = some (.cells #[.int .u8 87, .int .u8 76, .int .u8 79, .int .u8 71] 5 (0, 0)) := by rw [hw2]; exact heap_alloc_new w1 _
  have hb2 : Below w1.heap.size w1 w2 := by rw [hw2]; exact Below.alloc (Below.refl _ _) (Nat.le_refl _) _
  obtain ⟨w3, hcv, hA3, hb3, hs3, ho3⟩ := conv_mark hA2 4 4
  have HB13 := Lib.hid (hb2.trans hb3)
  have HB1 := Lib.hid hb1
  have HS1 := Lib.hid hs1
  have HA3 := Lib.hid hA3
  have HW1 := Lib.hid hw1
  have HW2 := Lib.hid hw2
  have HZR := Lib.hid hzr
  have HZ0 := Lib.hid hz0
  clear hb1 hb2 hb3 hs1 hs3 ho3 hA2 hA3 hw1 hw2 hzr hz0 hlen
  go_enter Tryd.func48, Tryd.ntmps48
  go_wp2_with (with_reducible refine wp_alloc_to (w' := w1) 73 rfl rfl (HZR.out _) HW1.out ?_; refine Halt.in ?_)
  refine Halt.out ?_
  go_wp2_with fail
  rw [← HW2.out, hcv]
  clear hcv
  have hv3 : Bytes w3.heap.size w3 (.slice (some ⟨w1.heap.size, 0, none⟩) 4 4) [87, 76, 79, 71] := row_of_heap (sz := 1) (n := 4) HA3.out (block_lt HA3.out) rfl (Nat.le_refl _) (by decide) (fun k u hk => by simpa [u8s, u8] using hk)
  have k1 := refNum_any _ _ _ gen w3 hv3 (by simp)
  go_wp2_with fail
  refine k1.mono ?_
  rintro e w4 ⟨v4, rfl, ho4, hb4⟩
  clear k1 hv3
  have k2 := refNum_any _ _ _ (k : Int) w4 ho4.bytes (by simp [length_numB])
  have HB4 := Lib.hid hb4
  clear ho4 hb4
  go_wp2_with fail
  refine k2.mono ?_
  rintro e w5 ⟨v5, rfl, ho5, hb5⟩
  clear k2
  have k3 := refNum_any _ _ _ (b.length : Int) w5 ho5.bytes (by simp [length_numB])
  have HB5 := Lib.hid hb5
  clear ho5 hb5
  go_wp2_with fail
  refine k3.mono ?_
  rintro e w6 ⟨v6, rfl, ho6, hb6⟩
  clear k3
  obtain ⟨sm, hsm⟩ : ∃ sm, sm = SumP.toI (SumP.sum b) := ⟨_, rfl⟩
  have hs0 : 0 ≤ sm := by rw [hsm]; exact SumP.toI_lo _
  have hs1' : sm < 2 ^ 32 := by rw [hsm]; exact SumP.toI_hi _
  have hws : IntKind.i64.wrap sm = sm := by
    simp only [IntKind.wrap, IntKind.bits, IntKind.signed]
    simp
    omega
  have HB06 := Lib.hid (HB1.out.trans ((((HB13.out.trans (HB4.out.mono HB13.out.size)).trans (HB5.out.mono (Nat.le_trans HB13.out.size HB4.out.size))).trans (hb6.mono (Nat.le_trans HB13.out.size (Nat.le_trans HB4.out.size HB5.out.size)))).mono HB1.out.size))
  have ks := refSum_any _ b w6 w.heap.size (HV.out.below HB06.out)
  rw [← hsm] at ks
  have HSM := Lib.hid hsm
  have k4 := refNum_any _ _ _ sm w6 ho6.bytes (by simp [length_numB])
  have HB6 := Lib.hid hb6
  clear ho6 hb6 hsm hs0 hs1'
  go_wp2_with fail
  refine ks.mono ?_
  rintro e w' ⟨rfl, rfl⟩
  clear ks
  go_wp2_with fail
  refine k4.mono ?_
  rintro e w7 ⟨v7, rfl, ho7, hb7⟩
  clear k4
  obtain ⟨MB, hMB⟩ : ∃ MB, MB = [87, 76, 79, 71] ++ numB gen ++ numB (k : Int) ++ numB (b.length : Int) ++ numB sm := ⟨_, rfl⟩
  rw [← hMB] at ho7
  have hM36 : MB.length = 36 := by rw [hMB]; simp [length_numB]
  have hMK : pad64 MB = markOf gen k b := by
    rw [hMB]; unfold markOf markS markB; rw [HSM.out]; simp only [List.append_assoc]
  have hv7 := ho7.bytes
  obtain ⟨_, a7, c7, rfl, h7a, _, h7⟩ := hv7
  rw [hM36] at h7 h7a
  obtain ⟨b7, o7, rfl, hlt7, hc7⟩ := h7 (by decide)
  have hc7 : ∀ wr, Below w7.heap.size w7 wr → ∀ (j : Nat) (hj : j < MB.length), wr.cell? ⟨b7, o7 + j, none⟩ = some (.int .u8 (MB[j].toNat : Int)) := fun wr hb j hj => (hb.cell (p := ⟨b7, o7 + j, none⟩) hlt7).trans (hc7 j _ (u8s_at hj))
  have hBw7 := HB13.out.trans ((((HB4.out.trans (HB5.out.mono HB4.out.size)).trans (HB6.out.mono (Nat.le_trans HB4.out.size HB5.out.size))).trans (hb7.mono (Nat.le_trans (Nat.le_trans HB4.out.size HB5.out.size) HB6.out.size))).mono HB13.out.size)
  have hG7 : w7.heap[w.heap.size]? = some (.cells (u8s zeroS).toArray 73 (0, 0)) := (hBw7.block _ (block_lt HG1.out)).trans HG1.out
  obtain ⟨w8, hw8⟩ : ∃ w8, w8 = w7.alloc (.cells z0.cells 73) := ⟨_, rfl⟩
  have hs8 : w8.heap[w7.heap.size]? = some (.cells (u8s (pad64 (MB.take 0))).toArray 73 (0, 0)) := by rw [hw8, HZ0.out, List.take_zero, pad64_nil]; exact heap_alloc_new w7 _
  have hb8 : Below w7.heap.size w7 w8 := by rw [hw8]; exact Below.alloc (Below.refl _ _) (Nat.le_refl _) _
  have hlt : w.heap.size < w7.heap.size := block_lt hG7
  have HB17 := Lib.hid (HB1.out.trans (hBw7.mono HB1.out.size))
  have HW8 := Lib.hid hw8
  have HM := Lib.hid hMK
  have HC7 := Lib.hid hc7
  have HG7 := Lib.hid hG7
  have HS8 := Lib.hid hs8
  rw [hM36]
  have HM36 := Lib.hid hM36
  obtain ⟨g8, hg8⟩ : ∃ g8, g8 = w7.heap.size := ⟨_, rfl⟩
  have hne : w.heap.size < g8 := by omega
  clear hMB hMK hc7 hBw7 hG7 hw8 hs8 ho7 hb7 h7a hlt7 hM36 hlt
  go_wp2_with (with_reducible refine wp_alloc_to (w' := w8) 73 rfl rfl (HZR.out _) HW8.out ?_; refine Halt.in ?_)
  refine Halt.out ?_
  rw [← hg8]
  have HG8 := Lib.hid hg8
  clear hg8
  go_wp2_with fail
  go_loopw [9] (fun i wr => ∃ j : Nat, j ≤ 36 ∧ i = .int .i64 j ∧ Below g8 w7 wr ∧ wr.heap[g8]? = some (.cells (u8s (pad64 (MB.take j))).toArray 73 (0, 0))) (fun i _ => 36 - (intOf i).toNat)
  case atStart => exact ⟨0, by decide, rfl, by rw [HG8.out]; exact hb8, by rw [HG8.out]; exact HS8.out⟩
  case round =>
    obtain ⟨j, hj, rfl, hbr, hrow⟩ := hrel
    have HBR := Lib.hid hbr
    have HROW := Lib.hid hrow
    clear hbr
    by_cases hlt : j < 36
    · have k0 : decide ((j : Int) < 36) = true := by simp; omega
      have hjM : j < MB.length := by rw [HM36.out]; exact hlt
      have hcell := HC7.out wr (HG8.out ▸ HBR.out) j hjM
      have hfz := frozen_row hrow
      have hold := fill_old hrow (Nat.le_of_lt hjM) (by omega)
      have HF := Lib.hid (fill_cell hrow hjM (by omega))
      have HBS := Lib.hid (HBR.out.setCell (p := ⟨g8, j, none⟩) (Nat.le_refl _) (.int .u8 (MB[j].toNat : Int)))
      obtain ⟨cv, hcv⟩ : ∃ cv, cv = MB[j] := ⟨_, rfl⟩
      rw [← hcv] at hcell HF HBS
      clear hcv hrow hjM
      have j1 : (0 : Int) ≤ (j : Int) := by omega
      have j2 : (j : Int) < 36 := by omega
      have j3 : (j : Int) < 64 := by omega
      go_wp2_with fail
      go_roundw
      case rel => exact ⟨j + 1, by omega, by go_num, HBS.out, HF.out⟩
      case measure => simp [intOf]; omega
    · have k0 : decide ((j : Int) < 36) = false := by simp; omega
      have hall : pad64 (MB.take j) = markOf gen k b := by rw [fill_all (.inl (by rw [HM36.out]; omega)), HM.out]
      rw [hall] at hrow HROW
      obtain ⟨X, hX⟩ : ∃ X, X = (u8s (markOf gen k b)).toArray := ⟨_, rfl⟩
      have hXs : X.size = 64 := by rw [hX]; simp [length_u8s, markOf, length_markS]
      have hXo : ∀ v ∈ X.toList, v.oneCell' = true := by rw [hX]; simpa using oneCell_u8s _
      rw [← hX] at hrow HROW
      have hld := run_loadVar_row (P := Tryd.prog) wr g8 73 73 X (0, 0) _ hrow Tryd.underlying73 rfl (by rw [hXs]; exact size_sector)
      have hGr : wr.heap[w.heap.size]? = some (.cells (u8s zeroS).toArray 73 (0, 0)) := (HBR.out.block _ hne).trans HG7.out
      obtain ⟨w9, hst, G9, hb9, _, _, _⟩ := store64 hGr (by simp [length_u8s, zeroS]) X hXs hXo
      have HG9 := Lib.hid G9
      have HXS := Lib.hid hXs
      have HX := Lib.hid hX
      have HBB := Lib.hid ((HB17.out.trans (HBR.out.mono (Nat.le_of_lt hne))).trans (hb9.mono (Nat.le_refl _)))
      clear hrow hGr hb9 G9 hXs hXo hall hX
      go_wp2_with (refine wp_load_at (.tmp 8) 73 rfl rfl rfl hld ?_; clear hld; refine Halt.in ?_)
      refine Halt.out ?_
      refine wp_store_at (.tmp 6) (.tmp 39) 73 rfl rfl rfl rfl hst ?_
      clear hst
      go_wp2_with fail
      refine bodyPost_ret (results_cell_row rfl _ _ w.heap.size _ _ _ _ rfl HG9.out Tryd.underlying73 rfl (by rw [HXS.out]; exact size_sector)) rfl ?_
      exact ⟨by rw [← HX.out], HBB.out⟩
end Go.Proofs.YtaijompnohkmaaaDoor
/- Layer 5 (wal), the document's answer: a record's bytes, laid behind its mark. -/
namespace Go.Proofs.YtaijompnohkmaaaDoor
open Go.RowKit WalP PackP
theorem WorkAt.lt {g : Nat} {w : World} {x : DiskP × Int} (h : WorkAt g w x) : g < w.heap.size := by
  obtain ⟨_, _, _, _, h, _⟩ := h; exact block_lt h
theorem foldW_succ (at_ : Int) (bs : List UInt8) (k : Nat) (hk : k < (bs.length + 63) / 64) (x : DiskP × Int) : ((bytesD at_ bs).take (k + 1)).foldl stepW x = stepW (((bytesD at_ bs).take k).foldl stepW x) (.put (at_ + 1 + k) (pad64 (bs.drop (64 * k)))) := by
  rw [bytesD_succ at_ bs k hk, List.foldl_append]; rfl
set_option maxRecDepth 100000 in
set_option maxHeartbeats 2000000 in
theorem wbytes_any {g : Nat} (x : DiskP × Int) (at_ : Int) (v : Value) (bs : List UInt8) (w : World) (hh : WorkAt g w x) (hv : Bytes g w v bs) (hlen : bs.length ≤ 2 ^ 20) (ha0 : 0 ≤ at_) (ha1 : at_ ≤ 2 ^ 40) :
    Calls Tryd.prog 45 #[.pointer (some ⟨g, 0, none⟩), .int .i64 at_, v] w fun e w' => e = .returned (.tuple #[]) ∧ WorkAt g w' ((bytesD at_ bs).foldl stepW x) ∧ w.grownBy w' (some g) := by
  obtain ⟨z0, hz0, hzr⟩ := zero44
  obtain ⟨N, hN⟩ : ∃ N, N = (bs.length + 63) / 64 := ⟨_, rfl⟩
  obtain ⟨L, hL⟩ : ∃ L, L = bs.length := ⟨_, rfl⟩
  have HV := Lib.hid hv
  obtain ⟨_, a0, c0, rfl, q1, q2, h4⟩ := hv
  rw [← hL] at hN q1 h4 HV hlen ⊢
  have h4 : 0 < L → ∃ b off, a0 = some ⟨b, off, none⟩ ∧ b < g ∧ ∀ (j : Nat) (hj : j < bs.length), w.cell? ⟨b, off + j, none⟩ = some (.int .u8 (bs[j].toNat : Int)) := fun h => by
    obtain ⟨b, off, h1, h2, h3⟩ := h4 h
    exact ⟨b, off, h1, h2, fun j hj => h3 j _ (u8s_at hj)⟩
  have HH := Lib.hid hh
  have HN := Lib.hid hN
  have HL := Lib.hid hL
  have H4 := Lib.hid h4
  have HZ := Lib.hid hzr
  have HZ0 := Lib.hid hz0
  clear hh hN hzr hz0 hL h4 q2
  go_enter Tryd.func45, Tryd.ntmps45
  go_wp2_with fail
  go_loopw [6] (fun i wr => ∃ (k : Nat) (xk : DiskP × Int), k ≤ N ∧ i = .int .i64 (64 * (k : Int)) ∧ WorkAt g wr xk ∧ xk = ((bytesD at_ bs).take k).foldl stepW x ∧ w.grownBy wr (some g)) (fun i _ => (64 * N - (intOf i).toNat))
  case atStart => exact ⟨0, x, Nat.zero_le _, rfl, HH.out, rfl, only_refl _ _⟩
  case round =>
    obtain ⟨k, xk, hk, rfl, hwk, hxk, ho⟩ := hrel
    obtain ⟨I, hI⟩ : ∃ I, I = 64 * k := ⟨_, rfl⟩
    have hIz : 64 * (k : Int) = (I : Int) := by omega
    rw [hIz]
    have HWK := Lib.hid hwk
    have HXK := Lib.hid hxk
    have HO := Lib.hid ho
    have hNL := HN.out
    clear hwk hxk ho hIz
    by_cases hlt : I < L
    · have k0 : decide ((I : Int) < (L : Int)) = true := by simp; omega
      have hkN : k < N := by omega
      obtain ⟨b, off, rfl, hbg, hcl⟩ := H4.out (by omega)
      have HCL := Lib.hid hcl
      have hgr := HWK.out.lt
      obtain ⟨w1, hw1⟩ : ∃ w1, w1 = wr.alloc (.cells z0.cells 73) := ⟨_, rfl⟩
      have hb1 : Below wr.heap.size wr w1 := by rw [hw1]; exact Below.alloc (Below.refl _ _) (Nat.le_refl _) _
      have hX1 : w1.heap[wr.heap.size]? = some (.cells (u8s (pad64 ((bs.drop I).take 0))).toArray 73 (0, 0)) := by rw [hw1, List.take_zero, pad64_nil, ← HZ0.out]; exact heap_alloc_new wr _
      obtain ⟨s, hs⟩ : ∃ s, s = wr.heap.size := ⟨_, rfl⟩
      rw [← hs] at hb1 hX1 hgr
      have HW1 := Lib.hid hw1
      have HB1 := Lib.hid hb1
      have HX1 := Lib.hid hX1
      have HS := Lib.hid hs
      have hI20 : I ≤ 2 ^ 20 := by omega
      have HI := Lib.hid hI
      clear hw1 hb1 hX1 hcl hNL hI
      go_wp2_with (refine wp_alloc_to (w' := w1) 73 rfl rfl (HZ.out _) HW1.out ?_; refine Halt.in ?_)
      refine Halt.out ?_
      rw [← HS.out]
      clear hs
      obtain ⟨wo, hwo⟩ : ∃ wo, wo = wr := ⟨_, rfl⟩
      subst hwo
      go_wp2_with fail
      go_loopw [8] (fun j w2 => ∃ q : Nat, q ≤ 64 ∧ I + q ≤ L ∧ j = .int .i64 q ∧ Below s wo w2 ∧ w2.heap[s]? = some (.cells (u8s (pad64 ((bs.drop I).take q))).toArray 73 (0, 0))) (fun j _ => 64 - (intOf j).toNat)
      case atStart => exact ⟨0, by decide, by omega, rfl, HB1.out, HX1.out⟩
      case round =>
        obtain ⟨q, hq, hqL, rfl, hb2, hrow⟩ := hrel
        have HB2 := Lib.hid hb2
        have HROW := Lib.hid hrow
        clear hb2
        by_cases hq2 : q < 64 ∧ I + q < L
        · have k1 : decide ((q : Int) < 64) = true := by simp; omega
          have k2 : decide ((I : Int) + (q : Int) < (L : Int)) = true := by simp; omega
          have hqB : q < (bs.drop I).length := by rw [List.length_drop, ← HL.out]; omega
          have hjB : I + q < bs.length := by rw [← HL.out]; omega
          have hge : (bs.drop I)[q] = bs[I + q] := by rw [List.getElem_drop]
          have hbs : b < wo.heap.size := Nat.lt_trans hbg HWK.out.lt
          have hcell : wr.cell? ⟨b, off + (I + q), none⟩ = some (.int .u8 (bs[I + q].toNat : Int)) := by
            rw [HB2.out.cell (p := ⟨b, off + (I + q), none⟩) (by rw [HS.out]; exact hbs)]
            have : w.cell? ⟨b, off + (I + q), none⟩ = _ := HCL.out (I + q) hjB
            rw [← this]
            exact (below_of_only HO.out (Nat.le_refl g) (Nat.le_of_lt HH.out.lt)).cell (p := ⟨b, off + (I + q), none⟩) hbg
          have hfz := frozen_row hrow
          have hold := fill_old hrow (Nat.le_of_lt hqB) (by omega)
          have hset := fill_cell hrow hqB (by omega)
          rw [hge] at hset
          have HF := Lib.hid hset
          have HBS := Lib.hid (HB2.out.setCell (p := ⟨s, q, none⟩) (Nat.le_refl _) (.int .u8 (bs[I + q].toNat : Int)))
          obtain ⟨cv, hcv⟩ : ∃ cv, cv = bs[I + q] := ⟨_, rfl⟩
          rw [← hcv] at hcell HF HBS
          clear hcv hrow hset hge hqB hjB
          have j1 : (0 : Int) ≤ (q : Int) := by omega
          have j2 : (q : Int) < 64 := by omega
          have j3 : (I : Int) + (q : Int) < (L : Int) := by omega
          have j4 : (0 : Int) ≤ (I : Int) + (q : Int) := by omega
          have j5 : ((I : Int) + (q : Int)).toNat = I + q := by omega
          go_wp2_with fail
          go_roundw
          case rel => exact ⟨q + 1, by omega, by omega, by go_num, HBS.out, HF.out⟩
          case measure => simp [intOf]; omega
        · have hall : pad64 ((bs.drop I).take q) = pad64 (bs.drop I) := fill_all (by rw [List.length_drop, ← HL.out]; omega)
          rw [hall] at hrow
          have hbs2 := HB2.out
          obtain ⟨X, hX⟩ : ∃ X, X = (u8s (pad64 (bs.drop I))).toArray := ⟨_, rfl⟩
          have hXs : X.size = 64 := by rw [hX]; simp [length_u8s, length_pad64]
          have hXo : ∀ v ∈ X.toList, v.oneCell' = true := by rw [hX]; simpa using oneCell_u8s _
          have hwk := HWK.out.below (HB2.out.mono (Nat.le_of_eq HS.out.symm))
          have kp := wput_any xk (at_ + 1 + (I : Int) / 64) (pad64 (bs.drop I)) wr hwk (length_pad64 _)
          have hst : stepW xk (.put (at_ + 1 + (I : Int) / 64) (pad64 (bs.drop I))) = ((bytesD at_ bs).take (k + 1)).foldl stepW x := by
            rw [foldW_succ at_ bs k (by rw [← HL.out, ← HN.out]; exact hkN), ← HXK.out, ← HI.out, show (I : Int) / 64 = (k : Int) by rw [HI.out]; omega]
          rw [hst] at kp
          clear hst
          rw [← hX] at hrow kp
          have hld := run_loadVar_row (P := Tryd.prog) wr s 73 73 X (0, 0) _ hrow Tryd.underlying73 rfl (by rw [hXs]; exact size_sector)
          have HO2 := Lib.hid (only_trans HO.out (only_of_below (g := g) (HB2.out.mono (Nat.le_of_eq HS.out.symm))))
          have hcs : (decide ((q : Int) < 64) = true ∧ decide ((I : Int) + (q : Int) < (L : Int)) = false) ∨ decide ((q : Int) < 64) = false := by
            by_cases h : q < 64
            · left; constructor
              · simp; omega
              · simp; omega
            · right; simp; omega
          have KP := Lib.hid kp
          clear hall hbs2 hX hXs hXo hwk hrow kp hq2
          rcases hcs with ⟨k1, k2⟩ | k1
          all_goals (
            go_wp2_with (refine wp_load_at (.tmp 7) 73 rfl rfl rfl hld ?_; clear hld; refine Halt.in ?_)
            refine Halt.out ?_
            go_wp2_with fail
            refine KP.out.mono ?_
            rintro e w3 ⟨rfl, hw3, ho3⟩
            have HW3 := Lib.hid hw3
            have HO3 := Lib.hid (only_trans HO2.out ho3)
            clear hw3 ho3
            go_wp2_with fail
            go_roundw
            case rel => exact ⟨k + 1, _, by omega, by rw [HI.out]; congr 1, HW3.out, rfl, HO3.out⟩
            case measure => have h1 := HI.out; have h2 := HN.out; first | (simp [intOf]; done) | (simp [intOf]; omega))
    · have k0 : decide ((I : Int) < (L : Int)) = false := by simp; omega
      have HE := Lib.hid (show WorkAt g wr ((bytesD at_ bs).foldl stepW x) by
        have e : (bytesD at_ bs).take k = bytesD at_ bs := List.take_of_length_le (by unfold bytesD; simp; have := HL.out; omega)
        have h := HWK.out
        rw [HXK.out, e] at h
        exact h)
      clear hI
      go_wp2_with fail
      go_end0
      exact ⟨rfl, HE.out, HO.out⟩
end Go.Proofs.YtaijompnohkmaaaDoor
/- Layer 5 (wal), the document's answer: a half is laid. -/
namespace Go.Proofs.YtaijompnohkmaaaDoor
open Go.RowKit WalP PackP
theorem takesZ_small (n : Nat) : (takesZ (n : Int)) = (takes n : Int) := takesZ_nat n
set_option maxRecDepth 100000 in
set_option maxHeartbeats 4000000 in
theorem wlay_any {g : Nat} (x : DiskP × Int) (which gen : Int) (v : Value) (list : List (List UInt8)) (w : World) (hh : WorkAt g w x) (hv : Pieces g w v list)
    (hw0 : 0 ≤ which * (half x.1 : Nat)) (hw1 : which * (half x.1 : Nat) ≤ 2 ^ 20) (hl1 : ∀ b ∈ list, b.length ≤ 2 ^ 20) (hl2 : list.length ≤ 2 ^ 20) (hl3 : list ≠ []) :
    Calls Tryd.prog 53 #[.pointer (some ⟨g, 0, none⟩), .int .i64 which, .int .i64 gen, v] w fun e w' => e = .returned (.tuple #[]) ∧ WorkAt g w' ((layD (half x.1) which gen list).foldl stepW x) ∧ w.grownBy w' (some g) := by
  obtain ⟨H, hH⟩ : ∃ H, H = half x.1 := ⟨_, rfl⟩
  have HH := Lib.hid hh
  have hlt := hh.lt
  obtain ⟨p1, q1, p2, q2, hg, hd⟩ := hh
  have hS2 : x.1.secs.length ≤ 2 ^ 63 - 1 := by
    obtain ⟨sv, lv, hv', h1, _⟩ := hd
    cases hv'
    obtain ⟨_, a', c', hv', hn, hc, _⟩ := h1.2
    cases hv'
    unfold maxLen at hc
    omega
  have hH2 : H ≤ 2 ^ 62 := by rw [hH]; unfold half; omega
  obtain ⟨a, c, rfl, hnc, hc63, hat⟩ := hv.at_
  rw [← hH] at hw0 hw1 ⊢
  have C0 := cell_of_row w _ 0 _ _ _ hg
  obtain ⟨S, hS⟩ : ∃ S, S = x.1.secs.length := ⟨_, rfl⟩
  rw [← hS] at C0 hS2
  have hSH : (S : Int) / 2 = (H : Int) := by rw [hH, hS]; unfold half; omega
  have HAT := Lib.hid hat
  have HL1 := Lib.hid hl1
  have HL3 := Lib.hid hl3
  have HHH := Lib.hid hH
  have HB0 := fun w => Lib.hid (run_build0 w)
  obtain ⟨Z, hZ⟩ : ∃ Z, Z = (u8s zeroS).toArray := ⟨_, rfl⟩
  simp only [← hZ] at HB0
  have HZ := Lib.hid hZ
  obtain ⟨n, hn⟩ : ∃ n, n = list.length := ⟨_, rfl⟩
  rw [← hn] at hnc hl2 ⊢
  have HN := Lib.hid hn
  have HSH := Lib.hid hSH
  clear hv hat hl1 hl3 hg hd hH hZ hn hS hSH
  go_enter Tryd.func53, Tryd.ntmps53
  go_upto_region 1 with (fail)
  rw [HSH.out]
  obtain ⟨F, hF⟩ : ∃ F, F = which * (H : Int) := ⟨_, rfl⟩
  go_upto_region 2 with (fail)
  rw [← hF] at hw0 hw1 ⊢
  have HF := Lib.hid hF
  clear hF
  go_wp2_with fail
  go_loopw [10] (fun z wr => ∃ (k : Nat) (xk : DiskP × Int), k ≤ H ∧ z = .int .i64 k ∧ WorkAt g wr xk ∧ xk = ((zerosD F H).take k).foldl stepW x ∧ w.grownBy wr (some g)) (fun z _ => H - (intOf z).toNat)
  case atStart => exact ⟨0, x, Nat.zero_le _, rfl, HH.out, rfl, only_refl _ _⟩
  case round =>
    obtain ⟨k, xk, hk, rfl, hh, hxk, ho⟩ := hrel
    have HXK := Lib.hid hxk
    have HO := Lib.hid ho
    have HWK := Lib.hid hh
    clear hh hxk ho
    by_cases hkH : k < H
    · have k0 : decide ((k : Int) < (H : Int)) = true := by simp; omega
      have hsum : IntKind.i64.wrap (F + (k : Int)) = F + (k : Int) := by
        simp only [IntKind.wrap, IntKind.bits, IntKind.signed]
        simp
        omega
      have kp := wput_any xk (F + (k : Int)) zeroS wr HWK.out rfl
      rw [← HZ.out] at kp
      have hst : stepW xk (.put (F + (k : Int)) zeroS) = ((zerosD F H).take (k + 1)).foldl stepW x := by
        rw [zerosD_succ F H k hkH, List.foldl_append, ← HXK.out]; rfl
      rw [hst] at kp
      have hb0 := (HB0 wr).out
      clear hst
      go_wp2_with (refine wp_build_l 73 [] rfl rfl rfl hb0 ?_; refine Halt.in ?_)
      refine Halt.out ?_
      clear hb0
      go_wp2_with fail
      refine kp.mono ?_
      rintro e w3 ⟨rfl, hw3, ho3⟩
      have HO3 := Lib.hid (only_trans HO.out ho3)
      have HW3 := Lib.hid hw3
      clear kp hw3 ho3
      go_wp2_with fail
      go_roundw
      case rel => exact ⟨k + 1, _, by omega, by go_num, HW3.out, rfl, HO3.out⟩
      case measure => simp [intOf]; omega
    · have k0 : decide ((k : Int) < (H : Int)) = false := by simp; omega
      obtain rfl : k = H := by omega
      have kf := wflush_any xk wr HWK.out
      have hst : stepW xk .flush = (layA F k gen list 0).foldl stepW x := by
        rw [layA_zero, List.foldl_append, HXK.out, zerosD_all F k k (Nat.le_refl _)]; rfl
      rw [hst] at kf
      clear hst
      go_wp2_with fail
      refine kf.mono ?_
      rintro e w3 ⟨rfl, hw3, ho3⟩
      have HO3 := Lib.hid (only_trans HO.out ho3)
      have HW3 := Lib.hid hw3
      clear kf hw3 ho3
      go_wp2_with fail
      go_loopw [11, 12] (fun y z wr => ∃ (i : Nat) (xi : DiskP × Int), i ≤ n ∧ z = .int .i64 i ∧ y = .int .i64 (F + posN (list.take i)) ∧ WorkAt g wr xi ∧ xi = (layA F k gen list i).foldl stepW x ∧ w.grownBy wr (some g)) (fun _ z _ => n - (intOf z).toNat)
      case atStart => exact ⟨0, _, Nat.zero_le _, rfl, by simp [posN], HW3.out, rfl, HO3.out⟩
      case round =>
        obtain ⟨i, xi, hi, rfl, rfl, hh, hxi, ho⟩ := hrel
        have HXI := Lib.hid hxi
        have HOI := Lib.hid ho
        have HWI := Lib.hid hh
        have hbg := below_hand ho hlt
        have hpl := posN_le (list.take i)
        have hpl2 : (list.take i).length ≤ i := List.length_take_le _ _
        obtain ⟨ps, hps⟩ : ∃ ps, ps = posN (list.take i) := ⟨_, rfl⟩
        rw [← hps] at hpl ⊢
        have HPS := Lib.hid hps
        clear hh hxi ho HW3 HO3 HWK HO hps
        obtain ⟨at_, hate⟩ : ∃ z, z = F + (ps : Int) := ⟨_, rfl⟩
        have hat0 : 0 ≤ at_ := by omega
        have hat1 : at_ ≤ 2 ^ 30 := by omega
        rw [← hate]
        have HATE := Lib.hid hate
        by_cases hin : i < n
        · have k1 : decide ((i : Int) < (n : Int)) = true := by simp; omega
          have hil : i < list.length := HN.out ▸ hin
          obtain ⟨b, off, a2, c2, rfl, hbg2, hcell⟩ := HAT.out i hil
          obtain ⟨hE, hBy⟩ := hcell wr hbg
          have HCELL := Lib.hid hcell
          have hbl := HL1.out _ (List.getElem_mem hil)
          obtain ⟨bl, hbe⟩ : ∃ bl, bl = list[i] := ⟨_, rfl⟩
          rw [← hbe] at hE hBy hbl
          have HBE := Lib.hid hbe
          have kb := wbytes_any xi at_ _ bl wr HWI.out hBy hbl hat0 (by omega)
          have HBY := Lib.hid hBy
          have hstep : layA F k gen list (i + 1) = layA F k gen list i ++ recD at_ gen i bl := by
            rw [layA_succ F k gen list i hil, HATE.out, HPS.out, HBE.out]
          have HSTEP := Lib.hid hstep
          have hpos : (F + (posN (list.take (i + 1)) : Nat) : Int) = at_ + (takes bl.length : Nat) := by
            have e : list.take (i + 1) = list.take i ++ [list[i]] := by rw [List.take_add_one, List.getElem?_eq_getElem hil]; rfl
            rw [e, posN_append, HATE.out, HPS.out, HBE.out]
            simp [posN]
            omega
          have HPOS := Lib.hid hpos
          have hi0 : (0 : Int) ≤ (i : Int) := by omega
          have hi1 : (i : Int) < (n : Int) := by omega
          have htk := takes_le bl.length
          clear hcell hBy hbe hate hstep hpos
          go_wp2_with fail
          refine kb.mono ?_
          rintro e w4 ⟨rfl, hw4, ho4⟩
          have HO4 := Lib.hid (only_trans HOI.out ho4)
          have HW4 := Lib.hid hw4
          have hbg4 := below_hand HO4.out hlt
          obtain ⟨hE4, hBy4⟩ := HCELL.out w4 hbg4
          rw [← HBE.out] at hE4 hBy4
          have kt := fun w => refTakes_any (bl.length : Int) w
          simp only [takesZ_nat] at kt
          clear kb hw4 ho4 hbg4 hE hbg
          by_cases hi0' : i = 0
          · subst hi0'
            have hst : (bytesD at_ bl).foldl stepW xi = (layA F k gen list (0 + 1)).foldl stepW x := by
              rw [HSTEP.out, List.foldl_append, ← HXI.out, recD, if_neg (Nat.lt_irrefl 0), List.append_nil]
            have HST := Lib.hid hst
            have kt := kt w4
            rw [Nat.add_zero] at hE4
            clear hst hBy4
            go_wp2_with fail
            refine kt.mono ?_
            rintro e w9 ⟨rfl, rfl⟩
            clear kt
            go_wp2_with fail
            go_roundw
            case rel => exact ⟨0 + 1, _, by omega, by go_num, by rw [HPOS.out], HW4.out, HST.out, HO4.out⟩
            case measure => simp [intOf]; omega
          · have hi2 : decide ((0 : Int) < (i : Int)) = true := by simp; omega
            have hbl40 : bl.length ≤ 2 ^ 40 := by omega
            have km := refMark_any gen i _ bl w4 hBy4 hbl40
            clear hBy4
            go_wp2_with fail
            refine km.mono ?_
            rintro e w5 ⟨rfl, hb5⟩
            have hw5 := HW4.out.below hb5
            have kp := wput_any _ at_ (markOf gen i bl) w5 hw5 (length_markS _ _ _ _)
            have hst : stepW ((bytesD at_ bl).foldl stepW xi) (.put at_ (markOf gen i bl)) = (layA F k gen list (i + 1)).foldl stepW x := by
              rw [HSTEP.out, List.foldl_append, ← HXI.out, recD, if_pos (by omega), List.foldl_append]; rfl
            rw [hst] at kp
            have HO5 := Lib.hid (only_trans HO4.out (only_of_below hb5))
            clear hst hw5 hb5 km
            go_wp2_with fail
            refine kp.mono ?_
            rintro e w6 ⟨rfl, hw6, ho6⟩
            have HO6 := Lib.hid (only_trans HO5.out ho6)
            have HW6 := Lib.hid hw6
            have hbg6 := below_hand HO6.out hlt
            obtain ⟨hE6, hBy6⟩ := HCELL.out w6 hbg6
            rw [← HBE.out] at hE6 hBy6
            have kt := kt w6
            clear kp hw6 ho6 hbg6 hBy6 hE4
            go_wp2_with fail
            refine kt.mono ?_
            rintro e w9 ⟨rfl, rfl⟩
            clear kt
            go_wp2_with fail
            go_roundw
            case rel => exact ⟨i + 1, _, by omega, by go_num, by rw [HPOS.out], HW6.out, rfl, HO6.out⟩
            case measure => simp [intOf]; omega
        · have k1 : decide ((i : Int) < (n : Int)) = false := by simp; omega
          obtain rfl : i = n := by omega
          have kf := wflush_any xi wr HWI.out
          have hn0 : 0 < i := by
            rw [HN.out]
            exact List.length_pos_iff.2 HL3.out
          have hil : 0 < list.length := HN.out ▸ hn0
          obtain ⟨b, off, a2, c2, rfl, hbg2, hcell⟩ := HAT.out 0 hil
          have HCELL := Lib.hid hcell
          have hhead : list.headD [] = list[0] := by cases list with | nil => simp at hil | cons x l => rfl
          have heq := layD_eq k which gen list
          rw [← HF.out, hhead] at heq
          have hbl := HL1.out _ (List.getElem_mem hil)
          obtain ⟨bl, hbe⟩ : ∃ bl, bl = list[0] := ⟨_, rfl⟩
          rw [← hbe] at heq hbl
          have HBE := Lib.hid hbe
          have HEQ := Lib.hid heq
          have hi1 : (0 : Int) < (i : Int) := by omega
          clear hcell hhead heq hbe
          go_wp2_with fail
          refine kf.mono ?_
          rintro e w3 ⟨rfl, hw3, ho3⟩
          have HO3 := Lib.hid (only_trans HOI.out ho3)
          have HW3 := Lib.hid hw3
          have hbg3 := below_hand HO3.out hlt
          obtain ⟨hE, hBy⟩ := HCELL.out w3 hbg3
          rw [Nat.add_zero] at hE
          rw [← HBE.out] at hE hBy
          have km := refMark_any gen 0 _ bl w3 hBy (by omega)
          clear kf hw3 ho3 hbg3 hBy
          go_wp2_with fail
          refine km.mono ?_
          rintro e w5 ⟨rfl, hb5⟩
          have hw5 := HW3.out.below hb5
          have kp := wput_any _ F (markOf gen 0 bl) w5 hw5 (length_markS _ _ _ _)
          have HO5 := Lib.hid (only_trans HO3.out (only_of_below hb5))
          clear hw5 hb5 km hE
          go_wp2_with fail
          refine kp.mono ?_
          rintro e w6 ⟨rfl, hw6, ho6⟩
          have HO6 := Lib.hid (only_trans HO5.out ho6)
          have kf := wflush_any _ w6 hw6
          have hall : stepW (stepW (stepW xi .flush) (.put F (markOf gen 0 bl))) .flush = (layD k which gen list).foldl stepW x := by
            rw [HEQ.out, List.foldl_append, ← HN.out, ← HXI.out]; rfl
          rw [hall] at kf
          clear hall kp hw6 ho6
          go_wp2_with fail
          refine kf.mono ?_
          rintro e w7 ⟨rfl, hw7, ho7⟩
          have HO7 := Lib.hid (only_trans HO6.out ho7)
          have HW7 := Lib.hid hw7
          clear kf hw7 ho7
          go_wp2_with fail
          go_end0
          exact ⟨rfl, HW7.out, HO7.out⟩
end Go.Proofs.YtaijompnohkmaaaDoor
