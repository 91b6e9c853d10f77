/- Layer 5 (wal): marks, laid. -/
import Derived.Test.YtaijompnohkmaaaDoorMD
import Derived.WalkSpells
import Derived.WalkLawsBesides
import Derived.Laws.BytesArg
namespace Go.Proofs.YtaijompnohkmaaaDoor
open Go.RowKit WalP PackP
/-- A mark as a value. -/
def markV (gen k len sum : Int) : Value := .agg #[.int .i64 gen, .int .i64 k, .int .i64 len, .int .u32 sum]
set_option maxRecDepth 100000 in
set_option maxHeartbeats 1000000 in
theorem of_any {B : Nat} (gen k : Int) (v : Value) (bs : List UInt8) (w : World) (ht : TabAt w) (hT : 0 < w.heap.size) (hv : Bytes B w v bs) :
    Calls Tryd.prog 43 #[.int .i64 gen, .int .i64 k, v] w fun e w' => e = .returned (markV gen k bs.length (SumP.toI (SumP.sum bs))) ∧ Below w.heap.size w w' := by
  have hv := hv.tight
  have hb := Below.alloc (Below.refl w.heap.size w) (Nat.le_refl _) (.cells #[.int .i64 0, .int .i64 0, .int .i64 0, .int .u32 0] 83)
  have k1 := sum_any v bs _ _ (ht.below hb hT) (hv.below hb)
  have hb := Below.alloc (Below.refl w.heap.size w) (Nat.le_refl _) (.cells #[.int .i64 gen, .int .i64 k, .int .i64 bs.length, .int .u32 (SumP.toI (SumP.sum bs))] 83)
  obtain ⟨_, a, cap, rfl, _, hcap, _⟩ := hv
  unfold maxLen at hcap
  go_enter Tryd.func43, Tryd.ntmps43
  go_wp2_with fail
  refine k1.mono ?_
  rintro e w' ⟨rfl, rfl⟩
  go_wp2_with fail
  unfold markV
  exact bodyPost_ret (v := .agg #[.int .i64 gen, .int .i64 k, .int .i64 bs.length, .int .u32 (SumP.toI (SumP.sum bs))]) (by simp [results, Tryd.results43, go_sem]) rfl ⟨rfl, hb⟩
theorem numsB4 (gen k len sum : Int) : [(87 : UInt8), 76, 79, 71] ++ numsB [gen, k, len, sum] = markB gen k len sum := by simp [numsB, markB]
theorem length_markB (gen k len sum : Int) : (markB gen k len sum).length = 36 := by simp [markB, numB, length_be]
theorem splice_pad (m : List UInt8) (hm : m.length ≤ 64) : splice (u8s zeroS) 0 (u8s m) = u8s (pad64 m) := by
  have e : u8s zeroS = List.replicate 64 (.int .u8 0) := by simp [u8s, zeroS, u8]
  have e2 : u8s (List.replicate (64 - m.length) 0) = List.replicate (64 - m.length) (.int .u8 0) := by rw [u8s, List.map_replicate]; rfl
  unfold splice pad64
  rw [e, u8s_append, e2, List.take_of_length_le hm, List.drop_replicate, length_u8s, Nat.zero_add]
  rfl
theorem info_u8s : (Tryd.prog.info? 5).map (·.size) = some 1 := by kernel_rfl
/-- A row at a block's head. -/
theorem row_of_heap {B g : Nat} {w : World} {C : Array Value} {e : TypeId} {fz : Nat × Nat} {sz n cap : Nat} {cs : List Value} (hg : w.heap[g]? = some (.cells C e fz)) (hB : g < B) (hl : cs.length = n * sz) (hnc : n ≤ cap) (hcap : cap ≤ maxLen)
    (hC : ∀ (k : Nat) (u : Value), cs[k]? = some u → C[k]? = some u) : Row B w (.slice (some ⟨g, 0, none⟩) n cap) sz n cs :=
  ⟨hl, _, cap, rfl, hnc, hcap, fun _ => ⟨g, 0, rfl, hB, fun k u hk => by rw [cell_of_row w g (0 + k) _ _ _ hg, Nat.zero_add]; exact hC k u hk⟩⟩
theorem addp (b off k : Nat) : (⟨b, off, none⟩ : Addr).add k = ⟨b, off + k, none⟩ := by unfold Addr.add; split <;> simp_all
theorem nums_mark (gen k len sum : Int) (gA gB : Nat) (w : World) {fz : Nat × Nat} (hA : w.heap[gA]? = some (.cells #[.int .u8 87, .int .u8 76, .int .u8 79, .int .u8 71] 5 fz)) (hB : w.heap[gB]? = some (.cells #[.int .i64 gen, .int .i64 k, .int .i64 len, .int .i64 sum] 3 (0, 0))) :
    Calls Tryd.prog 72 #[.slice (some ⟨gA, 0, none⟩) 4 4, .slice (some ⟨gB, 0, none⟩) 4 4] w fun e w' => (∃ ad cap, e = .returned (.slice (some ad) 36 cap) ∧ ∀ j v, (u8s (markB gen k len sum))[j]? = some v → w'.cell? (ad.add j) = some v) ∧ Below w.heap.size w w' := by
  have h1 : Bytes w.heap.size w (.slice (some ⟨gA, 0, none⟩) 4 4) [87, 76, 79, 71] := row_of_heap (sz := 1) (n := 4) hA (block_lt hA) rfl (Nat.le_refl _) (by decide) (fun k u hk => by simpa [u8s, u8] using hk)
  have h2 : Ints w.heap.size w (.slice (some ⟨gB, 0, none⟩) 4 4) [gen, k, len, sum] := row_of_heap (sz := 1) (n := 4) hB (block_lt hB) rfl (Nat.le_refl _) (by decide) (fun k u hk => by simpa using hk)
  refine (num_any _ _ _ _ w h1 h2 (by simp)).mono ?_
  rintro e w' ⟨v', rfl, ho, hb⟩
  rw [numsB4] at ho
  obtain ⟨_, a, cap, rfl, _, _, hc⟩ := ho.bytes
  rw [length_markB] at hc ⊢
  obtain ⟨b, off, rfl, _, hc⟩ := hc (by omega)
  exact ⟨⟨_, cap, rfl, fun j v hj => by rw [addp]; exact hc j v hj⟩, hb⟩
/-- Bytes of a constant: the row is marked. -/
theorem conv_mark {w : World} {g : Nat} {C : Array Value} {e : TypeId} (hg : w.heap[g]? = some (.cells C e (0, 0))) (l c : Nat) :
    ∃ w', (convert 43 43 (.slice (some ⟨g, 0, none⟩) l c)).run Tryd.prog w = .ok (.slice (some ⟨g, 0, none⟩) l c) w' ∧ w'.heap[g]? = some (.cells C e (C.size, C.size + 1)) ∧ Below g w w' ∧ w'.heap.size = w.heap.size ∧ ∀ k, k ≠ g → w'.heap[k]? = w.heap[k]? := by
  have hsh : w.shape? g = some (e, C.size) := by unfold World.shape?; rw [hg]
  have ho : ∀ k, k ≠ g → (w.freeze ⟨g, C.size, none⟩ 1).heap[k]? = w.heap[k]? := fun k hk => by
    unfold World.freeze
    rw [if_neg (by decide)]
    simp only [Array.getElem?_modify]
    rw [if_neg (fun h => hk h.symm)]
  refine ⟨w.freeze ⟨g, C.size, none⟩ 1, by simp [convert, run_underlying Tryd.underlying43, run_underlying Tryd.underlying5, markStringish, hsh], ?_, ⟨rfl, rfl, rfl, by simp [World.freeze], fun k hk => ho k (by omega)⟩, by simp [World.freeze], ho⟩
  unfold World.freeze
  rw [if_neg (by decide)]
  simp only [Array.getElem?_modify, hg]
  rfl
set_option maxRecDepth 100000 in
set_option maxHeartbeats 2000000 in
theorem sector_any (gen k len sum : Int) (w : World) (hs0 : 0 ≤ sum) (hs1 : sum < 2 ^ 32) :
    Calls Tryd.prog 44 #[markV gen k len sum] w fun e w' => e = .returned (.agg (u8s (markS gen k len sum)).toArray) ∧ Below w.heap.size w w' := by
  obtain ⟨z, hz, hzr⟩ := zero44
  obtain ⟨w1, hw1⟩ : ∃ w1, w1 = w.alloc (.cells #[.int .i64 gen, .int .i64 k, .int .i64 len, .int .u32 sum] 83) := ⟨_, rfl⟩
  obtain ⟨w2, hw2⟩ : ∃ w2, w2 = w1.alloc (.cells z.cells 73) := ⟨_, rfl⟩
  have hs1 : w1.heap.size = w.heap.size + 1 := by rw [hw1]; simp
  have hb1 : Below w.heap.size w w1 := by rw [hw1]; exact Below.alloc (Below.refl _ _) (Nat.le_refl _) _
  have hb2 : Below w1.heap.size w1 w2 := by rw [hw2]; exact Below.alloc (Below.refl _ _) (Nat.le_refl _) _
  have G1 : w2.heap[w.heap.size]? = some (.cells #[.int .i64 gen, .int .i64 k, .int .i64 len, .int .u32 sum] 83 (0, 0)) := (hb2.block _ (by omega)).trans (by rw [hw1]; exact heap_alloc_new w _)
  have G2 : w2.heap[w1.heap.size]? = some (.cells (u8s zeroS).toArray 73 (0, 0)) := by rw [hw2, ← hz]; exact heap_alloc_new w1 _
  rw [hs1] at G2
  have hB : Below w.heap.size w w2 := hb1.trans (hb2.mono hb1.size)
  have HW1 := Lib.hid hw1
  have HW2 := Lib.hid hw2
  have HZ := Lib.hid hzr
  clear hw1 hw2 hb1 hb2 hz hzr
  unfold markV
  go_enter Tryd.func44, Tryd.ntmps44
  go_wp2_with (refine wp_alloc_to (w' := w2) 73 rfl rfl (HZ.out _) ?_ ?_; (rw [← HW1.out]; exact HW2.out); refine Halt.in ?_)
  refine Halt.out ?_
  clear HW1 HW2 HZ
  go_upto_region 1 with (fail)
  go_cut [] from 3 to 17 (fun wx => Below w.heap.size w wx ∧ wx.heap[w.heap.size + 1]? = some (.cells (u8s (markS gen k len sum)).toArray 73 (0, 0)))
  case first =>
    have hG1 : ∀ w', Below (w.heap.size + 1) w2 w' → w'.heap[w.heap.size]? = _ := fun w' hb => (hb.block _ (by omega)).trans G1
    have hA0 : ∀ w', Below (w.heap.size + 1) w2 w' → _ := fun w' hb => cell_of_row w' _ 0 _ _ _ (hG1 w' hb)
    have hA1 : ∀ w', Below (w.heap.size + 1) w2 w' → _ := fun w' hb => cell_of_row w' _ 1 _ _ _ (hG1 w' hb)
    have hA2 : ∀ w', Below (w.heap.size + 1) w2 w' → _ := fun w' hb => cell_of_row w' _ 2 _ _ _ (hG1 w' hb)
    have hA3 : ∀ w', Below (w.heap.size + 1) w2 w' → _ := fun w' hb => cell_of_row w' _ 3 _ _ _ (hG1 w' hb)
    have hle : w.heap.size + 1 ≤ w2.heap.size := Nat.le_of_lt (block_lt G2)
    have hws : IntKind.i64.wrap sum = sum := by
      simp only [IntKind.wrap, IntKind.bits, IntKind.signed]
      simp
      omega
    have h00 : Below w2.heap.size w2 w2.drew := below_draws (Below.refl _ _) 1
    have HGG := Lib.hid G1
    clear hG1 G1
    refine wp_region_start (fun w' => Below (w.heap.size + 1) w2 w') (by kernel_rfl) (h00.mono hle) ?_
    refine wpAnyH_part [(false, 0), (false, 3), (false, 4), (false, 5), (false, 6), (false, 7), (false, 8), (false, 9), (false, 10), (false, 11)] (by kernel_rfl) (h00.mono hle) ?_
    repeat (first | (refine heldI_skip rfl rfl ?_; simp only [Act.put, List.setIfInBounds_toArray, List.set_cons_zero, List.set_cons_succ]) | (refine heldI_take rfl ?_ rfl (fun w' hw' => ?_) ?_; rotate_left; (go_simp; first | done | with_reducible rfl); (try simp only [Act.put, List.setIfInBounds_toArray, List.set_cons_zero, List.set_cons_succ])))
    refine heldI_nil ?_
    refine wpAnyH_ready (rs := [1, 12]) (by kernel_rfl) (by simp) ?_
    refine ready_cons rfl rfl (fun K hK => ?_) (ready_cons rfl rfl (fun K hK => ?_) AllReadyH.nil)
    · go_simp
      have hS3 : Below w2.heap.size w2 (w2.alloc (.cells #[.int .u8 87, .int .u8 76, .int .u8 79, .int .u8 71] 5)).drew := ((Below.refl _ _).alloc (Nat.le_refl _) _).drew
      refine hK.out _ _ (hS3.mono hle) ?_
      clear hK K
      have hA3 : (w2.alloc (.cells #[.int .u8 87, .int .u8 76, .int .u8 79, .int .u8 71] 5)).drew.heap[w2.heap.size]? = some (.cells #[.int .u8 87, .int .u8 76, .int .u8 79, .int .u8 71] 5 (0, 0)) := heap_alloc_new w2 _
      obtain ⟨w3, hww3⟩ : ∃ x, x = (w2.alloc (.cells #[.int .u8 87, .int .u8 76, .int .u8 79, .int .u8 71] 5)).drew := ⟨_, rfl⟩
      rw [← hww3] at hS3 hA3 ⊢
      clear hww3
      have hgA : w2.heap.size ≤ w2.heap.size := Nat.le_refl _
      refine wpAnyH_ready (rs := [2, 12]) (by kernel_rfl) (by simp) ?_
      refine ready_cons rfl rfl (fun K hK => ?_) (ready_cons rfl rfl (fun K hK => ?_) AllReadyH.nil)
      · obtain ⟨w4, hcv, hA4, hb4, hs4, ho4⟩ := conv_mark hA3 4 4
        have hS4 : Below w2.heap.size w2 w4 := hS3.trans (hb4.mono hgA)
        clear hs4 ho4
        go_simp
        refine hK.out _ _ (hS4.mono hle) ?_
        clear hK K hcv
        refine wpAnyH_end [(true, 12), (true, 13), (true, 14)] (by kernel_rfl) (hS4.mono hle) ?_
        refine heldI_act rfl rfl fun K hK => ?_

        go_simp
        have hS5 : Below w2.heap.size w2 (w4.alloc (.cells #[.int .i64 gen, .int .i64 k, .int .i64 len, .int .i64 sum] 3)) := hS4.alloc hS4.size _
        refine hK.out _ _ (hS5.mono hle) ?_
        clear hK K
        have hB5 : (w4.alloc (.cells #[.int .i64 gen, .int .i64 k, .int .i64 len, .int .i64 sum] 3)).heap[w4.heap.size]? = some (.cells #[.int .i64 gen, .int .i64 k, .int .i64 len, .int .i64 sum] 3 (0, 0)) := heap_alloc_new w4 _
        have hA5 := ((Below.alloc (Below.refl w4.heap.size w4) (Nat.le_refl _) (.cells #[.int .i64 gen, .int .i64 k, .int .i64 len, .int .i64 sum] 3)).block _ (block_lt hA4)).trans hA4
        obtain ⟨w5, hww5⟩ : ∃ x, x = (w4.alloc (.cells #[.int .i64 gen, .int .i64 k, .int .i64 len, .int .i64 sum] 3)) := ⟨_, rfl⟩
        rw [← hww5] at hS5 hB5 hA5 ⊢
        clear hww5

        have k1 := nums_mark gen k len sum _ _ w5 hA5 hB5
        refine heldI_act rfl rfl fun K hK => ?_
        go_simp
        refine k1.mono ?_
        rintro e w8 ⟨⟨ad, cap, rfl, hcs⟩, hb8⟩
        have hS8 := hS5.trans (hb8.mono hS5.size)
        refine hK.out _ _ (hS8.mono hle) ?_
        clear hK K
        have hG8 := (hS8.block _ (block_lt G2)).trans G2
        refine heldI_act rfl rfl fun K hK => ?_
        refine op_copy rfl (.tmp 3) (.tmp 16) 43 43 rfl 5 Tryd.underlying43 info_u8s _ _ 64 64 36 cap rfl rfl (w.heap.size + 1) 0 (u8s zeroS) _ hG8 (u8s (markB gen k len sum)) (by rw [length_u8s, length_markB]; rfl) (fun _ => ⟨rfl, ad, rfl, hcs⟩) (by rw [length_u8s, length_u8s, length_markB]; decide) (oneCell_u8s _) ?_
        intro w9 hG9 hb9 hs9 ho9
        rw [splice_pad _ (by rw [length_markB]; omega)] at hG9
        have hB9 : Below w.heap.size w w9 := (hB.trans (hS8.mono hB.size)).trans (hb9.mono (by omega))
        refine hK.out _ _ ((hS8.mono hle).trans hb9) ?_
        clear hK K hS8 hb8 k1 hb9
        refine heldI_nil ?_
        go_wp2_with fail
        go_meet
        case rel => exact ⟨hB9, hG9⟩
      · go_simp
        have hS4 : Below w2.heap.size w2 (w3.alloc (.cells #[.int .i64 gen, .int .i64 k, .int .i64 len, .int .i64 sum] 3)) := hS3.alloc hS3.size _
        refine hK.out _ _ (hS4.mono hle) ?_
        clear hK K
        have hB4 : (w3.alloc (.cells #[.int .i64 gen, .int .i64 k, .int .i64 len, .int .i64 sum] 3)).heap[w3.heap.size]? = some (.cells #[.int .i64 gen, .int .i64 k, .int .i64 len, .int .i64 sum] 3 (0, 0)) := heap_alloc_new w3 _
        have hA4 := ((Below.alloc (Below.refl w3.heap.size w3) (Nat.le_refl _) (.cells #[.int .i64 gen, .int .i64 k, .int .i64 len, .int .i64 sum] 3)).block _ (block_lt hA3)).trans hA3
        obtain ⟨w4, hww4⟩ : ∃ x, x = (w3.alloc (.cells #[.int .i64 gen, .int .i64 k, .int .i64 len, .int .i64 sum] 3)) := ⟨_, rfl⟩
        rw [← hww4] at hS4 hB4 hA4 ⊢
        clear hww4
        have hne : w3.heap.size ≠ w2.heap.size := by have := block_lt hA3; omega
        refine wpAnyH_end [(true, 2), (true, 13), (true, 14)] (by kernel_rfl) (hS4.mono hle) ?_
        refine heldI_act rfl rfl fun K hK => ?_

        obtain ⟨w5, hcv, hA5, hb5, hs5, ho5⟩ := conv_mark hA4 4 4
        have hS5 : Below w2.heap.size w2 w5 := hS4.trans (hb5.mono hgA)
        have hB5 := (ho5 _ hne).trans hB4
        clear hs5 ho5
        go_simp
        refine hK.out _ _ (hS5.mono hle) ?_
        clear hK K hcv

        have k1 := nums_mark gen k len sum _ _ w5 hA5 hB5
        refine heldI_act rfl rfl fun K hK => ?_
        go_simp
        refine k1.mono ?_
        rintro e w8 ⟨⟨ad, cap, rfl, hcs⟩, hb8⟩
        have hS8 := hS5.trans (hb8.mono hS5.size)
        refine hK.out _ _ (hS8.mono hle) ?_
        clear hK K
        have hG8 := (hS8.block _ (block_lt G2)).trans G2
        refine heldI_act rfl rfl fun K hK => ?_
        refine op_copy rfl (.tmp 3) (.tmp 16) 43 43 rfl 5 Tryd.underlying43 info_u8s _ _ 64 64 36 cap rfl rfl (w.heap.size + 1) 0 (u8s zeroS) _ hG8 (u8s (markB gen k len sum)) (by rw [length_u8s, length_markB]; rfl) (fun _ => ⟨rfl, ad, rfl, hcs⟩) (by rw [length_u8s, length_u8s, length_markB]; decide) (oneCell_u8s _) ?_
        intro w9 hG9 hb9 hs9 ho9
        rw [splice_pad _ (by rw [length_markB]; omega)] at hG9
        have hB9 : Below w.heap.size w w9 := (hB.trans (hS8.mono hB.size)).trans (hb9.mono (by omega))
        refine hK.out _ _ ((hS8.mono hle).trans hb9) ?_
        clear hK K hS8 hb8 k1 hb9
        refine heldI_nil ?_
        go_wp2_with fail
        go_meet
        case rel => exact ⟨hB9, hG9⟩
    · go_simp
      have hS3 : Below w2.heap.size w2 (w2.alloc (.cells #[.int .i64 gen, .int .i64 k, .int .i64 len, .int .i64 sum] 3)).drew := ((Below.refl _ _).alloc (Nat.le_refl _) _).drew
      refine hK.out _ _ (hS3.mono hle) ?_
      clear hK K
      have hB3 : (w2.alloc (.cells #[.int .i64 gen, .int .i64 k, .int .i64 len, .int .i64 sum] 3)).drew.heap[w2.heap.size]? = some (.cells #[.int .i64 gen, .int .i64 k, .int .i64 len, .int .i64 sum] 3 (0, 0)) := heap_alloc_new w2 _
      obtain ⟨w3, hww3⟩ : ∃ x, x = (w2.alloc (.cells #[.int .i64 gen, .int .i64 k, .int .i64 len, .int .i64 sum] 3)).drew := ⟨_, rfl⟩
      rw [← hww3] at hS3 hB3 ⊢
      clear hww3
      refine wpAnyH_end [(true, 1), (true, 2), (true, 13), (true, 14)] (by kernel_rfl) (hS3.mono hle) ?_
      refine heldI_act rfl rfl fun K hK => ?_

      go_simp
      have hS4 : Below w2.heap.size w2 (w3.alloc (.cells #[.int .u8 87, .int .u8 76, .int .u8 79, .int .u8 71] 5)) := hS3.alloc hS3.size _
      refine hK.out _ _ (hS4.mono hle) ?_
      clear hK K
      have hA4 : (w3.alloc (.cells #[.int .u8 87, .int .u8 76, .int .u8 79, .int .u8 71] 5)).heap[w3.heap.size]? = some (.cells #[.int .u8 87, .int .u8 76, .int .u8 79, .int .u8 71] 5 (0, 0)) := heap_alloc_new w3 _
      have hB4 := ((Below.alloc (Below.refl w3.heap.size w3) (Nat.le_refl _) (.cells #[.int .u8 87, .int .u8 76, .int .u8 79, .int .u8 71] 5)).block _ (block_lt hB3)).trans hB3
      obtain ⟨w4, hww4⟩ : ∃ x, x = (w3.alloc (.cells #[.int .u8 87, .int .u8 76, .int .u8 79, .int .u8 71] 5)) := ⟨_, rfl⟩
      rw [← hww4] at hS4 hA4 hB4 ⊢
      clear hww4
      have hgA : w2.heap.size ≤ w3.heap.size := by have := block_lt hB3; omega
      have hne : w2.heap.size ≠ w3.heap.size := by have := block_lt hB3; omega
      refine heldI_act rfl rfl fun K hK => ?_

      obtain ⟨w5, hcv, hA5, hb5, hs5, ho5⟩ := conv_mark hA4 4 4
      have hS5 : Below w2.heap.size w2 w5 := hS4.trans (hb5.mono hgA)
      have hB5 := (ho5 _ hne).trans hB4
      clear hs5 ho5
      go_simp
      refine hK.out _ _ (hS5.mono hle) ?_
      clear hK K hcv

      have k1 := nums_mark gen k len sum _ _ w5 hA5 hB5
      refine heldI_act rfl rfl fun K hK => ?_
      go_simp
      refine k1.mono ?_
      rintro e w8 ⟨⟨ad, cap, rfl, hcs⟩, hb8⟩
      have hS8 := hS5.trans (hb8.mono hS5.size)
      refine hK.out _ _ (hS8.mono hle) ?_
      clear hK K
      have hG8 := (hS8.block _ (block_lt G2)).trans G2
      refine heldI_act rfl rfl fun K hK => ?_
      refine op_copy rfl (.tmp 3) (.tmp 16) 43 43 rfl 5 Tryd.underlying43 info_u8s _ _ 64 64 36 cap rfl rfl (w.heap.size + 1) 0 (u8s zeroS) _ hG8 (u8s (markB gen k len sum)) (by rw [length_u8s, length_markB]; rfl) (fun _ => ⟨rfl, ad, rfl, hcs⟩) (by rw [length_u8s, length_u8s, length_markB]; decide) (oneCell_u8s _) ?_
      intro w9 hG9 hb9 hs9 ho9
      rw [splice_pad _ (by rw [length_markB]; omega)] at hG9
      have hB9 : Below w.heap.size w w9 := (hB.trans (hS8.mono hB.size)).trans (hb9.mono (by omega))
      refine hK.out _ _ ((hS8.mono hle).trans hb9) ?_
      clear hK K hS8 hb8 k1 hb9
      refine heldI_nil ?_
      go_wp2_with fail
      go_meet
      case rel => exact ⟨hB9, hG9⟩
  case rest =>
    obtain ⟨hb, hrow⟩ := hcut
    obtain ⟨X, hX⟩ : ∃ X, X = (u8s (markS gen k len sum)).toArray := ⟨_, rfl⟩
    rw [← hX] at hrow
    have HX := Lib.hid hX
    have hXs : X.size = 64 := by rw [hX]; simp [length_u8s, length_markS]
    have hX1 : ∀ v ∈ X.toList, v.oneCell' = true := by rw [hX]; exact oneCell_u8s _
    obtain ⟨i44, hi44, hs44⟩ := info44
    have hld := run_load_big (P := Tryd.prog) (t := 73) Tryd.underlying73 (.inl ⟨_, _, rfl⟩) hi44 (w := wc) (b := w.heap.size + 1) (off := 0) (cs := X.toList) hs44 (by simpa using hXs)
      (fun j u hj => by rw [cell_of_row wc _ (0 + j) _ _ _ hrow]; simpa using hj)
    simp only [Array.toArray_toList] at hld
    obtain ⟨w9, hst, hrow9, hb9, _, _, _⟩ := store64 hrow hXs X hXs hX1
    have hbb := hb.trans (hb9.mono (Nat.le_succ _))
    have HS := Lib.hid (show (Tryd.prog.info? 73).map (·.size) = some X.size by rw [hi44, hXs]; simp [hs44])
    have HROW := Lib.hid hrow9
    clear hX hXs hX1 hi44 hs44 hrow9 hb9 hrow
    go_wp2_with (refine wp_load_at (.tmp 2) 73 rfl rfl rfl hld ?_; refine Halt.in ?_)
    refine Halt.out ?_
    clear hld
    go_wp2_with (refine wp_store_at (.tmp 2) (.tmp 18) 73 rfl rfl rfl rfl hst ?_; refine Halt.in ?_)
    refine Halt.out ?_
    clear hst
    go_wp2_with fail
    exact bodyPost_ret (results_cell_row rfl _ _ (w.heap.size + 1) _ _ _ _ rfl HROW.out Tryd.underlying73 rfl HS.out) rfl ⟨by rw [HX.out], hbb⟩
end Go.Proofs.YtaijompnohkmaaaDoor
/- A slice of bytes turned into a string, and strings compared. -/
namespace Go.Proofs.YtaijompnohkmaaaDoor
open Go.RowKit
/-- The string of bytes. -/
def strB (bs : List UInt8) : ByteArray := ⟨bs.toArray⟩
theorem strB_toList (bs : List UInt8) : (strB bs).data.toList = bs := rfl
theorem strB_inj {a b : List UInt8} (h : strB a = strB b) : a = b := by
  have := congrArg (fun s : ByteArray => s.data.toList) h
  simpa [strB] using this
theorem strB_of (s : ByteArray) : strB s.data.toList = s := by
  cases s; rfl
theorem run_bytes_string {P : Program} {src dst e : TypeId} (hs : P.underlying src = some (.slice e)) (he : P.underlying e = some (.int .u8)) (hd : P.underlying dst = some .string)
    {B : Nat} {w : World} {v : Value} {bs : List UInt8} (h : Bytes B w v bs) : (convert src dst v).run P w = .ok (.string (strB bs)) w := by
  have hsrc := (Row.src (P := P) h).2.2 w (fun _ => rfl)
  obtain ⟨h1, a, cap, rfl, h2, h3, h4⟩ := h
  cases a with
  | none =>
    have hn : bs = [] := by
      cases bs with
      | nil => rfl
      | cons b bs => obtain ⟨b, off, h, _⟩ := h4 (by simp); cases h
    subst hn
    exact run_convert_bytes_nil w src e hs he _ _ dst hd
  | some ad =>
    simp only [Builtin.firstCells, Nat.mul_one] at hsrc
    have hl : (loadCells ad bs.length).run P w = .ok ((bs.map fun b => (b.toNat : Int)).map (Value.int .u8)).toArray w := by
      rw [hsrc]
      congr 2
      rw [List.map_map]; rfl
    rw [run_convert_bytes_string w src dst e _ bs.length cap hs he hd, run_bytesToString w _ bs.length cap _ hl, foldl_push_bytes]
    congr 2
    have : (bs.map fun b => (b.toNat : Int)).map (fun n => UInt8.ofNat n.toNat) = bs := by
      rw [List.map_map]
      conv => rhs; rw [← List.map_id bs]
      apply List.map_congr_left
      intro b _
      simp
    rw [this]
    simp [strB, ByteArray.empty, ByteArray.emptyWithCapacity]
    rfl
end Go.Proofs.YtaijompnohkmaaaDoor
/- Layer 3 (pack): the readers, the code's and the reference's. -/
namespace Go.Proofs.YtaijompnohkmaaaDoor
open Go.RowKit PackP
/-- A reader of type T lies whole in block g; its bytes lie below block B. -/
def RdAt (T : TypeId) (B g : Nat) (w : World) (r : RS) : Prop := ∃ v, w.heap[g]? = some (.cells #[v, .int .i64 r.e] T (0, 0)) ∧ Bytes B w v r.b ∧ B ≤ g
theorem RdAt.far {T : TypeId} {B g : Nat} {w w' : World} {r : RS} {row : Option Nat} (h : RdAt T B g w r) (hg : w.grownBy w' row) (hr : ∀ k, row = some k → B ≤ k ∧ k ≠ g) : RdAt T B g w' r := by
  obtain ⟨v, h1, h2, h3⟩ := h
  refine ⟨v, ?_, ?_, h3⟩
  · rw [hg.block g (block_lt h1) (fun e => (hr g e.symm).2 rfl)]; exact h1
  · obtain ⟨a1, a, cap, rfl, a2, a3, a4⟩ := h2
    refine ⟨a1, a, cap, rfl, a2, a3, fun hn => ?_⟩
    obtain ⟨b, off, rfl, b1, b2⟩ := a4 hn
    refine ⟨b, off, rfl, b1, fun k u hk => ?_⟩
    have hb := block_lt h1
    rw [World.cell?_of_block (hg.block b (by omega) (fun e => by have := (hr b e.symm).1; omega))]
    exact b2 k u hk
theorem Row.take {B : Nat} {w : World} {a : Option Addr} {cap sz n : Nat} {cs : List Value} (h : Row B w (.slice a n cap) sz n cs) (k : Nat) (hk : k ≤ n) : Row B w (.slice a k cap) sz k (cs.take (k * sz)) := by
  obtain ⟨h1, a', cap', hv, h2, h3, h4⟩ := h
  obtain ⟨rfl, rfl⟩ : a = a' ∧ cap = cap' := by cases hv; exact ⟨rfl, rfl⟩
  have hm : k * sz ≤ n * sz := Nat.mul_le_mul_right _ hk
  refine ⟨by rw [List.length_take, h1]; omega, a, cap, rfl, by omega, h3, fun hn => ?_⟩
  obtain ⟨b, off, rfl, h5, h6⟩ := h4 (by omega)
  refine ⟨b, off, rfl, h5, fun j u hj => ?_⟩
  rw [List.getElem?_take] at hj
  split at hj
  · exact h6 j u hj
  · cases hj
theorem Row.drop {B : Nat} {w : World} {a : Option Addr} {cap sz n : Nat} {cs : List Value} (h : Row B w (.slice a n cap) sz n cs) (k : Nat) (hk : k ≤ n) :
    Row B w (.slice (if cap = k then a else a.map (·.add (k * sz))) (n - k) (cap - k)) sz (n - k) (cs.drop (k * sz)) := by
  obtain ⟨h1, a', cap', hv, h2, h3, h4⟩ := h
  obtain ⟨rfl, rfl⟩ : a = a' ∧ cap = cap' := by cases hv; exact ⟨rfl, rfl⟩
  refine ⟨by rw [List.length_drop, h1, Nat.sub_mul], _, cap - k, rfl, by omega, by omega, fun hn => ?_⟩
  obtain ⟨b, off, rfl, h5, h6⟩ := h4 (by omega)
  refine ⟨b, off + k * sz, ?_, h5, fun j u hj => ?_⟩
  · rw [if_neg (by omega)]
    simp only [Option.map_some]
    congr 1
    unfold Addr.add; split <;> simp_all
  · rw [List.getElem?_drop] at hj
    rw [Nat.add_assoc]
    exact h6 _ u hj
theorem u8s_take (bs : List UInt8) (k : Nat) : (u8s bs).take k = u8s (bs.take k) := by unfold u8s; rw [List.map_take]
theorem u8s_drop (bs : List UInt8) (k : Nat) : (u8s bs).drop k = u8s (bs.drop k) := by unfold u8s; rw [List.map_drop]
/-- Bytes cut: what s[:k] and s[k:] are. -/
theorem run_slice_to {P : Program} {t e : TypeId} {i : TypeInfo} (ht : P.underlying t = some (.slice e)) (hi : P.info? e = some i) {B : Nat} {w : World} {a : Option Addr} {cap : Nat} {bs : List UInt8} (h : Bytes B w (.slice a bs.length cap) bs) (k : Nat) (hk : k ≤ bs.length) :
    ∃ v', (∀ w', (Instr.slice t (.slice a bs.length cap) none (some (.int .i64 k)) none).run P w' = .ok v' w') ∧ Bytes B w v' (bs.take k) := by
  have hc : bs.length ≤ cap := by obtain ⟨_, a', cap', hv, h2, _⟩ := h; cases hv; exact h2
  refine ⟨.slice a k cap, fun w' => ?_, ?_⟩
  · have h0 : (0 : Int) ≤ (k : Int) := by omega
    have h1 : (k : Int) ≤ (cap : Int) := by omega
    simp [Instr.slice, run_underlying ht, Instr.sliceBounds, run_sliceBound, sizeOf, typeInfo, hi, h0, h1]
    intros; cases a <;> simp [Addr.add]
  · have := Row.take h k hk
    unfold Bytes
    rw [List.length_take, Nat.min_eq_left hk, ← u8s_take]
    simpa using this
theorem run_slice_from {P : Program} {t e : TypeId} {i : TypeInfo} (ht : P.underlying t = some (.slice e)) (hi : P.info? e = some i) (hsz : i.size = 1) {B : Nat} {w : World} {a : Option Addr} {cap : Nat} {bs : List UInt8} (h : Bytes B w (.slice a bs.length cap) bs) (k : Nat) (hk : k ≤ bs.length) :
    ∃ v', (∀ w', (Instr.slice t (.slice a bs.length cap) (some (.int .i64 k)) none none).run P w' = .ok v' w') ∧ Bytes B w v' (bs.drop k) := by
  refine ⟨.slice (if cap = k then a else a.map (·.add (k * 1))) (bs.length - k) (cap - k), fun w' => ?_, ?_⟩
  · have h0 : (0 : Int) ≤ (k : Int) := by omega
    have h1 : (k : Int) ≤ (bs.length : Int) := by omega
    simp [Instr.slice, run_underlying ht, Instr.sliceBounds, run_sliceBound, sizeOf, typeInfo, hi, hsz, h0, h1]
  · have := Row.drop h k hk
    unfold Bytes
    rw [List.length_drop, ← u8s_drop]
    simpa using this
theorem RdAt.parts {T : TypeId} {B g : Nat} {w : World} {r : RS} (h : RdAt T B g w r) : ∃ v, w.heap[g]? = some (.cells #[v, .int .i64 r.e] T (0, 0)) ∧ Bytes B w v r.b ∧ B ≤ g ∧
    w.cell? ⟨g, 0, none⟩ = some v ∧ w.cell? ⟨g, 1, none⟩ = some (.int .i64 r.e) ∧ w.frozen? ⟨g, 0, none⟩ = false ∧ w.frozen? ⟨g, 1, none⟩ = false := by
  obtain ⟨v, h1, h2, h3⟩ := h
  exact ⟨v, h1, h2, h3, cell_of_row w g 0 _ T (0, 0) h1, cell_of_row w g 1 _ T (0, 0) h1, by simp [World.frozen?, h1], by simp [World.frozen?, h1]⟩
theorem bytes_set {B g o : Nat} {w : World} {u v : Value} {bs : List UInt8} (h : Bytes B w v bs) (hg : B ≤ g) : Bytes B (w.setCell ⟨g, o, none⟩ u) v bs :=
  Bytes.below h (Below.setCell (Below.refl B w) (p := ⟨g, o, none⟩) hg u)
theorem RdAt.setE {T : TypeId} {B g : Nat} {w : World} {r : RS} (h : RdAt T B g w r) (x : Int) : RdAt T B g (w.setCell ⟨g, 1, none⟩ (.int .i64 x)) { r with e := x } := by
  obtain ⟨v, h1, h2, h3⟩ := h
  exact ⟨v, by simp [World.setCell, Array.getElem?_modify, h1], bytes_set h2 h3, h3⟩
theorem RdAt.setB {T : TypeId} {B g : Nat} {w : World} {r : RS} (h : RdAt T B g w r) (v' : Value) (bs : List UInt8) (hv : Bytes B w v' bs) : RdAt T B g (w.setCell ⟨g, 0, none⟩ v') { r with b := bs } := by
  obtain ⟨v, h1, h2, h3⟩ := h
  exact ⟨v', by simp [World.setCell, Array.getElem?_modify, h1], bytes_set hv h3, h3⟩
theorem only_set (w : World) (g o : Nat) (u : Value) : w.grownBy (w.setCell ⟨g, o, none⟩ u) (some g) :=
  ⟨rfl, rfl, rfl, by simp [World.setCell], fun i hi hne => Below.heap_setCell w ⟨g, o, none⟩ u i (by rintro rfl; exact hne rfl)⟩
theorem only_trans {a b c : World} {row : Option Nat} (h : a.grownBy b row) (k : b.grownBy c row) : a.grownBy c row :=
  ⟨k.os.trans h.os, k.tape.trans h.tape, k.output.trans h.output, Nat.le_trans h.size k.size, fun i hi hne => (k.block i (Nat.lt_of_lt_of_le hi h.size) hne).trans (h.block i hi hne)⟩
theorem only_refl (w : World) (row : Option Nat) : w.grownBy w row := ⟨rfl, rfl, rfl, Nat.le_refl _, fun _ _ _ => rfl⟩
theorem below_of_only {a b : World} {g B : Nat} (h : a.grownBy b (some g)) (hB : B ≤ g) (hs : B ≤ a.heap.size) : Below B a b :=
  ⟨h.os, h.tape, h.output, h.size, fun k hk => h.block k (by omega) (fun e => by injection e; omega)⟩
/-- What a reader's method leaves: the reader as it says, and nothing else has turned. -/
def RdEnd (T : TypeId) (B g : Nat) (w w' : World) (r : RS) : Prop := RdAt T B g w' r ∧ w.grownBy w' (some g)
set_option maxRecDepth 100000 in
set_option maxHeartbeats 1000000 in
theorem fail_any (B g : Nat) (w : World) (r : RS) (bad : Bool) (x : Int) (h : RdAt 138 B g w r) :
    Calls Tryd.prog 94 #[.pointer (some ⟨g, 0, none⟩), .bool bad, .int .i64 x] w fun e w' => e = .returned (.tuple #[]) ∧ RdEnd 138 B g w w' (r.fail bad x) := by
  have H := Lib.hid h
  obtain ⟨v, _, _, _, _, hc1, _, hf1⟩ := h.parts
  obtain ⟨E, hE⟩ : ∃ E, E = r.e := ⟨_, rfl⟩
  rw [← hE] at hc1
  cases bad with
  | false =>
    have hr : r.fail false x = r := by simp [RS.fail]
    have HR := Lib.hid hr
    clear hr hE h
    go_enter Tryd.func94, Tryd.ntmps94
    go_wp2
    go_end0
    exact ⟨rfl, by rw [HR.out]; exact ⟨H.out, only_refl _ _⟩⟩
  | true =>
    by_cases h0 : E = 0
    · have hr : r.fail true x = { r with e := x } := by simp [RS.fail, ← hE, h0]
      have HR := Lib.hid hr
      subst h0
      clear hr hE h
      go_enter Tryd.func94, Tryd.ntmps94
      go_wp2
      go_end0
      exact ⟨rfl, by rw [HR.out]; exact ⟨H.out.setE x, only_set _ _ _ _⟩⟩
    · have hr : r.fail true x = r := by simp [RS.fail, ← hE, h0]
      have HR := Lib.hid hr
      have t0 : (E == 0) = false := by rw [beq_eq_false_iff_ne]; exact h0
      clear hr hE h h0
      go_enter Tryd.func94, Tryd.ntmps94
      go_wp2
      go_end0
      exact ⟨rfl, by rw [HR.out]; exact ⟨H.out, only_refl _ _⟩⟩
theorem RdAt.cut {T : TypeId} {B g : Nat} {w : World} {r : RS} (h : RdAt T B g w r) (n : Nat) (hn : n ≤ r.b.length) : ∃ a cap v1 a2 l2 c2,
    w.cell? ⟨g, 0, none⟩ = some (.slice a r.b.length cap) ∧ w.cell? ⟨g, 1, none⟩ = some (.int .i64 r.e) ∧ w.frozen? ⟨g, 0, none⟩ = false ∧
    (∀ w', (Instr.slice 43 (.slice a r.b.length cap) none (some (.int .i64 n)) none).run Tryd.prog w' = .ok v1 w') ∧
    (∀ w', (Instr.slice 43 (.slice a r.b.length cap) (some (.int .i64 n)) none none).run Tryd.prog w' = .ok (.slice a2 l2 c2) w') ∧
    Bytes B (w.setCell ⟨g, 0, none⟩ (.slice a2 l2 c2)) v1 (r.b.take n) ∧ RdEnd T B g w (w.setCell ⟨g, 0, none⟩ (.slice a2 l2 c2)) { r with b := r.b.drop n } := by
  obtain ⟨v, hh, hv, hBg, hc0, hc1, hf0, _⟩ := h.parts
  have hvv := hv
  obtain ⟨_, a, cap, rfl, hnc, hcap, _⟩ := hvv
  obtain ⟨i0, hi, _, hsz, _⟩ := info_parts info_u8
  obtain ⟨v1, kv1, hb1⟩ := run_slice_to (P := Tryd.prog) Tryd.underlying43 hi hv n hn
  obtain ⟨v2, kv2, hb2⟩ := run_slice_from (P := Tryd.prog) Tryd.underlying43 hi hsz hv n hn
  have hb2' := hb2
  obtain ⟨_, a2, c2, rfl, _⟩ := hb2'
  exact ⟨a, cap, v1, a2, _, c2, hc0, hc1, hf0, kv1, kv2, bytes_set hb1 hBg, ⟨h.setB _ _ hb2, only_set _ _ _ _⟩⟩
/-- What take hands back: bytes, and whether there are any. -/
def TakeEnd (T : TypeId) (B g : Nat) (w : World) (r : RS) (n : Nat) (e : Ending) (w' : World) : Prop :=
  RdEnd T B g w w' (r.take n).1 ∧ ∃ v, Bytes B w' v ((r.take n).2.getD []) ∧ e = .returned (.tuple #[v, .bool (r.take n).2.isSome])
theorem nil_bytes (B : Nat) (w : World) : Bytes B w (.slice none 0 0) [] := Row.nil B w 1
set_option maxRecDepth 100000 in
set_option maxHeartbeats 1000000 in
theorem take_any (B g : Nat) (w : World) (r : RS) (n : Nat) (hn : n ≤ 2 ^ 62) (h : RdAt 138 B g w r) :
    Calls Tryd.prog 92 #[.pointer (some ⟨g, 0, none⟩), .int .i64 n] w (TakeEnd 138 B g w r n) := by
  have H := Lib.hid h
  obtain ⟨v, hh, hv, hBg, hc0, _, _, _⟩ := h.parts
  have hvv := hv
  obtain ⟨_, a, cap, rfl, hnc, hcap, _⟩ := hvv
  unfold maxLen at hcap
  obtain ⟨i0, hi, _, hsz, _⟩ := info_parts info_u8
  obtain ⟨L, hL⟩ : ∃ L, L = r.b.length := ⟨_, rfl⟩
  rw [← hL] at hc0 hnc
  by_cases he : r.e = 0
  · by_cases hs : L < n
    · have hr : r.fail true 2 = { r with e := 2 } := by simp [RS.fail, he]
      have ht : r.take n = ({ r with e := 2 }, none) := by unfold RS.take; rw [if_pos he, ← hL, if_pos hs]
      have HT := Lib.hid ht
      have HR := Lib.hid hr
      have t0 : decide ((L : Int) < (n : Int)) = true := by simp; omega
      clear ht hr he hL hv h hh
      go_enter Tryd.func92, Tryd.ntmps92
      go_wp2_with (go_at_call 94; ((with_reducible refine (fail_any B g _ r _ _ H.out).mono ?_); rintro e w1 ⟨rfl, hE⟩; rw [HR.out] at hE; obtain ⟨v1, _, _, _, _, hc1, _, _⟩ := hE.1.parts; have HE := Lib.hid hE; clear hE))
      go_ret2
      unfold TakeEnd
      rw [HT.out]
      exact ⟨HE.out, _, nil_bytes _ _, rfl⟩
    · have hr : r.fail false 2 = r := by simp [RS.fail]
      have ht : r.take n = ({ r with b := r.b.drop n }, some (r.b.take n)) := by unfold RS.take; rw [if_pos he, ← hL, if_neg hs]
      have HT := Lib.hid ht
      have HR := Lib.hid hr
      have HE0 := Lib.hid he
      have t0 : decide ((L : Int) < (n : Int)) = false := by simp; omega
      have hnl : n ≤ r.b.length := by omega
      have HL0 := Lib.hid hL
      clear ht hr hv h hh hL he
      go_enter Tryd.func92, Tryd.ntmps92
      go_wp2_with (go_at_call 94; ((with_reducible refine (fail_any B g _ r _ _ H.out).mono ?_); rintro e w1 ⟨rfl, hE⟩; rw [HR.out] at hE; obtain ⟨a1, cap1, v1, a2, l2, c2, hc0', hc1', hf0', kv1, kv2, hb1, hb2⟩ := hE.1.cut n hnl; rw [HE0.out] at hc1'; rw [← HL0.out] at hc0' kv1 kv2; have HE := Lib.hid (only_trans hE.2 hb2.2); have HB1 := Lib.hid hb1; have HB2 := Lib.hid hb2.1; clear hE hb1 hb2 hnl))
      go_ret2
      unfold TakeEnd
      rw [HT.out]
      exact ⟨⟨HB2.out, HE.out⟩, _, HB1.out, rfl⟩
  · have ht : r.take n = (r, none) := by unfold RS.take; rw [if_neg he]
    have hr : ∀ b, r.fail b 2 = r := by intro b; cases b <;> simp [RS.fail, he]
    obtain ⟨E, hEe⟩ : ∃ E, E = r.e := ⟨_, rfl⟩
    have t0 : (E == 0) = false := by rw [beq_eq_false_iff_ne, hEe]; exact he
    have t1 : (!(E == 0)) = true := by rw [t0]; rfl
    have HT := Lib.hid ht
    have HR := Lib.hid hr
    have HE0 := Lib.hid hEe
    clear ht hr he hL hv h hh hEe
    go_enter Tryd.func92, Tryd.ntmps92
    go_wp2_with (go_at_call 94; ((with_reducible refine (fail_any B g _ r _ _ H.out).mono ?_); rintro e w1 ⟨rfl, hE⟩; rw [HR.out] at hE; obtain ⟨v1, _, _, _, _, hc1, _, _⟩ := hE.1.parts; rw [← HE0.out] at hc1; have HE := Lib.hid hE; clear hE))
    go_ret2
    unfold TakeEnd
    rw [HT.out]
    exact ⟨HE.out, _, nil_bytes _ _, rfl⟩
theorem or_byte (n : Nat) (c : UInt8) (hn : n < 2 ^ 56) : bits .or .u64 ((n * 256 : Nat) : Int) (c.toNat : Int) = ((n * 256 + c.toNat : Nat) : Int) := by
  have hc := c.toNat_lt
  have h1 : (BitVec.ofInt 64 ((n * 256 : Nat) : Int)).toNat = n * 256 := by
    rw [BitVec.ofInt_natCast, BitVec.toNat_ofNat]; exact Nat.mod_eq_of_lt (by omega)
  have h2 : (BitVec.ofInt 64 (c.toNat : Int)).toNat = c.toNat := by
    rw [BitVec.ofInt_natCast, BitVec.toNat_ofNat]; exact Nat.mod_eq_of_lt (by omega)
  show IntKind.u64.wrap ((BitVec.ofInt 64 ((n * 256 : Nat) : Int) ||| BitVec.ofInt 64 (c.toNat : Int)).toNat : Int) = _
  rw [BitVec.toNat_or, h1, h2]
  have h3 : n * 256 ||| c.toNat = n * 256 + c.toNat := by
    have := Nat.two_pow_add_eq_or_of_lt (i := 8) (b := c.toNat) (by omega) n
    rw [Nat.mul_comm n 256]
    exact this.symm
  rw [h3]
  have h4 : n * 256 + c.toNat < 18446744073709551616 := by omega
  simp only [IntKind.wrap, IntKind.bits, IntKind.signed]
  simp
  omega
theorem u64_byte (c : UInt8) : IntKind.u64.wrap (c.toNat : Int) = (c.toNat : Int) := by
  have hc := c.toNat_lt
  simp only [IntKind.wrap, IntKind.bits, IntKind.signed]
  simp
  omega
set_option maxRecDepth 100000 in
set_option maxHeartbeats 1000000 in
theorem number_any (B : Nat) (v : Value) (bs : List UInt8) (w : World) (h : Bytes B w v bs) (hl : bs.length ≤ 8) :
    Calls Tryd.prog 93 #[v] w fun e w' => e = .returned (.int .u64 (numOf bs)) ∧ w = w' := by
  obtain ⟨_, a, cap, rfl, hnc, hcap, hcells⟩ := h
  unfold maxLen at hcap
  go_enter Tryd.func93, Tryd.ntmps93
  go_wp2
  go_loop [2, 7] (fun t i => ∃ k : Nat, k ≤ bs.length ∧ i = .int .i64 k ∧ t = .int .u64 (numOf (bs.take k))) (fun _ i => bs.length - (intOf i).toNat)
  case atStart => exact ⟨0, Nat.zero_le _, rfl, rfl⟩
  case round =>
    obtain ⟨k, hk, rfl, rfl⟩ := hrel
    by_cases hlt : k < bs.length
    · obtain ⟨b, off, rfl, hB, hc⟩ := hcells (by omega)
      have hcell := hc k _ (u8s_at hlt)
      have hN : Hid (numOf (bs.take (k + 1)) = numOf (bs.take k) * 256 + bs[k].toNat) := by
        rw [List.take_succ_eq_append_getElem hlt, numOf_snoc]; exact rfl
      have hb : numOf (bs.take k) < 2 ^ 56 := by
        have h1 := numOf_lt (bs.take k)
        rw [List.length_take, Nat.min_eq_left hk] at h1
        have h2 : 256 ^ k ≤ 256 ^ 7 := Nat.pow_le_pow_right (by omega) (by omega)
        omega
      obtain ⟨N, hNe⟩ : ∃ N, N = numOf (bs.take k) := ⟨_, rfl⟩
      rw [← hNe] at hb hN
      rw [← hNe]
      obtain ⟨c, hce⟩ : ∃ c, c = bs[k] := ⟨_, rfl⟩
      rw [← hce] at hcell hN
      have k1 := u64_byte c
      clear hNe hc hcells hce
      go_wp2
      all_goals
        go_round
        case rel => exact ⟨k + 1, by omega, by go_num, by rw [hN.out, ← or_byte N c hb, Int.natCast_mul]; rfl⟩
        case measure => simp [intOf]; omega
    · have hke : k = bs.length := by omega
      subst hke
      rw [List.take_length]
      go_wp2
      go_ret
      exact ⟨rfl, rfl⟩
theorem take_some (B g : Nat) (w : World) (r r1 : RS) (n : Nat) (z : Int) (b : List UInt8) (hn : n ≤ 2 ^ 62) (hz : z = n) (h : RdAt 138 B g w r) (ht : r.take n = (r1, some b)) :
    Calls Tryd.prog 92 #[.pointer (some ⟨g, 0, none⟩), .int .i64 z] w fun e w' => ∃ v, e = .returned (.tuple #[v, .bool true]) ∧ RdEnd 138 B g w w' r1 ∧ Bytes B w' v b := by
  subst hz
  refine (take_any B g w r n hn h).mono fun e w' ⟨h1, v, h2, h3⟩ => ?_
  rw [ht] at h1 h2 h3
  exact ⟨v, h3, h1, h2⟩
theorem take_none (B g : Nat) (w : World) (r r1 : RS) (n : Nat) (z : Int) (hn : n ≤ 2 ^ 62) (hz : z = n) (h : RdAt 138 B g w r) (ht : r.take n = (r1, none)) :
    Calls Tryd.prog 92 #[.pointer (some ⟨g, 0, none⟩), .int .i64 z] w fun e w' => ∃ v, e = .returned (.tuple #[v, .bool false]) ∧ RdEnd 138 B g w w' r1 ∧ Bytes B w' v [] := by
  subst hz
  refine (take_any B g w r n hn h).mono fun e w' ⟨h1, v, h2, h3⟩ => ?_
  rw [ht] at h1 h2 h3
  exact ⟨v, h3, h1, h2⟩
theorem take_some_e {r r1 : RS} {n : Nat} {b : List UInt8} (ht : r.take n = (r1, some b)) : r.e = 0 ∧ r1.e = 0 ∧ b.length = n ∧ n ≤ r.b.length ∧ r1.b = r.b.drop n ∧ b = r.b.take n := by
  unfold RS.take at ht
  split at ht
  · rename_i he
    split at ht
    · cases ht
    · rename_i hl
      cases ht
      exact ⟨he, he, by rw [List.length_take]; omega, by omega, rfl, rfl⟩
  · cases ht
theorem take_none_e {r r1 : RS} {n : Nat} (ht : r.take n = (r1, none)) : r1.e ≠ 0 := by
  unfold RS.take at ht
  split at ht
  · split at ht
    · cases ht; simp
    · cases ht
  · rename_i he
    cases ht; exact he
set_option maxRecDepth 100000 in
set_option maxHeartbeats 1000000 in
theorem rnum_any (B g : Nat) (w : World) (r : RS) (h : RdAt 138 B g w r) :
    Calls Tryd.prog 78 #[.pointer (some ⟨g, 0, none⟩)] w fun e w' => e = .returned (.int .i64 r.num.2) ∧ RdEnd 138 B g w w' r.num.1 := by
  have kn := fun (w : World) (a : Option Addr) => eql_ptr_nil Tryd.underlying121 w a
  rcases ht : r.take 8 with ⟨r1, _ | b⟩
  · have hnum : r.num = (r1, 0) := by unfold RS.num; rw [ht]
    have HN := Lib.hid hnum
    have HT := Lib.hid ht
    clear hnum ht
    go_enter Tryd.func78, Tryd.ntmps78
    go_wp2_with (go_at_call 92; ((refine (take_none B g _ r r1 8 _ (by omega) rfl h HT.out).mono ?_); rintro e w1 ⟨v1, rfl, hE, hb⟩))
    go_ret
    rw [HN.out]
    exact ⟨rfl, hE⟩
  · obtain ⟨he, he1, hbl, _, _, _⟩ := take_some_e ht
    obtain ⟨N, hN⟩ : ∃ N, N = numOf b := ⟨_, rfl⟩
    by_cases hg : 4611686018427387904 < N
    · have hnum : r.num = ({ r1 with e := 3 }, 0) := by unfold RS.num; rw [ht]; simp only; rw [if_pos (by omega)]
      have hfl : r1.fail true 3 = { r1 with e := 3 } := by simp [RS.fail, he1]
      have t0 : decide (4611686018427387904 < (N : Int)) = true := by simp; omega
      have HN := Lib.hid hnum
      have HT := Lib.hid ht
      have HF := Lib.hid hfl
      have HNe := Lib.hid hN
      have hbl' : b.length ≤ 8 := by omega
      clear hnum ht hfl hN hg hbl he he1
      go_enter Tryd.func78, Tryd.ntmps78
      go_wp2_with (first
        | (go_at_call 92; ((refine (take_some B g _ r r1 8 _ b (by omega) rfl h HT.out).mono ?_); rintro e w1 ⟨v1, rfl, hE, hb⟩; have hR1 := hE.1))
        | (go_at_call 93; ((refine (number_any B _ b _ hb hbl').mono ?_); rintro e w2 ⟨rfl, rfl⟩; rw [← HNe.out]))
        | (go_at_call 94; ((with_reducible refine (fail_any B g _ r1 _ _ hR1).mono ?_); rintro e w2 ⟨rfl, hE2⟩; rw [HF.out] at hE2; obtain ⟨v3, _, _, _, _, hc1, _, _⟩ := hE2.1.parts)))
      go_ret
      rw [HN.out]
      exact ⟨rfl, hE2.1, only_trans hE.2 hE2.2⟩
    · have hnum : r.num = (r1, (N : Int)) := by unfold RS.num; rw [ht]; simp only; rw [if_neg (by omega), hN]
      have hfl : r1.fail false 3 = r1 := by simp [RS.fail]
      have t0 : decide (4611686018427387904 < (N : Int)) = false := by simp; omega
      have HN := Lib.hid hnum
      have HT := Lib.hid ht
      have HF := Lib.hid hfl
      have HNe := Lib.hid hN
      have HE1 := Lib.hid he1
      have hbl' : b.length ≤ 8 := by omega
      have hN62 : N ≤ 2 ^ 62 := by omega
      clear hnum ht hfl hN hg hbl he he1
      go_enter Tryd.func78, Tryd.ntmps78
      go_wp2_with (first
        | (go_at_call 92; ((refine (take_some B g _ r r1 8 _ b (by omega) rfl h HT.out).mono ?_); rintro e w1 ⟨v1, rfl, hE, hb⟩; have hR1 := hE.1))
        | (go_at_call 93; ((refine (number_any B _ b _ hb hbl').mono ?_); rintro e w2 ⟨rfl, rfl⟩; rw [← HNe.out]))
        | (go_at_call 94; ((with_reducible refine (fail_any B g _ r1 _ _ hR1).mono ?_); rintro e w2 ⟨rfl, hE2⟩; rw [HF.out] at hE2; obtain ⟨v3, _, _, _, _, hc1, _, _⟩ := hE2.1.parts; rw [HE1.out] at hc1)))
      go_ret
      rw [HN.out]
      exact ⟨rfl, hE2.1, only_trans hE.2 hE2.2⟩
end Go.Proofs.YtaijompnohkmaaaDoor/- Layer 3 (pack): the code's reader, its other methods. -/
namespace Go.Proofs.YtaijompnohkmaaaDoor
open Go.RowKit PackP
set_option maxRecDepth 100000 in
set_option maxHeartbeats 1000000 in
theorem rerr_any (B g : Nat) (w : World) (r : RS) (h : RdAt 138 B g w r) :
    Calls Tryd.prog 79 #[.pointer (some ⟨g, 0, none⟩)] w fun e w' => e = .returned (.int .i64 r.e) ∧ w = w' := by
  have kn := fun (w : World) (a : Option Addr) => eql_ptr_nil Tryd.underlying121 w a
  obtain ⟨v, _, _, _, _, hc1, _, _⟩ := h.parts
  go_enter Tryd.func79, Tryd.ntmps79
  go_wp2
  go_ret
  exact ⟨rfl, rfl⟩
set_option maxRecDepth 100000 in
set_option maxHeartbeats 1000000 in
theorem from_any (B : Nat) (v : Value) (bs : List UInt8) (w : World) (h : Bytes B w v bs) :
    Calls Tryd.prog 77 #[v] w fun e w' => e = .returned (.pointer (some ⟨w.heap.size, 0, none⟩)) ∧ RdAt 138 w.heap.size w.heap.size w' ⟨bs, 0⟩ ∧ Below w.heap.size w w' := by
  replace h := h.tight
  have h' := h
  obtain ⟨_, a, cap, rfl, _⟩ := h'
  go_enter Tryd.func77, Tryd.ntmps77
  go_wp2
  go_ret
  have hb : Below w.heap.size w (w.alloc (.cells #[.slice a bs.length cap, .int .i64 0] 138)) := Below.alloc (Below.refl _ _) (Nat.le_refl _) _
  exact ⟨rfl, ⟨_, heap_alloc_new w _, h.below hb, Nat.le_refl _⟩, hb⟩
theorem from_at (B B' : Nat) (v : Value) (bs : List UInt8) (w : World) (h : Bytes B w v bs) (hB : B ≤ w.heap.size) :
    Calls Tryd.prog 77 #[v] w fun e w' => e = .returned (.pointer (some ⟨w.heap.size, 0, none⟩)) ∧ RdAt 138 B w.heap.size w' ⟨bs, 0⟩ ∧ Below w.heap.size w w' := by
  have h' := h
  obtain ⟨_, a, cap, rfl, _⟩ := h'
  go_enter Tryd.func77, Tryd.ntmps77
  go_wp2
  go_ret
  have hb : Below w.heap.size w (w.alloc (.cells #[.slice a bs.length cap, .int .i64 0] 138)) := Below.alloc (Below.refl _ _) (Nat.le_refl _) _
  exact ⟨rfl, ⟨_, heap_alloc_new w _, h.below (hb.mono hB), hB⟩, hb⟩
set_option maxRecDepth 100000 in
theorem num_nil (w : World) : Calls Tryd.prog 78 #[.pointer none] w fun e w' => e = .returned (.int .i64 0) ∧ w = w' := by
  have kn := fun (w : World) (a : Option Addr) => eql_ptr_nil Tryd.underlying121 w a
  go_enter Tryd.func78, Tryd.ntmps78
  go_wp2
  go_ret
  exact ⟨rfl, rfl⟩
end Go.Proofs.YtaijompnohkmaaaDoor
/- Layer 5 (wal): the hand. -/
namespace Go.Proofs.YtaijompnohkmaaaDoor
open Go.RowKit WalP PackP
/-- A hand in block g, and its disk, which lies elsewhere. -/
def HandAt (g : Nat) (w : World) (d : DiskP) : Prop := ∃ A, w.heap[g]? = some (.cells A 110 (0, 0)) ∧ DiskV w.heap.size w (.agg A) d ∧ DSl (· ≠ g) (.agg A)
/-- How a step ends. -/
def hEnd (e : Int) : Ending := if e = 0 then .returned (.tuple #[]) else .panicked [{ v := .iface 32 (.int .i64 e), recovered := false }]
theorem hEnd0 {e : Int} (h : e = 0) : hEnd e = .returned (.tuple #[]) := by unfold hEnd; rw [if_pos h]
theorem hEnd1 {e : Int} (h : e ≠ 0) : hEnd e = .panicked [{ v := .iface 32 (.int .i64 e), recovered := false }] := by unfold hEnd; rw [if_neg h]
/-- A disk that lies elsewhere outlives writes into block g. -/
theorem DiskV.only {B g : Nat} {w w' : World} {v : Value} {d : DiskP} (h : DiskV B w v d) (hB : B ≤ w.heap.size) (hs : DSl (· ≠ g) v) (ho : w.grownBy w' (some g)) : DiskV B w' v d := by
  have one : ∀ {sz n : Nat} {cs : List Value} {u : Value}, Row B w u sz n cs → Sl (· ≠ g) u → Row B w' u sz n cs := fun {sz n cs u} h hs => by
    obtain ⟨hl, a, cap, rfl, h1, h2, h3⟩ := h
    refine ⟨hl, a, cap, rfl, h1, h2, fun hp => ?_⟩
    obtain ⟨b, off, rfl, hb, hc⟩ := h3 hp
    have := hs _ _ _ rfl hp
    refine ⟨b, off, rfl, hb, fun k u' hk => ?_⟩
    have e : w'.cell? ⟨b, off + k, none⟩ = w.cell? ⟨b, off + k, none⟩ := by unfold World.cell?; rw [ho.block b (by omega) (fun h => this (Option.some.inj h))]
    exact e.trans (hc k u' hk)
  obtain ⟨sv, lv, rfl, h1, h2⟩ := h
  obtain ⟨q1, q2⟩ := hs _ _ _ _ rfl
  exact ⟨sv, lv, rfl, ⟨h1.1, one h1.2 q1⟩, ⟨h2.1, one h2.2 q2⟩⟩
theorem HandAt.below {g : Nat} {w w' : World} {d : DiskP} (h : HandAt g w d) (hb : Below w.heap.size w w') : HandAt g w' d := by
  obtain ⟨A, h1, h2, h3⟩ := h
  exact ⟨A, (hb.block _ (block_lt h1)).trans h1, (h2.below hb).tight, h3⟩
theorem only_of_below {g : Nat} {w w' : World} (hb : Below w.heap.size w w') : w.grownBy w' (some g) := ⟨hb.os, hb.tape, hb.output, hb.size, fun k hk _ => hb.block k hk⟩
theorem put4_diskV {B g : Nat} {w : World} {v : Value} {d : DiskP} (h : DiskV B w v d) (hs : DSl (· ≠ g) v) (a b c e : Value) : DiskV B (put4 w g a b c e) v d :=
  (((h.setFar (p := ⟨g, 0, none⟩) hs a).setFar (p := ⟨g, 1, none⟩) hs b).setFar (p := ⟨g, 2, none⟩) hs c).setFar (p := ⟨g, 3, none⟩) hs e
theorem put4_only {g : Nat} (w : World) (a b c d : Value) : w.grownBy (put4 w g a b c d) (some g) := by
  have := put4_below (Below.refl g w) (Nat.le_refl _) a b c d
  refine ⟨this.os, this.tape, this.output, this.size, fun k _ hk2 => ?_⟩
  have hk2 : g ≠ k := fun h => hk2 (by rw [h])
  unfold put4
  rw [setFar hk2, setFar hk2, setFar hk2, setFar hk2]
set_option maxRecDepth 100000 in
set_option maxHeartbeats 1000000 in
theorem must_any {B g : Nat} (v : Value) (d0 d : DiskP) (e : Int) (w : World) (hh : HandAt g w d0) (hd : DiskV B w v d) (hs : DSl (· ≠ g) v) :
    Calls Tryd.prog 69 #[.pointer (some ⟨g, 0, none⟩), v, .int .i64 e] w fun x w' => x = hEnd e ∧ HandAt g w' d ∧ w.grownBy w' (some g) := by
  have hd := hd.tight
  obtain ⟨A, hg, hd0, hs0⟩ := hh
  obtain ⟨p1, q1, p2, q2, hA, _, _⟩ := hd0.parts
  cases hA
  obtain ⟨x1, y1, x2, y2, rfl, _, _⟩ := hd.parts
  obtain ⟨w1, hw1⟩ : ∃ w1, w1 = w.alloc (.cells #[.slice x1 d.secs.length y1, .slice x2 d.loose.length y2, .int .i64 d.fuse, .bool d.down] 25) := ⟨_, rfl⟩
  have hb1 : Below w.heap.size w w1 := by rw [hw1]; exact Below.alloc (Below.refl _ _) (Nat.le_refl _) _
  have hG1 := (hb1.block _ (block_lt hg)).trans hg
  have C0 := cell_of_row w1 _ 0 _ _ _ hG1
  have C1 := cell_of_row w1 _ 1 _ _ _ hG1
  have C2 := cell_of_row w1 _ 2 _ _ _ hG1
  have C3 := cell_of_row w1 _ 3 _ _ _ hG1
  have Z := frozen_row hG1
  have hX : w1.heap[w.heap.size]? = some (.cells #[.slice x1 d.secs.length y1, .slice x2 d.loose.length y2, .int .i64 d.fuse, .bool d.down] 25 (0, 0)) := by rw [hw1]; exact heap_alloc_new w _
  have D0 := cell_of_row w1 _ 0 _ _ _ hX
  have D1 := cell_of_row w1 _ 1 _ _ _ hX
  have D2 := cell_of_row w1 _ 2 _ _ _ hX
  have D3 := cell_of_row w1 _ 3 _ _ _ hX
  have hfin : HandAt g (put4 w1 g (.slice x1 d.secs.length y1) (.slice x2 d.loose.length y2) (.int .i64 d.fuse) (.bool d.down)) d :=
    ⟨_, put4_heap hG1 _ _ _ _, by
      have h1 := put4_diskV ((hd.below hb1).tight) hs (.slice x1 d.secs.length y1) (.slice x2 d.loose.length y2) (.int .i64 d.fuse) (.bool d.down)
      simpa [put4, World.setCell] using h1, hs⟩
  have hfr : w.grownBy (put4 w1 g (.slice x1 d.secs.length y1) (.slice x2 d.loose.length y2) (.int .i64 d.fuse) (.bool d.down)) (some g) := only_trans (only_of_below hb1) (put4_only _ _ _ _ _)
  have HFIN := Lib.hid hfin
  have HFR := Lib.hid hfr
  have HW1 := Lib.hid hw1
  clear hfin hfr hG1 hX hb1 hg hd hd0 hw1
  by_cases he : e = 0
  · subst he
    rw [hEnd0 rfl]
    go_enter Tryd.func69, Tryd.ntmps69
    go_upto_region 1 with (fail)
    rw [← HW1.out]
    go_wp2_with fail
    go_end0
    exact ⟨rfl, HFIN.out, HFR.out⟩
  · rw [hEnd1 he]
    have hne : (e != 0) = true := by rw [bne_iff_ne]; exact he
    clear he
    go_enter Tryd.func69, Tryd.ntmps69
    go_upto_region 1 with (fail)
    rw [← HW1.out]
    go_wp2_with fail
    exact ⟨rfl, rfl, HFIN.out, HFR.out⟩
/-- The four cells of a hand. -/
theorem HandAt.parts {g : Nat} {w : World} {d : DiskP} (h : HandAt g w d) : ∃ p1 q1 p2 q2, w.heap[g]? = some (.cells #[.slice p1 d.secs.length q1, .slice p2 d.loose.length q2, .int .i64 d.fuse, .bool d.down] 110 (0, 0)) ∧ DiskV w.heap.size w (.agg #[.slice p1 d.secs.length q1, .slice p2 d.loose.length q2, .int .i64 d.fuse, .bool d.down]) d ∧ DSl (· ≠ g) (.agg #[.slice p1 d.secs.length q1, .slice p2 d.loose.length q2, .int .i64 d.fuse, .bool d.down]) := by
  obtain ⟨A, hg, hd, hs⟩ := h
  obtain ⟨p1, q1, p2, q2, hA, _, _⟩ := hd.parts
  cases hA
  exact ⟨p1, q1, p2, q2, hg, hd, hs⟩
set_option maxRecDepth 100000 in
set_option maxHeartbeats 2000000 in
theorem hput_any {g : Nat} (d : DiskP) (at_ : Int) (s : List UInt8) (w : World) (hh : HandAt g w d) (h64 : s.length = 64) :
    Calls Tryd.prog 42 #[.pointer (some ⟨g, 0, none⟩), .int .i64 at_, .agg (u8s s).toArray] w fun x w' => x = hEnd (deed d (.put at_ s)).2 ∧ HandAt g w' (deed d (.put at_ s)).1 ∧ w.grownBy w' (some g) := by
  obtain ⟨X, hX⟩ : ∃ X, X = (u8s s).toArray := ⟨_, rfl⟩
  have hXs : X.size = 64 := by rw [hX]; simp [length_u8s, h64]
  obtain ⟨w1, hw1⟩ : ∃ w1, w1 = w.alloc (.cells X 73) := ⟨_, rfl⟩
  have hb1 : Below w.heap.size w w1 := by rw [hw1]; exact Below.alloc (Below.refl _ _) (Nat.le_refl _) _
  have hXr : w1.heap[w.heap.size]? = some (.cells X 73 (0, 0)) := by rw [hw1]; exact heap_alloc_new w _
  have hh1 := hh.below hb1
  obtain ⟨p1, q1, p2, q2, hg, hd, hs⟩ := hh1.parts
  have C0 := cell_of_row w1 _ 0 _ _ _ hg
  have C1 := cell_of_row w1 _ 1 _ _ _ hg
  have C2 := cell_of_row w1 _ 2 _ _ _ hg
  have C3 := cell_of_row w1 _ 3 _ _ _ hg
  obtain ⟨i44, hi44, hs44⟩ := info44
  have hld := run_load_big (P := Tryd.prog) (t := 73) Tryd.underlying73 (.inl ⟨_, _, rfl⟩) hi44 (w := w1.drew) (b := w.heap.size) (off := 0) (cs := X.toList) hs44 (by simpa using hXs)
    (fun j u hj => by
      show w1.cell? _ = _
      rw [cell_of_row w1 _ (0 + j) _ _ _ hXr]; simpa using hj)
  simp only [Array.toArray_toList] at hld
  have k1 := put_any _ d at_ s w1.drew (show DiskV w1.heap.size w1.drew _ d from hd.below (below_draws (Below.refl _ _) 1)) h64 (· ≠ g) hs (fun b hb => by show b ≠ g; have : w1.drew.heap.size = w1.heap.size := rfl; have := block_lt hg; omega)
  have k2 : ∀ (v : Value) (w2 : World) (hb : Below w1.drew.heap.size w1.drew w2) (hd2 : DiskV w2.heap.size w2 v (putP d at_ s).1) (hs2 : DSl (· ≠ g) v), Calls Tryd.prog 69 #[.pointer (some ⟨g, 0, none⟩), v, .int .i64 (putP d at_ s).2] w2 fun x w' => x = hEnd (putP d at_ s).2 ∧ HandAt g w' (putP d at_ s).1 ∧ w.grownBy w' (some g) := fun v w2 hb hd2 hs2 =>
    (must_any v d (putP d at_ s).1 (putP d at_ s).2 w2 (hh1.below ((below_draws (Below.refl _ _) 1).trans hb)) hd2 hs2).mono fun x w' hx => ⟨hx.1, hx.2.1, only_trans (only_trans (only_of_below hb1) (only_of_below ((below_draws (Below.refl _ _) 1).trans hb))) hx.2.2⟩
  show Calls _ _ _ _ fun x w' => x = hEnd (putP d at_ s).2 ∧ HandAt g w' (putP d at_ s).1 ∧ w.grownBy w' (some g)
  obtain ⟨r, hr⟩ : ∃ r, r = putP d at_ s := ⟨_, rfl⟩
  rw [← hr] at k1
  simp only [← hr] at k2
  rw [← hX] at k1 ⊢
  rw [← hr]
  have K2 := Lib.hid k2
  have HW1 := Lib.hid hw1
  clear hr hX hXs hi44 hs44 k2 hXr hb1 hh hh1 hd hs hg hw1
  go_enter Tryd.func42, Tryd.ntmps42
  go_upto_region 1 with (fail)
  rw [← HW1.out]
  refine wp_region_startQ (fun _ => True) (by kernel_rfl) trivial ?_
  refine wpAnyH_partQ [(false, 0), (false, 1), (false, 2), (false, 3), (false, 5)] (by kernel_rfl) (fun _ d _ _ _ h => by cases d <;> exact h) trivial ?_
  repeat (first | (refine heldI_skip rfl rfl ?_; simp only [Act.put, List.setIfInBounds_toArray, List.set_cons_zero, List.set_cons_succ]) | (refine heldI_take rfl ?_ rfl (fun w' hw' => ?_) ?_; rotate_left; (go_simp; first | done | with_reducible rfl); (try simp only [Act.put, List.setIfInBounds_toArray, List.set_cons_zero, List.set_cons_succ])))
  refine heldI_nil ?_
  refine wpAnyH_ready (rs := [4, 6]) (by kernel_rfl) (by simp) ?_
  refine ready_cons rfl rfl (fun K hK => ?_) (ready_cons rfl rfl (fun K hK => ?_) AllReadyH.nil)
  · go_simp
    refine hK.out _ _ trivial ?_
    clear hK K
    refine wpAnyH_endQ [(true, 6), (true, 7), (false, 8), (false, 9), (true, 10)] (by kernel_rfl) (fun _ d _ _ _ h => by cases d <;> exact h) trivial ?_
    refine heldI_act rfl rfl fun K hK => ?_
    refine op_load (.tmp 5) 73 rfl rfl hld ?_
    refine hK.out _ _ trivial ?_
    clear hK K hld C0 C1 C2 C3
    simp only [Act.put, List.setIfInBounds_toArray, List.set_cons_zero, List.set_cons_succ]
    refine heldI_act rfl rfl fun K hK => ?_
    go_simp
    refine k1.mono ?_
    rintro e w2 ⟨⟨v', rfl, hd', hs'⟩, hb2⟩
    refine hK.out _ _ trivial ?_
    clear hK K k1
    repeat (first | (refine heldI_skip rfl rfl ?_; simp only [Act.put, List.setIfInBounds_toArray, List.set_cons_zero, List.set_cons_succ]) | (refine heldI_take rfl ?_ rfl (fun w' hw' => ?_) ?_; rotate_left; (go_simp; first | done | with_reducible rfl); (try simp only [Act.put, List.setIfInBounds_toArray, List.set_cons_zero, List.set_cons_succ])))
    have k2 := K2.out v' w2 hb2 hd' hs'
    refine heldI_act rfl rfl fun K hK => ?_
    go_simp
    refine k2.mono ?_
    rintro e w3 ⟨rfl, hh3, ho3⟩
    by_cases he : r.2 = 0
    · have e0 := hEnd0 he
      rw [e0]
      refine hK.out _ _ trivial ?_
      have HE := Lib.hid e0
      have HH := Lib.hid hh3
      clear hK K k2 he e0 hh3
      refine heldI_nil ?_
      go_wp2_with fail
      go_end0
      exact ⟨HE.out.symm, HH.out, ho3⟩
    · have e0 := hEnd1 he
      rw [e0]
      exact ⟨rfl, e0.symm, hh3, ho3⟩
  · refine op_load (.tmp 5) 73 rfl rfl hld ?_
    refine hK.out _ _ trivial ?_
    clear hK K hld
    simp only [Act.put, List.setIfInBounds_toArray, List.set_cons_zero, List.set_cons_succ]
    refine wpAnyH_endQ [(true, 4), (true, 7), (false, 8), (false, 9), (true, 10)] (by kernel_rfl) (fun _ d _ _ _ h => by cases d <;> exact h) trivial ?_
    refine heldI_act rfl rfl fun K hK => ?_
    go_simp
    refine hK.out _ _ trivial ?_
    clear hK K C0 C1 C2 C3
    refine heldI_act rfl rfl fun K hK => ?_
    go_simp
    refine k1.mono ?_
    rintro e w2 ⟨⟨v', rfl, hd', hs'⟩, hb2⟩
    refine hK.out _ _ trivial ?_
    clear hK K k1
    repeat (first | (refine heldI_skip rfl rfl ?_; simp only [Act.put, List.setIfInBounds_toArray, List.set_cons_zero, List.set_cons_succ]) | (refine heldI_take rfl ?_ rfl (fun w' hw' => ?_) ?_; rotate_left; (go_simp; first | done | with_reducible rfl); (try simp only [Act.put, List.setIfInBounds_toArray, List.set_cons_zero, List.set_cons_succ])))
    have k2 := K2.out v' w2 hb2 hd' hs'
    refine heldI_act rfl rfl fun K hK => ?_
    go_simp
    refine k2.mono ?_
    rintro e w3 ⟨rfl, hh3, ho3⟩
    by_cases he : r.2 = 0
    · have e0 := hEnd0 he
      rw [e0]
      refine hK.out _ _ trivial ?_
      have HE := Lib.hid e0
      have HH := Lib.hid hh3
      clear hK K k2 he e0 hh3
      refine heldI_nil ?_
      go_wp2_with fail
      go_end0
      exact ⟨HE.out.symm, HH.out, ho3⟩
    · have e0 := hEnd1 he
      rw [e0]
      exact ⟨rfl, e0.symm, hh3, ho3⟩
set_option maxRecDepth 100000 in
set_option maxHeartbeats 2000000 in
theorem hflush_any {g : Nat} (d : DiskP) (w : World) (hh : HandAt g w d) :
    Calls Tryd.prog 41 #[.pointer (some ⟨g, 0, none⟩)] w fun x w' => x = hEnd (deed d .flush).2 ∧ HandAt g w' (deed d .flush).1 ∧ w.grownBy w' (some g) := by
  obtain ⟨p1, q1, p2, q2, hg, hd, hs⟩ := hh.parts
  have C0 := cell_of_row w _ 0 _ _ _ hg
  have C1 := cell_of_row w _ 1 _ _ _ hg
  have C2 := cell_of_row w _ 2 _ _ _ hg
  have C3 := cell_of_row w _ 3 _ _ _ hg
  have k1 := flush_any _ d w hd (· ≠ g) hs (fun b hb => by show b ≠ g; have := block_lt hg; omega)
  have k2 : ∀ (v : Value) (w2 : World) (hb : Below w.heap.size w w2) (hd2 : DiskV w2.heap.size w2 v (flushP d).1) (hs2 : DSl (· ≠ g) v), Calls Tryd.prog 69 #[.pointer (some ⟨g, 0, none⟩), v, .int .i64 (flushP d).2] w2 fun x w' => x = hEnd (flushP d).2 ∧ HandAt g w' (flushP d).1 ∧ w.grownBy w' (some g) := fun v w2 hb hd2 hs2 =>
    (must_any v d (flushP d).1 (flushP d).2 w2 (hh.below hb) hd2 hs2).mono fun x w' hx => ⟨hx.1, hx.2.1, only_trans (only_of_below hb) hx.2.2⟩
  show Calls _ _ _ _ fun x w' => x = hEnd (flushP d).2 ∧ HandAt g w' (flushP d).1 ∧ w.grownBy w' (some g)
  obtain ⟨r, hr⟩ : ∃ r, r = flushP d := ⟨_, rfl⟩
  rw [← hr] at k1
  simp only [← hr] at k2
  rw [← hr]
  have K2 := Lib.hid k2
  clear hr k2 hh hd hs hg
  go_enter Tryd.func41, Tryd.ntmps41
  go_wp2_with fail
  refine k1.mono ?_
  rintro e w2 ⟨⟨v', rfl, hd', hs'⟩, hb2⟩
  have k2 := K2.out v' w2 hb2 hd' hs'
  clear k1
  go_wp2_with fail
  refine k2.mono ?_
  rintro e w3 ⟨rfl, hh3, ho3⟩
  by_cases he : r.2 = 0
  · have e0 := hEnd0 he
    rw [e0]
    have HE := Lib.hid e0
    have HH := Lib.hid hh3
    clear k2 he e0 hh3
    go_wp2_with fail
    go_end0
    exact ⟨HE.out.symm, HH.out, ho3⟩
  · have e0 := hEnd1 he
    rw [e0]
    exact ⟨rfl, e0.symm, hh3, ho3⟩
end Go.Proofs.YtaijompnohkmaaaDoor
/- Layer 5 (wal): the hand's bytes. -/
namespace Go.Proofs.YtaijompnohkmaaaDoor
open Go.RowKit WalP PackP
section
variable {P : Program} {ops : Array Oper} {rest : List Oper} {o : Oper} {a : Act} {w : World} {Q : Exit → Act → World → Prop}
def CopySrc (w : World) (C : List Value) (dp sp : Option Addr) (g off : Nat) : Prop :=
  0 < C.length → dp = some ⟨g, off, none⟩ ∧ ∃ ad, sp = some ad ∧ ∀ j v, C[j]? = some v → w.cell? (ad.add j) = some v
theorem wp_copy_at (hgd : o.guard = none) (d s : Operand) (dT sT : TypeId)
    (ho : o.op = .call { callee := .builtin .copy, args := #[d, s], argTypes := #[dT, sT] }) (elem : TypeId) (hu : P.underlying dT = some (.slice elem)) (hsz : (P.info? elem).map (·.size) = some 1)
    (dp sp : Option Addr) (dLen dCap sLen sCap : Nat) (hd : a.eval d = .slice dp dLen dCap) (hs : a.eval s = .slice sp sLen sCap)
    (g off : Nat) (cur : List Value) (t : TypeId) (hg : w.heap[g]? = some (.cells cur.toArray t (0, 0))) (cs : List Value) (hn : cs.length = Nat.min sLen dLen)
    (hpos : CopySrc w cs dp sp g off)
    (hfit : off + cs.length ≤ cur.length) (h1 : ∀ v ∈ cs, v.oneCell' = true)
    (h : ∀ w', w'.heap[g]? = some (.cells (splice cur off cs).toArray t (0, 0)) → Below g w w' → w'.heap.size = w.heap.size → (∀ k, k ≠ g → w'.heap[k]? = w.heap[k]?) → wpList P ops Q rest (a.put o.dst (goInt cs.length)) w') : wpList P ops Q (o :: rest) a w :=
  wpList_plain hgd fun K hK => op_copy hgd d s dT sT ho elem hu hsz dp sp dLen dCap sLen sCap hd hs g off cur t hg cs hn hpos hfit h1 fun w' h2 h3 h4 h5 => hK _ _ (h w' h2 h3 h4 h5)
end
/-- Nothing ahead of the hand's block is turned. -/
theorem below_hand {g : Nat} {w w' : World} (h : w.grownBy w' (some g)) (hg : g < w.heap.size) : Below g w w' := ⟨h.os, h.tape, h.output, h.size, fun k hk => h.block k (by omega) (fun e => by cases e; omega)⟩
theorem HandAt.lt {g : Nat} {w : World} {d : DiskP} (h : HandAt g w d) : g < w.heap.size := by obtain ⟨_, h, _⟩ := h; exact block_lt h
theorem pad64_take (b : List UInt8) : pad64 (b.take 64) = pad64 b := by
  unfold pad64
  rw [List.take_take, List.length_take]
  congr 2
  omega
theorem bytesD_succ (at_ : Int) (bs : List UInt8) (k : Nat) (hk : k < (bs.length + 63) / 64) : (bytesD at_ bs).take (k + 1) = (bytesD at_ bs).take k ++ [.put (at_ + 1 + k) (pad64 (bs.drop (64 * k)))] := by
  unfold bytesD
  rw [List.take_add_one, List.getElem?_map, List.getElem?_range hk]
  rfl
theorem bytesD_all (at_ : Int) (bs : List UInt8) (k : Nat) (hk : (bs.length + 63) / 64 ≤ k) : (bytesD at_ bs).take k = bytesD at_ bs := List.take_of_length_le (by unfold bytesD; simpa using hk)
theorem run_bad (d : DiskP) (xs ys : List Deed) (h : (run d xs).2 ≠ 0) : run d (xs ++ ys) = run d xs := by rw [WalP.run_append, if_neg h]
theorem run_good (d : DiskP) (xs ys : List Deed) (h : (run d xs).2 = 0) : run d (xs ++ ys) = run (run d xs).1 ys := by rw [WalP.run_append, if_pos h]
/-- Where a part has failed all has. -/
theorem run_fail_at (d d' : DiskP) (xs ys : List Deed) (x : Deed) (h : run d xs = (d', 0)) (hx : (deed d' x).2 ≠ 0) : run d ((xs ++ [x]) ++ ys) = deed d' x := by
  have h1 : run d (xs ++ [x]) = deed d' x := by rw [run_good d xs [x] (by rw [h]), h, run_one]
  rw [run_bad d _ _ (by rw [h1]; exact hx), h1]
theorem Bytes.form {B : Nat} {w : World} {v : Value} {bs : List UInt8} (h : Bytes B w v bs) : ∃ a c, v = .slice a bs.length c := by obtain ⟨_, a, c, h, _⟩ := h; exact ⟨a, c, h⟩
theorem chunk_facts (bs : List UInt8) (k L n : Nat) (hL : L = bs.length - 64 * k) (hn : n = min L 64) :
    (bs.drop (64 * k)).length = L ∧ ((bs.drop (64 * k)).take 64).length = n ∧ ((bs.drop (64 * k)).drop n).length = bs.length - 64 * (k + 1) ∧ (bs.drop (64 * k)).drop n = bs.drop (64 * (k + 1)) ∧ n ≤ L ∧ n ≤ 64 := by
  have h1 : (bs.drop (64 * k)).length = L := by rw [List.length_drop, hL]
  have hd : (bs.drop (64 * k)).drop n = bs.drop (64 * (k + 1)) := by
    by_cases h64 : 64 ≤ L
    · have : n = 64 := by omega
      rw [this, List.drop_drop]; congr 1
    · rw [List.drop_of_length_le (by omega), List.drop_of_length_le (by omega)]
  exact ⟨h1, by rw [List.length_take, h1]; omega, by rw [hd, List.length_drop], hd, by omega, by omega⟩
set_option maxRecDepth 100000 in
set_option maxHeartbeats 2000000 in
theorem hbytes_any {g : Nat} (d : DiskP) (at_ : Int) (v : Value) (bs : List UInt8) (w : World) (hh : HandAt g w d) (hv : Bytes g w v bs) (hlen : bs.length ≤ 2 ^ 20) (ha0 : 0 ≤ at_) (ha1 : at_ ≤ 2 ^ 40) :
    Calls Tryd.prog 40 #[.pointer (some ⟨g, 0, none⟩), .int .i64 at_, v] w fun x w' => x = hEnd (run d (bytesD at_ bs)).2 ∧ HandAt g w' (run d (bytesD at_ bs)).1 ∧ w.grownBy w' (some g) := by
  obtain ⟨z0, hz0, hzr⟩ := zero44
  obtain ⟨N, hN⟩ : ∃ N, N = (bs.length + 63) / 64 := ⟨_, rfl⟩
  obtain ⟨a0, c0, rfl⟩ := hv.form
  have HV := Lib.hid hv
  have HH := Lib.hid hh
  have HN := Lib.hid hN
  have HZ := Lib.hid hzr
  have HZ0 := Lib.hid hz0
  clear hv hh hN hzr hz0
  go_enter Tryd.func40, Tryd.ntmps40
  go_wp2_with fail
  go_loopw [1, 2] (fun z u wr => ∃ (k : Nat) (dk : DiskP) (a : Option Addr) (c : Nat), k ≤ N ∧ z = .int .i64 (at_ + k) ∧ u = .slice a (bs.length - 64 * k) c ∧ Bytes g wr (.slice a (bs.length - 64 * k) c) (bs.drop (64 * k)) ∧ HandAt g wr dk ∧ run d ((bytesD at_ bs).take k) = (dk, 0) ∧ w.grownBy wr (some g)) (fun z u _ => match u with | .slice _ n _ => n | _ => 0)
  case atStart => exact ⟨0, d, a0, c0, Nat.zero_le _, by simp, by simp, by simpa using HV.out, HH.out, rfl, only_refl _ _⟩
  case round =>
    obtain ⟨k, dk, a, c, hk, rfl, rfl, hb, hh, hr, ho⟩ := hrel
    obtain ⟨L, hL⟩ : ∃ L, L = bs.length - 64 * k := ⟨_, rfl⟩
    rw [← hL] at hb ⊢
    have hL20 : L ≤ 2 ^ 20 := by omega
    obtain ⟨n, hn⟩ : ∃ n, n = min L 64 := ⟨_, rfl⟩
    obtain ⟨hLl, hlc, hdl, hdd, hn1, hn2⟩ := chunk_facts bs k L n hL hn
    have HL := Lib.hid hL
    have HR := Lib.hid hr
    have HO := Lib.hid ho
    clear hr ho
    by_cases hp : 0 < L
    · have hkN : k < N := by have := HN.out; omega
      obtain ⟨zk, hzk⟩ : ∃ z, z = at_ + (k : Int) := ⟨_, rfl⟩
      have hz0 : 0 ≤ zk := by omega
      have hz1 : zk ≤ 2 ^ 41 := by have := HN.out; omega
      rw [← hzk]
      have HZK := Lib.hid hzk
      clear hzk
      clear hL
      obtain ⟨w1, hw1⟩ : ∃ w1, w1 = wr.alloc (.cells z0.cells 73) := ⟨_, rfl⟩
      have hb1 : Below wr.heap.size wr w1 := by rw [hw1]; exact Below.alloc (Below.refl _ _) (Nat.le_refl _) _
      have hX1 : w1.heap[wr.heap.size]? = some (.cells (u8s zeroS).toArray 73 (0, 0)) := by rw [hw1, ← HZ0.out]; exact heap_alloc_new wr _
      have hg := hh.lt
      have hbb1 := hb.below (hb1.mono (Nat.le_of_lt hg))
      obtain ⟨b, off, rfl, hbg, hcells⟩ : ∃ b off, a = some ⟨b, off, none⟩ ∧ b < g ∧ ∀ j u, (u8s ((bs.drop (64 * k)).take 64))[j]? = some u → w1.cell? ⟨b, off + j, none⟩ = some u := by
        obtain ⟨_, a', c', hv, _, _, h4⟩ := hbb1
        cases hv
        obtain ⟨b, off, rfl, h5, h6⟩ := h4 hp
        refine ⟨b, off, rfl, h5, fun j u hj => h6 j u ?_⟩
        rw [← u8s_take] at hj
        have hjl := (List.getElem?_eq_some_iff.1 hj).1
        rw [List.getElem?_take] at hj
        split at hj
        · exact hj
        · cases hj
      obtain ⟨C, hC⟩ : ∃ C, C = u8s ((bs.drop (64 * k)).take 64) := ⟨_, rfl⟩
      rw [← hC] at hcells
      have hCl : C.length = n := by rw [hC, length_u8s, hlc]
      have hC1 : ∀ v ∈ C, v.oneCell' = true := by rw [hC]; exact oneCell_u8s _
      have hcn : C.length = Nat.min L 64 := by rw [hCl, hn]
      have hcp : CopySrc w1 C (some ⟨wr.heap.size, 0, none⟩) (some ⟨b, off, none⟩) wr.heap.size 0 :=
        fun _ => ⟨rfl, _, rfl, fun j v hj => by rw [addp]; exact hcells j v hj⟩
      have hcf : 0 + C.length ≤ (u8s zeroS).length := by rw [hCl, length_u8s]; simpa [zeroS] using hn2
      have HCP := Lib.hid hcp
      have HCF := Lib.hid hcf
      have HC1 := Lib.hid hC1
      clear hcp hcf hC1
      have hspl : splice (u8s zeroS) 0 C = u8s (pad64 (bs.drop (64 * k))) := by rw [hC, splice_pad _ (by rw [hlc]; exact hn2), pad64_take]
      obtain ⟨i0, hi, _, hsz, _⟩ := info_parts info_u8
      rw [← hLl] at hbb1
      obtain ⟨v2, kv, hv2⟩ := run_slice_from (P := Tryd.prog) Tryd.underlying43 hi hsz hbb1 n (by rw [hLl]; exact hn1)
      rw [hLl] at kv
      obtain ⟨a2, c2, rfl⟩ := hv2.form
      rw [hdl] at kv hv2
      rw [hdd] at hv2
      have hW1 := Lib.hid hw1
      have HV2 := Lib.hid hv2
      have HSP := Lib.hid hspl
      have HX1 := Lib.hid hX1
      have HH1 := Lib.hid (hh.below hb1)
      have HH0 := Lib.hid hh
      have HB0 := Lib.hid hb1
      have HCN := Lib.hid hcn
      have HCL := Lib.hid hCl
      have HDL := Lib.hid hdl
      have HDD := Lib.hid hdd
      clear hw1 hv2 hspl hX1 hb1 hbb1 hb hh hcn hCl hdl hdd hC hcells hlc hLl hn
      go_wp2_with (refine wp_alloc_to (w' := w1) 73 rfl rfl (HZ.out _) ?_ ?_; (exact hW1.out); refine Halt.in ?_)
      refine Halt.out ?_
      clear hW1
      go_wp2_with (refine wp_copy_at rfl (.tmp 13) (.tmp 14) 43 43 rfl 5 Tryd.underlying43 info_u8s _ _ 64 64 L c rfl rfl wr.heap.size 0 (u8s zeroS) _ HX1.out C HCN.out HCP.out HCF.out HC1.out ?_; intro w2 hX2 hb2 hs2 ho2; refine Halt.in ?_)
      refine Halt.out ?_
      rw [HCL.out]
      rw [HSP.out] at hX2
      have hb12 : Below wr.heap.size wr w2 := HB0.out.trans hb2
      have hh2 := HH0.out.below hb12
      have hlt2 := hh2.lt
      have hv2 := HV2.out.below (hb2.mono (Nat.le_of_lt HH0.out.lt))
      have ho12 := only_trans HO.out (only_of_below (g := g) hb12)
      obtain ⟨pd, hpd⟩ : ∃ p, p = pad64 (bs.drop (64 * k)) := ⟨_, rfl⟩
      have hpl : pd.length = 64 := by rw [hpd]; exact length_pad64 _
      have kp := hput_any dk (zk + 1) pd w2 hh2 hpl
      rw [← hpd] at hX2
      obtain ⟨i44, hi44, hs44⟩ := info44
      have hld := run_load_big (P := Tryd.prog) (t := 73) Tryd.underlying73 (.inl ⟨_, _, rfl⟩) hi44 (w := w2) (b := wr.heap.size) (off := 0) (cs := u8s pd) hs44 (by rw [length_u8s, hpl])
        (fun j u hj => by rw [cell_of_row w2 _ (0 + j) _ _ _ hX2]; simpa using hj)
      obtain ⟨X, hX⟩ : ∃ X, X = (u8s pd).toArray := ⟨_, rfl⟩
      rw [← hX] at hld kp
      have HV3 := Lib.hid hv2
      have HO3 := Lib.hid ho12
      have HPD := Lib.hid hpd
      clear hb12 hh2 hv2 ho12 hb2 hs2 ho2 hX hX2 hi44 hs44 hpd hpl
      go_wp2_with (refine wp_load_at (.tmp 6) 73 rfl rfl rfl hld ?_; refine Halt.in ?_)
      refine Halt.out ?_
      clear hld
      go_wp2_with fail
      refine kp.mono ?_
      rintro e w3 ⟨rfl, hh3, ho3⟩
      have hdeed : (bytesD at_ bs).take (k + 1) = (bytesD at_ bs).take k ++ [.put (zk + 1) pd] := by
        rw [bytesD_succ at_ bs k (by rw [← HN.out]; exact hkN), HPD.out, HZK.out]
        congr 3
        omega
      have HD := Lib.hid hdeed
      have HO4 := Lib.hid (only_trans HO3.out ho3)
      have HV4 := Lib.hid (HV3.out.below (below_hand ho3 hlt2))
      clear hdeed
      by_cases he : (deed dk (.put (zk + 1) pd)).2 = 0
      · have e0 := hEnd0 he
        rw [e0]
        have HH3 := Lib.hid hh3
        have HE := Lib.hid he
        clear kp he e0 hh3 ho3
        go_wp2_with fail
        go_roundw
        case rel =>
          refine ⟨k + 1, (deed dk (.put (zk + 1) pd)).1, a2, c2, by omega, by rw [HZK.out]; congr 1; omega, rfl, HV4.out, HH3.out, ?_, HO4.out⟩
          rw [HD.out, run_good _ _ _ (by rw [HR.out]), HR.out, run_one, ← HE.out]
        case measure =>
          show bs.length - 64 * (k + 1) < L
          have := HL.out
          omega
      · have e0 := hEnd1 he
        rw [e0]
        have hall : run d (bytesD at_ bs) = deed dk (.put (zk + 1) pd) := by
          rw [← List.take_append_drop (k + 1) (bytesD at_ bs), HD.out]
          exact run_fail_at d dk _ _ _ HR.out he
        refine ⟨rfl, ?_⟩
        show _ = hEnd (run d (bytesD at_ bs)).2 ∧ HandAt g w3 (run d (bytesD at_ bs)).1 ∧ w.grownBy w3 (some g)
        rw [hall]
        exact ⟨e0.symm, hh3, HO4.out⟩
    · have hkN : N ≤ k := by have := HN.out; have := HL.out; omega
      obtain rfl : L = 0 := by omega
      have hall := bytesD_all at_ bs k (by rw [← HN.out]; exact hkN)
      go_wp2_with fail
      go_end0
      have := HR.out
      rw [hall] at this
      rw [this]
      exact ⟨(hEnd0 rfl).symm, hh, HO.out⟩
end Go.Proofs.YtaijompnohkmaaaDoor
