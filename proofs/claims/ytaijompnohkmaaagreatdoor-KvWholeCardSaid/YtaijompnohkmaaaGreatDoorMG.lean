/- Layer 5 (wal): marks, laid. -/
import Derived.Test.YtaijompnohkmaaaGreatDoorMF
import Derived.WalkSpells
import Derived.WalkLawsBesides
import Derived.Recover
set_option linter.unusedSimpArgs false
set_option linter.unusedVariables false
namespace Go.Proofs.YtaijompnohkmaaaGreatDoor
open Go.RowKit WalP PackP
/-- A mark as a value. -/
def markV (gen k len sum : Int) : Value := .agg #[.int .i64 gen, .int .i64 k, .int .i64 len, .int .u32 sum]
set_option maxRecDepth 100000 in
set_option maxHeartbeats 1000000 in
theorem of_any {B : Nat} (gen k : Int) (v : Value) (bs : List UInt8) (w : World) (ht : TabAt w) (hT : 1 < w.heap.size) (hv : Bytes B w v bs) :
    Calls Tryz.prog 109 #[.int .i64 gen, .int .i64 k, v] w fun e w' => e = .returned (markV gen k bs.length (SumP.toI (SumP.sum bs))) ∧ Below w.heap.size w w' := by
  have hv := hv.tight
  have hb := Below.alloc (Below.refl w.heap.size w) (Nat.le_refl _) (.cells #[.int .i64 0, .int .i64 0, .int .i64 0, .int .u32 0] 145)
  have k1 := sum_any v bs _ _ (ht.below hb hT) (hv.below hb)
  have hb := Below.alloc (Below.refl w.heap.size w) (Nat.le_refl _) (.cells #[.int .i64 gen, .int .i64 k, .int .i64 bs.length, .int .u32 (SumP.toI (SumP.sum bs))] 145)
  obtain ⟨_, a, cap, rfl, _, hcap, _⟩ := hv
  unfold maxLen at hcap
  go_enter Tryz.func109, Tryz.ntmps109
  go_wp2_with fail
  refine k1.mono ?_
  rintro e w' ⟨rfl, rfl⟩
  go_wp2_with fail
  unfold markV
  exact bodyPost_ret (v := .agg #[.int .i64 gen, .int .i64 k, .int .i64 bs.length, .int .u32 (SumP.toI (SumP.sum bs))]) (by simp [results, Tryz.results109, go_sem]) rfl ⟨rfl, hb⟩
theorem numsB4 (gen k len sum : Int) : [(87 : UInt8), 76, 79, 71] ++ numsB [gen, k, len, sum] = markB gen k len sum := by simp [numsB, markB]
theorem length_markB (gen k len sum : Int) : (markB gen k len sum).length = 36 := by simp [markB, numB, length_be]
theorem splice_pad (m : List UInt8) (hm : m.length ≤ 64) : splice (u8s zeroS) 0 (u8s m) = u8s (pad64 m) := by
  have e : u8s zeroS = List.replicate 64 (.int .u8 0) := by simp [u8s, zeroS, u8]
  have e2 : u8s (List.replicate (64 - m.length) 0) = List.replicate (64 - m.length) (.int .u8 0) := by rw [u8s, List.map_replicate]; rfl
  unfold splice pad64
  rw [e, u8s_append, e2, List.take_of_length_le hm, List.drop_replicate, length_u8s, Nat.zero_add]
  rfl
theorem info_u8s : (Tryz.prog.info? 5).map (·.size) = some 1 := by kernel_rfl
/-- A row at a block's head. -/
theorem row_of_heap {B g : Nat} {w : World} {C : Array Value} {e : TypeId} {fz : Nat × Nat} {sz n cap : Nat} {cs : List Value} (hg : w.heap[g]? = some (.cells C e fz)) (hB : g < B) (hl : cs.length = n * sz) (hnc : n ≤ cap) (hcap : cap ≤ maxLen)
    (hC : ∀ (k : Nat) (u : Value), cs[k]? = some u → C[k]? = some u) : Row B w (.slice (some ⟨g, 0, none⟩) n cap) sz n cs :=
  ⟨hl, _, cap, rfl, hnc, hcap, fun _ => ⟨g, 0, rfl, hB, fun k u hk => by rw [cell_of_row w g (0 + k) _ _ _ hg, Nat.zero_add]; exact hC k u hk⟩⟩
theorem addp (b off k : Nat) : (⟨b, off, none⟩ : Addr).add k = ⟨b, off + k, none⟩ := by unfold Addr.add; split <;> simp_all
theorem nums_mark (gen k len sum : Int) (gA gB : Nat) (w : World) {fz : Nat × Nat} (hA : w.heap[gA]? = some (.cells #[.int .u8 87, .int .u8 76, .int .u8 79, .int .u8 71] 5 fz)) (hB : w.heap[gB]? = some (.cells #[.int .i64 gen, .int .i64 k, .int .i64 len, .int .i64 sum] 3 (0, 0))) :
    Calls Tryz.prog 81 #[.slice (some ⟨gA, 0, none⟩) 4 4, .slice (some ⟨gB, 0, none⟩) 4 4] w fun e w' => (∃ ad cap, e = .returned (.slice (some ad) 36 cap) ∧ ∀ j v, (u8s (markB gen k len sum))[j]? = some v → w'.cell? (ad.add j) = some v) ∧ Below w.heap.size w w' := by
  have h1 : Bytes w.heap.size w (.slice (some ⟨gA, 0, none⟩) 4 4) [87, 76, 79, 71] := row_of_heap (sz := 1) (n := 4) hA (block_lt hA) rfl (Nat.le_refl _) (by decide) (fun k u hk => by simpa [u8s, u8] using hk)
  have h2 : Ints w.heap.size w (.slice (some ⟨gB, 0, none⟩) 4 4) [gen, k, len, sum] := row_of_heap (sz := 1) (n := 4) hB (block_lt hB) rfl (Nat.le_refl _) (by decide) (fun k u hk => by simpa using hk)
  refine (num_any _ _ _ _ w h1 h2 (by simp)).mono ?_
  rintro e w' ⟨v', rfl, ho, hb⟩
  rw [numsB4] at ho
  obtain ⟨_, a, cap, rfl, _, _, hc⟩ := ho.bytes
  rw [length_markB] at hc ⊢
  obtain ⟨b, off, rfl, _, hc⟩ := hc (by omega)
  exact ⟨⟨_, cap, rfl, fun j v hj => by rw [addp]; exact hc j v hj⟩, hb⟩
/-- Bytes of a constant: the row is marked. -/
theorem conv_mark {w : World} {g : Nat} {C : Array Value} {e : TypeId} (hg : w.heap[g]? = some (.cells C e (0, 0))) (l c : Nat) :
    ∃ w', (convert 23 23 (.slice (some ⟨g, 0, none⟩) l c)).run Tryz.prog w = .ok (.slice (some ⟨g, 0, none⟩) l c) w' ∧ w'.heap[g]? = some (.cells C e (C.size, C.size + 1)) ∧ Below g w w' ∧ w'.heap.size = w.heap.size ∧ ∀ k, k ≠ g → w'.heap[k]? = w.heap[k]? := by
  have hsh : w.shape? g = some (e, C.size) := by unfold World.shape?; rw [hg]
  have ho : ∀ k, k ≠ g → (w.freeze ⟨g, C.size, none⟩ 1).heap[k]? = w.heap[k]? := fun k hk => by
    unfold World.freeze
    rw [if_neg (by decide)]
    simp only [Array.getElem?_modify]
    rw [if_neg (fun h => hk h.symm)]
  refine ⟨w.freeze ⟨g, C.size, none⟩ 1, by simp [convert, run_underlying Tryz.underlying23, run_underlying Tryz.underlying5, markStringish, hsh], ?_, ⟨rfl, rfl, rfl, by simp [World.freeze], fun k hk => ho k (by omega)⟩, by simp [World.freeze], ho⟩
  unfold World.freeze
  rw [if_neg (by decide)]
  simp only [Array.getElem?_modify, hg]
  rfl
set_option maxRecDepth 100000 in
set_option maxHeartbeats 2000000 in
theorem sector_any (gen k len sum : Int) (w : World) (hs0 : 0 ≤ sum) (hs1 : sum < 2 ^ 32) :
    Calls Tryz.prog 110 #[markV gen k len sum] w fun e w' => e = .returned (.agg (u8s (markS gen k len sum)).toArray) ∧ Below w.heap.size w w' := by
  obtain ⟨z, hz, hzr⟩ := zero44
  obtain ⟨w1, hw1⟩ : ∃ w1, w1 = w.alloc (.cells #[.int .i64 gen, .int .i64 k, .int .i64 len, .int .u32 sum] 145) := ⟨_, rfl⟩
  obtain ⟨w2, hw2⟩ : ∃ w2, w2 = w1.alloc (.cells z.cells 94) := ⟨_, rfl⟩
  have hs1 : w1.heap.size = w.heap.size + 1 := by rw [hw1]; simp
  have hb1 : Below w.heap.size w w1 := by rw [hw1]; exact Below.alloc (Below.refl _ _) (Nat.le_refl _) _
  have hb2 : Below w1.heap.size w1 w2 := by rw [hw2]; exact Below.alloc (Below.refl _ _) (Nat.le_refl _) _
  have G1 : w2.heap[w.heap.size]? = some (.cells #[.int .i64 gen, .int .i64 k, .int .i64 len, .int .u32 sum] 145 (0, 0)) := (hb2.block _ (by omega)).trans (by rw [hw1]; exact heap_alloc_new w _)
  have G2 : w2.heap[w1.heap.size]? = some (.cells (u8s zeroS).toArray 94 (0, 0)) := by rw [hw2, ← hz]; exact heap_alloc_new w1 _
  rw [hs1] at G2
  have hB : Below w.heap.size w w2 := hb1.trans (hb2.mono hb1.size)
  have HW1 := Lib.hid hw1
  have HW2 := Lib.hid hw2
  have HZ := Lib.hid hzr
  clear hw1 hw2 hb1 hb2 hz hzr
  unfold markV
  go_enter Tryz.func110, Tryz.ntmps110
  go_wp2_with (refine wp_alloc_to (w' := w2) 94 rfl rfl (HZ.out _) ?_ ?_; (rw [← HW1.out]; exact HW2.out); refine Halt.in ?_)
  refine Halt.out ?_
  clear HW1 HW2 HZ
  go_upto_region 1 with (fail)
  go_cut [] from 3 to 17 (fun wx => Below w.heap.size w wx ∧ wx.heap[w.heap.size + 1]? = some (.cells (u8s (markS gen k len sum)).toArray 94 (0, 0)))
  case first =>
    have hG1 : ∀ w', Below (w.heap.size + 1) w2 w' → w'.heap[w.heap.size]? = _ := fun w' hb => (hb.block _ (by omega)).trans G1
    have hA0 : ∀ w', Below (w.heap.size + 1) w2 w' → _ := fun w' hb => cell_of_row w' _ 0 _ _ _ (hG1 w' hb)
    have hA1 : ∀ w', Below (w.heap.size + 1) w2 w' → _ := fun w' hb => cell_of_row w' _ 1 _ _ _ (hG1 w' hb)
    have hA2 : ∀ w', Below (w.heap.size + 1) w2 w' → _ := fun w' hb => cell_of_row w' _ 2 _ _ _ (hG1 w' hb)
    have hA3 : ∀ w', Below (w.heap.size + 1) w2 w' → _ := fun w' hb => cell_of_row w' _ 3 _ _ _ (hG1 w' hb)
    have hle : w.heap.size + 1 ≤ w2.heap.size := Nat.le_of_lt (block_lt G2)
    have hws : IntKind.i64.wrap sum = sum := by
      simp only [IntKind.wrap, IntKind.bits, IntKind.signed]
      simp
      omega
    have h00 : Below w2.heap.size w2 w2.drew := below_draws (Below.refl _ _) 1
    have HGG := Lib.hid G1
    clear hG1 G1
    refine wp_region_start (fun w' => Below (w.heap.size + 1) w2 w') (by kernel_rfl) (h00.mono hle) ?_
    refine wpAnyH_part [(false, 0), (false, 3), (false, 4), (false, 5), (false, 6), (false, 7), (false, 8), (false, 9), (false, 10), (false, 11)] (by kernel_rfl) (h00.mono hle) ?_
    repeat (first | (refine heldI_skip rfl rfl ?_; simp only [Act.put, List.setIfInBounds_toArray, List.set_cons_zero, List.set_cons_succ]) | (refine heldI_take rfl ?_ rfl (fun w' hw' => ?_) ?_; rotate_left; (go_simp; first | done | with_reducible rfl); (try simp only [Act.put, List.setIfInBounds_toArray, List.set_cons_zero, List.set_cons_succ])))
    refine heldI_nil ?_
    refine wpAnyH_ready (rs := [1, 12]) (by kernel_rfl) (by simp) ?_
    refine ready_cons rfl rfl (fun K hK => ?_) (ready_cons rfl rfl (fun K hK => ?_) AllReadyH.nil)
    · go_simp
      have hS3 : Below w2.heap.size w2 (w2.alloc (.cells #[.int .u8 87, .int .u8 76, .int .u8 79, .int .u8 71] 5)).drew := ((Below.refl _ _).alloc (Nat.le_refl _) _).drew
      refine hK.out _ _ (hS3.mono hle) ?_
      clear hK K
      have hA3 : (w2.alloc (.cells #[.int .u8 87, .int .u8 76, .int .u8 79, .int .u8 71] 5)).drew.heap[w2.heap.size]? = some (.cells #[.int .u8 87, .int .u8 76, .int .u8 79, .int .u8 71] 5 (0, 0)) := heap_alloc_new w2 _
      obtain ⟨w3, hww3⟩ : ∃ x, x = (w2.alloc (.cells #[.int .u8 87, .int .u8 76, .int .u8 79, .int .u8 71] 5)).drew := ⟨_, rfl⟩
      rw [← hww3] at hS3 hA3 ⊢
      clear hww3
      have hgA : w2.heap.size ≤ w2.heap.size := Nat.le_refl _
      refine wpAnyH_ready (rs := [2, 12]) (by kernel_rfl) (by simp) ?_
      refine ready_cons rfl rfl (fun K hK => ?_) (ready_cons rfl rfl (fun K hK => ?_) AllReadyH.nil)
      · obtain ⟨w4, hcv, hA4, hb4, hs4, ho4⟩ := conv_mark hA3 4 4
        have hS4 : Below w2.heap.size w2 w4 := hS3.trans (hb4.mono hgA)
        clear hs4 ho4
        go_simp
        refine hK.out _ _ (hS4.mono hle) ?_
        clear hK K hcv
        refine wpAnyH_end [(true, 12), (true, 13), (true, 14)] (by kernel_rfl) (hS4.mono hle) ?_
        refine heldI_act rfl rfl fun K hK => ?_

        go_simp
        have hS5 : Below w2.heap.size w2 (w4.alloc (.cells #[.int .i64 gen, .int .i64 k, .int .i64 len, .int .i64 sum] 3)) := hS4.alloc hS4.size _
        refine hK.out _ _ (hS5.mono hle) ?_
        clear hK K
        have hB5 : (w4.alloc (.cells #[.int .i64 gen, .int .i64 k, .int .i64 len, .int .i64 sum] 3)).heap[w4.heap.size]? = some (.cells #[.int .i64 gen, .int .i64 k, .int .i64 len, .int .i64 sum] 3 (0, 0)) := heap_alloc_new w4 _
        have hA5 := ((Below.alloc (Below.refl w4.heap.size w4) (Nat.le_refl _) (.cells #[.int .i64 gen, .int .i64 k, .int .i64 len, .int .i64 sum] 3)).block _ (block_lt hA4)).trans hA4
        obtain ⟨w5, hww5⟩ : ∃ x, x = (w4.alloc (.cells #[.int .i64 gen, .int .i64 k, .int .i64 len, .int .i64 sum] 3)) := ⟨_, rfl⟩
        rw [← hww5] at hS5 hB5 hA5 ⊢
        clear hww5

        have k1 := nums_mark gen k len sum _ _ w5 hA5 hB5
        refine heldI_act rfl rfl fun K hK => ?_
        go_simp
        refine k1.mono ?_
        rintro e w8 ⟨⟨ad, cap, rfl, hcs⟩, hb8⟩
        have hS8 := hS5.trans (hb8.mono hS5.size)
        refine hK.out _ _ (hS8.mono hle) ?_
        clear hK K
        have hG8 := (hS8.block _ (block_lt G2)).trans G2
        refine heldI_act rfl rfl fun K hK => ?_
        refine op_copy rfl (.tmp 3) (.tmp 16) 23 23 rfl 5 Tryz.underlying23 info_u8s _ _ 64 64 36 cap rfl rfl (w.heap.size + 1) 0 (u8s zeroS) _ hG8 (u8s (markB gen k len sum)) (by rw [length_u8s, length_markB]; rfl) (fun _ => ⟨rfl, ad, rfl, hcs⟩) (by rw [length_u8s, length_u8s, length_markB]; decide) (oneCell_u8s _) ?_
        intro w9 hG9 hb9 hs9 ho9
        rw [splice_pad _ (by rw [length_markB]; omega)] at hG9
        have hB9 : Below w.heap.size w w9 := (hB.trans (hS8.mono hB.size)).trans (hb9.mono (by omega))
        refine hK.out _ _ ((hS8.mono hle).trans hb9) ?_
        clear hK K hS8 hb8 k1 hb9
        refine heldI_nil ?_
        go_wp2_with fail
        go_meet
        case rel => exact ⟨hB9, hG9⟩
      · go_simp
        have hS4 : Below w2.heap.size w2 (w3.alloc (.cells #[.int .i64 gen, .int .i64 k, .int .i64 len, .int .i64 sum] 3)) := hS3.alloc hS3.size _
        refine hK.out _ _ (hS4.mono hle) ?_
        clear hK K
        have hB4 : (w3.alloc (.cells #[.int .i64 gen, .int .i64 k, .int .i64 len, .int .i64 sum] 3)).heap[w3.heap.size]? = some (.cells #[.int .i64 gen, .int .i64 k, .int .i64 len, .int .i64 sum] 3 (0, 0)) := heap_alloc_new w3 _
        have hA4 := ((Below.alloc (Below.refl w3.heap.size w3) (Nat.le_refl _) (.cells #[.int .i64 gen, .int .i64 k, .int .i64 len, .int .i64 sum] 3)).block _ (block_lt hA3)).trans hA3
        obtain ⟨w4, hww4⟩ : ∃ x, x = (w3.alloc (.cells #[.int .i64 gen, .int .i64 k, .int .i64 len, .int .i64 sum] 3)) := ⟨_, rfl⟩
        rw [← hww4] at hS4 hB4 hA4 ⊢
        clear hww4
        have hne : w3.heap.size ≠ w2.heap.size := by have := block_lt hA3; omega
        refine wpAnyH_end [(true, 2), (true, 13), (true, 14)] (by kernel_rfl) (hS4.mono hle) ?_
        refine heldI_act rfl rfl fun K hK => ?_

        obtain ⟨w5, hcv, hA5, hb5, hs5, ho5⟩ := conv_mark hA4 4 4
        have hS5 : Below w2.heap.size w2 w5 := hS4.trans (hb5.mono hgA)
        have hB5 := (ho5 _ hne).trans hB4
        clear hs5 ho5
        go_simp
        refine hK.out _ _ (hS5.mono hle) ?_
        clear hK K hcv

        have k1 := nums_mark gen k len sum _ _ w5 hA5 hB5
        refine heldI_act rfl rfl fun K hK => ?_
        go_simp
        refine k1.mono ?_
        rintro e w8 ⟨⟨ad, cap, rfl, hcs⟩, hb8⟩
        have hS8 := hS5.trans (hb8.mono hS5.size)
        refine hK.out _ _ (hS8.mono hle) ?_
        clear hK K
        have hG8 := (hS8.block _ (block_lt G2)).trans G2
        refine heldI_act rfl rfl fun K hK => ?_
        refine op_copy rfl (.tmp 3) (.tmp 16) 23 23 rfl 5 Tryz.underlying23 info_u8s _ _ 64 64 36 cap rfl rfl (w.heap.size + 1) 0 (u8s zeroS) _ hG8 (u8s (markB gen k len sum)) (by rw [length_u8s, length_markB]; rfl) (fun _ => ⟨rfl, ad, rfl, hcs⟩) (by rw [length_u8s, length_u8s, length_markB]; decide) (oneCell_u8s _) ?_
        intro w9 hG9 hb9 hs9 ho9
        rw [splice_pad _ (by rw [length_markB]; omega)] at hG9
        have hB9 : Below w.heap.size w w9 := (hB.trans (hS8.mono hB.size)).trans (hb9.mono (by omega))
        refine hK.out _ _ ((hS8.mono hle).trans hb9) ?_
        clear hK K hS8 hb8 k1 hb9
        refine heldI_nil ?_
        go_wp2_with fail
        go_meet
        case rel => exact ⟨hB9, hG9⟩
    · go_simp
      have hS3 : Below w2.heap.size w2 (w2.alloc (.cells #[.int .i64 gen, .int .i64 k, .int .i64 len, .int .i64 sum] 3)).drew := ((Below.refl _ _).alloc (Nat.le_refl _) _).drew
      refine hK.out _ _ (hS3.mono hle) ?_
      clear hK K
      have hB3 : (w2.alloc (.cells #[.int .i64 gen, .int .i64 k, .int .i64 len, .int .i64 sum] 3)).drew.heap[w2.heap.size]? = some (.cells #[.int .i64 gen, .int .i64 k, .int .i64 len, .int .i64 sum] 3 (0, 0)) := heap_alloc_new w2 _
      obtain ⟨w3, hww3⟩ : ∃ x, x = (w2.alloc (.cells #[.int .i64 gen, .int .i64 k, .int .i64 len, .int .i64 sum] 3)).drew := ⟨_, rfl⟩
      rw [← hww3] at hS3 hB3 ⊢
      clear hww3
      refine wpAnyH_end [(true, 1), (true, 2), (true, 13), (true, 14)] (by kernel_rfl) (hS3.mono hle) ?_
      refine heldI_act rfl rfl fun K hK => ?_

      go_simp
      have hS4 : Below w2.heap.size w2 (w3.alloc (.cells #[.int .u8 87, .int .u8 76, .int .u8 79, .int .u8 71] 5)) := hS3.alloc hS3.size _
      refine hK.out _ _ (hS4.mono hle) ?_
      clear hK K
      have hA4 : (w3.alloc (.cells #[.int .u8 87, .int .u8 76, .int .u8 79, .int .u8 71] 5)).heap[w3.heap.size]? = some (.cells #[.int .u8 87, .int .u8 76, .int .u8 79, .int .u8 71] 5 (0, 0)) := heap_alloc_new w3 _
      have hB4 := ((Below.alloc (Below.refl w3.heap.size w3) (Nat.le_refl _) (.cells #[.int .u8 87, .int .u8 76, .int .u8 79, .int .u8 71] 5)).block _ (block_lt hB3)).trans hB3
      obtain ⟨w4, hww4⟩ : ∃ x, x = (w3.alloc (.cells #[.int .u8 87, .int .u8 76, .int .u8 79, .int .u8 71] 5)) := ⟨_, rfl⟩
      rw [← hww4] at hS4 hA4 hB4 ⊢
      clear hww4
      have hgA : w2.heap.size ≤ w3.heap.size := by have := block_lt hB3; omega
      have hne : w2.heap.size ≠ w3.heap.size := by have := block_lt hB3; omega
      refine heldI_act rfl rfl fun K hK => ?_

      obtain ⟨w5, hcv, hA5, hb5, hs5, ho5⟩ := conv_mark hA4 4 4
      have hS5 : Below w2.heap.size w2 w5 := hS4.trans (hb5.mono hgA)
      have hB5 := (ho5 _ hne).trans hB4
      clear hs5 ho5
      go_simp
      refine hK.out _ _ (hS5.mono hle) ?_
      clear hK K hcv

      have k1 := nums_mark gen k len sum _ _ w5 hA5 hB5
      refine heldI_act rfl rfl fun K hK => ?_
      go_simp
      refine k1.mono ?_
      rintro e w8 ⟨⟨ad, cap, rfl, hcs⟩, hb8⟩
      have hS8 := hS5.trans (hb8.mono hS5.size)
      refine hK.out _ _ (hS8.mono hle) ?_
      clear hK K
      have hG8 := (hS8.block _ (block_lt G2)).trans G2
      refine heldI_act rfl rfl fun K hK => ?_
      refine op_copy rfl (.tmp 3) (.tmp 16) 23 23 rfl 5 Tryz.underlying23 info_u8s _ _ 64 64 36 cap rfl rfl (w.heap.size + 1) 0 (u8s zeroS) _ hG8 (u8s (markB gen k len sum)) (by rw [length_u8s, length_markB]; rfl) (fun _ => ⟨rfl, ad, rfl, hcs⟩) (by rw [length_u8s, length_u8s, length_markB]; decide) (oneCell_u8s _) ?_
      intro w9 hG9 hb9 hs9 ho9
      rw [splice_pad _ (by rw [length_markB]; omega)] at hG9
      have hB9 : Below w.heap.size w w9 := (hB.trans (hS8.mono hB.size)).trans (hb9.mono (by omega))
      refine hK.out _ _ ((hS8.mono hle).trans hb9) ?_
      clear hK K hS8 hb8 k1 hb9
      refine heldI_nil ?_
      go_wp2_with fail
      go_meet
      case rel => exact ⟨hB9, hG9⟩
  case rest =>
    obtain ⟨hb, hrow⟩ := hcut
    obtain ⟨X, hX⟩ : ∃ X, X = (u8s (markS gen k len sum)).toArray := ⟨_, rfl⟩
    rw [← hX] at hrow
    have HX := Lib.hid hX
    have hXs : X.size = 64 := by rw [hX]; simp [length_u8s, length_markS]
    have hX1 : ∀ v ∈ X.toList, v.oneCell' = true := by rw [hX]; exact oneCell_u8s _
    obtain ⟨i44, hi44, hs44⟩ := info44
    have hld := run_load_big (P := Tryz.prog) (t := 94) Tryz.underlying94 (.inl ⟨_, _, rfl⟩) hi44 (w := wc) (b := w.heap.size + 1) (off := 0) (cs := X.toList) hs44 (by simpa using hXs)
      (fun j u hj => by rw [cell_of_row wc _ (0 + j) _ _ _ hrow]; simpa using hj)
    simp only [Array.toArray_toList] at hld
    obtain ⟨w9, hst, hrow9, hb9, _, _, _⟩ := store64 hrow hXs X hXs hX1
    have hbb := hb.trans (hb9.mono (Nat.le_succ _))
    have HS := Lib.hid (show (Tryz.prog.info? 94).map (·.size) = some X.size by rw [hi44, hXs]; simp [hs44])
    have HROW := Lib.hid hrow9
    clear hX hXs hX1 hi44 hs44 hrow9 hb9 hrow
    go_wp2_with (refine wp_load_at (.tmp 2) 94 rfl rfl rfl hld ?_; refine Halt.in ?_)
    refine Halt.out ?_
    clear hld
    go_wp2_with (refine wp_store_at (.tmp 2) (.tmp 18) 94 rfl rfl rfl rfl hst ?_; refine Halt.in ?_)
    refine Halt.out ?_
    clear hst
    go_wp2_with fail
    exact bodyPost_ret (results_cell_row rfl _ _ (w.heap.size + 1) _ _ _ _ rfl HROW.out Tryz.underlying94 rfl HS.out) rfl ⟨by rw [HX.out], hbb⟩
end Go.Proofs.YtaijompnohkmaaaGreatDoor
/- Layer 5 (wal): the hand. -/
namespace Go.Proofs.YtaijompnohkmaaaGreatDoor
open Go.RowKit WalP PackP
/-- A hand in block g, and its disk, which lies elsewhere. -/
def HandAt (g : Nat) (w : World) (d : DiskP) : Prop := ∃ A, w.heap[g]? = some (.cells A 174 (0, 0)) ∧ DiskV w.heap.size w (.agg A) d ∧ DSl (· ≠ g) (.agg A)
/-- How a step ends. -/
def hEnd (e : Int) : Ending := if e = 0 then .returned (.tuple #[]) else .panicked [{ v := .iface 26 (.int .i64 e), recovered := false }]
theorem hEnd0 {e : Int} (h : e = 0) : hEnd e = .returned (.tuple #[]) := by unfold hEnd; rw [if_pos h]
theorem hEnd1 {e : Int} (h : e ≠ 0) : hEnd e = .panicked [{ v := .iface 26 (.int .i64 e), recovered := false }] := by unfold hEnd; rw [if_neg h]
/-- A disk that lies elsewhere outlives writes into block g. -/
theorem DiskV.only {B g : Nat} {w w' : World} {v : Value} {d : DiskP} (h : DiskV B w v d) (hB : B ≤ w.heap.size) (hs : DSl (· ≠ g) v) (ho : w.grownBy w' (some g)) : DiskV B w' v d := by
  have one : ∀ {sz n : Nat} {cs : List Value} {u : Value}, Row B w u sz n cs → Sl (· ≠ g) u → Row B w' u sz n cs := fun {sz n cs u} h hs => by
    obtain ⟨hl, a, cap, rfl, h1, h2, h3⟩ := h
    refine ⟨hl, a, cap, rfl, h1, h2, fun hp => ?_⟩
    obtain ⟨b, off, rfl, hb, hc⟩ := h3 hp
    have := hs _ _ _ rfl hp
    refine ⟨b, off, rfl, hb, fun k u' hk => ?_⟩
    have e : w'.cell? ⟨b, off + k, none⟩ = w.cell? ⟨b, off + k, none⟩ := by unfold World.cell?; rw [ho.block b (by omega) (fun h => this (Option.some.inj h))]
    exact e.trans (hc k u' hk)
  obtain ⟨sv, lv, rfl, h1, h2⟩ := h
  obtain ⟨q1, q2⟩ := hs _ _ _ _ rfl
  exact ⟨sv, lv, rfl, ⟨h1.1, one h1.2 q1⟩, ⟨h2.1, one h2.2 q2⟩⟩
theorem HandAt.below {g : Nat} {w w' : World} {d : DiskP} (h : HandAt g w d) (hb : Below w.heap.size w w') : HandAt g w' d := by
  obtain ⟨A, h1, h2, h3⟩ := h
  exact ⟨A, (hb.block _ (block_lt h1)).trans h1, (h2.below hb).tight, h3⟩
theorem only_of_below {g : Nat} {w w' : World} (hb : Below w.heap.size w w') : w.grownBy w' (some g) := ⟨hb.os, hb.tape, hb.output, hb.size, fun k hk _ => hb.block k hk⟩
theorem put4_diskV {B g : Nat} {w : World} {v : Value} {d : DiskP} (h : DiskV B w v d) (hs : DSl (· ≠ g) v) (a b c e : Value) : DiskV B (put4 w g a b c e) v d :=
  (((h.setFar (p := ⟨g, 0, none⟩) hs a).setFar (p := ⟨g, 1, none⟩) hs b).setFar (p := ⟨g, 2, none⟩) hs c).setFar (p := ⟨g, 3, none⟩) hs e
theorem put4_only {g : Nat} (w : World) (a b c d : Value) : w.grownBy (put4 w g a b c d) (some g) := by
  have := put4_below (Below.refl g w) (Nat.le_refl _) a b c d
  refine ⟨this.os, this.tape, this.output, this.size, fun k _ hk2 => ?_⟩
  have hk2 : g ≠ k := fun h => hk2 (by rw [h])
  unfold put4
  rw [setFar hk2, setFar hk2, setFar hk2, setFar hk2]
set_option maxRecDepth 100000 in
set_option maxHeartbeats 1000000 in
theorem must_any {B g : Nat} (v : Value) (d0 d : DiskP) (e : Int) (w : World) (hh : HandAt g w d0) (hd : DiskV B w v d) (hs : DSl (· ≠ g) v) :
    Calls Tryz.prog 141 #[.pointer (some ⟨g, 0, none⟩), v, .int .i64 e] w fun x w' => x = hEnd e ∧ HandAt g w' d ∧ w.grownBy w' (some g) := by
  have hd := hd.tight
  obtain ⟨A, hg, hd0, hs0⟩ := hh
  obtain ⟨p1, q1, p2, q2, hA, _, _⟩ := hd0.parts
  cases hA
  obtain ⟨x1, y1, x2, y2, rfl, _, _⟩ := hd.parts
  obtain ⟨w1, hw1⟩ : ∃ w1, w1 = w.alloc (.cells #[.slice x1 d.secs.length y1, .slice x2 d.loose.length y2, .int .i64 d.fuse, .bool d.down] 38) := ⟨_, rfl⟩
  have hb1 : Below w.heap.size w w1 := by rw [hw1]; exact Below.alloc (Below.refl _ _) (Nat.le_refl _) _
  have hG1 := (hb1.block _ (block_lt hg)).trans hg
  have C0 := cell_of_row w1 _ 0 _ _ _ hG1
  have C1 := cell_of_row w1 _ 1 _ _ _ hG1
  have C2 := cell_of_row w1 _ 2 _ _ _ hG1
  have C3 := cell_of_row w1 _ 3 _ _ _ hG1
  have Z := frozen_row hG1
  have hX : w1.heap[w.heap.size]? = some (.cells #[.slice x1 d.secs.length y1, .slice x2 d.loose.length y2, .int .i64 d.fuse, .bool d.down] 38 (0, 0)) := by rw [hw1]; exact heap_alloc_new w _
  have D0 := cell_of_row w1 _ 0 _ _ _ hX
  have D1 := cell_of_row w1 _ 1 _ _ _ hX
  have D2 := cell_of_row w1 _ 2 _ _ _ hX
  have D3 := cell_of_row w1 _ 3 _ _ _ hX
  have hfin : HandAt g (put4 w1 g (.slice x1 d.secs.length y1) (.slice x2 d.loose.length y2) (.int .i64 d.fuse) (.bool d.down)) d :=
    ⟨_, put4_heap hG1 _ _ _ _, by
      have h1 := put4_diskV ((hd.below hb1).tight) hs (.slice x1 d.secs.length y1) (.slice x2 d.loose.length y2) (.int .i64 d.fuse) (.bool d.down)
      simpa [put4, World.setCell] using h1, hs⟩
  have hfr : w.grownBy (put4 w1 g (.slice x1 d.secs.length y1) (.slice x2 d.loose.length y2) (.int .i64 d.fuse) (.bool d.down)) (some g) := only_trans (only_of_below hb1) (put4_only _ _ _ _ _)
  have HFIN := Lib.hid hfin
  have HFR := Lib.hid hfr
  have HW1 := Lib.hid hw1
  clear hfin hfr hG1 hX hb1 hg hd hd0 hw1
  by_cases he : e = 0
  · subst he
    rw [hEnd0 rfl]
    go_enter Tryz.func141, Tryz.ntmps141
    go_upto_region 1 with (fail)
    rw [← HW1.out]
    go_wp2_with fail
    go_end0
    exact ⟨rfl, HFIN.out, HFR.out⟩
  · rw [hEnd1 he]
    have hne : (e != 0) = true := by rw [bne_iff_ne]; exact he
    clear he
    go_enter Tryz.func141, Tryz.ntmps141
    go_upto_region 1 with (fail)
    rw [← HW1.out]
    go_wp2_with fail
    exact ⟨rfl, rfl, HFIN.out, HFR.out⟩
/-- The four cells of a hand. -/
theorem HandAt.parts {g : Nat} {w : World} {d : DiskP} (h : HandAt g w d) : ∃ p1 q1 p2 q2, w.heap[g]? = some (.cells #[.slice p1 d.secs.length q1, .slice p2 d.loose.length q2, .int .i64 d.fuse, .bool d.down] 174 (0, 0)) ∧ DiskV w.heap.size w (.agg #[.slice p1 d.secs.length q1, .slice p2 d.loose.length q2, .int .i64 d.fuse, .bool d.down]) d ∧ DSl (· ≠ g) (.agg #[.slice p1 d.secs.length q1, .slice p2 d.loose.length q2, .int .i64 d.fuse, .bool d.down]) := by
  obtain ⟨A, hg, hd, hs⟩ := h
  obtain ⟨p1, q1, p2, q2, hA, _, _⟩ := hd.parts
  cases hA
  exact ⟨p1, q1, p2, q2, hg, hd, hs⟩
set_option maxRecDepth 100000 in
set_option maxHeartbeats 2000000 in
theorem hput_any {g : Nat} (d : DiskP) (at_ : Int) (s : List UInt8) (w : World) (hh : HandAt g w d) (h64 : s.length = 64) :
    Calls Tryz.prog 99 #[.pointer (some ⟨g, 0, none⟩), .int .i64 at_, .agg (u8s s).toArray] w fun x w' => x = hEnd (deed d (.put at_ s)).2 ∧ HandAt g w' (deed d (.put at_ s)).1 ∧ w.grownBy w' (some g) := by
  obtain ⟨X, hX⟩ : ∃ X, X = (u8s s).toArray := ⟨_, rfl⟩
  have hXs : X.size = 64 := by rw [hX]; simp [length_u8s, h64]
  obtain ⟨w1, hw1⟩ : ∃ w1, w1 = w.alloc (.cells X 94) := ⟨_, rfl⟩
  have hb1 : Below w.heap.size w w1 := by rw [hw1]; exact Below.alloc (Below.refl _ _) (Nat.le_refl _) _
  have hXr : w1.heap[w.heap.size]? = some (.cells X 94 (0, 0)) := by rw [hw1]; exact heap_alloc_new w _
  have hh1 := hh.below hb1
  obtain ⟨p1, q1, p2, q2, hg, hd, hs⟩ := hh1.parts
  have C0 := cell_of_row w1 _ 0 _ _ _ hg
  have C1 := cell_of_row w1 _ 1 _ _ _ hg
  have C2 := cell_of_row w1 _ 2 _ _ _ hg
  have C3 := cell_of_row w1 _ 3 _ _ _ hg
  obtain ⟨i44, hi44, hs44⟩ := info44
  have hld := run_load_big (P := Tryz.prog) (t := 94) Tryz.underlying94 (.inl ⟨_, _, rfl⟩) hi44 (w := w1.drew) (b := w.heap.size) (off := 0) (cs := X.toList) hs44 (by simpa using hXs)
    (fun j u hj => by
      show w1.cell? _ = _
      rw [cell_of_row w1 _ (0 + j) _ _ _ hXr]; simpa using hj)
  simp only [Array.toArray_toList] at hld
  have k1 := put_any _ d at_ s w1.drew (show DiskV w1.heap.size w1.drew _ d from hd.below (below_draws (Below.refl _ _) 1)) h64 (· ≠ g) hs (fun b hb => by show b ≠ g; have : w1.drew.heap.size = w1.heap.size := rfl; have := block_lt hg; omega)
  have k2 : ∀ (v : Value) (w2 : World) (hb : Below w1.drew.heap.size w1.drew w2) (hd2 : DiskV w2.heap.size w2 v (putP d at_ s).1) (hs2 : DSl (· ≠ g) v), Calls Tryz.prog 141 #[.pointer (some ⟨g, 0, none⟩), v, .int .i64 (putP d at_ s).2] w2 fun x w' => x = hEnd (putP d at_ s).2 ∧ HandAt g w' (putP d at_ s).1 ∧ w.grownBy w' (some g) := fun v w2 hb hd2 hs2 =>
    (must_any v d (putP d at_ s).1 (putP d at_ s).2 w2 (hh1.below ((below_draws (Below.refl _ _) 1).trans hb)) hd2 hs2).mono fun x w' hx => ⟨hx.1, hx.2.1, only_trans (only_trans (only_of_below hb1) (only_of_below ((below_draws (Below.refl _ _) 1).trans hb))) hx.2.2⟩
  show Calls _ _ _ _ fun x w' => x = hEnd (putP d at_ s).2 ∧ HandAt g w' (putP d at_ s).1 ∧ w.grownBy w' (some g)
  obtain ⟨r, hr⟩ : ∃ r, r = putP d at_ s := ⟨_, rfl⟩
  rw [← hr] at k1
  simp only [← hr] at k2
  rw [← hX] at k1 ⊢
  rw [← hr]
  have K2 := Lib.hid k2
  have HW1 := Lib.hid hw1
  clear hr hX hXs hi44 hs44 k2 hXr hb1 hh hh1 hd hs hg hw1
  go_enter Tryz.func99, Tryz.ntmps99
  go_upto_region 1 with (fail)
  rw [← HW1.out]
  refine wp_region_startQ (fun _ => True) (by kernel_rfl) trivial ?_
  refine wpAnyH_partQ [(false, 0), (false, 1), (false, 2), (false, 3), (false, 5)] (by kernel_rfl) (fun _ d _ _ _ h => by cases d <;> exact h) trivial ?_
  repeat (first | (refine heldI_skip rfl rfl ?_; simp only [Act.put, List.setIfInBounds_toArray, List.set_cons_zero, List.set_cons_succ]) | (refine heldI_take rfl ?_ rfl (fun w' hw' => ?_) ?_; rotate_left; (go_simp; first | done | with_reducible rfl); (try simp only [Act.put, List.setIfInBounds_toArray, List.set_cons_zero, List.set_cons_succ])))
  refine heldI_nil ?_
  refine wpAnyH_ready (rs := [4, 6]) (by kernel_rfl) (by simp) ?_
  refine ready_cons rfl rfl (fun K hK => ?_) (ready_cons rfl rfl (fun K hK => ?_) AllReadyH.nil)
  · go_simp
    refine hK.out _ _ trivial ?_
    clear hK K
    refine wpAnyH_endQ [(true, 6), (true, 7), (false, 8), (false, 9), (true, 10)] (by kernel_rfl) (fun _ d _ _ _ h => by cases d <;> exact h) trivial ?_
    refine heldI_act rfl rfl fun K hK => ?_
    refine op_load (.tmp 5) 94 rfl rfl hld ?_
    refine hK.out _ _ trivial ?_
    clear hK K hld C0 C1 C2 C3
    simp only [Act.put, List.setIfInBounds_toArray, List.set_cons_zero, List.set_cons_succ]
    refine heldI_act rfl rfl fun K hK => ?_
    go_simp
    refine k1.mono ?_
    rintro e w2 ⟨⟨v', rfl, hd', hs'⟩, hb2⟩
    refine hK.out _ _ trivial ?_
    clear hK K k1
    repeat (first | (refine heldI_skip rfl rfl ?_; simp only [Act.put, List.setIfInBounds_toArray, List.set_cons_zero, List.set_cons_succ]) | (refine heldI_take rfl ?_ rfl (fun w' hw' => ?_) ?_; rotate_left; (go_simp; first | done | with_reducible rfl); (try simp only [Act.put, List.setIfInBounds_toArray, List.set_cons_zero, List.set_cons_succ])))
    have k2 := K2.out v' w2 hb2 hd' hs'
    refine heldI_act rfl rfl fun K hK => ?_
    go_simp
    refine k2.mono ?_
    rintro e w3 ⟨rfl, hh3, ho3⟩
    by_cases he : r.2 = 0
    · have e0 := hEnd0 he
      rw [e0]
      refine hK.out _ _ trivial ?_
      have HE := Lib.hid e0
      have HH := Lib.hid hh3
      clear hK K k2 he e0 hh3
      refine heldI_nil ?_
      go_wp2_with fail
      go_end0
      exact ⟨HE.out.symm, HH.out, ho3⟩
    · have e0 := hEnd1 he
      rw [e0]
      exact ⟨rfl, e0.symm, hh3, ho3⟩
  · refine op_load (.tmp 5) 94 rfl rfl hld ?_
    refine hK.out _ _ trivial ?_
    clear hK K hld
    simp only [Act.put, List.setIfInBounds_toArray, List.set_cons_zero, List.set_cons_succ]
    refine wpAnyH_endQ [(true, 4), (true, 7), (false, 8), (false, 9), (true, 10)] (by kernel_rfl) (fun _ d _ _ _ h => by cases d <;> exact h) trivial ?_
    refine heldI_act rfl rfl fun K hK => ?_
    go_simp
    refine hK.out _ _ trivial ?_
    clear hK K C0 C1 C2 C3
    refine heldI_act rfl rfl fun K hK => ?_
    go_simp
    refine k1.mono ?_
    rintro e w2 ⟨⟨v', rfl, hd', hs'⟩, hb2⟩
    refine hK.out _ _ trivial ?_
    clear hK K k1
    repeat (first | (refine heldI_skip rfl rfl ?_; simp only [Act.put, List.setIfInBounds_toArray, List.set_cons_zero, List.set_cons_succ]) | (refine heldI_take rfl ?_ rfl (fun w' hw' => ?_) ?_; rotate_left; (go_simp; first | done | with_reducible rfl); (try simp only [Act.put, List.setIfInBounds_toArray, List.set_cons_zero, List.set_cons_succ])))
    have k2 := K2.out v' w2 hb2 hd' hs'
    refine heldI_act rfl rfl fun K hK => ?_
    go_simp
    refine k2.mono ?_
    rintro e w3 ⟨rfl, hh3, ho3⟩
    by_cases he : r.2 = 0
    · have e0 := hEnd0 he
      rw [e0]
      refine hK.out _ _ trivial ?_
      have HE := Lib.hid e0
      have HH := Lib.hid hh3
      clear hK K k2 he e0 hh3
      refine heldI_nil ?_
      go_wp2_with fail
      go_end0
      exact ⟨HE.out.symm, HH.out, ho3⟩
    · have e0 := hEnd1 he
      rw [e0]
      exact ⟨rfl, e0.symm, hh3, ho3⟩
set_option maxRecDepth 100000 in
set_option maxHeartbeats 2000000 in
theorem hflush_any {g : Nat} (d : DiskP) (w : World) (hh : HandAt g w d) :
    Calls Tryz.prog 108 #[.pointer (some ⟨g, 0, none⟩)] w fun x w' => x = hEnd (deed d .flush).2 ∧ HandAt g w' (deed d .flush).1 ∧ w.grownBy w' (some g) := by
  obtain ⟨p1, q1, p2, q2, hg, hd, hs⟩ := hh.parts
  have C0 := cell_of_row w _ 0 _ _ _ hg
  have C1 := cell_of_row w _ 1 _ _ _ hg
  have C2 := cell_of_row w _ 2 _ _ _ hg
  have C3 := cell_of_row w _ 3 _ _ _ hg
  have k1 := flush_any _ d w hd (· ≠ g) hs (fun b hb => by show b ≠ g; have := block_lt hg; omega)
  have k2 : ∀ (v : Value) (w2 : World) (hb : Below w.heap.size w w2) (hd2 : DiskV w2.heap.size w2 v (flushP d).1) (hs2 : DSl (· ≠ g) v), Calls Tryz.prog 141 #[.pointer (some ⟨g, 0, none⟩), v, .int .i64 (flushP d).2] w2 fun x w' => x = hEnd (flushP d).2 ∧ HandAt g w' (flushP d).1 ∧ w.grownBy w' (some g) := fun v w2 hb hd2 hs2 =>
    (must_any v d (flushP d).1 (flushP d).2 w2 (hh.below hb) hd2 hs2).mono fun x w' hx => ⟨hx.1, hx.2.1, only_trans (only_of_below hb) hx.2.2⟩
  show Calls _ _ _ _ fun x w' => x = hEnd (flushP d).2 ∧ HandAt g w' (flushP d).1 ∧ w.grownBy w' (some g)
  obtain ⟨r, hr⟩ : ∃ r, r = flushP d := ⟨_, rfl⟩
  rw [← hr] at k1
  simp only [← hr] at k2
  rw [← hr]
  have K2 := Lib.hid k2
  clear hr k2 hh hd hs hg
  go_enter Tryz.func108, Tryz.ntmps108
  go_wp2_with fail
  refine k1.mono ?_
  rintro e w2 ⟨⟨v', rfl, hd', hs'⟩, hb2⟩
  have k2 := K2.out v' w2 hb2 hd' hs'
  clear k1
  go_wp2_with fail
  refine k2.mono ?_
  rintro e w3 ⟨rfl, hh3, ho3⟩
  by_cases he : r.2 = 0
  · have e0 := hEnd0 he
    rw [e0]
    have HE := Lib.hid e0
    have HH := Lib.hid hh3
    clear k2 he e0 hh3
    go_wp2_with fail
    go_end0
    exact ⟨HE.out.symm, HH.out, ho3⟩
  · have e0 := hEnd1 he
    rw [e0]
    exact ⟨rfl, e0.symm, hh3, ho3⟩
end Go.Proofs.YtaijompnohkmaaaGreatDoor
/- Layer 5 (wal): the hand's bytes. -/
namespace Go.Proofs.YtaijompnohkmaaaGreatDoor
open Go.RowKit WalP PackP
section
variable {P : Program} {ops : Array Oper} {rest : List Oper} {o : Oper} {a : Act} {w : World} {Q : Exit → Act → World → Prop}
def CopySrc (w : World) (C : List Value) (dp sp : Option Addr) (g off : Nat) : Prop :=
  0 < C.length → dp = some ⟨g, off, none⟩ ∧ ∃ ad, sp = some ad ∧ ∀ j v, C[j]? = some v → w.cell? (ad.add j) = some v
theorem wp_copy_at (hgd : o.guard = none) (d s : Operand) (dT sT : TypeId)
    (ho : o.op = .call { callee := .builtin .copy, args := #[d, s], argTypes := #[dT, sT] }) (elem : TypeId) (hu : P.underlying dT = some (.slice elem)) (hsz : (P.info? elem).map (·.size) = some 1)
    (dp sp : Option Addr) (dLen dCap sLen sCap : Nat) (hd : a.eval d = .slice dp dLen dCap) (hs : a.eval s = .slice sp sLen sCap)
    (g off : Nat) (cur : List Value) (t : TypeId) (hg : w.heap[g]? = some (.cells cur.toArray t (0, 0))) (cs : List Value) (hn : cs.length = Nat.min sLen dLen)
    (hpos : CopySrc w cs dp sp g off)
    (hfit : off + cs.length ≤ cur.length) (h1 : ∀ v ∈ cs, v.oneCell' = true)
    (h : ∀ w', w'.heap[g]? = some (.cells (splice cur off cs).toArray t (0, 0)) → Below g w w' → w'.heap.size = w.heap.size → (∀ k, k ≠ g → w'.heap[k]? = w.heap[k]?) → wpList P ops Q rest (a.put o.dst (goInt cs.length)) w') : wpList P ops Q (o :: rest) a w :=
  wpList_plain hgd fun K hK => op_copy hgd d s dT sT ho elem hu hsz dp sp dLen dCap sLen sCap hd hs g off cur t hg cs hn hpos hfit h1 fun w' h2 h3 h4 h5 => hK _ _ (h w' h2 h3 h4 h5)
end
/-- Nothing ahead of the hand's block is turned. -/
theorem below_hand {g : Nat} {w w' : World} (h : w.grownBy w' (some g)) (hg : g < w.heap.size) : Below g w w' := ⟨h.os, h.tape, h.output, h.size, fun k hk => h.block k (by omega) (fun e => by cases e; omega)⟩
theorem HandAt.lt {g : Nat} {w : World} {d : DiskP} (h : HandAt g w d) : g < w.heap.size := by obtain ⟨_, h, _⟩ := h; exact block_lt h
theorem pad64_take (b : List UInt8) : pad64 (b.take 64) = pad64 b := by
  unfold pad64
  rw [List.take_take, List.length_take]
  congr 2
  omega
theorem bytesD_succ (at_ : Int) (bs : List UInt8) (k : Nat) (hk : k < (bs.length + 63) / 64) : (bytesD at_ bs).take (k + 1) = (bytesD at_ bs).take k ++ [.put (at_ + 1 + k) (pad64 (bs.drop (64 * k)))] := by
  unfold bytesD
  rw [List.take_add_one, List.getElem?_map, List.getElem?_range hk]
  rfl
theorem bytesD_all (at_ : Int) (bs : List UInt8) (k : Nat) (hk : (bs.length + 63) / 64 ≤ k) : (bytesD at_ bs).take k = bytesD at_ bs := List.take_of_length_le (by unfold bytesD; simpa using hk)
theorem run_bad (d : DiskP) (xs ys : List Deed) (h : (run d xs).2 ≠ 0) : run d (xs ++ ys) = run d xs := by rw [WalP.run_append, if_neg h]
theorem run_good (d : DiskP) (xs ys : List Deed) (h : (run d xs).2 = 0) : run d (xs ++ ys) = run (run d xs).1 ys := by rw [WalP.run_append, if_pos h]
/-- Where a part has failed all has. -/
theorem run_fail_at (d d' : DiskP) (xs ys : List Deed) (x : Deed) (h : run d xs = (d', 0)) (hx : (deed d' x).2 ≠ 0) : run d ((xs ++ [x]) ++ ys) = deed d' x := by
  have h1 : run d (xs ++ [x]) = deed d' x := by rw [run_good d xs [x] (by rw [h]), h, run_one]
  rw [run_bad d _ _ (by rw [h1]; exact hx), h1]
theorem Bytes.form {B : Nat} {w : World} {v : Value} {bs : List UInt8} (h : Bytes B w v bs) : ∃ a c, v = .slice a bs.length c := by obtain ⟨_, a, c, h, _⟩ := h; exact ⟨a, c, h⟩
theorem chunk_facts (bs : List UInt8) (k L n : Nat) (hL : L = bs.length - 64 * k) (hn : n = min L 64) :
    (bs.drop (64 * k)).length = L ∧ ((bs.drop (64 * k)).take 64).length = n ∧ ((bs.drop (64 * k)).drop n).length = bs.length - 64 * (k + 1) ∧ (bs.drop (64 * k)).drop n = bs.drop (64 * (k + 1)) ∧ n ≤ L ∧ n ≤ 64 := by
  have h1 : (bs.drop (64 * k)).length = L := by rw [List.length_drop, hL]
  have hd : (bs.drop (64 * k)).drop n = bs.drop (64 * (k + 1)) := by
    by_cases h64 : 64 ≤ L
    · have : n = 64 := by omega
      rw [this, List.drop_drop]; congr 1
    · rw [List.drop_of_length_le (by omega), List.drop_of_length_le (by omega)]
  exact ⟨h1, by rw [List.length_take, h1]; omega, by rw [hd, List.length_drop], hd, by omega, by omega⟩
set_option maxRecDepth 100000 in
set_option maxHeartbeats 2000000 in
theorem hbytes_any {g : Nat} (d : DiskP) (at_ : Int) (v : Value) (bs : List UInt8) (w : World) (hh : HandAt g w d) (hv : Bytes g w v bs) (hlen : bs.length ≤ 2 ^ 20) (ha0 : 0 ≤ at_) (ha1 : at_ ≤ 2 ^ 40) :
    Calls Tryz.prog 107 #[.pointer (some ⟨g, 0, none⟩), .int .i64 at_, v] w fun x w' => x = hEnd (run d (bytesD at_ bs)).2 ∧ HandAt g w' (run d (bytesD at_ bs)).1 ∧ w.grownBy w' (some g) := by
  obtain ⟨z0, hz0, hzr⟩ := zero44
  obtain ⟨N, hN⟩ : ∃ N, N = (bs.length + 63) / 64 := ⟨_, rfl⟩
  obtain ⟨a0, c0, rfl⟩ := hv.form
  have HV := Lib.hid hv
  have HH := Lib.hid hh
  have HN := Lib.hid hN
  have HZ := Lib.hid hzr
  have HZ0 := Lib.hid hz0
  clear hv hh hN hzr hz0
  go_enter Tryz.func107, Tryz.ntmps107
  go_wp2_with fail
  go_loopw [1, 2] (fun z u wr => ∃ (k : Nat) (dk : DiskP) (a : Option Addr) (c : Nat), k ≤ N ∧ z = .int .i64 (at_ + k) ∧ u = .slice a (bs.length - 64 * k) c ∧ Bytes g wr (.slice a (bs.length - 64 * k) c) (bs.drop (64 * k)) ∧ HandAt g wr dk ∧ run d ((bytesD at_ bs).take k) = (dk, 0) ∧ w.grownBy wr (some g)) (fun z u _ => match u with | .slice _ n _ => n | _ => 0)
  case atStart => exact ⟨0, d, a0, c0, Nat.zero_le _, by simp, by simp, by simpa using HV.out, HH.out, rfl, only_refl _ _⟩
  case round =>
    obtain ⟨k, dk, a, c, hk, rfl, rfl, hb, hh, hr, ho⟩ := hrel
    obtain ⟨L, hL⟩ : ∃ L, L = bs.length - 64 * k := ⟨_, rfl⟩
    rw [← hL] at hb ⊢
    have hL20 : L ≤ 2 ^ 20 := by omega
    obtain ⟨n, hn⟩ : ∃ n, n = min L 64 := ⟨_, rfl⟩
    obtain ⟨hLl, hlc, hdl, hdd, hn1, hn2⟩ := chunk_facts bs k L n hL hn
    have HL := Lib.hid hL
    have HR := Lib.hid hr
    have HO := Lib.hid ho
    clear hr ho
    by_cases hp : 0 < L
    · have hkN : k < N := by have := HN.out; omega
      obtain ⟨zk, hzk⟩ : ∃ z, z = at_ + (k : Int) := ⟨_, rfl⟩
      have hz0 : 0 ≤ zk := by omega
      have hz1 : zk ≤ 2 ^ 41 := by have := HN.out; omega
      rw [← hzk]
      have HZK := Lib.hid hzk
      clear hzk
      clear hL
      obtain ⟨w1, hw1⟩ : ∃ w1, w1 = wr.alloc (.cells z0.cells 94) := ⟨_, rfl⟩
      have hb1 : Below wr.heap.size wr w1 := by rw [hw1]; exact Below.alloc (Below.refl _ _) (Nat.le_refl _) _
      have hX1 : w1.heap[wr.heap.size]? = some (.cells (u8s zeroS).toArray 94 (0, 0)) := by rw [hw1, ← HZ0.out]; exact heap_alloc_new wr _
      have hg := hh.lt
      have hbb1 := hb.below (hb1.mono (Nat.le_of_lt hg))
      obtain ⟨b, off, rfl, hbg, hcells⟩ : ∃ b off, a = some ⟨b, off, none⟩ ∧ b < g ∧ ∀ j u, (u8s ((bs.drop (64 * k)).take 64))[j]? = some u → w1.cell? ⟨b, off + j, none⟩ = some u := by
        obtain ⟨_, a', c', hv, _, _, h4⟩ := hbb1
        cases hv
        obtain ⟨b, off, rfl, h5, h6⟩ := h4 hp
        refine ⟨b, off, rfl, h5, fun j u hj => h6 j u ?_⟩
        rw [← u8s_take] at hj
        have hjl := (List.getElem?_eq_some_iff.1 hj).1
        rw [List.getElem?_take] at hj
        split at hj
        · exact hj
        · cases hj
      obtain ⟨C, hC⟩ : ∃ C, C = u8s ((bs.drop (64 * k)).take 64) := ⟨_, rfl⟩
      rw [← hC] at hcells
      have hCl : C.length = n := by rw [hC, length_u8s, hlc]
      have hC1 : ∀ v ∈ C, v.oneCell' = true := by rw [hC]; exact oneCell_u8s _
      have hcn : C.length = Nat.min L 64 := by rw [hCl, hn]
      have hcp : CopySrc w1 C (some ⟨wr.heap.size, 0, none⟩) (some ⟨b, off, none⟩) wr.heap.size 0 :=
        fun _ => ⟨rfl, _, rfl, fun j v hj => by rw [addp]; exact hcells j v hj⟩
      have hcf : 0 + C.length ≤ (u8s zeroS).length := by rw [hCl, length_u8s]; simpa [zeroS] using hn2
      have HCP := Lib.hid hcp
      have HCF := Lib.hid hcf
      have HC1 := Lib.hid hC1
      clear hcp hcf hC1
      have hspl : splice (u8s zeroS) 0 C = u8s (pad64 (bs.drop (64 * k))) := by rw [hC, splice_pad _ (by rw [hlc]; exact hn2), pad64_take]
      obtain ⟨i0, hi, _, hsz, _⟩ := info_parts info_u8
      rw [← hLl] at hbb1
      obtain ⟨v2, kv, hv2⟩ := run_slice_from (P := Tryz.prog) Tryz.underlying23 hi hsz hbb1 n (by rw [hLl]; exact hn1)
      rw [hLl] at kv
      obtain ⟨a2, c2, rfl⟩ := hv2.form
      rw [hdl] at kv hv2
      rw [hdd] at hv2
      have hW1 := Lib.hid hw1
      have HV2 := Lib.hid hv2
      have HSP := Lib.hid hspl
      have HX1 := Lib.hid hX1
      have HH1 := Lib.hid (hh.below hb1)
      have HH0 := Lib.hid hh
      have HB0 := Lib.hid hb1
      have HCN := Lib.hid hcn
      have HCL := Lib.hid hCl
      have HDL := Lib.hid hdl
      have HDD := Lib.hid hdd
      clear hw1 hv2 hspl hX1 hb1 hbb1 hb hh hcn hCl hdl hdd hC hcells hlc hLl hn
      go_wp2_with (refine wp_alloc_to (w' := w1) 94 rfl rfl (HZ.out _) ?_ ?_; (exact hW1.out); refine Halt.in ?_)
      refine Halt.out ?_
      clear hW1
      go_wp2_with (refine wp_copy_at rfl (.tmp 13) (.tmp 14) 23 23 rfl 5 Tryz.underlying23 info_u8s _ _ 64 64 L c rfl rfl wr.heap.size 0 (u8s zeroS) _ HX1.out C HCN.out HCP.out HCF.out HC1.out ?_; intro w2 hX2 hb2 hs2 ho2; refine Halt.in ?_)
      refine Halt.out ?_
      rw [HCL.out]
      rw [HSP.out] at hX2
      have hb12 : Below wr.heap.size wr w2 := HB0.out.trans hb2
      have hh2 := HH0.out.below hb12
      have hlt2 := hh2.lt
      have hv2 := HV2.out.below (hb2.mono (Nat.le_of_lt HH0.out.lt))
      have ho12 := only_trans HO.out (only_of_below (g := g) hb12)
      obtain ⟨pd, hpd⟩ : ∃ p, p = pad64 (bs.drop (64 * k)) := ⟨_, rfl⟩
      have hpl : pd.length = 64 := by rw [hpd]; exact length_pad64 _
      have kp := hput_any dk (zk + 1) pd w2 hh2 hpl
      rw [← hpd] at hX2
      obtain ⟨i44, hi44, hs44⟩ := info44
      have hld := run_load_big (P := Tryz.prog) (t := 94) Tryz.underlying94 (.inl ⟨_, _, rfl⟩) hi44 (w := w2) (b := wr.heap.size) (off := 0) (cs := u8s pd) hs44 (by rw [length_u8s, hpl])
        (fun j u hj => by rw [cell_of_row w2 _ (0 + j) _ _ _ hX2]; simpa using hj)
      obtain ⟨X, hX⟩ : ∃ X, X = (u8s pd).toArray := ⟨_, rfl⟩
      rw [← hX] at hld kp
      have HV3 := Lib.hid hv2
      have HO3 := Lib.hid ho12
      have HPD := Lib.hid hpd
      clear hb12 hh2 hv2 ho12 hb2 hs2 ho2 hX hX2 hi44 hs44 hpd hpl
      go_wp2_with (refine wp_load_at (.tmp 6) 94 rfl rfl rfl hld ?_; refine Halt.in ?_)
      refine Halt.out ?_
      clear hld
      go_wp2_with fail
      refine kp.mono ?_
      rintro e w3 ⟨rfl, hh3, ho3⟩
      have hdeed : (bytesD at_ bs).take (k + 1) = (bytesD at_ bs).take k ++ [.put (zk + 1) pd] := by
        rw [bytesD_succ at_ bs k (by rw [← HN.out]; exact hkN), HPD.out, HZK.out]
        congr 3
        omega
      have HD := Lib.hid hdeed
      have HO4 := Lib.hid (only_trans HO3.out ho3)
      have HV4 := Lib.hid (HV3.out.below (below_hand ho3 hlt2))
      clear hdeed
      by_cases he : (deed dk (.put (zk + 1) pd)).2 = 0
      · have e0 := hEnd0 he
        rw [e0]
        have HH3 := Lib.hid hh3
        have HE := Lib.hid he
        clear kp he e0 hh3 ho3
        go_wp2_with fail
        go_roundw
        case rel =>
          refine ⟨k + 1, (deed dk (.put (zk + 1) pd)).1, a2, c2, by omega, by rw [HZK.out]; congr 1; omega, rfl, HV4.out, HH3.out, ?_, HO4.out⟩
          rw [HD.out, run_good _ _ _ (by rw [HR.out]), HR.out, run_one, ← HE.out]
        case measure =>
          show bs.length - 64 * (k + 1) < L
          have := HL.out
          omega
      · have e0 := hEnd1 he
        rw [e0]
        have hall : run d (bytesD at_ bs) = deed dk (.put (zk + 1) pd) := by
          rw [← List.take_append_drop (k + 1) (bytesD at_ bs), HD.out]
          exact run_fail_at d dk _ _ _ HR.out he
        refine ⟨rfl, ?_⟩
        show _ = hEnd (run d (bytesD at_ bs)).2 ∧ HandAt g w3 (run d (bytesD at_ bs)).1 ∧ w.grownBy w3 (some g)
        rw [hall]
        exact ⟨e0.symm, hh3, HO4.out⟩
    · have hkN : N ≤ k := by have := HN.out; have := HL.out; omega
      obtain rfl : L = 0 := by omega
      have hall := bytesD_all at_ bs k (by rw [← HN.out]; exact hkN)
      go_wp2_with fail
      go_end0
      have := HR.out
      rw [hall] at this
      rw [this]
      exact ⟨(hEnd0 rfl).symm, hh, HO.out⟩
end Go.Proofs.YtaijompnohkmaaaGreatDoor
/- Layer 5 (wal): a half is laid. -/
namespace Go.Proofs.YtaijompnohkmaaaGreatDoor
open Go.RowKit WalP PackP
theorem run_build0 (w : World) : (Instr.build 94 #[]).run Tryz.prog w = .ok (.agg (u8s zeroS).toArray) w := by
  obtain ⟨z, hz, hzr⟩ := zero44
  obtain ⟨i1, hi1, hs1⟩ := Option.map_eq_some_iff.1 (show (Tryz.prog.info? 5).map (fun i => i.size) = some 1 by kernel_rfl)
  have e4 : z.cells ≠ #[] := by rw [hz]; simp [u8s, zeroS]
  simp [Instr.build, hzr, run_underlying Tryz.underlying94, sizeOf, typeInfo, hi1, hs1, Instr.fill, e4]
  rw [hz]
/-- A piece, loaded. -/
theorem Pieces.at_ {B : Nat} {w : World} {v : Value} {ls : List (List UInt8)} (h : Pieces B w v ls) : ∃ a c, v = .slice a ls.length c ∧ ls.length ≤ c ∧ c ≤ 2 ^ 63 - 1 ∧ ∀ (k : Nat) (hk : k < ls.length), ∃ b off a2 c2, a = some ⟨b, off, none⟩ ∧ b < B ∧ ∀ w', Below B w w' → w'.cell? ⟨b, off + k, none⟩ = some (.slice a2 ls[k].length c2) ∧ Bytes B w' (.slice a2 ls[k].length c2) ls[k] := by
  obtain ⟨vs, ⟨h0, a, c, rfl, h1, h2, h3⟩, h4⟩ := h
  refine ⟨a, c, rfl, h1, h2, fun k hk => ?_⟩
  obtain ⟨b, off, rfl, hb, hc⟩ := h3 (by omega)
  obtain ⟨u, hu, hB⟩ := h4 k hk
  obtain ⟨a2, c2, rfl⟩ := hB.form
  exact ⟨b, off, a2, c2, rfl, hb, fun w' hb' => ⟨(hb'.cell (p := ⟨b, off + k, none⟩) hb).trans (hc k _ hu), hB.below hb'⟩⟩
theorem below_only {g : Nat} {w w' : World} (h : w.grownBy w' (some g)) (hg : g < w.heap.size) : Below g w w' := below_hand h hg
set_option maxRecDepth 100000 in
set_option maxHeartbeats 4000000 in
theorem hlay_any {g : Nat} (d : DiskP) (which gen : Int) (v : Value) (list : List (List UInt8)) (w : World) (hh : HandAt g w d) (hv : Pieces g w v list) (ht : TabAt w) (hT : 1 < g)
    (hw0 : 0 ≤ which * (half d : Nat)) (hw1 : which * (half d : Nat) ≤ 2 ^ 20) (hl1 : ∀ b ∈ list, b.length ≤ 2 ^ 20) (hl2 : list.length ≤ 2 ^ 20) (hl3 : list ≠ []) :
    Calls Tryz.prog 100 #[.pointer (some ⟨g, 0, none⟩), .int .i64 which, .int .i64 gen, v] w fun x w' => x = hEnd (run d (layD (half d) which gen list)).2 ∧ HandAt g w' (run d (layD (half d) which gen list)).1 ∧ w.grownBy w' (some g) := by
  obtain ⟨H, hH⟩ : ∃ H, H = half d := ⟨_, rfl⟩
  obtain ⟨p1, q1, p2, q2, hg, hd, hs⟩ := hh.parts
  have hH2 : H ≤ 2 ^ 62 := by
    obtain ⟨sv, lv, hv', h1, _⟩ := hd
    cases hv'
    obtain ⟨_, a', c', hv', hn, hc, _⟩ := h1.2
    cases hv'
    unfold maxLen at hc
    rw [hH]; unfold half; omega
  obtain ⟨a, c, rfl, hnc, hc63, hat⟩ := hv.at_
  have hlt := hh.lt
  have k1 := walHalf_any _ d w hd
  rw [← hH] at k1 hw0 hw1 ⊢
  have C0 := cell_of_row w _ 0 _ _ _ hg
  have C1 := cell_of_row w _ 1 _ _ _ hg
  have C2 := cell_of_row w _ 2 _ _ _ hg
  have C3 := cell_of_row w _ 3 _ _ _ hg
  have HH := Lib.hid hh
  have HAT := Lib.hid hat
  have HT := Lib.hid ht
  have HL1 := Lib.hid hl1
  have HL3 := Lib.hid hl3
  have HHH := Lib.hid hH
  have HB0 := fun w => Lib.hid (run_build0 w)
  obtain ⟨Z, hZ⟩ : ∃ Z, Z = (u8s zeroS).toArray := ⟨_, rfl⟩
  simp only [← hZ] at HB0
  have HZ := Lib.hid hZ
  obtain ⟨n, hn⟩ : ∃ n, n = list.length := ⟨_, rfl⟩
  rw [← hn] at hnc hl2 ⊢
  have HN := Lib.hid hn
  clear hh hv hat ht hl1 hl3 hg hd hs hH hZ hn
  go_enter Tryz.func100, Tryz.ntmps100
  go_wp2_with fail
  refine k1.mono ?_
  rintro e w1 ⟨rfl, hb1⟩
  have hh1 := HH.out.below hb1
  obtain ⟨p1, q1, p2, q2, hg, hd, hs⟩ := hh1.parts
  clear k1 C0 C1 C2 C3
  have k1 := walHalf_any _ d w1 hd
  rw [← HHH.out] at k1
  have C0 := cell_of_row w1 _ 0 _ _ _ hg
  have C1 := cell_of_row w1 _ 1 _ _ _ hg
  have C2 := cell_of_row w1 _ 2 _ _ _ hg
  have C3 := cell_of_row w1 _ 3 _ _ _ hg
  have HH1 := Lib.hid hh1
  have HB1 := Lib.hid hb1
  clear hh1 hg hd hs hb1
  go_wp2_with fail
  refine k1.mono ?_
  rintro e w2 ⟨rfl, hb2⟩
  have hh2 := HH1.out.below hb2
  have ho2 : w.grownBy w2 (some g) := only_trans (only_of_below HB1.out) (only_of_below hb2)
  have HH2 := Lib.hid hh2
  have HO2 := Lib.hid ho2
  clear k1 C0 C1 C2 C3 hb2 hh2 ho2
  obtain ⟨F, hF⟩ : ∃ F, F = which * (H : Int) := ⟨_, rfl⟩
  go_wp2_with fail
  rw [← hF] at hw0 hw1 ⊢
  have HF := Lib.hid hF
  clear hF
  go_loopw [25] (fun z wr => ∃ (k : Nat) (dk : DiskP), k ≤ H ∧ z = .int .i64 k ∧ HandAt g wr dk ∧ run d ((zerosD F H).take k) = (dk, 0) ∧ w.grownBy wr (some g)) (fun z _ => H - (intOf z).toNat)
  case atStart => exact ⟨0, d, Nat.zero_le _, rfl, HH2.out, rfl, HO2.out⟩
  case round =>
    obtain ⟨k, dk, hk, rfl, hh, hr, ho⟩ := hrel
    have HRN := Lib.hid hr
    have HO := Lib.hid ho
    have HHK := Lib.hid hh
    clear hh hr ho HH2 HO2
    by_cases hkH : k < H
    · have hsum : IntKind.i64.wrap (F + (k : Int)) = F + (k : Int) := by
        simp only [IntKind.wrap, IntKind.bits, IntKind.signed]
        simp
        omega
      have kp := hput_any dk (F + (k : Int)) zeroS wr HHK.out rfl
      rw [← HZ.out] at kp
      have hb0 := (HB0 wr).out
      go_wp2_with (refine wp_build_l 94 [] rfl rfl rfl hb0 ?_; refine Halt.in ?_)
      refine Halt.out ?_
      clear hb0
      go_wp2_with fail
      refine kp.mono ?_
      rintro e w3 ⟨rfl, hh3, ho3⟩
      have hz := zerosD_succ F H k hkH
      have HZS := Lib.hid hz
      have HO3 := Lib.hid (only_trans HO.out ho3)
      clear hz
      by_cases he : (deed dk (.put (F + (k : Int)) zeroS)).2 = 0
      · have e0 := hEnd0 he
        rw [e0]
        have HH3 := Lib.hid hh3
        have HE := Lib.hid he
        clear kp he e0 hh3 ho3
        go_wp2_with fail
        go_roundw
        case rel =>
          refine ⟨k + 1, (deed dk (.put (F + (k : Int)) zeroS)).1, by omega, by go_num, HH3.out, ?_, HO3.out⟩
          rw [HZS.out, run_good2 HRN.out, run_one, ← HE.out]
        case measure => simp [intOf]; omega
      · have e0 := hEnd1 he
        rw [e0]
        have hall : run d (layD H which gen list) = deed dk (.put (F + (k : Int)) zeroS) := by
          rw [← run_one] at he ⊢
          obtain ⟨r, hr⟩ := layA_pre H which gen list 0
          rw [layA_zero, ← HF.out] at hr
          refine run_split (xs := (zerosD F H).take k) (r := (zerosD F H).drop (k + 1) ++ ([.flush] ++ r)) ?_ HRN.out he
          rw [hr, ← List.append_assoc ((zerosD F H).take k), ← HZS.out, ← List.append_assoc, List.take_append_drop, List.append_assoc]
        refine ⟨rfl, ?_⟩
        show _ = hEnd (run d (layD H which gen list)).2 ∧ HandAt g w3 (run d (layD H which gen list)).1 ∧ w.grownBy w3 (some g)
        rw [hall]
        exact ⟨e0.symm, hh3, HO3.out⟩
    · obtain rfl : k = H := by omega
      have kf := hflush_any dk wr HHK.out
      go_wp2_with fail
      refine kf.mono ?_
      rintro e w3 ⟨rfl, hh3, ho3⟩
      have HO3 := Lib.hid (only_trans HO.out ho3)
      have hz : run d (zerosD F k) = (dk, 0) := by
        have := HRN.out
        rwa [zerosD_all F k k (Nat.le_refl _)] at this
      have HZD := Lib.hid hz
      clear hz
      by_cases he : (deed dk .flush).2 = 0
      · have e0 := hEnd0 he
        rw [e0]
        have HH3 := Lib.hid hh3
        have HE := Lib.hid he
        clear kf he e0 hh3 ho3
        go_wp2_with fail
        go_loopw [40, 10] (fun z y wr => ∃ (i : Nat) (di : DiskP), i ≤ n ∧ z = .int .i64 i ∧ y = .int .i64 (F + posN (list.take i)) ∧ HandAt g wr di ∧ run d (layA F k gen list i) = (di, 0) ∧ w.grownBy wr (some g)) (fun z _ _ => n - (intOf z).toNat)
        case atStart =>
          refine ⟨0, (deed dk .flush).1, Nat.zero_le _, rfl, by simp [posN], HH3.out, ?_, HO3.out⟩
          rw [layA_zero, run_good2 HZD.out, run_one, ← HE.out]
        case round =>
          obtain ⟨i, di, hi, rfl, rfl, hh, hr, ho⟩ := hrel
          have HRI := Lib.hid hr
          have HOI := Lib.hid ho
          have HHI := Lib.hid hh
          have hbg := below_hand ho hlt
          have hpl := posN_le (list.take i)
          have hpl2 : (list.take i).length ≤ i := List.length_take_le _ _
          obtain ⟨ps, hps⟩ : ∃ ps, ps = posN (list.take i) := ⟨_, rfl⟩
          rw [← hps] at hpl ⊢
          have HPS := Lib.hid hps
          clear hh hr ho HH3 HO3 HHK HO hps
          by_cases hin : i < n
          · have hil : i < list.length := HN.out ▸ hin
            obtain ⟨b, off, a2, c2, rfl, hbg2, hcell⟩ := HAT.out i hil
            obtain ⟨hE, hBy⟩ := hcell wr hbg
            have hbl := HL1.out _ (List.getElem_mem hil)
            obtain ⟨bl, hbe⟩ : ∃ bl, bl = list[i] := ⟨_, rfl⟩
            rw [← hbe] at hE hBy hbl
            have HBE := Lib.hid hbe
            obtain ⟨at_, hate⟩ : ∃ z, z = F + (ps : Int) := ⟨_, rfl⟩
            have hat0 : 0 ≤ at_ := by omega
            have hat1 : at_ ≤ 2 ^ 30 := by omega
            rw [← hate]
            have HATE := Lib.hid hate
            have kb := hbytes_any di at_ _ bl wr HHI.out hBy hbl hat0 (by omega)
            have HBY := Lib.hid hBy
            have hstep : layA F k gen list (i + 1) = layA F k gen list i ++ recD at_ gen i bl := by
              rw [layA_succ F k gen list i hil, HATE.out, HPS.out, HBE.out]
            have HSTEP := Lib.hid hstep
            have hpos : (F + (posN (list.take (i + 1)) : Nat) : Int) = at_ + (takes bl.length : Nat) := by
              have e : list.take (i + 1) = list.take i ++ [list[i]] := by rw [List.take_add_one, List.getElem?_eq_getElem hil]; rfl
              rw [e, posN_append, HATE.out, HPS.out, HBE.out]
              simp [posN]
              omega
            have HPOS := Lib.hid hpos
            have hi0 : (0 : Int) ≤ (i : Int) := by omega
            have hi1 : (i : Int) < (n : Int) := by omega
            have htk := takes_le bl.length
            clear hcell hBy hbe hate hstep hpos
            go_wp2_with fail
            refine kb.mono ?_
            rintro e w3 ⟨rfl, hh3, ho3⟩
            have HO3 := Lib.hid (only_trans HOI.out ho3)
            have hbg3 := below_hand ho3 HHI.out.lt
            by_cases he : (run di (bytesD at_ bl)).2 = 0
            · have e0 := hEnd0 he
              rw [e0]
              have HH3 := Lib.hid hh3
              have HR3 := Lib.hid (run_ok he)
              have HB3 := Lib.hid (HBY.out.below hbg3)
              have HT3 := Lib.hid (HT.out.below (below_hand HO3.out hlt) hT)
              have kt := fun w => takes_any (bl.length : Int) w
              simp only [takesZ_nat] at kt
              clear kb he e0 hh3 ho3 hbg3
              by_cases hi0' : i = 0
              · subst hi0'
                obtain ⟨dn, hdn⟩ : ∃ dn, dn = (run di (bytesD at_ bl)).1 := ⟨_, rfl⟩
                have HRNN := Lib.hid (show run d (layA F k gen list (0 + 1)) = (dn, 0) by
                  rw [HSTEP.out, run_good2 HRI.out, recD, if_neg (Nat.lt_irrefl 0), List.append_nil, HR3.out, ← hdn])
                have HHN := Lib.hid (show HandAt g w3 dn by rw [hdn]; exact HH3.out)
                have HON := HO3
                have kt := kt w3
                clear hdn
                go_wp2_with fail
                refine kt.mono ?_
                rintro e w9 ⟨rfl, rfl⟩
                clear kt
                go_wp2_with fail
                go_roundw
                case rel => exact ⟨0 + 1, dn, by omega, by go_num, by rw [HPOS.out], HHN.out, HRNN.out, HON.out⟩
                case measure => simp [intOf]; omega
              · have hi2 : decide ((0 : Int) < (i : Int)) = true := by simp; omega
                have hw3 := HH3.out.lt
                have ko := of_any gen (i : Int) _ bl w3 HT3.out (by omega) HB3.out
                go_wp2_with fail
                refine ko.mono ?_
                rintro e w4 ⟨rfl, hb4⟩
                have ks := sector_any gen (i : Int) (bl.length : Int) (SumP.toI (SumP.sum bl)) w4 (SumP.toI_lo _) (SumP.toI_hi _)
                clear ko
                go_wp2_with fail
                refine ks.mono ?_
                rintro e w5 ⟨rfl, hb5⟩
                have hb35 : Below w3.heap.size w3 w5 := hb4.trans (hb5.mono hb4.size)
                have hh5 := HH3.out.below hb35
                have kp := hput_any (run di (bytesD at_ bl)).1 at_ (markS gen (i : Int) (bl.length : Int) (SumP.toI (SumP.sum bl))) w5 hh5 (length_markS _ _ _ _)
                have HO5 := Lib.hid (only_trans HO3.out (only_of_below hb35))
                clear ks hb4 hb5 hb35 hh5
                go_wp2_with fail
                refine kp.mono ?_
                rintro e w6 ⟨rfl, hh6, ho6⟩
                have HO6 := Lib.hid (only_trans HO5.out ho6)
                have hrec : recD at_ gen i bl = bytesD at_ bl ++ [.put at_ (markS gen (i : Int) (bl.length : Int) (SumP.toI (SumP.sum bl)))] := by
                  rw [recD, if_pos (by omega)]; rfl
                have HREC := Lib.hid hrec
                clear hrec
                by_cases he : (deed (run di (bytesD at_ bl)).1 (.put at_ (markS gen (i : Int) (bl.length : Int) (SumP.toI (SumP.sum bl))))).2 = 0
                · have e0 := hEnd0 he
                  rw [e0]
                  obtain ⟨dn, hdn⟩ : ∃ dn, dn = (deed (run di (bytesD at_ bl)).1 (.put at_ (markS gen (i : Int) (bl.length : Int) (SumP.toI (SumP.sum bl))))).1 := ⟨_, rfl⟩
                  have HRNN := Lib.hid (show run d (layA F k gen list (i + 1)) = (dn, 0) by
                    rw [HSTEP.out, run_good2 HRI.out, HREC.out, run_good2 HR3.out, run_one, hdn, ← he])
                  have HHN := Lib.hid (show HandAt g w6 dn by rw [hdn]; exact hh6)
                  have HON := HO6
                  have kt := kt w6
                  clear kp he e0 hh6 ho6 hdn
                  go_wp2_with fail
                  refine kt.mono ?_
                  rintro e w9 ⟨rfl, rfl⟩
                  clear kt
                  go_wp2_with fail
                  go_roundw
                  case rel => exact ⟨i + 1, dn, by omega, by go_num, by rw [HPOS.out], HHN.out, HRNN.out, HON.out⟩
                  case measure => simp [intOf]; omega
                · have e0 := hEnd1 he
                  rw [e0]
                  have hall : run d (layD k which gen list) = deed (run di (bytesD at_ bl)).1 (.put at_ (markS gen (i : Int) (bl.length : Int) (SumP.toI (SumP.sum bl)))) := by
                    rw [← run_one] at he ⊢
                    obtain ⟨r, hr⟩ := layA_pre k which gen list (i + 1)
                    rw [← HF.out, HSTEP.out, HREC.out] at hr
                    refine run_split (xs := layA F k gen list i ++ bytesD at_ bl) (r := r) (by rw [hr]; simp only [List.append_assoc]) ?_ he
                    rw [run_good2 HRI.out]; exact HR3.out
                  refine ⟨rfl, ?_⟩
                  show _ = hEnd (run d (layD k which gen list)).2 ∧ HandAt g w6 (run d (layD k which gen list)).1 ∧ w.grownBy w6 (some g)
                  rw [hall]
                  exact ⟨e0.symm, hh6, HO6.out⟩
            · have e0 := hEnd1 he
              rw [e0]
              have hall : run d (layD k which gen list) = run di (bytesD at_ bl) := by
                obtain ⟨r, hr⟩ := layA_pre k which gen list (i + 1)
                rw [← HF.out, HSTEP.out, recD] at hr
                exact run_split (ys := bytesD at_ bl) (by rw [hr]; simp only [List.append_assoc]; rfl) HRI.out he
              refine ⟨rfl, ?_⟩
              show _ = hEnd (run d (layD k which gen list)).2 ∧ HandAt g w3 (run d (layD k which gen list)).1 ∧ w.grownBy w3 (some g)
              rw [hall]
              exact ⟨e0.symm, hh3, HO3.out⟩
          · obtain rfl : i = n := by omega
            have hr : run d (layA F k gen list list.length) = (di, 0) := by rw [← HN.out]; exact HRI.out
            have HRA := Lib.hid hr
            have kf := hflush_any di wr HHI.out
            have hn0 : 0 < i := by
              rw [HN.out]
              exact List.length_pos_iff.2 HL3.out
            have hil : 0 < list.length := HN.out ▸ hn0
            obtain ⟨b, off, a2, c2, rfl, hbg2, hcell⟩ := HAT.out 0 hil
            have HCELL := Lib.hid hcell
            have hhead : list.headD [] = list[0] := by cases list with | nil => simp at hil | cons x l => rfl
            have heq := layD_eq k which gen list
            rw [← HF.out, hhead] at heq
            obtain ⟨bl, hbe⟩ : ∃ bl, bl = list[0] := ⟨_, rfl⟩
            rw [← hbe] at heq
            have HBE := Lib.hid hbe
            have HEQ := Lib.hid heq
            have hi1 : (0 : Int) < (i : Int) := by omega
            clear hr hcell hhead heq hbe
            go_wp2_with fail
            refine kf.mono ?_
            rintro e w3 ⟨rfl, hh3, ho3⟩
            have HO3 := Lib.hid (only_trans HOI.out ho3)
            by_cases he : (deed di .flush).2 = 0
            · have e0 := hEnd0 he
              rw [e0]
              have HH3 := Lib.hid hh3
              have HE3 := Lib.hid he
              have hbg3 := below_hand HO3.out hlt
              obtain ⟨hE, hBy⟩ := HCELL.out w3 hbg3
              rw [Nat.add_zero] at hE
              rw [← HBE.out] at hE hBy
              have HT3 := HT.out.below hbg3 hT
              have hw3 := HH3.out.lt
              have ko := of_any gen 0 _ bl w3 HT3 (by omega) hBy
              clear kf he e0 hh3 ho3 hbg3 hBy HT3
              go_wp2_with fail
              refine ko.mono ?_
              rintro e w4 ⟨rfl, hb4⟩
              have ks := sector_any gen 0 (bl.length : Int) (SumP.toI (SumP.sum bl)) w4 (SumP.toI_lo _) (SumP.toI_hi _)
              clear ko hE
              go_wp2_with fail
              refine ks.mono ?_
              rintro e w5 ⟨rfl, hb5⟩
              have hb35 : Below w3.heap.size w3 w5 := hb4.trans (hb5.mono hb4.size)
              have hh5 := HH3.out.below hb35
              obtain ⟨d3, hd3⟩ : ∃ d3, d3 = (deed di .flush).1 := ⟨_, rfl⟩
              rw [← hd3] at hh5
              have HR3 := Lib.hid (show run d (layA F k gen list list.length ++ [.flush]) = (d3, 0) by rw [run_good2 HRA.out, run_one, hd3, ← HE3.out])
              have kp := hput_any d3 F (markS gen 0 (bl.length : Int) (SumP.toI (SumP.sum bl))) w5 hh5 (length_markS _ _ _ _)
              have HO5 := Lib.hid (only_trans HO3.out (only_of_below hb35))
              clear ks hb4 hb5 hb35 hh5 hd3
              go_wp2_with fail
              refine kp.mono ?_
              rintro e w6 ⟨rfl, hh6, ho6⟩
              have HO6 := Lib.hid (only_trans HO5.out ho6)
              by_cases he : (deed d3 (.put F (markS gen 0 (bl.length : Int) (SumP.toI (SumP.sum bl))))).2 = 0
              · have e0 := hEnd0 he
                rw [e0]
                obtain ⟨d6, hd6⟩ : ∃ d6, d6 = (deed d3 (.put F (markS gen 0 (bl.length : Int) (SumP.toI (SumP.sum bl))))).1 := ⟨_, rfl⟩
                rw [← hd6] at hh6
                have HH6 := Lib.hid hh6
                have HR6 := Lib.hid (show run d ((layA F k gen list list.length ++ [.flush]) ++ [.put F (markOf gen 0 bl)]) = (d6, 0) by
                  rw [run_good2 HR3.out, run_one, hd6]; exact Prod.ext rfl he)
                have kf := hflush_any d6 w6 hh6
                clear kp he e0 hh6 ho6 hd6
                go_wp2_with fail
                refine kf.mono ?_
                rintro e w7 ⟨rfl, hh7, ho7⟩
                have HO7 := Lib.hid (only_trans HO6.out ho7)
                have hall : run d (layD k which gen list) = deed d6 .flush := by
                  rw [HEQ.out, ← run_one, ← run_good2 HR6.out]
                  simp only [List.append_assoc]
                  rfl
                have HALL := Lib.hid hall
                clear hall
                by_cases he : (deed d6 .flush).2 = 0
                · have e0 := hEnd0 he
                  rw [e0]
                  have HH7 := Lib.hid hh7
                  have HE0 := Lib.hid e0
                  clear kf he e0 hh7 ho7
                  go_wp2_with fail
                  go_end0
                  rw [HALL.out]
                  exact ⟨HE0.out.symm, HH7.out, HO7.out⟩
                · have e0 := hEnd1 he
                  rw [e0]
                  refine ⟨rfl, ?_⟩
                  show _ = hEnd (run d (layD k which gen list)).2 ∧ HandAt g w7 (run d (layD k which gen list)).1 ∧ w.grownBy w7 (some g)
                  rw [HALL.out]
                  exact ⟨e0.symm, hh7, HO7.out⟩
              · have e0 := hEnd1 he
                rw [e0]
                have hall : run d (layD k which gen list) = deed d3 (.put F (markS gen 0 (bl.length : Int) (SumP.toI (SumP.sum bl)))) := by
                  rw [← run_one] at he ⊢
                  exact run_split (ys := [.put F (markOf gen 0 bl)]) (r := [.flush]) (by rw [HEQ.out]; simp only [List.append_assoc]; rfl) HR3.out he
                refine ⟨rfl, ?_⟩
                show _ = hEnd (run d (layD k which gen list)).2 ∧ HandAt g w6 (run d (layD k which gen list)).1 ∧ w.grownBy w6 (some g)
                rw [hall]
                exact ⟨e0.symm, hh6, HO6.out⟩
            · have e0 := hEnd1 he
              rw [e0]
              have hall : run d (layD k which gen list) = deed di .flush := by
                rw [← run_one] at he ⊢
                exact run_split (ys := [.flush]) (r := [.put F (markOf gen 0 bl), .flush]) (by rw [HEQ.out]; rfl) HRA.out he
              refine ⟨rfl, ?_⟩
              show _ = hEnd (run d (layD k which gen list)).2 ∧ HandAt g w3 (run d (layD k which gen list)).1 ∧ w.grownBy w3 (some g)
              rw [hall]
              exact ⟨e0.symm, hh3, HO3.out⟩
      · have e0 := hEnd1 he
        rw [e0]
        have hall : run d (layD k which gen list) = deed dk .flush := by
          rw [← run_one] at he ⊢
          obtain ⟨r, hr⟩ := layA_pre k which gen list 0
          rw [layA_zero, ← HF.out] at hr
          exact run_split (r := r) (by rw [hr, List.append_assoc]) HZD.out he
        refine ⟨rfl, ?_⟩
        show _ = hEnd (run d (layD k which gen list)).2 ∧ HandAt g w3 (run d (layD k which gen list)).1 ∧ w.grownBy w3 (some g)
        rw [hall]
        exact ⟨e0.symm, hh3, HO3.out⟩
end Go.Proofs.YtaijompnohkmaaaGreatDoor
/- Layer 5 (wal): what a hand does, and how far it came. -/
namespace Go.Proofs.YtaijompnohkmaaaGreatDoor
open Go.RowKit WalP PackP
theorem assert_errno (e : Int) (w : World) : (Instr.typeAssert (.iface 26 (.int .i64 e)) 20 26 true).run Tryz.prog w = .ok (.tuple #[.int .i64 e, .bool true]) w := by kernel_rfl
set_option maxRecDepth 100000 in
set_option maxHeartbeats 1000000 in
theorem caught_panicking (p : Addr) (e x : Int) (older : List PanicEntry) (w : World) (hc : w.cell? p = some (.int .i64 x)) (hz : w.frozen? p = false) :
    CallsD Tryz.prog 140 #[.pointer (some p)] (.panicking ({ v := .iface 26 (.int .i64 e), recovered := false } :: older)) w fun x u' w' =>
      x = .returned (.tuple #[]) ∧ u' = .panicking ({ v := .iface 26 (.int .i64 e), recovered := true } :: older) ∧ w' = w.setCell p (.int .i64 e) := by
  refine callsD_of_wpS Tryz.func140 rfl fun c₀ cs hu => ?_
  apply wpS_seq
  apply wpS_region
  simp [wpOpsS, go_sem, recoverD, hu, Tryz.ntmps140, Exit.thenS]
  refine wpS_of_wp ?_
  have hta := assert_errno
  go_wp2_with fail
  exact ⟨rfl, _, rfl, .tuple #[], by simp [results, Tryz.results140], rfl, rfl, rfl⟩
theorem caught_idle (p : Addr) (w : World) :
    CallsD Tryz.prog 140 #[.pointer (some p)] .returning w fun e u' w' => e = .returned (.tuple #[]) ∧ u' = .returning ∧ w' = w := by
  refine callsD_of_wpS Tryz.func140 rfl fun c₀ cs hu => ?_
  apply wpS_seq
  apply wpS_region
  simp [wpOpsS, go_sem, recoverD, hu, Tryz.ntmps140, Exit.thenS]
  refine wpS_of_wp ?_
  go_wp2_with fail
  cases c₀
  simp_all [bodyPostS, results, Tryz.results140]
/-- What a hand has done, and the error's variable behind it. -/
def Wrote (g : Nat) (pe : Addr) (r : DiskP × Int) (w w' : World) : Prop := ∃ w'', w.grownBy w'' (some g) ∧ HandAt g w'' r.1 ∧ w' = if r.2 = 0 then w'' else w''.setCell pe (.int .i64 r.2)
set_option maxRecDepth 100000 in
set_option maxHeartbeats 1000000 in
theorem write1_any {g N : Nat} (caps : Array Value) (pe pd ph : Addr) (r : DiskP × Int) (w : World) (he : w.cell? pe = some (.int .i64 0)) (hz : w.frozen? pe = false) (hpe : pe.block ≠ g) (hpl : pe.block < w.heap.size)
    (hd : w.cell? pd = some (.func (.func N) #[] caps)) (hp : w.cell? ph = some (.pointer (some ⟨g, 0, none⟩)))
    (hcf : ∀ args w, (callFunc N args).run Tryz.prog w = .ok (.enter N args) w)
    (hdo : Calls Tryz.prog N (#[.pointer (some ⟨g, 0, none⟩)] ++ caps) w fun x w' => x = hEnd r.2 ∧ HandAt g w' r.1 ∧ w.grownBy w' (some g)) :
    Calls Tryz.prog 139 #[.pointer (some pe), .pointer (some pd), .pointer (some ph)] w fun x w' => x = .returned (.tuple #[]) ∧ Wrote g pe r w w' := by
  go_enter_defers Tryz.func139, Tryz.ntmps139
  go_wp2_with fail
  refine hdo.mono ?_
  rintro x w2 ⟨rfl, hh, ho⟩
  have hpb := ho.block pe.block hpl (fun e => hpe (Option.some.inj e))
  have he2 : w2.cell? pe = some (.int .i64 0) := by
    rw [← he]; unfold World.cell?; rw [hpb]
  have hz2 : w2.frozen? pe = false := by
    rw [← hz]; unfold World.frozen?; rw [hpb]
  by_cases h0 : r.2 = 0
  · have e0 := hEnd0 h0
    rw [e0]
    have H0 := Lib.hid h0
    clear hdo he hz hd hp e0 h0 he2 hz2 hpb
    go_wp2_with fail
    refine leaves_cons (f := 140) (args := #[.pointer (some pe)]) (by simp) (by simp [go_sem]) ?_
    refine (caught_idle pe _).mono ?_
    rintro e u' w3 ⟨rfl, rfl, rfl⟩
    simp [Leaves, settle, results, Tryz.results139]
    exact ⟨_, ho, hh, by rw [if_pos H0.out]⟩
  · have e0 := hEnd1 h0
    rw [e0]
    refine leaves_cons (f := 140) (args := #[.pointer (some pe)]) (by simp) (by simp [go_sem]) ?_
    refine (caught_panicking pe r.2 0 [] _ he2 hz2).mono ?_
    rintro e u' w3 ⟨rfl, rfl, rfl⟩
    simp [Leaves, settle, results, Tryz.results139]
    exact ⟨_, ho, hh, by rw [if_neg h0]⟩
end Go.Proofs.YtaijompnohkmaaaGreatDoor
