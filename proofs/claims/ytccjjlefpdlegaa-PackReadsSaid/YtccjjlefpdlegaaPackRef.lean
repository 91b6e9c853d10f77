/- Layer 3 (pack): what the reference's writing functions lay. -/
import Derived.Test.YtccjjlefpdlegaaPack
import Derived.Test.YtccjjlefpdlegaaConv
namespace Go.Proofs.Ytccjjlefpdlegaa
open Go.RowKit PackP
theorem run_make8 : ∀ w : World, (Instr.makeSlice 22 (.int .i64 8) (.int .i64 8)).run Try.prog w =
    .ok (.slice (some ⟨w.heap.size, 0, none⟩) 8 8) (w.alloc (.cells #[.int .u8 0, .int .u8 0, .int .u8 0, .int .u8 0, .int .u8 0, .int .u8 0, .int .u8 0, .int .u8 0] 5)) := fun _ => by kernel_rfl
theorem run_make4 : ∀ w : World, (Instr.makeSlice 22 (.int .i64 4) (.int .i64 4)).run Try.prog w =
    .ok (.slice (some ⟨w.heap.size, 0, none⟩) 4 4) (w.alloc (.cells #[.int .u8 0, .int .u8 0, .int .u8 0, .int .u8 0] 5)) := fun _ => by kernel_rfl
theorem run_make_u8 (k : Nat) (hk : k = 4 ∨ k = 8) (w : World) : (Instr.makeSlice 22 (.int .i64 k) (.int .i64 k)).run Try.prog w =
    .ok (.slice (some ⟨w.heap.size, 0, none⟩) k k) (w.alloc (.cells (Array.replicate k (.int .u8 0)) 5)) := by
  rcases hk with rfl | rfl
  · exact run_make4 w
  · exact run_make8 w
theorem own_made (w : World) (k : Nat) (hk : k = 4 ∨ k = 8) : OwnB w.heap.size (w.alloc (.cells (Array.replicate k (.int .u8 0)) 5)) (.slice (some ⟨w.heap.size, 0, none⟩) k k) (List.replicate k 0) := by
  unfold OwnB
  rw [List.length_replicate]
  refine ⟨by simp [u8s], _, k, rfl, Nat.le_refl _, by unfold maxLen; omega, .inr ⟨_, _, rfl, Nat.le_refl _, heap_alloc_new w _, by simp, ?_⟩⟩
  simp [u8s, u8]
theorem byte_mod (m : Nat) : (m : Int) % 256 = ((UInt8.ofNat m).toNat : Int) := by
  rw [UInt8.toNat_ofNat']; omega
theorem set_zeros (j : Nat) (ys : List UInt8) (c : UInt8) : (List.replicate (j + 1) 0 ++ ys).set j c = List.replicate j 0 ++ c :: ys := by
  apply List.ext_getElem?
  intro i
  rw [List.getElem?_set]
  by_cases h : j = i
  · subst h
    rw [if_pos rfl, if_pos (by simp; omega), List.getElem?_append_right (by simp)]; simp
  · rw [if_neg h]
    by_cases h2 : i < j
    · rw [List.getElem?_append_left (by simp; omega), List.getElem?_append_left (by simp; omega)]
      simp [h2, Nat.lt_succ_of_lt h2]
    · rw [List.getElem?_append_right (by simp; omega), List.getElem?_append_right (by simp; omega)]
      obtain ⟨d, rfl⟩ : ∃ d, i = j + 1 + d := ⟨i - (j + 1), by omega⟩
      simp only [List.length_replicate]
      rw [show j + 1 + d - (j + 1) = d by omega, show j + 1 + d - j = d + 1 by omega, List.getElem?_cons_succ]
set_option maxRecDepth 100000 in
set_option maxHeartbeats 1000000 in
theorem refBytes_any (n k : Nat) (w : World) (hk : k = 4 ∨ k = 8) (hn : n ≤ 2 ^ 62) :
    Calls Try.prog 43 #[.int .i64 n, .int .i64 k] w fun e w' => ∃ v', e = .returned v' ∧ OwnB w.heap.size w' v' (be k n) ∧ Below w.heap.size w w' := by
  have hmk := run_make_u8 k hk
  have hk8 : k ≤ 8 := by omega
  go_enter Try.func43, Try.ntmps43
  go_wp2
  clear hmk
  go_loopw [0, 6] (fun m i wr => ∃ (r M : Nat) (ys : List UInt8), r ≤ k ∧ M ≤ 2 ^ 62 ∧ i = .int .i64 ((r : Int) - 1) ∧ m = .int .i64 M ∧ be k n = be r M ++ ys ∧ ys.length = k - r ∧
      Own w.heap.size wr 5 (.slice (some ⟨w.heap.size, 0, none⟩) k k) 1 k (u8s (List.replicate r 0 ++ ys)) ∧ Below w.heap.size w wr) (fun _ i _ => (intOf i + 1).toNat)
  case atStart =>
    refine ⟨k, n, [], Nat.le_refl _, hn, rfl, rfl, by simp, by simp, ?_, Below.alloc (Below.refl _ _) (Nat.le_refl _) _⟩
    have := own_made w k hk
    unfold OwnB at this
    rw [List.length_replicate] at this
    simpa using this
  case round =>
    obtain ⟨r, M, ys, hr, hM, rfl, rfl, he, hyl, ho, hb⟩ := hrel
    have HE := Lib.hid he
    have HO := Lib.hid ho
    have HY := Lib.hid hyl
    clear he ho hyl
    by_cases hr0 : r = 0
    · subst hr0
      go_wp2
      go_ret
      refine ⟨_, rfl, ?_, hb⟩
      rw [HE.out]
      have h1 := HO.out
      have h2 := HY.out
      unfold OwnB
      rw [show be 0 M = [] from rfl, List.nil_append, h2]
      simpa using h1
    · obtain ⟨j, rfl⟩ : ∃ j, r = j + 1 := ⟨r - 1, by omega⟩
      obtain ⟨C, hC⟩ : ∃ C, C = UInt8.ofNat M := ⟨_, rfl⟩
      have hb8 := byte_mod M
      rw [← hC] at hb8
      have HC := Lib.hid hC
      clear hC
      obtain ⟨g, hg, _, _, hgc, hgf, hgs⟩ := HO.out.form (by omega)
      obtain rfl : w.heap.size = g := by injection hg with h; injection h
      have hjl : (u8s (List.replicate (j + 1) 0 ++ ys))[j]? = some (u8 0) := by
        rw [u8s, List.getElem?_map, List.getElem?_append_left (by simp)]; simp
      have hcell := hgc j _ hjl
      have hfz := hgf j
      have ho3 := hgs j (u8 C) (by omega)
      have hb3 := hb.setCell (p := ⟨w.heap.size, j, none⟩) (Nat.le_refl _) (u8 C)
      have HO3 := Lib.hid ho3
      clear hjl hgc hgf hgs ho3 hg
      unfold u8 at hcell
      go_wp2
      go_roundw
      case rel =>
        refine ⟨j, M / 256, C :: ys, by omega, by omega, rfl, by go_num, ?_, ?_, ?_, hb3⟩
        · rw [HE.out, be_low, HC.out, List.append_assoc]; rfl
        · rw [List.length_cons, HY.out]; omega
        · have h := HO3.out
          rw [show (u8s (List.replicate (j + 1) 0 ++ ys)).set j (u8 C) = u8s (List.replicate j 0 ++ C :: ys) by rw [← set_zeros]; unfold u8s; rw [List.map_set]] at h
          exact h
      case measure => simp [intOf] <;> omega
theorem ref_clamp (z z' : Int) (w : World) (hz : z' = (clamp z : Int)) :
    Calls Try.prog 43 #[.int .i64 z', .int .i64 8] w fun e w' => ∃ v', e = .returned v' ∧ OwnB w.heap.size w' v' (numB z) ∧ Below w.heap.size w w' := by
  subst hz
  have := clamp_le z
  exact refBytes_any (clamp z) 8 w (.inr rfl) (by omega)
theorem ref_len (n : Nat) (w : World) (hn : n ≤ 4096) :
    Calls Try.prog 43 #[.int .i64 n, .int .i64 4] w fun e w' => ∃ v', e = .returned v' ∧ OwnB w.heap.size w' v' (be 4 n) ∧ Below w.heap.size w w' :=
  refBytes_any n 4 w (.inl rfl) (by omega)
set_option maxRecDepth 100000 in
set_option maxHeartbeats 1000000 in
theorem refNum_any (B : Nat) (v : Value) (bs : List UInt8) (z : Int) (w : World) (hv : Bytes B w v bs) (hlen : bs.length + 8 ≤ 2 ^ 46) :
    Calls Try.prog 12 #[v, .int .i64 z] w fun e w' => ∃ v', e = .returned v' ∧ OwnB w.heap.size w' v' (bs ++ numB z) ∧ Below w.heap.size w w' := by
  replace hv := hv.tight
  have ho : OwnB w.heap.size (w.alloc (.cells #[] 5)) (.slice (some ⟨w.heap.size, 0, none⟩) 0 0) [] := Own.none _ _ _ _ _
  have hb : Below w.heap.size w (w.alloc (.cells #[] 5)) := Below.alloc (Below.refl _ _) (Nat.le_refl _) _
  have hs := Bytes.src (P := Try.prog) (hv.below hb)
  have hl0 : ([] : List UInt8).length + bs.length ≤ 2 ^ 46 := by simp; omega
  have hl1 : ([] ++ bs).length + (numB z).length ≤ 2 ^ 46 := by rw [length_numB, List.nil_append]; omega
  go_enter Try.func12, Try.ntmps12
  go_wp2_with (first
    | (at_builtin; refine ap_u8 rfl (.tmp 5) (.tmp 6) 22 rfl (.inl ⟨_, Try.underlying22⟩) rfl rfl ho hs hl0 hb.size ?_; intro v2 w2 ho2 hb2)
    | (go_at_call 43; ((refine (ref_clamp z _ _ ?hz).mono ?_); (case hz => unfold clamp; (repeat' split) <;> omega); rintro e w3 ⟨v3, rfl, ho3, hb3⟩; have ho4 := ho2.keep hb3 (Nat.le_refl _); have hs3 := Bytes.src (P := Try.prog) ho3.bytes; have hB3 := Nat.le_trans (Nat.le_trans hb.size hb2.size) hb3.size))
    | (at_builtin; refine ap_u8 rfl (.tmp 7) (.tmp 11) 22 rfl (.inl ⟨_, Try.underlying22⟩) rfl rfl ho4 hs3 hl1 hB3 ?_; intro v5 w5 ho5 hb5))
  all_goals
    go_ret
    exact ⟨_, rfl, ho5, ((hb.trans hb2).trans (hb3.mono (Nat.le_trans hb.size hb2.size))).trans hb5⟩
set_option maxRecDepth 100000 in
set_option maxHeartbeats 1000000 in
theorem refText_any (B : Nat) (v : Value) (bs : List UInt8) (Z : ByteArray) (w : World) (hv : Bytes B w v bs) (hlen : bs.length + 4100 ≤ 2 ^ 46) (hsz : Z.size ≤ 2 ^ 47) :
    Calls Try.prog 13 #[v, .string Z] w fun e w' => ∃ v', e = .returned v' ∧ OwnB w.heap.size w' v' (bs ++ textB Z.data.toList) ∧ Below w.heap.size w w' := by
  replace hv := hv.tight
  have ho : OwnB w.heap.size (w.alloc (.cells #[] 5)) (.slice (some ⟨w.heap.size, 0, none⟩) 0 0) [] := Own.none _ _ _ _ _
  have hb : Below w.heap.size w (w.alloc (.cells #[] 5)) := Below.alloc (Below.refl _ _) (Nat.le_refl _) _
  have hs := Bytes.src (P := Try.prog) (hv.below hb)
  have hl0 : ([] : List UInt8).length + bs.length ≤ 2 ^ 46 := by simp; omega
  have hl1 : ∀ n, ([] ++ bs).length + (be 4 n).length ≤ 2 ^ 46 := by intro n; rw [length_be, List.nil_append]; omega
  obtain ⟨T, hT, hTs, hTl⟩ : ∃ T : ByteArray, (if Z.size ≤ 4096 then Z else Z.extract 0 4096) = T ∧ T.size ≤ 4096 ∧ cutT Z.data.toList = T.data.toList := by
    by_cases h : Z.size ≤ 4096
    · exact ⟨Z, if_pos h, h, cut_small Z h⟩
    · refine ⟨_, if_neg h, ?_, (cut_great Z).symm⟩
      have h1 := cutT_len Z.data.toList
      rw [← cut_great, Array.length_toList] at h1
      exact h1
  have hl2 : (([] ++ bs) ++ be 4 T.size).length + T.data.toList.length ≤ 2 ^ 46 := by
    have hz : T.data.toList.length = T.size := Array.length_toList
    rw [List.length_append, length_be, hz, List.nil_append]; omega
  have HC := Lib.hid hTl
  clear hTl
  by_cases h : Z.size ≤ 4096
  · rw [if_pos h] at hT
    subst hT
    go_enter Try.func13, Try.ntmps13
    go_wp2_with (first
      | (at_builtin; refine ap_u8 rfl (.tmp 10) (.tmp 11) 22 rfl (.inl ⟨_, Try.underlying22⟩) rfl rfl ho hs hl0 hb.size ?_; intro v2 w2 ho2 hb2)
      | (go_at_call 43; ((with_reducible refine (ref_len _ _ hTs).mono ?_); rintro e w3 ⟨v3, rfl, ho3, hb3⟩; have ho4 := ho2.keep hb3 (Nat.le_refl _); have hs3 := Bytes.src (P := Try.prog) ho3.bytes; have hB3 := Nat.le_trans (Nat.le_trans hb.size hb2.size) hb3.size))
      | (at_builtin; refine ap_u8 rfl (.tmp 12) (.tmp 15) 22 rfl (.inl ⟨_, Try.underlying22⟩) rfl rfl ho4 hs3 (hl1 _) hB3 ?_; intro v5 w5 ho5 hb5; have hB5 := Nat.le_trans hB3 hb5.size)
      | (at_builtin; refine ap_u8 rfl (.tmp 16) (.tmp 17) 9 rfl (.inr Try.underlying9) rfl rfl ho5 (src_str _ _) hl2 hB5 ?_; intro v6 w6 ho6 hb6))
    go_ret
    refine ⟨_, rfl, ?_, (((hb.trans hb2).trans (hb3.mono (Nat.le_trans hb.size hb2.size))).trans hb5).trans hb6⟩
    rw [textB, HC.out, Array.length_toList, ← List.append_assoc]; exact ho6
  · rw [if_neg h] at hT
    go_enter Try.func13, Try.ntmps13
    go_wp2_with (first
      | (at_builtin; refine ap_u8 rfl (.tmp 10) (.tmp 11) 22 rfl (.inl ⟨_, Try.underlying22⟩) rfl rfl ho hs hl0 hb.size ?_; intro v2 w2 ho2 hb2)
      | (go_at_call 43; ((with_reducible refine (ref_len _ _ hTs).mono ?_); rintro e w3 ⟨v3, rfl, ho3, hb3⟩; have ho4 := ho2.keep hb3 (Nat.le_refl _); have hs3 := Bytes.src (P := Try.prog) ho3.bytes; have hB3 := Nat.le_trans (Nat.le_trans hb.size hb2.size) hb3.size))
      | (at_builtin; refine ap_u8 rfl (.tmp 12) (.tmp 15) 22 rfl (.inl ⟨_, Try.underlying22⟩) rfl rfl ho4 hs3 (hl1 _) hB3 ?_; intro v5 w5 ho5 hb5; have hB5 := Nat.le_trans hB3 hb5.size)
      | (at_builtin; refine ap_u8 rfl (.tmp 16) (.tmp 17) 9 rfl (.inr Try.underlying9) rfl rfl ho5 (src_str _ _) hl2 hB5 ?_; intro v6 w6 ho6 hb6))
    go_ret
    refine ⟨_, rfl, ?_, (((hb.trans hb2).trans (hb3.mono (Nat.le_trans hb.size hb2.size))).trans hb5).trans hb6⟩
    rw [textB, HC.out, Array.length_toList, ← List.append_assoc]; exact ho6
set_option maxRecDepth 100000 in
set_option maxHeartbeats 1000000 in
theorem same_any (A B : Nat) (u v : Value) (xs bs : List UInt8) (w : World) (hu : Bytes A w u xs) (hv : Bytes B w v bs) :
    Calls Try.prog 14 #[u, v] w fun e w' => e = .returned (.bool (decide (xs = bs))) ∧ w = w' := by
  have k1 := run_bytes_string (P := Try.prog) Try.underlying22 Try.underlying5 Try.underlying9 hu
  have k2 := run_bytes_string (P := Try.prog) Try.underlying22 Try.underlying5 Try.underlying9 hv
  go_enter Try.func14, Try.ntmps14
  go_wp2
  go_ret
  refine ⟨ret_bool ?_, rfl⟩
  rw [Bool.eq_iff_iff, decide_eq_true_eq]
  simp [strB]
end Go.Proofs.Ytccjjlefpdlegaa
