/- Layer 2 (sum): each law's own function returns true. -/
import Derived.Test.YtccjjlefpdlegaaDoorSum
import Derived.Test.YtccjjlefpdlegaaDoorOwn
import Derived.Deep.QuietTactic
import Derived.BigQuiet
namespace Go.Proofs.YtccjjlefpdlegaaDoor
open Go.RowKit SumP
theorem toI_of (z : Int) (h0 : 0 ≤ z) (h1 : z < 4294967296) : ∃ x : BitVec 32, toI x = z :=
  ⟨BitVec.ofInt 32 z, by unfold toI; rw [BitVec.toNat_ofInt]; omega⟩
set_option maxRecDepth 100000 in
set_option maxHeartbeats 1000000 in
theorem SumSums_walk (v : Value) (bs : List UInt8) (z : Int) (W : World) (ht : TabAt W) (hB : 0 < W.heap.size) (hr : Bytes W.heap.size W v bs) (h0 : 0 ≤ z) (h1 : z < 4294967296) :
    Calls Tryd.prog 3 #[v, .int .u32 z] W fun e w' => e = .returned (.bool true) ∧ Below W.heap.size W w' := by
  obtain ⟨x, rfl⟩ := toI_of z h0 h1
  clear h0 h1
  have hr' := hr
  obtain ⟨_, a, cap, rfl, hnc, hcap, _⟩ := hr'
  unfold maxLen at hcap
  by_cases hlen : (bs.length : Int) ≤ 5000
  · go_enter Tryd.func3, Tryd.ntmps3
    go_wp2_with (go_at_call 7; ((with_reducible refine (alive_any _ ht hB).mono ?_); rintro e w1 ⟨rfl, hb⟩))
    have ht1 := ht.below hb hB
    have hr1 := hr.below hb
    go_wp2_with (first
      | (go_at_call 8; ((with_reducible refine (sum_any _ _ _ _ ht1 hr1).mono ?_); rintro e w' ⟨rfl, rfl⟩))
      | (go_at_call 9; ((with_reducible refine (refSum_any _ _ _ _ hr1).mono ?_); rintro e w' ⟨rfl, rfl⟩))
      | (go_at_call 10; ((with_reducible refine (more_any _ _ _ _ _ ht1 hr1).mono ?_); rintro e w' ⟨rfl, rfl⟩))
      | (go_at_call 11; ((with_reducible refine (refMore_any _ _ _ _ _ hr1).mono ?_); rintro e w' ⟨rfl, rfl⟩)))
    go_ret
    exact ⟨rfl, hb⟩
  · go_enter Tryd.func3, Tryd.ntmps3
    go_wp2_with (go_at_call 7; ((with_reducible refine (alive_any _ ht hB).mono ?_); rintro e w1 ⟨rfl, hb⟩))
    go_ret
    exact ⟨rfl, hb⟩
theorem info_u8 : (Tryd.prog.info? 5).map (fun i => (i.zero, i.size, i.bytes)) = some (some (.int .u8 0), 1, 1) := by kernel_rfl
theorem flat_succ {α : Type} (ls : List (List α)) (k : Nat) (h : k < ls.length) : (ls.take (k + 1)).flatten = (ls.take k).flatten ++ ls[k] := by
  rw [List.take_succ_eq_append_getElem h, List.flatten_append, List.flatten_cons, List.flatten_nil, List.append_nil]
theorem u8s_append (a b : List UInt8) : u8s (a ++ b) = u8s a ++ u8s b := List.map_append
set_option maxRecDepth 100000 in
set_option maxHeartbeats 1000000 in
theorem SumPieces_walk (v : Value) (ls : List (List UInt8)) (W : World) (ht : TabAt W) (hB : 0 < W.heap.size) (hr : Pieces W.heap.size W v ls) (hls : ∀ l ∈ ls, l.length ≤ reachBytes) :
    Calls Tryd.prog 4 #[v] W fun e w' => e = .returned (.bool true) ∧ Below W.heap.size W w' := by
  have hP := Lib.hid hr
  obtain ⟨vs, ⟨hlen, a, cap, rfl, hnc, hcap, hcells⟩, hps⟩ := hr
  unfold maxLen at hcap
  obtain ⟨i0, hi, hz0, hz1, hz2⟩ := info_parts info_u8
  go_enter Tryd.func4, Tryd.ntmps4
  go_wp2_with (go_at_call 7; ((with_reducible refine (alive_any _ ht hB).mono ?_); rintro e w1 ⟨rfl, hb⟩))
  go_loopw [3, 4, 5] (fun al s i wr => ∃ k : Nat, k ≤ ls.length ∧ i = .int .i64 k ∧ s = .int .u32 (toI (more 0#32 (ls.take k).flatten)) ∧ (ls.take k).flatten.length ≤ 5000 ∧
      Own W.heap.size wr 5 al 1 (ls.take k).flatten.length (u8s (ls.take k).flatten) ∧ Below W.heap.size W wr) (fun _ _ i _ => ls.length - (intOf i).toNat)
  case atStart => exact ⟨0, Nat.zero_le _, rfl, by rw [List.take_zero, List.flatten_nil, more_nil, toI_0], Nat.zero_le _, Own.none _ _ _ _ _, hb⟩
  case round =>
    obtain ⟨k, hk, rfl, rfl, h5, hown, hbl⟩ := hrel
    clear hb
    obtain ⟨S, hS⟩ : ∃ S, S = more 0#32 (ls.take k).flatten := ⟨_, rfl⟩
    rw [← hS]
    obtain ⟨F, hF⟩ : ∃ F, F = (ls.take k).flatten := ⟨_, rfl⟩
    rw [← hF] at hown h5 hS
    have hSe := Lib.hid hS
    have hFe := Lib.hid hF
    clear hS hF
    have ho := Lib.hid hown
    obtain ⟨_, a1, cap1, rfl, _, hcap1, _⟩ := hown
    unfold maxLen at hcap1
    by_cases hlt : k < ls.length
    · obtain ⟨b, off, rfl, hBb, hc⟩ := hcells (by omega)
      obtain ⟨u, hu, hbu⟩ := hps k hlt
      have hcell := (hbl.cell (p := ⟨b, off + k, none⟩) hBb).trans (hc k _ hu)
      have hbu1 := hbu.below hbl
      clear hcells hps hc hbu hu
      have hGl := hls ls[k] (List.getElem_mem hlt)
      obtain ⟨G, hG⟩ : ∃ G, G = ls[k] := ⟨_, rfl⟩
      rw [← hG] at hbu1 hGl
      have hG2 : G.length ≤ 2 ^ 47 := by unfold reachBytes at hGl; omega
      clear hGl
      have hFG := flat_succ ls k hlt
      rw [← hFe.out, ← hG] at hFG
      have hFG1 := Lib.hid hFG
      clear hFG hG
      have hbu2 := Lib.hid hbu1
      obtain ⟨_, a2, cap2, rfl, _, hcap2, _⟩ := hbu1
      unfold maxLen at hcap2
      by_cases hle : F.length + G.length ≤ 5000
      · have c1 : F.length + G.length ≤ maxLen := by unfold maxLen; omega
        have c2 : (F.length + G.length) * 1 ≤ 140737488355328 := by omega
        have C1 := Lib.hid c1
        have C2 := Lib.hid c2
        clear c1 c2
        go_wp2_with (first
          | (at_builtin; refine wp_append rfl (.tmp 23) (.tmp 27) 22 22 5 rfl i0 (.int .u8 0) 1 1 Tryd.underlying22 (.inl ⟨_, Tryd.underlying22⟩) hi hz0 hz1 hz2 rfl rfl rfl ho.out hbu2.out.src (oneCell_u8s _) C1.out C2.out hbl.size ?_; intro v2 w2 hown2 hb2; have hcell2 := (hb2.cell (p := ⟨b, off + k, none⟩) hBb).trans hcell; have ht2 := ht.below (hbl.trans hb2) hB; have hbu3 := hbu2.out.below hb2)
          | (go_at_call 10; ((with_reducible refine (more_any _ _ _ _ _ ht2 hbu3).mono ?_); rintro e w' ⟨rfl, rfl⟩)))
        all_goals
          go_roundw
          case rel => exact ⟨k + 1, by omega, by go_num, by simp only [hFG1.out, ← more_append, ← hFe.out, ← hSe.out], by rw [hFG1.out, List.length_append]; omega, by rw [hFG1.out, List.length_append, u8s_append]; exact hown2, hbl.trans hb2⟩
          case measure => simp [intOf]; omega
      · go_wp2
        go_ret
        exact ⟨rfl, hbl⟩
    · have hke : k = ls.length := by omega
      subst hke
      have hF := hFe.out
      rw [List.take_length] at hF
      have ht2 := ht.below hbl hB
      have hr2 := hP.out.below hbl
      have hSF : toI (more 0#32 ls.flatten) = toI S := by rw [hSe.out, hF]
      have hby : Bytes wr.heap.size wr (Value.slice a1 F.length cap1) F := ho.out.row
      have hsm : toI (sum F) = toI S := by rw [hSe.out]; rfl
      clear hF
      go_wp2_with (first
        | (go_at_call 12; ((with_reducible refine (join_any _ _ _ _ ht2 hr2).mono ?_); rintro e w' ⟨rfl, rfl⟩))
        | (go_at_call 9; ((with_reducible refine (refSum_any _ _ _ _ hby).mono ?_); rintro e w' ⟨rfl, rfl⟩)))
      go_ret
      exact ⟨rfl, hbl⟩
theorem sum_quiet (v : Value) (bs : List UInt8) (w : World) (B n : Nat) (ht : TabAt w) (hr : Bytes B w v bs) :
    Calls Tryd.prog 8 #[v] (w.drewN n) fun e w'' => e = .returned (.int .u32 (toI (sum bs))) ∧ ∃ m, w'' = w.drewN m :=
  (sum_any v bs (w.drewN n) B ht hr).mono fun _ _ ⟨he, hm⟩ => ⟨he, n, hm.symm⟩
theorem set_split (bs : List UInt8) (k : Nat) (y : UInt8) (h : k < bs.length) : bs.set k y = bs.take k ++ y :: bs.drop (k + 1) := by
  rw [List.set_eq_take_append_cons_drop, if_pos h]
theorem get_split (bs : List UInt8) (k : Nat) (h : k < bs.length) : bs = bs.take k ++ bs[k] :: bs.drop (k + 1) := by
  simp
theorem sum_set (bs : List UInt8) (k : Nat) (y : UInt8) (h : k < bs.length) : sum bs = sum (bs.set k y) ↔ bs[k] = y := by
  rw [set_split bs k y h]
  conv => lhs; lhs; rw [get_split bs k h]
  exact sum_other _ _ _ _
theorem u8s_set (bs : List UInt8) (k : Nat) (y : UInt8) : (u8s bs).set k (u8 y) = u8s (bs.set k y) := by
  unfold u8s; rw [List.map_set]
set_option maxRecDepth 100000 in
set_option maxHeartbeats 1000000 in
theorem SumOther_walk (v : Value) (bs : List UInt8) (z : Int) (y : UInt8) (W : World) (ht : TabAt W) (hB : 0 < W.heap.size) (hr : Bytes W.heap.size W v bs) (h0 : 0 ≤ z) (h1 : z < 65536) :
    Calls Tryd.prog 5 #[v, .int .u16 z, .int .u8 (y.toNat : Int)] W fun e w' => e = .returned (.bool true) ∧ Below W.heap.size W w' := by
  have hR := Lib.hid hr
  obtain ⟨_, a, cap, rfl, hnc, hcap, hcells⟩ := hr
  unfold maxLen at hcap
  obtain ⟨i0, hi, hz0, hz1, hz2⟩ := info_parts info_u8
  by_cases hlen : 0 < bs.length ∧ bs.length ≤ 5000
  · obtain ⟨hl0, hl1⟩ := hlen
    have c1 : 0 + bs.length ≤ maxLen := by unfold maxLen; omega
    have c2 : (0 + bs.length) * 1 ≤ 140737488355328 := by omega
    have C1 := Lib.hid c1
    have C2 := Lib.hid c2
    clear c1 c2
    have t0 : ((bs.length : Int) == 0) = false := by rw [beq_eq_false_iff_ne]; omega
    have t1 : decide (5000 < (bs.length : Int)) = false := by simp; omega
    obtain ⟨m, hm⟩ : ∃ m : Nat, z % (bs.length : Int) = m := ⟨(z % (bs.length : Int)).toNat, by
      have := Int.emod_nonneg z (show (bs.length : Int) ≠ 0 by omega); omega⟩
    have hml : m < bs.length := by have := Int.emod_lt_of_pos z (show (0 : Int) < bs.length by omega); omega
    go_enter Tryd.func5, Tryd.ntmps5
    go_wp2_with (first
      | (go_at_call 7; ((with_reducible refine (alive_any _ ht hB).mono ?_); rintro e w1 ⟨rfl, hb⟩; have ho := Own.none W.heap.size (w1.alloc (.cells #[] 5)) 5 (some ⟨w1.heap.size, 0, none⟩) 1; have hb1 := hb.alloc hb.size (.cells #[] 5); have hr1 := hR.out.below hb1))
      | (at_builtin; refine wp_append rfl (.tmp 19) (.tmp 20) 22 22 5 rfl i0 (.int .u8 0) 1 1 Tryd.underlying22 (.inl ⟨_, Tryd.underlying22⟩) hi hz0 hz1 hz2 rfl rfl rfl ho hr1.src (oneCell_u8s _) C1.out C2.out hb1.size ?_; intro v2 w2 hown2 hb2; rw [Nat.zero_add, List.nil_append] at hown2; have hown3 := hown2; obtain ⟨_, a2, cap2, rfl, hnc2, hcap2, _⟩ := hown3; unfold maxLen at hcap2; obtain ⟨g, rfl, hBg, hgl, hgc, hgf, hgs⟩ := hown2.form hl0; have hcm := hgc m _ (u8s_at hml); have hfm := hgf m))
    have hown3 := hgs m (u8 y) (by omega)
    rw [u8s_set] at hown3
    have hl3 : (bs.set m y).length = bs.length := by simp
    have hbl : Below W.heap.size W (w2.setCell ⟨g, m, none⟩ (.int .u8 (y.toNat : Int))) := (hb1.trans hb2).setCell hBg _
    have hr3 := hR.out.below hbl
    have ht3 := ht.below hbl hB
    have hc3 : Bytes (w2.setCell ⟨g, m, none⟩ (.int .u8 (y.toNat : Int))).heap.size (w2.setCell ⟨g, m, none⟩ (.int .u8 (y.toNat : Int))) (.slice (some ⟨g, 0, none⟩) bs.length cap2) (bs.set m y) := by
      have := hown3.row
      unfold Bytes
      rw [hl3]
      exact this
    obtain ⟨b, off, rfl, hBb, hc⟩ := hcells (by omega)
    have hcell := (hbl.cell (p := ⟨b, off + m, none⟩) hBb).trans (hc m _ (u8s_at hml))
    have hs := Lib.hid (sum_set bs m y hml)
    obtain ⟨S1, hS1⟩ : ∃ x, x = toI (sum bs) := ⟨_, rfl⟩
    obtain ⟨S2, hS2⟩ : ∃ x, x = toI (sum (bs.set m y)) := ⟨_, rfl⟩
    have q1 := fun n => sum_quiet _ _ _ _ n ht3 hr3
    have q2 := fun n => sum_quiet _ _ _ _ n ht3 hc3
    rw [← hS1] at q1
    rw [← hS2] at q2
    have HS1 := Lib.hid hS1
    have HS2 := Lib.hid hS2
    clear hS1 hS2 hc hcells hown3 hgs hgc
    go_quiet ((go_at_call 8; first | exact q1 _ | exact q2 _))
    go_wp2
    go_ret
    refine ⟨ret_bool ?_, below_draws hbl _⟩
    rw [HS1.out, HS2.out]
    by_cases he : bs[m] = y
    · rw [hs.out.2 he, he]; simp
    · have h1 : (toI (sum bs) == toI (sum (bs.set m y))) = false := by
        rw [beq_eq_false_iff_ne]; intro h; exact he (hs.out.1 (toI_inj h))
      have h2 : ((bs[m].toNat : Int) == (y.toNat : Int)) = false := by
        rw [beq_eq_false_iff_ne]; intro h; exact he (UInt8.toNat_inj.1 (by omega))
      rw [h1, h2]; rfl
  · by_cases h0 : bs.length = 0
    · have t0 : ((bs.length : Int) == 0) = true := by rw [beq_iff_eq]; omega
      go_enter Tryd.func5, Tryd.ntmps5
      go_wp2_with (go_at_call 7; ((with_reducible refine (alive_any _ ht hB).mono ?_); rintro e w1 ⟨rfl, hb⟩))
      go_ret
      exact ⟨rfl, hb⟩
    · have t0 : ((bs.length : Int) == 0) = false := by rw [beq_eq_false_iff_ne]; omega
      have t1 : decide (5000 < (bs.length : Int)) = true := by simp; omega
      go_enter Tryd.func5, Tryd.ntmps5
      go_wp2_with (go_at_call 7; ((with_reducible refine (alive_any _ ht hB).mono ?_); rintro e w1 ⟨rfl, hb⟩))
      go_ret
      exact ⟨rfl, hb⟩
theorem swap_split (bs : List UInt8) (k : Nat) (h : k + 1 < bs.length) : bs = bs.take k ++ bs[k] :: bs[k + 1] :: bs.drop (k + 2) := by
  simp
theorem swap_set (bs : List UInt8) (k : Nat) (x y : UInt8) (h : k + 1 < bs.length) : (bs.set k x).set (k + 1) y = bs.take k ++ x :: y :: bs.drop (k + 2) := by
  apply List.ext_getElem?
  intro i
  have hl : (bs.take k).length = k := by simp; omega
  rw [List.getElem?_set, List.getElem?_set]
  by_cases h1 : i < k
  · rw [List.getElem?_append_left (by omega), if_neg (by omega), if_neg (by omega), List.getElem?_take, if_pos h1]
  · rw [List.getElem?_append_right (by omega), hl]
    by_cases h2 : i = k
    · subst h2
      rw [if_neg (by omega), if_pos rfl, if_pos (by omega), Nat.sub_self]; rfl
    · by_cases h3 : i = k + 1
      · subst h3
        rw [if_pos rfl, if_pos (by rw [List.length_set]; omega), show k + 1 - k = 1 by omega]; rfl
      · rw [if_neg (by omega), if_neg (by omega)]
        obtain ⟨j, rfl⟩ : ∃ j, i = k + 2 + j := ⟨i - (k + 2), by omega⟩
        rw [show k + 2 + j - k = j + 1 + 1 by omega, List.getElem?_cons_succ, List.getElem?_cons_succ, List.getElem?_drop]
theorem sum_swapped (bs : List UInt8) (k : Nat) (h : k + 1 < bs.length) : sum bs = sum ((bs.set k bs[k + 1]).set (k + 1) bs[k]) ↔ bs[k] = bs[k + 1] := by
  rw [swap_set bs k _ _ h]
  conv => lhs; lhs; rw [swap_split bs k h]
  exact sum_swap _ _ _ _
set_option maxRecDepth 100000 in
set_option maxHeartbeats 1000000 in
theorem SumSwap_walk (v : Value) (bs : List UInt8) (z : Int) (W : World) (ht : TabAt W) (hB : 0 < W.heap.size) (hr : Bytes W.heap.size W v bs) (h0 : 0 ≤ z) (h1 : z < 65536) :
    Calls Tryd.prog 6 #[v, .int .u16 z] W fun e w' => e = .returned (.bool true) ∧ Below W.heap.size W w' := by
  have hR := Lib.hid hr
  obtain ⟨_, a, cap, rfl, hnc, hcap, hcells⟩ := hr
  unfold maxLen at hcap
  obtain ⟨i0, hi, hz0, hz1, hz2⟩ := info_parts info_u8
  by_cases hlen : 2 ≤ bs.length ∧ bs.length ≤ 5000
  · obtain ⟨hl0, hl1⟩ := hlen
    have c1 : 0 + bs.length ≤ maxLen := by unfold maxLen; omega
    have c2 : (0 + bs.length) * 1 ≤ 140737488355328 := by omega
    have C1 := Lib.hid c1
    have C2 := Lib.hid c2
    clear c1 c2
    have t0 : decide ((bs.length : Int) < 2) = false := by simp; omega
    have t1 : decide (5000 < (bs.length : Int)) = false := by simp; omega
    obtain ⟨m, hm⟩ : ∃ m : Nat, z % ((bs.length : Int) - 1) = m := ⟨(z % ((bs.length : Int) - 1)).toNat, by
      have := Int.emod_nonneg z (show ((bs.length : Int) - 1) ≠ 0 by omega); omega⟩
    have hml : m + 1 < bs.length := by have := Int.emod_lt_of_pos z (show (0 : Int) < (bs.length : Int) - 1 by omega); omega
    go_enter Tryd.func6, Tryd.ntmps6
    go_wp2_with (first
      | (go_at_call 7; ((with_reducible refine (alive_any _ ht hB).mono ?_); rintro e w1 ⟨rfl, hb⟩; have ho := Own.none W.heap.size (w1.alloc (.cells #[] 5)) 5 (some ⟨w1.heap.size, 0, none⟩) 1; have hb1 := hb.alloc hb.size (.cells #[] 5); have hr1 := hR.out.below hb1))
      | (at_builtin; refine wp_append rfl (.tmp 23) (.tmp 24) 22 22 5 rfl i0 (.int .u8 0) 1 1 Tryd.underlying22 (.inl ⟨_, Tryd.underlying22⟩) hi hz0 hz1 hz2 rfl rfl rfl ho hr1.src (oneCell_u8s _) C1.out C2.out hb1.size ?_; intro v2 w2 hown2 hb2; rw [Nat.zero_add, List.nil_append] at hown2; have hown3 := hown2; obtain ⟨_, a2, cap2, rfl, hnc2, hcap2, _⟩ := hown3; unfold maxLen at hcap2; obtain ⟨g, rfl, hBg, hgl, hgc, hgf, hgs⟩ := hown2.form (by omega); have hcm := hgc m _ (u8s_at (show m < bs.length by omega)); have hcm1 := hgc (m + 1) _ (u8s_at hml); have hfm := hgf m; have hfm1 := hgf (m + 1)))
    obtain ⟨b, off, rfl, hBb, hc⟩ := hcells (by omega)
    have hbl2 := hb1.trans hb2
    have hcell := (hbl2.cell (p := ⟨b, off + m, none⟩) hBb).trans (hc m _ (u8s_at (by omega)))
    have hcell1 := (hbl2.cell (p := ⟨b, off + (m + 1), none⟩) hBb).trans (hc (m + 1) _ (u8s_at hml))
    have hne : b ≠ g := by omega
    clear hcells
    have HC := Lib.hid hc
    clear hc
    go_region
    have hc := HC.out
    go_wp2_with fail
    obtain ⟨W3, hW3⟩ : ∃ W3, W3 = ((w2.setCell ⟨g, m, none⟩ (.int .u8 (bs[m + 1].toNat : Int))).setCell ⟨g, m + 1, none⟩ (.int .u8 (bs[m].toNat : Int))).drew := ⟨_, rfl⟩
    rw [← hW3]
    have hbl : Below W.heap.size W W3 := by
      rw [hW3]; exact ((hbl2.setCell (p := ⟨g, m, none⟩) hBg _).setCell (p := ⟨g, m + 1, none⟩) hBg _).drew
    have hr3 := hR.out.below hbl
    have ht3 := ht.below hbl hB
    have hl3 : ((bs.set m bs[m + 1]).set (m + 1) bs[m]).length = bs.length := by simp
    have hown3 := hgs m (u8 bs[m + 1]) (by omega)
    rw [u8s_set] at hown3
    obtain ⟨g', hg', _, _, _, _, hgs'⟩ := hown3.form (by omega)
    obtain rfl : g = g' := by injection hg' with h; injection h
    have hown4 := hgs' (m + 1) (u8 bs[m]) (by omega)
    rw [u8s_set] at hown4
    have hc3 : Bytes W3.heap.size W3 (.slice (some ⟨g, 0, none⟩) bs.length cap2) ((bs.set m bs[m + 1]).set (m + 1) bs[m]) := by
      have := hown4.row
      unfold Bytes
      rw [hl3, hW3]
      exact this
    have hcell := (hbl.cell (p := ⟨b, off + m, none⟩) hBb).trans (hc m _ (u8s_at (by omega)))
    have hcell1 := (hbl.cell (p := ⟨b, off + (m + 1), none⟩) hBb).trans (hc (m + 1) _ (u8s_at hml))
    have hs := Lib.hid (sum_swapped bs m hml)
    obtain ⟨S1, hS1⟩ : ∃ x, x = toI (sum bs) := ⟨_, rfl⟩
    obtain ⟨S2, hS2⟩ : ∃ x, x = toI (sum ((bs.set m bs[m + 1]).set (m + 1) bs[m])) := ⟨_, rfl⟩
    have q1 := fun n => sum_quiet _ _ _ _ n ht3 hr3
    have q2 := fun n => sum_quiet _ _ _ _ n ht3 hc3
    rw [← hS1] at q1
    rw [← hS2] at q2
    have HS1 := Lib.hid hS1
    have HS2 := Lib.hid hS2
    clear hS1 hS2 hc hown3 hown4 hgs hgs' hgc hg' hW3
    go_quiet ((go_at_call 8; first | exact q1 _ | exact q2 _))
    go_wp2
    go_ret
    refine ⟨ret_bool ?_, below_draws hbl _⟩
    rw [HS1.out, HS2.out]
    by_cases he : bs[m] = bs[m + 1]
    · rw [hs.out.2 he, he]; simp
    · have h1 : (toI (sum bs) == toI (sum ((bs.set m bs[m + 1]).set (m + 1) bs[m]))) = false := by
        rw [beq_eq_false_iff_ne]; intro h; exact he (hs.out.1 (toI_inj h))
      have h2 : ((bs[m].toNat : Int) == (bs[m + 1].toNat : Int)) = false := by
        rw [beq_eq_false_iff_ne]; intro h; exact he (UInt8.toNat_inj.1 (by omega))
      rw [h1, h2]; rfl
  · by_cases h0 : bs.length < 2
    · have t0 : decide ((bs.length : Int) < 2) = true := by simp; omega
      go_enter Tryd.func6, Tryd.ntmps6
      go_wp2_with (go_at_call 7; ((with_reducible refine (alive_any _ ht hB).mono ?_); rintro e w1 ⟨rfl, hb⟩))
      go_ret
      exact ⟨rfl, hb⟩
    · have t0 : decide ((bs.length : Int) < 2) = false := by simp; omega
      have t1 : decide (5000 < (bs.length : Int)) = true := by simp; omega
      go_enter Tryd.func6, Tryd.ntmps6
      go_wp2_with (go_at_call 7; ((with_reducible refine (alive_any _ ht hB).mono ?_); rintro e w1 ⟨rfl, hb⟩))
      go_ret
      exact ⟨rfl, hb⟩
end Go.Proofs.YtccjjlefpdlegaaDoor
