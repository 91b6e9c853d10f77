/- Layer 6 (kv): Commit (the code's). -/
import Derived.Test.YtaijompnohkmaaaGreatDoorMR
set_option linter.unusedSimpArgs false
set_option linter.unusedVariables false
namespace Go.Proofs.YtaijompnohkmaaaGreatDoor
open Go.RowKit KvP PackP WalP
theorem fourB (w : World) (o0 o1 o2 o3 : Obj) : ∃ w4, w4 = (((w.alloc o0).alloc o1).alloc o2).alloc o3 ∧ Below w.heap.size w w4 ∧ w4.heap.size = w.heap.size + 4 ∧ w4.heap[w.heap.size]? = some o0 ∧ w4.heap[w.heap.size + 1]? = some o1 ∧ w4.heap[w.heap.size + 1 + 1]? = some o2 ∧ w4.heap[w.heap.size + 1 + 1 + 1]? = some o3 := by
  refine ⟨_, rfl, Below.alloc (Below.alloc (Below.alloc (Below.alloc (Below.refl _ _) (Nat.le_refl _) _) (by simp) _) (by simp; omega) _) (by simp; omega) _, by simp, ?_, ?_, ?_, ?_⟩
  all_goals
    simp only [alloc_heap, alloc_size]
    repeat (first | rw [if_pos trivial] | rw [if_neg (by omega)])
theorem len_snapF : ∀ (l : List PairP) (c : List ChangeP), (snapF l c).length ≤ l.length + 1
  | [], c => Nat.le_refl _
  | p :: l, c => by
    rw [snapF]
    split
    · have := len_snapF l [chg p]
      simp only [List.length_cons]
      omega
    · have := len_snapF l (c ++ [chg p])
      simp only [List.length_cons]
      omega
theorem snapP_small {l : List PairP} (h : pairsB l = true) : (∀ b ∈ snapP l, b.length ≤ 2 ^ 20) ∧ (snapP l).length ≤ 2 ^ 20 := by
  obtain ⟨h1, h2, h3⟩ := pairsB_parts h
  refine ⟨fun b hb => ?_, ?_⟩
  · obtain ⟨c, hc, rfl⟩ := List.mem_map.1 hb
    have := (snap_ok h2 c hc).2.1
    omega
  · unfold snapP
    rw [List.length_map]
    have := len_snapF l []
    omega
/-- A store, in a variable. -/
def SAt (w : World) (S : Nat) (s : StoreP) (pv : Value) : Prop := w.heap[S]? = some (.cells #[.int .i64 s.log.half, .int .i64 s.log.gen, .int .i64 s.log.used, .int .i64 s.log.count, pv] 44 (0, 0))
/-- All blocks below a bound but two are as they were. -/
def KeptLow (B C E : Nat) (w w' : World) : Prop := ∀ k, k < B → k ≠ C → k ≠ E → w'.heap[k]? = w.heap[k]?
theorem PairsV.keptBut {B C E : Nat} {w w' : World} {v : Value} {l : List PairP} (h : PairsV B w v l) (hk : KeptBut C E w w') (h1 : B ≤ C) (h2 : B ≤ E) : PairsV w'.heap.size w' v l := by
  refine Row.tight (B := B) ?_ (by decide)
  obtain ⟨g1, a, cap, rfl, g2, g3, g4⟩ := h
  refine ⟨g1, a, cap, rfl, g2, g3, fun hn => ?_⟩
  obtain ⟨b, off, rfl, g5, g6⟩ := g4 hn
  exact ⟨b, off, rfl, g5, fun k u hu => by rw [World.cell?_of_block (hk b (by omega) (by omega))]; exact g6 k u hu⟩
theorem Own.keptLow {B C E : Nat} {w w' : World} {e tC tE : TypeId} {v : Value} {sz n : Nat} {cs : List Value} {cC cE : Array Value} {fC fE : Nat × Nat} (h : Own B w e v sz n cs) (hk : KeptLow w.heap.size C E w w') (hC : w.heap[C]? = some (.cells cC tC fC)) (hC2 : tC ≠ e)
    (hE : w.heap[E]? = some (.cells cE tE fE)) (hE2 : tE ≠ e) : Own B w' e v sz n cs := by
  obtain ⟨h1, a, cap, rfl, h2, h3, h4⟩ := h
  refine ⟨h1, a, cap, rfl, h2, h3, ?_⟩
  rcases h4 with h4 | ⟨g, cur, rfl, hg, hh, hs, ht⟩
  · exact .inl h4
  · refine .inr ⟨g, cur, rfl, hg, (hk g (block_lt hh) (fun e' => ?_) (fun e' => ?_)).trans hh, hs, ht⟩
    · subst e'
      rw [hh] at hC
      cases hC
      exact hC2 rfl
    · subst e'
      rw [hh] at hE
      cases hE
      exact hE2 rfl
theorem PairsV.of_n {B : Nat} {w : World} {a : Option Addr} {n c : Nat} {l : List PairP} (hn : n = l.length) (h : Row B w (.slice a n c) 2 l.length (l.map pairCells).flatten) : PairsV B w (.slice a n c) l := h
/-- Behind the appending, and the compaction that may follow. -/
def CommitMid (w : World) (y : DiskP × LogP × Int) (N L : Nat) (wp wx : World) (s10 : Value) : Prop :=
  s10 = .int .i64 y.2.2 ∧ DAt wx N y.1 ∧ LAt wx L y.2.1 ∧ KeptLow wp.heap.size N L wp wx ∧ Below w.heap.size w wx ∧ wp.heap.size ≤ wx.heap.size
set_option maxRecDepth 100000 in
set_option maxHeartbeats 16000000 in
theorem kcommit_any {B B' B2 : Nat} (v sv cv : Value) (d : DiskP) (s : StoreP) (c : List ChangeP) (w : World) (hd : DiskV B w v d) (hs : StoreV B' w sv s) (hc : ChangesV B2 w cv c) (hl0 : -9223372036854775808 ≤ s.log.half ∧ s.log.half ≤ 9223372036854775807) (ht : TabAt w) (hT : 1 < w.heap.size) :
    Calls Tryz.prog 24 #[v, sv, cv] w (KE w (commitK d s c)) := by
  have hd := hd.tight
  have hc := hc.tight
  obtain ⟨pv, rfl, hp⟩ := hs
  have hp := hp.tight
  obtain ⟨p1, q1, p2, q2, rfl, _, _⟩ := hd.parts
  obtain ⟨pa, pc, rfl, hpc⟩ := pairs_len hp
  obtain ⟨_, ca, cc, rfl, hcc, hcm, _⟩ := id hc
  obtain ⟨n, hn⟩ : ∃ n, n = s.pairs.length := ⟨_, rfl⟩
  rw [← hn] at hp hpc ⊢
  obtain ⟨nc, hnc⟩ : ∃ n, n = c.length := ⟨_, rfl⟩
  rw [← hnc] at hc hcc ⊢
  unfold storeV
  obtain ⟨w1, hw1, hb1, hs1, R0, R1, R2, R3⟩ := fourB w (.cells #[.slice p1 d.secs.length q1, .slice p2 d.loose.length q2, .int .i64 d.fuse, .bool d.down] 38) (.cells #[.int .i64 s.log.half, .int .i64 s.log.gen, .int .i64 s.log.used, .int .i64 s.log.count, .slice pa n pc] 44) (.cells #[.slice none 0 0, .slice none 0 0, .int .i64 0, .bool false] 38) (.cells #[.int .i64 0, .int .i64 0, .int .i64 0, .int .i64 0, .slice none 0 0] 44)
  obtain ⟨K0, hK0⟩ : ∃ x, x = commitK d s c := ⟨_, rfl⟩
  rw [← hK0]
  have hD1 : DAt w1 w.heap.size d := ⟨p1, q1, p2, q2, R0, (hd.below hb1).tight⟩
  have hT1 : 1 < w1.heap.size := Nat.lt_of_lt_of_le hT hb1.size
  have HT := Lib.hid (ht.below hb1 hT)
  have HK0 := Lib.hid hK0
  have HW1 := Lib.hid hw1
  have HS1 := Lib.hid hs1
  have HD := Lib.hid hD1
  have HSB := Lib.hid R1
  have HRC := Lib.hid R2
  have HRS := Lib.hid R3
  have HPV := Lib.hid hp
  have HCV := Lib.hid hc
  have HB1 := Lib.hid hb1
  have HN := Lib.hid hn
  have HNC := Lib.hid hnc
  have kc := changed_any _ c w1 (hc.below hb1)
  obtain ⟨cb, hcb⟩ : ∃ x, x = changesB c := ⟨_, rfl⟩
  rw [← hcb] at kc
  have HCB := Lib.hid hcb
  clear hw1 hs1 hK0 hcb R0 R1 R2 R3 hp hc hd hD1 hb1 ht hn hnc
  go_enter Tryz.func24, Tryz.ntmps24
  go_upto_region 1 with (fail)
  rw [← HW1.out]
  go_wp2_with fail
  refine kc.mono ?_
  rintro e w2 ⟨rfl, hb2⟩
  clear kc
  have HB2 := Lib.hid hb2
  clear hb2
  cases cb with
  | false =>
    have hs1 := HS1.out
    have hDx := HD.out.below HB2.out
    have hSx := (HB2.out.block _ (by omega)).trans HSB.out
    have hRC := (HB2.out.block _ (by omega)).trans HRC.out
    have hRS := (HB2.out.block _ (by omega)).trans HRS.out
    have hbx := HB1.out.trans (HB2.out.mono HB1.out.size)
    have HKF := Lib.hid (show K0 = (d, s, 1) from by rw [HK0.out]; unfold commitK; rw [← HCB.out]; rfl)
    obtain ⟨a0, n0, b0, m0, TX, hvX⟩ := id hDx
    have s0 : KeptBut (w.heap.size + 1 + 1) (w.heap.size + 1 + 1 + 1) w2 w2.drew := KeptBut.drew (KeptBut.refl _ _ _)
    obtain ⟨wa, wb, st1, st2, ka, kb, HLD⟩ := laid_DS (wx := w2.drew) (a0 := a0) (a1 := b0) (n0 := n0) (n1 := m0) (d := d) (l := s.log) (pv := (.slice pa n pc)) (s := s.pairs) hRC rfl hRS rfl (by omega) ((hvX.below (below_draws (Below.refl _ _) 1)).tight) ⟨pa, pc, by rw [← HN.out]⟩ (fun w' hk hz => PairsV.keptBut (HPV.out.below (show Below w.heap.size w w2.drew from hbx.trans (below_draws (Below.refl _ _) 1))) hk (by omega) (by omega))
    have sa : KeptBut (w.heap.size + 1 + 1) (w.heap.size + 1 + 1 + 1) w2 wa := KeptBut.trans_ s0 (fun k h1 _ => ka k h1)
    have sb : KeptBut (w.heap.size + 1 + 1) (w.heap.size + 1 + 1 + 1) w2 wb := KeptBut.trans_ s0 kb
    have X0 : ∀ w' : World, KeptBut (w.heap.size + 1 + 1) (w.heap.size + 1 + 1 + 1) w2 w' → w'.cell? ⟨w.heap.size, 0, none⟩ = some (.slice a0 d.secs.length n0) := fun w' h => cell_of_row w' _ 0 _ _ _ ((h w.heap.size (by omega) (by omega)).trans TX)
    have X1 : ∀ w' : World, KeptBut (w.heap.size + 1 + 1) (w.heap.size + 1 + 1 + 1) w2 w' → w'.cell? ⟨w.heap.size, 1, none⟩ = some (.slice b0 d.loose.length m0) := fun w' h => cell_of_row w' _ 1 _ _ _ ((h w.heap.size (by omega) (by omega)).trans TX)
    have X2 : ∀ w' : World, KeptBut (w.heap.size + 1 + 1) (w.heap.size + 1 + 1 + 1) w2 w' → w'.cell? ⟨w.heap.size, 2, none⟩ = some (.int .i64 d.fuse) := fun w' h => cell_of_row w' _ 2 _ _ _ ((h w.heap.size (by omega) (by omega)).trans TX)
    have X3 : ∀ w' : World, KeptBut (w.heap.size + 1 + 1) (w.heap.size + 1 + 1 + 1) w2 w' → w'.cell? ⟨w.heap.size, 3, none⟩ = some (.bool d.down) := fun w' h => cell_of_row w' _ 3 _ _ _ ((h w.heap.size (by omega) (by omega)).trans TX)
    have N0 : ∀ w' : World, KeptBut (w.heap.size + 1 + 1) (w.heap.size + 1 + 1 + 1) w2 w' → w'.cell? ⟨w.heap.size + 1, 0, none⟩ = some (.int .i64 s.log.half) := fun w' h => cell_of_row w' _ 0 _ _ _ ((h (w.heap.size + 1) (by omega) (by omega)).trans hSx)
    have N1 : ∀ w' : World, KeptBut (w.heap.size + 1 + 1) (w.heap.size + 1 + 1 + 1) w2 w' → w'.cell? ⟨w.heap.size + 1, 1, none⟩ = some (.int .i64 s.log.gen) := fun w' h => cell_of_row w' _ 1 _ _ _ ((h (w.heap.size + 1) (by omega) (by omega)).trans hSx)
    have N2 : ∀ w' : World, KeptBut (w.heap.size + 1 + 1) (w.heap.size + 1 + 1 + 1) w2 w' → w'.cell? ⟨w.heap.size + 1, 2, none⟩ = some (.int .i64 s.log.used) := fun w' h => cell_of_row w' _ 2 _ _ _ ((h (w.heap.size + 1) (by omega) (by omega)).trans hSx)
    have N3 : ∀ w' : World, KeptBut (w.heap.size + 1 + 1) (w.heap.size + 1 + 1 + 1) w2 w' → w'.cell? ⟨w.heap.size + 1, 3, none⟩ = some (.int .i64 s.log.count) := fun w' h => cell_of_row w' _ 3 _ _ _ ((h (w.heap.size + 1) (by omega) (by omega)).trans hSx)
    have N4 : ∀ w' : World, KeptBut (w.heap.size + 1 + 1) (w.heap.size + 1 + 1 + 1) w2 w' → w'.cell? ⟨w.heap.size + 1, 4, none⟩ = some (.slice pa n pc) := fun w' h => cell_of_row w' _ 4 _ _ _ ((h (w.heap.size + 1) (by omega) (by omega)).trans hSx)
    have HBZ := Lib.hid (HLD.out.2.2.2.2 w.heap.size w ((hbx).trans (below_draws (Below.refl _ _) 1)) (by omega) (by omega))
    clear ka kb TX hvX
    go_wp2_with fail
    refine wp_region_I [(false, 0), (false, 1), (true, 2), (true, 3), (false, 4)] (KeptBut (w.heap.size + 1 + 1) (w.heap.size + 1 + 1 + 1) w2) (by kernel_rfl) (by kernel_rfl) s0 ?_
    repeat (first | (refine heldI_skip rfl rfl ?_; simp only [Act.put, List.setIfInBounds_toArray, List.set_cons_zero, List.set_cons_succ]) | (refine heldI_take rfl ?_ rfl (fun w' hw' => ?_) ?_; rotate_left; (go_simp; first | done | with_reducible rfl); (try simp only [Act.put, List.setIfInBounds_toArray, List.set_cons_zero, List.set_cons_succ])))
    refine heldI_act rfl rfl fun K hK => ?_
    refine op_store (.tmp 6) (.tmp 23) 38 rfl rfl rfl st1 ?_
    refine hK.out _ _ sa ?_
    clear hK K st1
    simp only [Act.put, List.setIfInBounds_toArray, List.set_cons_zero, List.set_cons_succ]
    refine heldI_act rfl rfl fun K hK => ?_
    refine op_store (.tmp 7) (.tmp 24) 44 rfl rfl rfl st2 ?_
    refine hK.out _ _ sb ?_
    clear hK K st2
    simp only [Act.put, List.setIfInBounds_toArray, List.set_cons_zero, List.set_cons_succ]
    repeat (first | (refine heldI_skip rfl rfl ?_; simp only [Act.put, List.setIfInBounds_toArray, List.set_cons_zero, List.set_cons_succ]) | (refine heldI_take rfl ?_ rfl (fun w' hw' => ?_) ?_; rotate_left; (go_simp; first | done | with_reducible rfl); (try simp only [Act.put, List.setIfInBounds_toArray, List.set_cons_zero, List.set_cons_succ])))
    refine heldI_nil ?_
    go_wp2_with fail
    refine bodyPost_ret (results_cct rfl _ _ (w.heap.size + 1 + 1) (w.heap.size + 1 + 1 + 1) _ _ _ _ _ _ _ _ rfl rfl HLD.out.1 HLD.out.2.1 Tryz.underlying38 rfl size_disk Tryz.underlying44 rfl size_store) rfl ?_
    rw [HKF.out]
    exact ⟨⟨_, _, rfl, HLD.out.2.2.1, HLD.out.2.2.2.1⟩, HBZ.out⟩
  | true =>
    have hs1 := HS1.out
    have hD2 := HD.out.below HB2.out
    have hS2 := (HB2.out.block _ (by omega)).trans HSB.out
    have hbx2 := HB1.out.trans (HB2.out.mono HB1.out.size)
    obtain ⟨da, na, db, nb, TD, hv⟩ := id hD2
    have C0 := cell_of_row w2 _ 0 _ _ _ TD
    have C1 := cell_of_row w2 _ 1 _ _ _ TD
    have C2 := cell_of_row w2 _ 2 _ _ _ TD
    have C3 := cell_of_row w2 _ 3 _ _ _ TD
    have F0 := cell_of_row w2 _ 0 _ _ _ hS2
    have F1 := cell_of_row w2 _ 1 _ _ _ hS2
    have F2 := cell_of_row w2 _ 2 _ _ _ hS2
    have F3 := cell_of_row w2 _ 3 _ _ _ hS2
    have F4 := cell_of_row w2 _ 4 _ _ _ hS2
    have hSV : StoreV w.heap.size w2 (storeV s.log (.slice pa n pc)) s := ⟨_, rfl, HPV.out.below hbx2⟩
    have kr := kright_any _ _ d s w2 hv hSV hl0
    unfold storeV at kr
    obtain ⟨R, hR⟩ : ∃ x, x = rightS d s := ⟨_, rfl⟩
    rw [← hR] at kr
    have HR := Lib.hid hR
    clear hR hSV hv TD hS2 hD2 hbx2 hs1
    go_wp2_with fail
    refine kr.mono ?_
    rintro e w3 ⟨rfl, hb3⟩
    clear kr C0 C1 C2 C3 F0 F1 F2 F3 F4
    have HB3 := Lib.hid (HB2.out.trans (hb3.mono HB2.out.size))
    clear hb3
    cases R with
    | false =>
      have hs1 := HS1.out
      have hDx := HD.out.below HB3.out
      have hSx := (HB3.out.block _ (by omega)).trans HSB.out
      have hRC := (HB3.out.block _ (by omega)).trans HRC.out
      have hRS := (HB3.out.block _ (by omega)).trans HRS.out
      have hbx := HB1.out.trans (HB3.out.mono HB1.out.size)
      have HKF := Lib.hid (show K0 = (d, s, 1) from by rw [HK0.out]; unfold commitK; rw [← HCB.out, ← HR.out]; rfl)
      obtain ⟨a0, n0, b0, m0, TX, hvX⟩ := id hDx
      have s0 : KeptBut (w.heap.size + 1 + 1) (w.heap.size + 1 + 1 + 1) w3 w3.drew := KeptBut.drew (KeptBut.refl _ _ _)
      obtain ⟨wa, wb, st1, st2, ka, kb, HLD⟩ := laid_DS (wx := w3.drew) (a0 := a0) (a1 := b0) (n0 := n0) (n1 := m0) (d := d) (l := s.log) (pv := (.slice pa n pc)) (s := s.pairs) hRC rfl hRS rfl (by omega) ((hvX.below (below_draws (Below.refl _ _) 1)).tight) ⟨pa, pc, by rw [← HN.out]⟩ (fun w' hk hz => PairsV.keptBut (HPV.out.below (show Below w.heap.size w w3.drew from hbx.trans (below_draws (Below.refl _ _) 1))) hk (by omega) (by omega))
      have sa : KeptBut (w.heap.size + 1 + 1) (w.heap.size + 1 + 1 + 1) w3 wa := KeptBut.trans_ s0 (fun k h1 _ => ka k h1)
      have sb : KeptBut (w.heap.size + 1 + 1) (w.heap.size + 1 + 1 + 1) w3 wb := KeptBut.trans_ s0 kb
      have X0 : ∀ w' : World, KeptBut (w.heap.size + 1 + 1) (w.heap.size + 1 + 1 + 1) w3 w' → w'.cell? ⟨w.heap.size, 0, none⟩ = some (.slice a0 d.secs.length n0) := fun w' h => cell_of_row w' _ 0 _ _ _ ((h w.heap.size (by omega) (by omega)).trans TX)
      have X1 : ∀ w' : World, KeptBut (w.heap.size + 1 + 1) (w.heap.size + 1 + 1 + 1) w3 w' → w'.cell? ⟨w.heap.size, 1, none⟩ = some (.slice b0 d.loose.length m0) := fun w' h => cell_of_row w' _ 1 _ _ _ ((h w.heap.size (by omega) (by omega)).trans TX)
      have X2 : ∀ w' : World, KeptBut (w.heap.size + 1 + 1) (w.heap.size + 1 + 1 + 1) w3 w' → w'.cell? ⟨w.heap.size, 2, none⟩ = some (.int .i64 d.fuse) := fun w' h => cell_of_row w' _ 2 _ _ _ ((h w.heap.size (by omega) (by omega)).trans TX)
      have X3 : ∀ w' : World, KeptBut (w.heap.size + 1 + 1) (w.heap.size + 1 + 1 + 1) w3 w' → w'.cell? ⟨w.heap.size, 3, none⟩ = some (.bool d.down) := fun w' h => cell_of_row w' _ 3 _ _ _ ((h w.heap.size (by omega) (by omega)).trans TX)
      have N0 : ∀ w' : World, KeptBut (w.heap.size + 1 + 1) (w.heap.size + 1 + 1 + 1) w3 w' → w'.cell? ⟨w.heap.size + 1, 0, none⟩ = some (.int .i64 s.log.half) := fun w' h => cell_of_row w' _ 0 _ _ _ ((h (w.heap.size + 1) (by omega) (by omega)).trans hSx)
      have N1 : ∀ w' : World, KeptBut (w.heap.size + 1 + 1) (w.heap.size + 1 + 1 + 1) w3 w' → w'.cell? ⟨w.heap.size + 1, 1, none⟩ = some (.int .i64 s.log.gen) := fun w' h => cell_of_row w' _ 1 _ _ _ ((h (w.heap.size + 1) (by omega) (by omega)).trans hSx)
      have N2 : ∀ w' : World, KeptBut (w.heap.size + 1 + 1) (w.heap.size + 1 + 1 + 1) w3 w' → w'.cell? ⟨w.heap.size + 1, 2, none⟩ = some (.int .i64 s.log.used) := fun w' h => cell_of_row w' _ 2 _ _ _ ((h (w.heap.size + 1) (by omega) (by omega)).trans hSx)
      have N3 : ∀ w' : World, KeptBut (w.heap.size + 1 + 1) (w.heap.size + 1 + 1 + 1) w3 w' → w'.cell? ⟨w.heap.size + 1, 3, none⟩ = some (.int .i64 s.log.count) := fun w' h => cell_of_row w' _ 3 _ _ _ ((h (w.heap.size + 1) (by omega) (by omega)).trans hSx)
      have N4 : ∀ w' : World, KeptBut (w.heap.size + 1 + 1) (w.heap.size + 1 + 1 + 1) w3 w' → w'.cell? ⟨w.heap.size + 1, 4, none⟩ = some (.slice pa n pc) := fun w' h => cell_of_row w' _ 4 _ _ _ ((h (w.heap.size + 1) (by omega) (by omega)).trans hSx)
      have HBZ := Lib.hid (HLD.out.2.2.2.2 w.heap.size w ((hbx).trans (below_draws (Below.refl _ _) 1)) (by omega) (by omega))
      clear ka kb TX hvX
      go_wp2_with fail
      refine wp_region_I [(false, 0), (false, 1), (true, 2), (true, 3), (false, 4)] (KeptBut (w.heap.size + 1 + 1) (w.heap.size + 1 + 1 + 1) w3) (by kernel_rfl) (by kernel_rfl) s0 ?_
      repeat (first | (refine heldI_skip rfl rfl ?_; simp only [Act.put, List.setIfInBounds_toArray, List.set_cons_zero, List.set_cons_succ]) | (refine heldI_take rfl ?_ rfl (fun w' hw' => ?_) ?_; rotate_left; (go_simp; first | done | with_reducible rfl); (try simp only [Act.put, List.setIfInBounds_toArray, List.set_cons_zero, List.set_cons_succ])))
      refine heldI_act rfl rfl fun K hK => ?_
      refine op_store (.tmp 6) (.tmp 23) 38 rfl rfl rfl st1 ?_
      refine hK.out _ _ sa ?_
      clear hK K st1
      simp only [Act.put, List.setIfInBounds_toArray, List.set_cons_zero, List.set_cons_succ]
      refine heldI_act rfl rfl fun K hK => ?_
      refine op_store (.tmp 7) (.tmp 24) 44 rfl rfl rfl st2 ?_
      refine hK.out _ _ sb ?_
      clear hK K st2
      simp only [Act.put, List.setIfInBounds_toArray, List.set_cons_zero, List.set_cons_succ]
      repeat (first | (refine heldI_skip rfl rfl ?_; simp only [Act.put, List.setIfInBounds_toArray, List.set_cons_zero, List.set_cons_succ]) | (refine heldI_take rfl ?_ rfl (fun w' hw' => ?_) ?_; rotate_left; (go_simp; first | done | with_reducible rfl); (try simp only [Act.put, List.setIfInBounds_toArray, List.set_cons_zero, List.set_cons_succ])))
      refine heldI_nil ?_
      go_wp2_with fail
      refine bodyPost_ret (results_cct rfl _ _ (w.heap.size + 1 + 1) (w.heap.size + 1 + 1 + 1) _ _ _ _ _ _ _ _ rfl rfl HLD.out.1 HLD.out.2.1 Tryz.underlying38 rfl size_disk Tryz.underlying44 rfl size_store) rfl ?_
      rw [HKF.out]
      exact ⟨⟨_, _, rfl, HLD.out.2.2.1, HLD.out.2.2.2.1⟩, HBZ.out⟩
    | true =>
      have hs1 := HS1.out
      have hbx3 := HB1.out.trans (HB3.out.mono HB1.out.size)
      have ke := encode_any _ c w3 (HCV.out.below hbx3)
      obtain ⟨en, hen⟩ : ∃ x, x = encodeP c := ⟨_, rfl⟩
      rw [← hen] at ke
      have HEN := Lib.hid hen
      clear hen hbx3 hs1
      go_wp2_with fail
      refine ke.mono ?_
      rintro e w4 ⟨⟨bv, rfl, hbv⟩, hb4⟩
      clear ke
      have HB4 := Lib.hid (HB3.out.trans (hb4.mono HB3.out.size))
      have HBV := Lib.hid hbv.bytes
      clear hb4 hbv
      by_cases he : en.2 = 0
      rotate_left
      · have q0 : (en.2 != 0) = true := by simp [he]
        have HE := Lib.hid he
        clear he
        have hs1 := HS1.out
        have hDx := HD.out.below HB4.out
        have hSx := (HB4.out.block _ (by omega)).trans HSB.out
        have hRC := (HB4.out.block _ (by omega)).trans HRC.out
        have hRS := (HB4.out.block _ (by omega)).trans HRS.out
        have hbx := HB1.out.trans (HB4.out.mono HB1.out.size)
        have HKF := Lib.hid (show K0 = (d, s, en.2) from by rw [HK0.out]; unfold commitK; rw [← HCB.out, ← HR.out, ← HEN.out]; rw [if_neg HE.out]; rfl)
        obtain ⟨a0, n0, b0, m0, TX, hvX⟩ := id hDx
        have s0 : KeptBut (w.heap.size + 1 + 1) (w.heap.size + 1 + 1 + 1) w4 w4.drew := KeptBut.drew (KeptBut.refl _ _ _)
        obtain ⟨wa, wb, st1, st2, ka, kb, HLD⟩ := laid_DS (wx := w4.drew) (a0 := a0) (a1 := b0) (n0 := n0) (n1 := m0) (d := d) (l := s.log) (pv := (.slice pa n pc)) (s := s.pairs) hRC rfl hRS rfl (by omega) ((hvX.below (below_draws (Below.refl _ _) 1)).tight) ⟨pa, pc, by rw [← HN.out]⟩ (fun w' hk hz => PairsV.keptBut (HPV.out.below (show Below w.heap.size w w4.drew from hbx.trans (below_draws (Below.refl _ _) 1))) hk (by omega) (by omega))
        have sa : KeptBut (w.heap.size + 1 + 1) (w.heap.size + 1 + 1 + 1) w4 wa := KeptBut.trans_ s0 (fun k h1 _ => ka k h1)
        have sb : KeptBut (w.heap.size + 1 + 1) (w.heap.size + 1 + 1 + 1) w4 wb := KeptBut.trans_ s0 kb
        have X0 : ∀ w' : World, KeptBut (w.heap.size + 1 + 1) (w.heap.size + 1 + 1 + 1) w4 w' → w'.cell? ⟨w.heap.size, 0, none⟩ = some (.slice a0 d.secs.length n0) := fun w' h => cell_of_row w' _ 0 _ _ _ ((h w.heap.size (by omega) (by omega)).trans TX)
        have X1 : ∀ w' : World, KeptBut (w.heap.size + 1 + 1) (w.heap.size + 1 + 1 + 1) w4 w' → w'.cell? ⟨w.heap.size, 1, none⟩ = some (.slice b0 d.loose.length m0) := fun w' h => cell_of_row w' _ 1 _ _ _ ((h w.heap.size (by omega) (by omega)).trans TX)
        have X2 : ∀ w' : World, KeptBut (w.heap.size + 1 + 1) (w.heap.size + 1 + 1 + 1) w4 w' → w'.cell? ⟨w.heap.size, 2, none⟩ = some (.int .i64 d.fuse) := fun w' h => cell_of_row w' _ 2 _ _ _ ((h w.heap.size (by omega) (by omega)).trans TX)
        have X3 : ∀ w' : World, KeptBut (w.heap.size + 1 + 1) (w.heap.size + 1 + 1 + 1) w4 w' → w'.cell? ⟨w.heap.size, 3, none⟩ = some (.bool d.down) := fun w' h => cell_of_row w' _ 3 _ _ _ ((h w.heap.size (by omega) (by omega)).trans TX)
        have N0 : ∀ w' : World, KeptBut (w.heap.size + 1 + 1) (w.heap.size + 1 + 1 + 1) w4 w' → w'.cell? ⟨w.heap.size + 1, 0, none⟩ = some (.int .i64 s.log.half) := fun w' h => cell_of_row w' _ 0 _ _ _ ((h (w.heap.size + 1) (by omega) (by omega)).trans hSx)
        have N1 : ∀ w' : World, KeptBut (w.heap.size + 1 + 1) (w.heap.size + 1 + 1 + 1) w4 w' → w'.cell? ⟨w.heap.size + 1, 1, none⟩ = some (.int .i64 s.log.gen) := fun w' h => cell_of_row w' _ 1 _ _ _ ((h (w.heap.size + 1) (by omega) (by omega)).trans hSx)
        have N2 : ∀ w' : World, KeptBut (w.heap.size + 1 + 1) (w.heap.size + 1 + 1 + 1) w4 w' → w'.cell? ⟨w.heap.size + 1, 2, none⟩ = some (.int .i64 s.log.used) := fun w' h => cell_of_row w' _ 2 _ _ _ ((h (w.heap.size + 1) (by omega) (by omega)).trans hSx)
        have N3 : ∀ w' : World, KeptBut (w.heap.size + 1 + 1) (w.heap.size + 1 + 1 + 1) w4 w' → w'.cell? ⟨w.heap.size + 1, 3, none⟩ = some (.int .i64 s.log.count) := fun w' h => cell_of_row w' _ 3 _ _ _ ((h (w.heap.size + 1) (by omega) (by omega)).trans hSx)
        have N4 : ∀ w' : World, KeptBut (w.heap.size + 1 + 1) (w.heap.size + 1 + 1 + 1) w4 w' → w'.cell? ⟨w.heap.size + 1, 4, none⟩ = some (.slice pa n pc) := fun w' h => cell_of_row w' _ 4 _ _ _ ((h (w.heap.size + 1) (by omega) (by omega)).trans hSx)
        have HBZ := Lib.hid (HLD.out.2.2.2.2 w.heap.size w ((hbx).trans (below_draws (Below.refl _ _) 1)) (by omega) (by omega))
        clear ka kb TX hvX
        go_wp2_with fail
        refine wp_region_I [(false, 0), (false, 1), (false, 2), (true, 3), (true, 4), (false, 5)] (KeptBut (w.heap.size + 1 + 1) (w.heap.size + 1 + 1 + 1) w4) (by kernel_rfl) (by kernel_rfl) s0 ?_
        repeat (first | (refine heldI_skip rfl rfl ?_; simp only [Act.put, List.setIfInBounds_toArray, List.set_cons_zero, List.set_cons_succ]) | (refine heldI_take rfl ?_ rfl (fun w' hw' => ?_) ?_; rotate_left; (go_simp; first | done | with_reducible rfl); (try simp only [Act.put, List.setIfInBounds_toArray, List.set_cons_zero, List.set_cons_succ])))
        refine heldI_act rfl rfl fun K hK => ?_
        refine op_store (.tmp 6) (.tmp 32) 38 rfl rfl rfl st1 ?_
        refine hK.out _ _ sa ?_
        clear hK K st1
        simp only [Act.put, List.setIfInBounds_toArray, List.set_cons_zero, List.set_cons_succ]
        refine heldI_act rfl rfl fun K hK => ?_
        refine op_store (.tmp 7) (.tmp 33) 44 rfl rfl rfl st2 ?_
        refine hK.out _ _ sb ?_
        clear hK K st2
        simp only [Act.put, List.setIfInBounds_toArray, List.set_cons_zero, List.set_cons_succ]
        repeat (first | (refine heldI_skip rfl rfl ?_; simp only [Act.put, List.setIfInBounds_toArray, List.set_cons_zero, List.set_cons_succ]) | (refine heldI_take rfl ?_ rfl (fun w' hw' => ?_) ?_; rotate_left; (go_simp; first | done | with_reducible rfl); (try simp only [Act.put, List.setIfInBounds_toArray, List.set_cons_zero, List.set_cons_succ])))
        refine heldI_nil ?_
        go_wp2_with fail
        refine bodyPost_ret (results_cct rfl _ _ (w.heap.size + 1 + 1) (w.heap.size + 1 + 1 + 1) _ _ _ _ _ _ _ _ rfl rfl HLD.out.1 HLD.out.2.1 Tryz.underlying38 rfl size_disk Tryz.underlying44 rfl size_store) rfl ?_
        rw [HKF.out]
        exact ⟨⟨_, _, rfl, HLD.out.2.2.1, HLD.out.2.2.2.1⟩, HBZ.out⟩
      · have q0 : (en.2 != 0) = false := by simp [he]
        have HE := Lib.hid he
        have hs1 := HS1.out
        have hbx4 := HB1.out.trans (HB4.out.mono HB1.out.size)
        have hS4 := (HB4.out.block _ (by omega)).trans HSB.out
        have F4 := cell_of_row w4 _ 4 _ _ _ hS4
        have hrs : pairsB s.pairs = true := by
          have := HR.out.symm
          unfold rightS at this
          rw [Bool.and_eq_true] at this
          exact this.2
        have hrl : rightL d s.log = true := by
          have := HR.out.symm
          unfold rightS at this
          rw [Bool.and_eq_true] at this
          exact this.1
        obtain ⟨pl1, pl2, pl3⟩ := pairs_lens hrs
        obtain ⟨cl1, cl2⟩ := changesB_len HCB.out.symm
        have kk := do_any _ _ s.pairs c w4 (HPV.out.below hbx4) (HCV.out.below hbx4) pl2 (by omega) (by omega) (fun p hp => by have := pl3 p hp; omega) (fun x hx => by have := cl2 x hx; omega)
        obtain ⟨P2, hP2⟩ : ∃ x, x = doP s.pairs c := ⟨_, rfl⟩
        rw [← hP2] at kk
        have HP2 := Lib.hid hP2
        clear he hP2 pl1 pl2 pl3 cl1 cl2 hrs hrl hbx4 hS4 hs1
        go_wp2_with fail
        refine kk.mono ?_
        rintro e w5 ⟨x5, rfl, hP5, hb5⟩
        clear kk F4
        have HB5 := Lib.hid (HB4.out.trans (hb5.mono HB4.out.size))
        have HP5 := Lib.hid (Own.lower hP5 HB4.out.size)
        have HBV5 := Lib.hid (HBV.out.below hb5).tight
        have kp := paired_any _ P2 w5 (PairsO.v hP5)
        obtain ⟨pb, hpb⟩ : ∃ x, x = pairsB P2 := ⟨_, rfl⟩
        rw [← hpb] at kp
        have HPB := Lib.hid hpb
        clear hb5 hP5 hpb HBV
        go_wp2_with fail
        refine kp.mono ?_
        rintro e w6 ⟨rfl, hb6⟩
        clear kp
        have HB6 := Lib.hid (HB5.out.trans (hb6.mono HB5.out.size))
        have HP6 := Lib.hid (Own.below HP5.out hb6 (Nat.le_refl _))
        have HBV6 := Lib.hid (HBV5.out.below hb6).tight
        clear hb6 HP5 HBV5 HB5
        cases pb with
        | false =>
          have hs1 := HS1.out
          have hDx := HD.out.below HB6.out
          have hSx := (HB6.out.block _ (by omega)).trans HSB.out
          have hRC := (HB6.out.block _ (by omega)).trans HRC.out
          have hRS := (HB6.out.block _ (by omega)).trans HRS.out
          have hbx := HB1.out.trans (HB6.out.mono HB1.out.size)
          have HKF := Lib.hid (show K0 = (d, s, 8) from by rw [HK0.out]; unfold commitK; rw [← HCB.out, ← HR.out, ← HEN.out, ← HP2.out, ← HPB.out]; rw [if_pos HE.out]; rfl)
          obtain ⟨a0, n0, b0, m0, TX, hvX⟩ := id hDx
          have s0 : KeptBut (w.heap.size + 1 + 1) (w.heap.size + 1 + 1 + 1) w6 w6.drew := KeptBut.drew (KeptBut.refl _ _ _)
          obtain ⟨wa, wb, st1, st2, ka, kb, HLD⟩ := laid_DS (wx := w6.drew) (a0 := a0) (a1 := b0) (n0 := n0) (n1 := m0) (d := d) (l := s.log) (pv := (.slice pa n pc)) (s := s.pairs) hRC rfl hRS rfl (by omega) ((hvX.below (below_draws (Below.refl _ _) 1)).tight) ⟨pa, pc, by rw [← HN.out]⟩ (fun w' hk hz => PairsV.keptBut (HPV.out.below (show Below w.heap.size w w6.drew from hbx.trans (below_draws (Below.refl _ _) 1))) hk (by omega) (by omega))
          have sa : KeptBut (w.heap.size + 1 + 1) (w.heap.size + 1 + 1 + 1) w6 wa := KeptBut.trans_ s0 (fun k h1 _ => ka k h1)
          have sb : KeptBut (w.heap.size + 1 + 1) (w.heap.size + 1 + 1 + 1) w6 wb := KeptBut.trans_ s0 kb
          have X0 : ∀ w' : World, KeptBut (w.heap.size + 1 + 1) (w.heap.size + 1 + 1 + 1) w6 w' → w'.cell? ⟨w.heap.size, 0, none⟩ = some (.slice a0 d.secs.length n0) := fun w' h => cell_of_row w' _ 0 _ _ _ ((h w.heap.size (by omega) (by omega)).trans TX)
          have X1 : ∀ w' : World, KeptBut (w.heap.size + 1 + 1) (w.heap.size + 1 + 1 + 1) w6 w' → w'.cell? ⟨w.heap.size, 1, none⟩ = some (.slice b0 d.loose.length m0) := fun w' h => cell_of_row w' _ 1 _ _ _ ((h w.heap.size (by omega) (by omega)).trans TX)
          have X2 : ∀ w' : World, KeptBut (w.heap.size + 1 + 1) (w.heap.size + 1 + 1 + 1) w6 w' → w'.cell? ⟨w.heap.size, 2, none⟩ = some (.int .i64 d.fuse) := fun w' h => cell_of_row w' _ 2 _ _ _ ((h w.heap.size (by omega) (by omega)).trans TX)
          have X3 : ∀ w' : World, KeptBut (w.heap.size + 1 + 1) (w.heap.size + 1 + 1 + 1) w6 w' → w'.cell? ⟨w.heap.size, 3, none⟩ = some (.bool d.down) := fun w' h => cell_of_row w' _ 3 _ _ _ ((h w.heap.size (by omega) (by omega)).trans TX)
          have N0 : ∀ w' : World, KeptBut (w.heap.size + 1 + 1) (w.heap.size + 1 + 1 + 1) w6 w' → w'.cell? ⟨w.heap.size + 1, 0, none⟩ = some (.int .i64 s.log.half) := fun w' h => cell_of_row w' _ 0 _ _ _ ((h (w.heap.size + 1) (by omega) (by omega)).trans hSx)
          have N1 : ∀ w' : World, KeptBut (w.heap.size + 1 + 1) (w.heap.size + 1 + 1 + 1) w6 w' → w'.cell? ⟨w.heap.size + 1, 1, none⟩ = some (.int .i64 s.log.gen) := fun w' h => cell_of_row w' _ 1 _ _ _ ((h (w.heap.size + 1) (by omega) (by omega)).trans hSx)
          have N2 : ∀ w' : World, KeptBut (w.heap.size + 1 + 1) (w.heap.size + 1 + 1 + 1) w6 w' → w'.cell? ⟨w.heap.size + 1, 2, none⟩ = some (.int .i64 s.log.used) := fun w' h => cell_of_row w' _ 2 _ _ _ ((h (w.heap.size + 1) (by omega) (by omega)).trans hSx)
          have N3 : ∀ w' : World, KeptBut (w.heap.size + 1 + 1) (w.heap.size + 1 + 1 + 1) w6 w' → w'.cell? ⟨w.heap.size + 1, 3, none⟩ = some (.int .i64 s.log.count) := fun w' h => cell_of_row w' _ 3 _ _ _ ((h (w.heap.size + 1) (by omega) (by omega)).trans hSx)
          have N4 : ∀ w' : World, KeptBut (w.heap.size + 1 + 1) (w.heap.size + 1 + 1 + 1) w6 w' → w'.cell? ⟨w.heap.size + 1, 4, none⟩ = some (.slice pa n pc) := fun w' h => cell_of_row w' _ 4 _ _ _ ((h (w.heap.size + 1) (by omega) (by omega)).trans hSx)
          have HBZ := Lib.hid (HLD.out.2.2.2.2 w.heap.size w ((hbx).trans (below_draws (Below.refl _ _) 1)) (by omega) (by omega))
          clear ka kb TX hvX
          go_wp2_with fail
          refine wp_region_I [(false, 0), (false, 1), (true, 2), (true, 3), (false, 4)] (KeptBut (w.heap.size + 1 + 1) (w.heap.size + 1 + 1 + 1) w6) (by kernel_rfl) (by kernel_rfl) s0 ?_
          repeat (first | (refine heldI_skip rfl rfl ?_; simp only [Act.put, List.setIfInBounds_toArray, List.set_cons_zero, List.set_cons_succ]) | (refine heldI_take rfl ?_ rfl (fun w' hw' => ?_) ?_; rotate_left; (go_simp; first | done | with_reducible rfl); (try simp only [Act.put, List.setIfInBounds_toArray, List.set_cons_zero, List.set_cons_succ])))
          refine heldI_act rfl rfl fun K hK => ?_
          refine op_store (.tmp 6) (.tmp 42) 38 rfl rfl rfl st1 ?_
          refine hK.out _ _ sa ?_
          clear hK K st1
          simp only [Act.put, List.setIfInBounds_toArray, List.set_cons_zero, List.set_cons_succ]
          refine heldI_act rfl rfl fun K hK => ?_
          refine op_store (.tmp 7) (.tmp 43) 44 rfl rfl rfl st2 ?_
          refine hK.out _ _ sb ?_
          clear hK K st2
          simp only [Act.put, List.setIfInBounds_toArray, List.set_cons_zero, List.set_cons_succ]
          repeat (first | (refine heldI_skip rfl rfl ?_; simp only [Act.put, List.setIfInBounds_toArray, List.set_cons_zero, List.set_cons_succ]) | (refine heldI_take rfl ?_ rfl (fun w' hw' => ?_) ?_; rotate_left; (go_simp; first | done | with_reducible rfl); (try simp only [Act.put, List.setIfInBounds_toArray, List.set_cons_zero, List.set_cons_succ])))
          refine heldI_nil ?_
          go_wp2_with fail
          refine bodyPost_ret (results_cct rfl _ _ (w.heap.size + 1 + 1) (w.heap.size + 1 + 1 + 1) _ _ _ _ _ _ _ _ rfl rfl HLD.out.1 HLD.out.2.1 Tryz.underlying38 rfl size_disk Tryz.underlying44 rfl size_store) rfl ?_
          rw [HKF.out]
          exact ⟨⟨_, _, rfl, HLD.out.2.2.1, HLD.out.2.2.2.1⟩, HBZ.out⟩
        | true =>
          have hs1 := HS1.out
          have hD6 := HD.out.below HB6.out
          have hS6 := (HB6.out.block _ (by omega)).trans HSB.out
          obtain ⟨da, na, db, nb, TD, hv⟩ := id hD6
          have C0 := cell_of_row w6 _ 0 _ _ _ TD
          have C1 := cell_of_row w6 _ 1 _ _ _ TD
          have C2 := cell_of_row w6 _ 2 _ _ _ TD
          have C3 := cell_of_row w6 _ 3 _ _ _ TD
          have F0 := cell_of_row w6 _ 0 _ _ _ hS6
          have F1 := cell_of_row w6 _ 1 _ _ _ hS6
          have F2 := cell_of_row w6 _ 2 _ _ _ hS6
          have F3 := cell_of_row w6 _ 3 _ _ _ hS6
          have ka := append_any _ _ d s.log en.1 w6 hv HBV6.out hl0 (HT.out.below HB6.out hT1) (Nat.lt_of_lt_of_le hT1 HB6.out.size)
          obtain ⟨y, hy⟩ : ∃ x, x = appendP d s.log en.1 := ⟨_, rfl⟩
          rw [← hy] at ka
          unfold DLE at ka
          simp only [logV] at ka
          have HY := Lib.hid hy
          clear hy hv TD hD6 hS6 hs1
          go_wp2_with fail
          refine ka.mono ?_
          rintro e w7 ⟨⟨va, rfl, hda⟩, hb7⟩
          clear ka C0 C1 C2 C3 F0 F1 F2 F3
          obtain ⟨y1, z1, y2, z2, rfl, _, _⟩ := hda.parts
          have HB7 := Lib.hid (HB6.out.trans (hb7.mono HB6.out.size))
          have HP7 := Lib.hid (Own.below HP6.out hb7 (Nat.le_refl _))
          obtain ⟨w8, NB, HWc, HGc, hA8, hb8, lt8, le8⟩ := fresh_disk w7
          obtain ⟨w9, LB, HWd, HGd, hB9, hb9, lt9, le9⟩ := fresh_log w8
          have hb79 := hb8.trans (hb9.mono hb8.size)
          have hne : NB ≠ LB := by omega
          obtain ⟨wF, x0, x1, x2, x3, hwF, ⟨C0, C1, C2, C3, Z⟩, ⟨N0, N1, N2, N3, Y⟩, HXF⟩ := pack_store y.2.1 (hA8.below hb9) hB9 (hda.below hb79).tight hne
          have hwF := hwF.out
          try dsimp only at hwF
          have HWF := Lib.hid hwF
          clear hwF
          go_wp2_with (with_reducible refine wp_alloc_to (w' := w8) 38 rfl rfl (zero_disk _) HWc.out ?_; refine Halt.in ?_)
          refine Halt.out ?_
          rw [← HGc.out]
          go_wp2_with (with_reducible refine wp_alloc_to (w' := w9) 41 rfl rfl (zero_log _) HWd.out ?_; refine Halt.in ?_)
          refine Halt.out ?_
          rw [← HGd.out]
          go_upto_region 10 with (fail)
          rw [← HWF.out]
          clear C0 C1 C2 C3 Z N0 N1 N2 N3 Y
          obtain ⟨hDN, hLN, hzF, hkF, hbbF⟩ := HXF.out
          have hs7 := HB7.out.size
          have hb7F : Below w7.heap.size w7 wF := hbbF w7.heap.size w7 hb79 le8 (by omega)
          have hBF : Below w1.heap.size w1 wF := HB7.out.trans (hb7F.mono hs7)
          have hPF : PairsO w1.heap.size wF x5 P2 := Own.below HP7.out hb7F (Nat.le_refl _)
          have hs1 := HS1.out
          have hlN : w7.heap.size ≤ NB := le8
          have hlL : w7.heap.size ≤ LB := by omega
          have hltN : NB < wF.heap.size := hDN.lt
          have hltL : LB < wF.heap.size := hLN.lt
          obtain ⟨pa2, pc2, hx5, _⟩ := pairs_len (PairsO.v hPF)
          subst hx5
          obtain ⟨n2, hn2⟩ : ∃ n, n = P2.length := ⟨_, rfl⟩
          rw [← hn2] at hPF ⊢
          have HN2 := Lib.hid hn2
          have HPF := Lib.hid hPF
          have HDN := Lib.hid hDN
          have HLN := Lib.hid hLN
          have HBF := Lib.hid hBF
          obtain ⟨y2v, hy2⟩ : ∃ x, x = if y.2.2 = 8 then compactP d s.log (snapP P2) else y := ⟨_, rfl⟩
          have HY2 := Lib.hid hy2
          have HLT := Lib.hid (And.intro (And.intro hlN hlL) (And.intro (And.intro hltN hltL) (And.intro hne hs7)))
          clear hn2 hPF hDN hLN hBF hy2 hzF hkF hbbF HXF hb79 hb8 hb9 lt8 le8 lt9 le9 hA8 hB9 hda hb7 hs7 hs1 HBV6 hb7F hne hlN hlL hltN hltL
          go_upto_if 54 with (fail)
          go_cut [10] from 54 to 54 (fun s10 wx => CommitMid w y2v NB LB wF wx s10)
          case first =>
            by_cases h8 : y.2.2 = 8
            · have q8 : (y.2.2 == 8) = true := by rw [h8]; rfl
              have hcy : y2v = compactP d s.log (snapP P2) := by rw [HY2.out, if_pos h8]
              have hs1 := HS1.out
              obtain ⟨⟨hlN, hlL⟩, ⟨hltN, hltL⟩, hne, hs7⟩ := HLT.out
              obtain ⟨da, na, db, nb, TD, hv⟩ := id (HD.out.below HBF.out)
              have hSF := (HBF.out.block _ (by omega)).trans HSB.out
              have s0 : KeptLow wF.heap.size NB LB wF wF.drew := fun _ _ _ _ => rfl
              have X0 : ∀ w' : World, KeptLow wF.heap.size NB LB wF w' → w'.cell? ⟨w.heap.size, 0, none⟩ = some (.slice da d.secs.length na) := fun w' h => cell_of_row w' _ 0 _ _ _ ((h w.heap.size (by omega) (by omega) (by omega)).trans TD)
              have X1 : ∀ w' : World, KeptLow wF.heap.size NB LB wF w' → w'.cell? ⟨w.heap.size, 1, none⟩ = some (.slice db d.loose.length nb) := fun w' h => cell_of_row w' _ 1 _ _ _ ((h w.heap.size (by omega) (by omega) (by omega)).trans TD)
              have X2 : ∀ w' : World, KeptLow wF.heap.size NB LB wF w' → w'.cell? ⟨w.heap.size, 2, none⟩ = some (.int .i64 d.fuse) := fun w' h => cell_of_row w' _ 2 _ _ _ ((h w.heap.size (by omega) (by omega) (by omega)).trans TD)
              have X3 : ∀ w' : World, KeptLow wF.heap.size NB LB wF w' → w'.cell? ⟨w.heap.size, 3, none⟩ = some (.bool d.down) := fun w' h => cell_of_row w' _ 3 _ _ _ ((h w.heap.size (by omega) (by omega) (by omega)).trans TD)
              have N0 : ∀ w' : World, KeptLow wF.heap.size NB LB wF w' → w'.cell? ⟨w.heap.size + 1, 0, none⟩ = some (.int .i64 s.log.half) := fun w' h => cell_of_row w' _ 0 _ _ _ ((h (w.heap.size + 1) (by omega) (by omega) (by omega)).trans hSF)
              have N1 : ∀ w' : World, KeptLow wF.heap.size NB LB wF w' → w'.cell? ⟨w.heap.size + 1, 1, none⟩ = some (.int .i64 s.log.gen) := fun w' h => cell_of_row w' _ 1 _ _ _ ((h (w.heap.size + 1) (by omega) (by omega) (by omega)).trans hSF)
              have N2 : ∀ w' : World, KeptLow wF.heap.size NB LB wF w' → w'.cell? ⟨w.heap.size + 1, 2, none⟩ = some (.int .i64 s.log.used) := fun w' h => cell_of_row w' _ 2 _ _ _ ((h (w.heap.size + 1) (by omega) (by omega) (by omega)).trans hSF)
              have N3 : ∀ w' : World, KeptLow wF.heap.size NB LB wF w' → w'.cell? ⟨w.heap.size + 1, 3, none⟩ = some (.int .i64 s.log.count) := fun w' h => cell_of_row w' _ 3 _ _ _ ((h (w.heap.size + 1) (by omega) (by omega) (by omega)).trans hSF)
              have hpb := pairsB_parts HPB.out.symm
              have hsm := snapP_small HPB.out.symm
              have hPd := Own.below HPF.out (below_draws (Below.refl wF.heap.size wF) 1) (Nat.le_refl _)
              have ks := snapshot_any _ P2 wF.drew (PairsV.of_n HN2.out (Own.row hPd)) hpb.2.1 hpb.1
              have KS := Lib.hid ks
              have HV := Lib.hid hv
              have HCY := Lib.hid hcy
              have HSM := Lib.hid hsm
              clear ks hv hcy hsm hpb hPd h8 TD hSF hs1 hlN hlL hltN hltL hne hs7
              go_upto_region 11 with (fail)
              refine wp_region_I [(false, 0), (false, 1), (false, 2), (false, 3), (true, 4), (true, 5), (false, 6), (false, 7), (false, 8), (false, 9), (true, 10), (true, 11), (false, 12)] (KeptLow wF.heap.size NB LB wF) (by kernel_rfl) (by kernel_rfl) s0 ?_
              repeat (first | (refine heldI_skip rfl rfl ?_; simp only [Act.put, List.setIfInBounds_toArray, List.set_cons_zero, List.set_cons_succ]) | (refine heldI_take rfl ?_ rfl (fun w' hw' => ?_) ?_; rotate_left; (go_simp; first | done | with_reducible rfl); (try simp only [Act.put, List.setIfInBounds_toArray, List.set_cons_zero, List.set_cons_succ])))
              refine heldI_act rfl rfl fun K hK => ?_
              go_simp
              refine KS.out.mono ?_
              rintro e wt1 ⟨u1, rfl, hu1, hbt1⟩
              have sb1 : Below wF.heap.size wF wt1 := (below_draws (Below.refl _ _) 1).trans hbt1
              have s1 : KeptLow wF.heap.size NB LB wF wt1 := fun k h1 _ _ => sb1.block k h1
              refine hK.out _ _ s1 ?_
              clear hK K hbt1
              repeat (first | (refine heldI_skip rfl rfl ?_; simp only [Act.put, List.setIfInBounds_toArray, List.set_cons_zero, List.set_cons_succ]) | (refine heldI_take rfl ?_ rfl (fun w' hw' => ?_) ?_; rotate_left; (go_simp; first | done | with_reducible rfl); (try simp only [Act.put, List.setIfInBounds_toArray, List.set_cons_zero, List.set_cons_succ])))
              have hT2 := HT.out.below (HBF.out.trans (sb1.mono HBF.out.size)) hT1
              have kq := compact_any _ _ d s.log (snapP P2) wt1 (HV.out.below sb1).tight hu1.pieces hl0 hT2 (Nat.lt_of_lt_of_le hT1 (Nat.le_trans HBF.out.size sb1.size)) HSM.out.1 HSM.out.2
              rw [← HCY.out] at kq
              unfold DLE at kq
              simp only [logV] at kq
              refine heldI_act rfl rfl fun K hK => ?_
              go_simp
              refine kq.mono ?_
              rintro e wt2 ⟨⟨vr, rfl, hdr⟩, hbt2⟩
              clear kq
              obtain ⟨r1, r2, r3, r4, rfl, _, _⟩ := hdr.parts
              have sb2 : Below wF.heap.size wF wt2 := sb1.trans (hbt2.mono sb1.size)
              have s2 : KeptLow wF.heap.size NB LB wF wt2 := fun k h1 _ _ => sb2.block k h1
              refine hK.out _ _ s2 ?_
              clear hK K hbt2 hu1 hT2
              repeat (first | (refine heldI_skip rfl rfl ?_; simp only [Act.put, List.setIfInBounds_toArray, List.set_cons_zero, List.set_cons_succ]) | (refine heldI_take rfl ?_ rfl (fun w' hw' => ?_) ?_; rotate_left; (go_simp; first | done | with_reducible rfl); (try simp only [Act.put, List.setIfInBounds_toArray, List.set_cons_zero, List.set_cons_succ])))
              obtain ⟨⟨hlN, hlL⟩, ⟨hltN, hltL⟩, hne, hs7⟩ := HLT.out
              obtain ⟨_, _, _, _, hrN⟩ := HDN.out.row
              have hrN2 := (sb2.block _ hltN).trans hrN
              have hrL : wF.heap[LB]? = _ := HLN.out
              have hrL2 := (sb2.block _ hltL).trans hrL
              obtain ⟨wx, hst, hnA, hbx, hzx, hkx, _⟩ := storeBig info_disk hrN2 rfl #[.slice r1 y2v.1.secs.length r2, .slice r3 y2v.1.loose.length r4, .int .i64 y2v.1.fuse, .bool y2v.1.down] rfl (ones4 rfl rfl rfl rfl)
              have hLx : wx.heap[LB]? = _ := (hkx LB (Ne.symm hne)).trans hrL2
              obtain ⟨wy, hst2, hnB, hby, hzy, hky, _⟩ := storeBig info_log hLx rfl #[.int .i64 y2v.2.1.half, .int .i64 y2v.2.1.gen, .int .i64 y2v.2.1.used, .int .i64 y2v.2.1.count] rfl (ones4 rfl rfl rfl rfl)
              have hdx := hdr.kept hrN2 (by simp) hkx
              have hdy := hdx.kept hLx (by simp) hky
              have sx : KeptLow wF.heap.size NB LB wF wx := fun k h1 h2 h3 => (hkx k h2).trans (s2 k h1 h2 h3)
              have sy : KeptLow wF.heap.size NB LB wF wy := fun k h1 h2 h3 => (hky k h3).trans (sx k h1 h2 h3)
              have hs1 := HS1.out
              have hmid : CommitMid w y2v NB LB wF wy (.int .i64 y2v.2.2) := by
                refine ⟨rfl, ⟨r1, r2, r3, r4, (hky NB hne).trans hnA, by rw [hzy, hzx]; exact hdy⟩, hnB, sy, ?_, by rw [hzy, hzx]; exact sb2.size⟩
                have b0 : Below w.heap.size w wt2 := (HB1.out.trans (HBF.out.mono HB1.out.size)).trans (sb2.mono (Nat.le_trans HB1.out.size HBF.out.size))
                exact (b0.trans (hbx.mono (by omega))).trans (hby.mono (by omega))
              have HMID := Lib.hid hmid
              refine heldI_act rfl rfl fun K hK => ?_
              refine op_store (.tmp 12) (.tmp 62) 38 rfl rfl rfl hst ?_
              refine hK.out _ _ sx ?_
              clear hK K hst
              simp only [Act.put, List.setIfInBounds_toArray, List.set_cons_zero, List.set_cons_succ]
              refine heldI_act rfl rfl fun K hK => ?_
              refine op_store (.tmp 13) (.tmp 63) 41 rfl rfl rfl hst2 ?_
              refine hK.out _ _ sy ?_
              clear hK K hst2
              simp only [Act.put, List.setIfInBounds_toArray, List.set_cons_zero, List.set_cons_succ]
              repeat (first | (refine heldI_skip rfl rfl ?_; simp only [Act.put, List.setIfInBounds_toArray, List.set_cons_zero, List.set_cons_succ]) | (refine heldI_take rfl ?_ rfl (fun w' hw' => ?_) ?_; rotate_left; (go_simp; first | done | with_reducible rfl); (try simp only [Act.put, List.setIfInBounds_toArray, List.set_cons_zero, List.set_cons_succ])))
              refine heldI_nil ?_
              clear hmid hdx hdy hkx hky hnA hnB hrN hrN2 hrL hrL2 hLx hdr s0 s1 s2 sx sy X0 X1 X2 X3 N0 N1 N2 N3 sb1 sb2
              go_wp2_with fail
              go_meet
              case rel => exact HMID.out
            · have q8 : (y.2.2 == 8) = false := by rw [beq_eq_false_iff_ne]; exact h8
              have hcy : y2v = y := by rw [HY2.out, if_neg h8]
              subst hcy
              have HMID := Lib.hid (show CommitMid w y2v NB LB wF wF (.int .i64 y2v.2.2) from ⟨rfl, HDN.out, HLN.out, fun _ _ _ _ => rfl, HB1.out.trans (HBF.out.mono HB1.out.size), Nat.le_refl _⟩)
              clear h8
              go_wp2_with fail
              go_meet
              case rel => exact HMID.out
          case rest =>
            obtain ⟨rfl, hDx, hLx, hkl, hbx, hsz⟩ := hcut
            obtain ⟨⟨hlN, hlL⟩, ⟨hltN, hltL⟩, hne, hs7⟩ := HLT.out
            have hs1 := HS1.out
            have hsF := HBF.out.size
            have hSx := (hkl (w.heap.size + 1) (by omega) (by omega) (by omega)).trans ((HBF.out.block _ (by omega)).trans HSB.out)
            have hRC := (hkl (w.heap.size + 1 + 1) (by omega) (by omega) (by omega)).trans ((HBF.out.block _ (by omega)).trans HRC.out)
            have hRS := (hkl (w.heap.size + 1 + 1 + 1) (by omega) (by omega) (by omega)).trans ((HBF.out.block _ (by omega)).trans HRS.out)
            have hcm : commitK d s c = if y2v.2.2 = 0 then (y2v.1, ⟨y2v.2.1, P2⟩, 0) else (y2v.1, s, y2v.2.2) := by
              unfold commitK
              dsimp only
              rw [← HCB.out, ← HR.out, ← HEN.out, ← HP2.out, ← HPB.out, ← HY.out, ← HY2.out]
              rw [if_pos HE.out]
              rfl
            have HCM := Lib.hid hcm
            obtain ⟨_, _, _, _, hrN⟩ := HDN.out.row
            have hrL : wF.heap[LB]? = _ := HLN.out
            have hPX : PairsO w1.heap.size wc (.slice pa2 n2 pc2) P2 := Own.keptLow HPF.out hkl hrN (by decide) hrL (by decide)
            have HPX := Lib.hid hPX
            clear hcm hrN hrL hPX
            by_cases he2 : y2v.2.2 = 0
            rotate_left
            · have q9 : (y2v.2.2 != 0) = true := by simp [he2]
              have HE2 := Lib.hid he2
              clear he2
              have HKF := Lib.hid (show K0 = (y2v.1, s, y2v.2.2) from by rw [HK0.out, HCM.out, if_neg HE2.out])
              obtain ⟨a0, n0, b0, m0, TX, hvX⟩ := id hDx
              have s0 : KeptBut (w.heap.size + 1 + 1) (w.heap.size + 1 + 1 + 1) wc wc.drew := KeptBut.drew (KeptBut.refl _ _ _)
              obtain ⟨wa, wb, st1, st2, ka, kb, HLD⟩ := laid_DS (wx := wc.drew) (a0 := a0) (a1 := b0) (n0 := n0) (n1 := m0) (d := y2v.1) (l := s.log) (pv := (.slice pa n pc)) (s := s.pairs) hRC rfl hRS rfl (by omega) ((hvX.below (below_draws (Below.refl _ _) 1)).tight) ⟨pa, pc, by rw [← HN.out]⟩ (fun w' hk hz => PairsV.keptBut (HPV.out.below (show Below w.heap.size w wc.drew from hbx.trans (below_draws (Below.refl _ _) 1))) hk (by omega) (by omega))
              have sa : KeptBut (w.heap.size + 1 + 1) (w.heap.size + 1 + 1 + 1) wc wa := KeptBut.trans_ s0 (fun k h1 _ => ka k h1)
              have sb : KeptBut (w.heap.size + 1 + 1) (w.heap.size + 1 + 1 + 1) wc wb := KeptBut.trans_ s0 kb
              have X0 : ∀ w' : World, KeptBut (w.heap.size + 1 + 1) (w.heap.size + 1 + 1 + 1) wc w' → w'.cell? ⟨NB, 0, none⟩ = some (.slice a0 y2v.1.secs.length n0) := fun w' h => cell_of_row w' _ 0 _ _ _ ((h NB (by omega) (by omega)).trans TX)
              have X1 : ∀ w' : World, KeptBut (w.heap.size + 1 + 1) (w.heap.size + 1 + 1 + 1) wc w' → w'.cell? ⟨NB, 1, none⟩ = some (.slice b0 y2v.1.loose.length m0) := fun w' h => cell_of_row w' _ 1 _ _ _ ((h NB (by omega) (by omega)).trans TX)
              have X2 : ∀ w' : World, KeptBut (w.heap.size + 1 + 1) (w.heap.size + 1 + 1 + 1) wc w' → w'.cell? ⟨NB, 2, none⟩ = some (.int .i64 y2v.1.fuse) := fun w' h => cell_of_row w' _ 2 _ _ _ ((h NB (by omega) (by omega)).trans TX)
              have X3 : ∀ w' : World, KeptBut (w.heap.size + 1 + 1) (w.heap.size + 1 + 1 + 1) wc w' → w'.cell? ⟨NB, 3, none⟩ = some (.bool y2v.1.down) := fun w' h => cell_of_row w' _ 3 _ _ _ ((h NB (by omega) (by omega)).trans TX)
              have N0 : ∀ w' : World, KeptBut (w.heap.size + 1 + 1) (w.heap.size + 1 + 1 + 1) wc w' → w'.cell? ⟨w.heap.size + 1, 0, none⟩ = some (.int .i64 s.log.half) := fun w' h => cell_of_row w' _ 0 _ _ _ ((h (w.heap.size + 1) (by omega) (by omega)).trans hSx)
              have N1 : ∀ w' : World, KeptBut (w.heap.size + 1 + 1) (w.heap.size + 1 + 1 + 1) wc w' → w'.cell? ⟨w.heap.size + 1, 1, none⟩ = some (.int .i64 s.log.gen) := fun w' h => cell_of_row w' _ 1 _ _ _ ((h (w.heap.size + 1) (by omega) (by omega)).trans hSx)
              have N2 : ∀ w' : World, KeptBut (w.heap.size + 1 + 1) (w.heap.size + 1 + 1 + 1) wc w' → w'.cell? ⟨w.heap.size + 1, 2, none⟩ = some (.int .i64 s.log.used) := fun w' h => cell_of_row w' _ 2 _ _ _ ((h (w.heap.size + 1) (by omega) (by omega)).trans hSx)
              have N3 : ∀ w' : World, KeptBut (w.heap.size + 1 + 1) (w.heap.size + 1 + 1 + 1) wc w' → w'.cell? ⟨w.heap.size + 1, 3, none⟩ = some (.int .i64 s.log.count) := fun w' h => cell_of_row w' _ 3 _ _ _ ((h (w.heap.size + 1) (by omega) (by omega)).trans hSx)
              have N4 : ∀ w' : World, KeptBut (w.heap.size + 1 + 1) (w.heap.size + 1 + 1 + 1) wc w' → w'.cell? ⟨w.heap.size + 1, 4, none⟩ = some (.slice pa n pc) := fun w' h => cell_of_row w' _ 4 _ _ _ ((h (w.heap.size + 1) (by omega) (by omega)).trans hSx)
              have HBZ := Lib.hid (HLD.out.2.2.2.2 w.heap.size w ((hbx).trans (below_draws (Below.refl _ _) 1)) (by omega) (by omega))
              clear ka kb TX hvX
              go_wp2_with fail
              refine wp_region_I [(false, 0), (false, 1), (false, 2), (true, 3), (true, 4), (false, 5)] (KeptBut (w.heap.size + 1 + 1) (w.heap.size + 1 + 1 + 1) wc) (by kernel_rfl) (by kernel_rfl) s0 ?_
              repeat (first | (refine heldI_skip rfl rfl ?_; simp only [Act.put, List.setIfInBounds_toArray, List.set_cons_zero, List.set_cons_succ]) | (refine heldI_take rfl ?_ rfl (fun w' hw' => ?_) ?_; rotate_left; (go_simp; first | done | with_reducible rfl); (try simp only [Act.put, List.setIfInBounds_toArray, List.set_cons_zero, List.set_cons_succ])))
              refine heldI_act rfl rfl fun K hK => ?_
              refine op_store (.tmp 6) (.tmp 67) 38 rfl rfl rfl st1 ?_
              refine hK.out _ _ sa ?_
              clear hK K st1
              simp only [Act.put, List.setIfInBounds_toArray, List.set_cons_zero, List.set_cons_succ]
              refine heldI_act rfl rfl fun K hK => ?_
              refine op_store (.tmp 7) (.tmp 68) 44 rfl rfl rfl st2 ?_
              refine hK.out _ _ sb ?_
              clear hK K st2
              simp only [Act.put, List.setIfInBounds_toArray, List.set_cons_zero, List.set_cons_succ]
              repeat (first | (refine heldI_skip rfl rfl ?_; simp only [Act.put, List.setIfInBounds_toArray, List.set_cons_zero, List.set_cons_succ]) | (refine heldI_take rfl ?_ rfl (fun w' hw' => ?_) ?_; rotate_left; (go_simp; first | done | with_reducible rfl); (try simp only [Act.put, List.setIfInBounds_toArray, List.set_cons_zero, List.set_cons_succ])))
              refine heldI_nil ?_
              go_wp2_with fail
              refine bodyPost_ret (results_cct rfl _ _ (w.heap.size + 1 + 1) (w.heap.size + 1 + 1 + 1) _ _ _ _ _ _ _ _ rfl rfl HLD.out.1 HLD.out.2.1 Tryz.underlying38 rfl size_disk Tryz.underlying44 rfl size_store) rfl ?_
              rw [HKF.out]
              exact ⟨⟨_, _, rfl, HLD.out.2.2.1, HLD.out.2.2.2.1⟩, HBZ.out⟩
            · have q9 : (y2v.2.2 != 0) = false := by simp [he2]
              have HKF := Lib.hid (show K0 = (y2v.1, ⟨y2v.2.1, P2⟩, 0) by rw [HK0.out, HCM.out, if_pos he2])
              clear he2
              obtain ⟨a0, n0, b0, m0, TX, hvX⟩ := id hDx
              have s0 : KeptBut (w.heap.size + 1 + 1) (w.heap.size + 1 + 1 + 1) wc wc.drew := KeptBut.drew (KeptBut.refl _ _ _)
              obtain ⟨wa, wb, st1, st2, ka, kb, HLD⟩ := laid_DS (wx := wc.drew) (a0 := a0) (a1 := b0) (n0 := n0) (n1 := m0) (d := y2v.1) (l := y2v.2.1) (pv := (.slice pa2 n2 pc2)) (s := P2) hRC rfl hRS rfl (by omega) ((hvX.below (below_draws (Below.refl _ _) 1)).tight) ⟨pa2, pc2, by rw [← HN2.out]⟩ (fun w' hk hz => by have := Own.kept HPX.out (w' := w') (fun k hk1 => hk k (by omega) (by omega)); exact Own.row this)
              have sa : KeptBut (w.heap.size + 1 + 1) (w.heap.size + 1 + 1 + 1) wc wa := KeptBut.trans_ s0 (fun k h1 _ => ka k h1)
              have sb : KeptBut (w.heap.size + 1 + 1) (w.heap.size + 1 + 1 + 1) wc wb := KeptBut.trans_ s0 kb
              have X0 : ∀ w' : World, KeptBut (w.heap.size + 1 + 1) (w.heap.size + 1 + 1 + 1) wc w' → w'.cell? ⟨NB, 0, none⟩ = some (.slice a0 y2v.1.secs.length n0) := fun w' h => cell_of_row w' _ 0 _ _ _ ((h NB (by omega) (by omega)).trans TX)
              have X1 : ∀ w' : World, KeptBut (w.heap.size + 1 + 1) (w.heap.size + 1 + 1 + 1) wc w' → w'.cell? ⟨NB, 1, none⟩ = some (.slice b0 y2v.1.loose.length m0) := fun w' h => cell_of_row w' _ 1 _ _ _ ((h NB (by omega) (by omega)).trans TX)
              have X2 : ∀ w' : World, KeptBut (w.heap.size + 1 + 1) (w.heap.size + 1 + 1 + 1) wc w' → w'.cell? ⟨NB, 2, none⟩ = some (.int .i64 y2v.1.fuse) := fun w' h => cell_of_row w' _ 2 _ _ _ ((h NB (by omega) (by omega)).trans TX)
              have X3 : ∀ w' : World, KeptBut (w.heap.size + 1 + 1) (w.heap.size + 1 + 1 + 1) wc w' → w'.cell? ⟨NB, 3, none⟩ = some (.bool y2v.1.down) := fun w' h => cell_of_row w' _ 3 _ _ _ ((h NB (by omega) (by omega)).trans TX)
              have N0 : ∀ w' : World, KeptBut (w.heap.size + 1 + 1) (w.heap.size + 1 + 1 + 1) wc w' → w'.cell? ⟨LB, 0, none⟩ = some (.int .i64 y2v.2.1.half) := fun w' h => cell_of_row w' _ 0 _ _ _ ((h LB (by omega) (by omega)).trans hLx)
              have N1 : ∀ w' : World, KeptBut (w.heap.size + 1 + 1) (w.heap.size + 1 + 1 + 1) wc w' → w'.cell? ⟨LB, 1, none⟩ = some (.int .i64 y2v.2.1.gen) := fun w' h => cell_of_row w' _ 1 _ _ _ ((h LB (by omega) (by omega)).trans hLx)
              have N2 : ∀ w' : World, KeptBut (w.heap.size + 1 + 1) (w.heap.size + 1 + 1 + 1) wc w' → w'.cell? ⟨LB, 2, none⟩ = some (.int .i64 y2v.2.1.used) := fun w' h => cell_of_row w' _ 2 _ _ _ ((h LB (by omega) (by omega)).trans hLx)
              have N3 : ∀ w' : World, KeptBut (w.heap.size + 1 + 1) (w.heap.size + 1 + 1 + 1) wc w' → w'.cell? ⟨LB, 3, none⟩ = some (.int .i64 y2v.2.1.count) := fun w' h => cell_of_row w' _ 3 _ _ _ ((h LB (by omega) (by omega)).trans hLx)
              have HBZ := Lib.hid (HLD.out.2.2.2.2 w.heap.size w ((hbx).trans (below_draws (Below.refl _ _) 1)) (by omega) (by omega))
              clear ka kb TX hvX
              go_wp2_with fail
              refine wp_region_I [(false, 0), (false, 1), (false, 2), (false, 3), (true, 4), (true, 5), (false, 6)] (KeptBut (w.heap.size + 1 + 1) (w.heap.size + 1 + 1 + 1) wc) (by kernel_rfl) (by kernel_rfl) s0 ?_
              repeat (first | (refine heldI_skip rfl rfl ?_; simp only [Act.put, List.setIfInBounds_toArray, List.set_cons_zero, List.set_cons_succ]) | (refine heldI_take rfl ?_ rfl (fun w' hw' => ?_) ?_; rotate_left; (go_simp; first | done | with_reducible rfl); (try simp only [Act.put, List.setIfInBounds_toArray, List.set_cons_zero, List.set_cons_succ])))
              refine heldI_act rfl rfl fun K hK => ?_
              refine op_store (.tmp 6) (.tmp 70) 38 rfl rfl rfl st1 ?_
              refine hK.out _ _ sa ?_
              clear hK K st1
              simp only [Act.put, List.setIfInBounds_toArray, List.set_cons_zero, List.set_cons_succ]
              refine heldI_act rfl rfl fun K hK => ?_
              refine op_store (.tmp 7) (.tmp 73) 44 rfl rfl rfl st2 ?_
              refine hK.out _ _ sb ?_
              clear hK K st2
              simp only [Act.put, List.setIfInBounds_toArray, List.set_cons_zero, List.set_cons_succ]
              repeat (first | (refine heldI_skip rfl rfl ?_; simp only [Act.put, List.setIfInBounds_toArray, List.set_cons_zero, List.set_cons_succ]) | (refine heldI_take rfl ?_ rfl (fun w' hw' => ?_) ?_; rotate_left; (go_simp; first | done | with_reducible rfl); (try simp only [Act.put, List.setIfInBounds_toArray, List.set_cons_zero, List.set_cons_succ])))
              refine heldI_nil ?_
              go_wp2_with fail
              refine bodyPost_ret (results_cct rfl _ _ (w.heap.size + 1 + 1) (w.heap.size + 1 + 1 + 1) _ _ _ _ _ _ _ _ rfl rfl HLD.out.1 HLD.out.2.1 Tryz.underlying38 rfl size_disk Tryz.underlying44 rfl size_store) rfl ?_
              rw [HKF.out]
              exact ⟨⟨_, _, rfl, HLD.out.2.2.1, HLD.out.2.2.2.1⟩, HBZ.out⟩
end Go.Proofs.YtaijompnohkmaaaGreatDoor
