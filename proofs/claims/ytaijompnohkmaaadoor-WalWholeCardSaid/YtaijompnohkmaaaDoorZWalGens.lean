/- Layer 5 (wal): WalGens, walked. -/
import Derived.Test.YtaijompnohkmaaaDoorZWalBack
namespace Go.Proofs.YtaijompnohkmaaaDoor
open Go.RowKit WalP PackP
/-- Lists of records, in a slice. -/
def Lists (B : Nat) (w : World) (v : Value) (lls : List (List (List UInt8))) : Prop :=
  ∃ vs : List Value, Row B w v 1 lls.length vs ∧ ∀ (k : Nat) (h : k < lls.length), ∃ u, vs[k]? = some u ∧ Pieces B w u lls[k]
theorem load_list {B : Nat} {w : World} {a : Option Addr} {n c : Nat} {ls : List (List (List UInt8))} (h : Lists B w (.slice a n c) ls) {k : Nat} (hk : k < ls.length) :
    ∃ b off a' c', a = some ⟨b, off, none⟩ ∧ b < B ∧ n = ls.length ∧ n ≤ c ∧ c ≤ 2 ^ 63 - 1 ∧ (∀ w' : World, (∀ p : Addr, p.block < B → w'.cell? p = w.cell? p) → w'.cell? ⟨b, off + k, none⟩ = some (.slice a' ls[k].length c')) ∧ Pieces B w (.slice a' ls[k].length c') ls[k] := by
  obtain ⟨vs, ⟨hl, a0, cap, hv, hnc, hcap, hcells⟩, hel⟩ := h
  cases hv
  obtain ⟨b, off, rfl, hBb, hc⟩ := hcells (by omega)
  obtain ⟨u, hu, hb⟩ := hel k hk
  obtain ⟨_, ⟨_, a', c', rfl, _, _, _⟩, _⟩ := id hb
  exact ⟨b, off, a', c', rfl, hBb, rfl, hnc, hcap, fun w' hw => (hw ⟨b, off + k, none⟩ hBb).trans (hc _ _ hu), hb⟩
theorem one_recS {w w' : World} {g : Nat} (hw : w' = (w.alloc (.cells #[.int .u8 1] 5)).alloc (.cells #[.slice (some ⟨w.heap.size, 0, none⟩) 1 1] 43)) (hg : g = w.heap.size + 1) {S : Nat → Prop} : PiecesS (fun b => S b ∨ w.heap.size ≤ b) w'.heap.size w' (.slice (some ⟨g, 0, none⟩) 1 1) [[1]] := by
  subst hw
  subst hg
  have h1 := Row.fresh (w := w) (C := #[.int .u8 1]) (e := 5) (fz := (0, 0)) (sz := 1) (n := 1) (cap := 1) (cs := [.int .u8 1]) rfl (Nat.le_refl _) (by decide) (fun k u hk => by simpa using hk)
  have hb1 : Below (w.heap.size + 1) (w.alloc (.cells #[.int .u8 1] 5)) ((w.alloc (.cells #[.int .u8 1] 5)).alloc (.cells #[.slice (some ⟨w.heap.size, 0, none⟩) 1 1] 43)) := Below.alloc (Below.refl _ _) (by simp) _
  have h2 := Row.fresh (w := w.alloc (.cells #[.int .u8 1] 5)) (C := #[.slice (some ⟨w.heap.size, 0, none⟩) 1 1]) (e := 43) (fz := (0, 0)) (sz := 1) (n := 1) (cap := 1) (cs := [.slice (some ⟨w.heap.size, 0, none⟩) 1 1]) rfl (Nat.le_refl _) (by decide) (fun k u hk => by simpa using hk)
  have e : (w.alloc (.cells #[.int .u8 1] 5)).heap.size = w.heap.size + 1 := by simp
  rw [e] at h2
  refine ⟨[.slice (some ⟨w.heap.size, 0, none⟩) 1 1], h2.tight (by decide), fun a n c h _ => ?_, fun k hk => ?_⟩
  · cases h
    exact .inr (by show w.heap.size ≤ w.heap.size + 1; omega)
  · obtain rfl : k = 0 := by simpa using hk
    refine ⟨_, rfl, Row.tight (h1.below hb1) (by decide), fun a n c h _ => ?_⟩
    cases h
    exact .inr (Nat.le_refl _)
/-- Two variables, and all that was there at the outset. -/
def TwoW (W : World) (a b : Nat) (x y : Obj) (w : World) : Prop := Two a b x y w ∧ Below W.heap.size W w
/-- What the loop keeps: up to so many openings and compactions. -/
def GensInv (W : World) (D L M0 : Nat) (n : Nat) (w : World) (s7 : Value) : Prop :=
  ∃ d l cur a c, DAt w D d ∧ LAt w L l ∧ Holds 80 d l cur ∧ l.gen ≤ n ∧ Below W.heap.size W w ∧ s7 = .slice a cur.length c ∧ PiecesS (fun b => b < W.heap.size ∨ M0 ≤ b) w.heap.size w (.slice a cur.length c) cur
set_option maxRecDepth 100000 in
set_option maxHeartbeats 8000000 in
theorem WalGens_walk (v : Value) (lls : List (List (List UInt8))) (W : World) (ht : TabAt W) (hT : 0 < W.heap.size) (hv : Lists W.heap.size W v lls) (hl : ∀ ls ∈ lls, ∀ b ∈ ls, b.length ≤ 2 ^ 50) :
    Calls Tryd.prog 8 #[v] W fun e w' => e = .returned (.bool true) ∧ Below W.heap.size W w' := by
  obtain ⟨_, ⟨_, la, lc, rfl, hn1, hn2, _⟩, _⟩ := id hv
  unfold maxLen at hn2
  obtain ⟨N, hN⟩ : ∃ N, N = lls.length := ⟨_, rfl⟩
  rw [← hN] at hv hn1 ⊢
  have HN := Lib.hid hN
  have HV := Lib.hid hv
  have HLL := Lib.hid hl
  have HT := Lib.hid ht
  have ka := walAlive_any W ht hT
  have hcn := calm_new (n := 80) (by decide)
  have kn := fun w : World => refnew_any 80 w
  obtain ⟨d0, hd0⟩ : ∃ d, d = (newP 80).1 := ⟨_, rfl⟩
  have hcn : WalP.Calm 80 0 d0 := by rw [hd0]; exact hcn
  have kn : ∀ w, Calls Tryd.prog 26 #[.int .i64 80] w fun e w' => (∃ v', e = .returned (.tuple #[v', .int .i64 0]) ∧ DiskV w'.heap.size w' v' d0) ∧ Below w.heap.size w w' := fun w => by rw [hd0]; exact kn w
  have hfmt : ∃ d1, formatP d0 [[1]] = (d1, ⟨0, 1, 2, 1⟩, 0) ∧ Holds 80 d1 ⟨0, 1, 2, 1⟩ [[1]] := by
    rcases format_holds hcn (by decide) [[1]] with ⟨h, _⟩ | ⟨n, h, hn, _⟩ | ⟨_, _, _, f1, f2, f3⟩
    · exact absurd h (by decide)
    · rw [show total [[1]] = some 2 from rfl] at h
      cases h
      exact absurd hn (by decide)
    · generalize formatP d0 [[1]] = F at f1 f2 f3 ⊢
      obtain ⟨d1, l1, e1⟩ := F
      dsimp only at f1 f2 f3
      subst f1
      have el : l1 = ⟨0, 1, 2, 1⟩ := f2
      subst el
      exact ⟨d1, rfl, f3⟩
  obtain ⟨d1, hf1, hho⟩ := hfmt
  have HF1 := Lib.hid hf1
  have HHO := Lib.hid hho
  have KN := Lib.hid kn
  clear hd0 kn hcn ht hv hl hN hf1 hho
  go_enter Tryd.func8, Tryd.ntmps8
  go_wp2_with fail
  refine ka.mono ?_
  rintro e w0 ⟨rfl, hb0⟩
  clear ka
  by_cases h20 : 20 < N
  · have q0 : decide ((20 : Int) < (N : Int)) = true := by simp; omega
    go_wp2_with fail
    go_ret
    exact ⟨rfl, hb0⟩
  have q0 : decide ((20 : Int) < (N : Int)) = false := by simp; omega
  go_wp2_with fail
  refine (KN.out w0).mono ?_
  rintro e w1 ⟨⟨v1, rfl, hd1⟩, hb1⟩
  clear q0
  obtain ⟨p1, q1, p2, q2, rfl, _, _⟩ := hd1.parts
  obtain ⟨w2, D, HW2, HG2, hD2, hb2, lt2, le2⟩ := fresh_disk w1
  obtain ⟨w3, x0, x1, x2, x3, HW3, ⟨C0, C1, C2, C3, Z⟩, HX3⟩ := pack_disk hD2 (hd1.below hb2).tight
  go_wp2_with (with_reducible refine wp_alloc_to (w' := w2) 25 rfl rfl (zero_disk _) HW2.out ?_; refine Halt.in ?_)
  refine Halt.out ?_
  rw [← HG2.out]
  go_upto_region 6 with (fail)
  rw [← HW3.out]
  clear C0 C1 C2 C3 Z hd1 hD2
  obtain ⟨hD3, hz3, _, hbb3⟩ := HX3.out
  have hb02 := hb0.trans ((hb1.trans (hb2.mono hb1.size)).mono hb0.size)
  have hDw : W.heap.size ≤ D := Nat.le_trans hb0.size (Nat.le_trans hb1.size le2)
  have hb03 := hbb3 W.heap.size W hb02 hDw
  clear hz3 hbb3 HX3 HW3 hb1 hb2 lt2 le2 hb02 hb0
  obtain ⟨w5, g5, HW5, HG5, hb5, hp5⟩ := one_rec w3
  have hD5 := hD3.below hb5
  have hb05 := hb03.trans (hb5.mono hb03.size)
  obtain ⟨da, na, db, nb, T, hv⟩ := id hD3
  obtain ⟨C0, C1, C2, C3, _⟩ := Four.of T
  clear T
  have kf := format_any _ _ d0 [[1]] w5 (hv.below hb5).tight hp5 (HT.out.below hb05 hT) (Nat.lt_of_lt_of_le hT hb05.size) (fun b hb => by rw [List.mem_singleton.1 hb]; decide) (by decide)
  rw [HF1.out] at kf
  unfold DLE at kf
  simp only [logV] at kf
  clear hv
  go_wp2_with fail
  rw [← HW5.out, ← HG5.out]
  refine kf.mono ?_
  rintro e w6 ⟨⟨v6, rfl, hd6⟩, hb6⟩
  clear kf C0 C1 C2 C3
  obtain ⟨p3, q3, p4, q4, rfl, _, _⟩ := hd6.parts
  obtain ⟨w7, L, HW7, HG7, hL7, hb7, lt7, le7⟩ := fresh_log w6
  have hb57 := hb6.trans (hb7.mono hb6.size)
  have hD7 := hD5.below hb57
  have hDL : D ≠ L := by have := hD5.lt; have := hb6.size; omega
  have hLw : W.heap.size ≤ L := Nat.le_trans (Nat.le_trans hb05.size hb6.size) le7
  obtain ⟨w8, x0, x1, x2, x3, hw8, ⟨C0, C1, C2, C3, Z⟩, ⟨N0, N1, N2, N3, Y⟩, HX8⟩ := pack_store ⟨0, 1, 2, 1⟩ hD7 hL7 (hd6.below hb7).tight hDL
  have hw8 := hw8.out
  dsimp only at hw8
  have HW8 := Lib.hid hw8
  clear hw8
  go_wp2_with (with_reducible refine wp_alloc_to (w' := w7) 27 rfl rfl (zero_log _) HW7.out ?_; refine Halt.in ?_)
  refine Halt.out ?_
  rw [← HG7.out]
  go_upto_region 7 with (fail)
  rw [← HW8.out]
  clear C0 C1 C2 C3 Z N0 N1 N2 N3 Y hd6 hD7 hL7 hD5 hD3 hp5
  obtain ⟨hD8, hL8, hz8, hk8, hbb8⟩ := HX8.out
  have hb08 := hbb8 W.heap.size W (hb05.trans (hb57.mono hb05.size)) hDw hLw
  clear hz8 hk8 hbb8 HX8 HW8 hb03 hb05 hb57 hb6 hb7 lt7 le7 hb5
  obtain ⟨w9, g9, HW9, HG9, hb9, hp9⟩ := one_rec w8
  obtain ⟨M0, hM0⟩ : ∃ M, M = w8.heap.size := ⟨_, rfl⟩
  have hDM : D < M0 := by rw [hM0]; exact hD8.lt
  have hLM : L < M0 := by rw [hM0]; exact hL8.lt
  have hb09 := hb08.trans (hb9.mono hb08.size)
  have HI := Lib.hid (show GensInv W D L M0 1 w9 (.slice (some ⟨g9, 0, none⟩) 1 1) from ⟨d1, ⟨0, 1, 2, 1⟩, [[1]], some ⟨g9, 0, none⟩, 1, hD8.below hb9, hL8.below hb9, HHO.out, Int.le_refl _, hb09, rfl, by
    rw [hM0]; exact one_recS HW9.out HG9.out⟩)
  clear hM0 hp9 hD8 hL8 hb08
  go_upto_region 10 with (fail)
  rw [← HW9.out, ← HG9.out]
  clear hb9 hb09
  go_wp2_with fail
  go_loopw [7, 8] (fun s7 i wr => ∃ k : Nat, k ≤ N ∧ i = .int .i64 k ∧ GensInv W D L M0 (2 * k + 1) wr s7) (fun _ i _ => N - (intOf i).toNat)
  case atStart => exact ⟨0, Nat.zero_le _, rfl, HI.out⟩
  case round =>
    obtain ⟨k, hk, rfl, d, l, cur, wa, wk, hD, hL, hho, hgen, hb, rfl, hwant⟩ := hrel
    have HH := Lib.hid hho
    have HGE := Lib.hid hgen
    have HWN := Lib.hid hwant
    clear hho hgen hwant HI HHO HF1
    by_cases hkN : k < N
    · skip
      have hkl : k < lls.length := HN.out ▸ hkN
      have k0 : decide ((k : Int) < (N : Int)) = true := by simp; omega
      have k1 : (0 : Int) ≤ (k : Int) := by omega
      have k2 : (k : Int) < (N : Int) := by omega
      obtain ⟨bb, off, ax, cx, rfl, hbb, -, hcc1, hcc2, hle, hbx⟩ := load_list HV.out hkl
      have hle2 : ∀ w', Below wr.heap.size wr w' → w'.cell? ⟨bb, off + k, none⟩ = some (.slice ax lls[k].length cx) := fun w' hw => hle w' (fun p hp => (hb.trans (hw.mono hb.size)).cell hp)
      have hbr := hbx.below hb
      have hel := HLL.out lls[k] (List.getElem_mem hkl)
      obtain ⟨b, hbb0⟩ : ∃ b, b = lls[k] := ⟨_, rfl⟩
      rw [← hbb0] at hle hbx hle2 hbr hel
      obtain ⟨M, hM⟩ : ∃ M, M = b.length := ⟨_, rfl⟩
      rw [← hM] at hle hbx hle2 hbr
      have HM := Lib.hid hM
      have kg := great_any _ _ disk0 b wr (DiskV.mk (d := disk0) (Secs.nil 0 _) (Loose.nil 0 _)) hbr.tight hel
      have HEL := Lib.hid hel
      have hl0 := hle2 wr (Below.refl _ _)
      have HLE0 := Lib.hid (fun (w' : World) (h : Below W.heap.size W w') => hle w' (fun p hp => h.cell hp))
      have HBX := Lib.hid hbx
      obtain ⟨G, hG⟩ : ∃ G, G = greatB 0 0 b := ⟨_, rfl⟩
      rw [show greatB disk0.secs.length disk0.loose.length b = greatB 0 0 b from rfl, ← hG] at kg
      have HG := Lib.hid hG
      have HLE2 := Lib.hid hle2
      clear hle hbx hM hbb0 hbb hG hle2 hel
      go_wp2_with fail
      refine kg.mono ?_
      rintro e w4 ⟨rfl, hb4⟩
      clear kg hl0
      have hD := hD.below hb4
      have hL := hL.below hb4
      have HWN := Lib.hid (HWN.out.below hb4).tight
      have hbr := hbr.below (hb4.mono hb.size)
      have hle3 : ∀ w', Below w4.heap.size w4 w' → w'.cell? ⟨bb, off + k, none⟩ = some (.slice ax M cx) := fun w' hw => HLE2.out w' (hb4.trans (hw.mono hb4.size))
      have hb := hb.trans (hb4.mono hb.size)
      clear hb4
      cases G with
      | true =>
        go_wp2_with fail
        go_ret
        exact ⟨rfl, hb⟩
      | false =>
        have hgn : greatN b 0 ≤ 20000 := by
          have hg := HG.out
          rw [greatB0] at hg
          have := of_decide_eq_false hg.symm; omega
        have HGN := Lib.hid hgn
        have hlen : M ≤ 400 := by
          have h2 := greatN_len b 0 hgn
          rw [HM.out]; omega
        clear hgn
        obtain ⟨r, hr⟩ : ∃ r, r = compactP d l b := ⟨_, rfl⟩
        have HRR := Lib.hid hr
        clear hr
        obtain ⟨da, na, db, nb, T, hv⟩ := id hD
        have L0 := fun w' (h : Below w4.heap.size w4 w') => cell_of_row w' _ 0 _ _ _ ((h.block _ (block_lt T)).trans T)
        have L1 := fun w' (h : Below w4.heap.size w4 w') => cell_of_row w' _ 1 _ _ _ ((h.block _ (block_lt T)).trans T)
        have L2 := fun w' (h : Below w4.heap.size w4 w') => cell_of_row w' _ 2 _ _ _ ((h.block _ (block_lt T)).trans T)
        have L3 := fun w' (h : Below w4.heap.size w4 w') => cell_of_row w' _ 3 _ _ _ ((h.block _ (block_lt T)).trans T)
        clear T
        have T := hL
        unfold LAt at T
        try dsimp only at T
        have Q0 := fun w' (h : Below w4.heap.size w4 w') => cell_of_row w' _ 0 _ _ _ ((h.block _ (block_lt T)).trans T)
        have Q1 := fun w' (h : Below w4.heap.size w4 w') => cell_of_row w' _ 1 _ _ _ ((h.block _ (block_lt T)).trans T)
        have Q2 := fun w' (h : Below w4.heap.size w4 w') => cell_of_row w' _ 2 _ _ _ ((h.block _ (block_lt T)).trans T)
        have Q3 := fun w' (h : Below w4.heap.size w4 w') => cell_of_row w' _ 3 _ _ _ ((h.block _ (block_lt T)).trans T)
        clear T
        go_upto_region 15 with (fail)
        go_cut [9, 10, 11] from 49 to 59 (fun s12 s13 s14 wx => DLBox w4 r wx s12 s13 s14)
        case first =>
          have s0 : Below w4.heap.size w4 w4.drew := below_draws (Below.refl _ _) 1
          refine wp_region_start (fun w' => Below w4.heap.size w4 w') (by kernel_rfl) s0 ?_
          obtain ⟨wd, hwd⟩ : ∃ wd, wd = w4.drew := ⟨_, rfl⟩
          rw [← hwd] at s0 ⊢
          clear hwd
          refine wpAnyH_part [(false, 0), (false, 1), (false, 2), (false, 3), (false, 4), (false, 5)] (by kernel_rfl) s0 ?_
          repeat (first | (refine heldI_skip rfl rfl ?_; simp only [Act.put, List.setIfInBounds_toArray, List.set_cons_zero, List.set_cons_succ]) | (refine heldI_take rfl ?_ rfl (fun w' hw' => ?_) ?_; rotate_left; (go_simp; first | done | with_reducible rfl); (try simp only [Act.put, List.setIfInBounds_toArray, List.set_cons_zero, List.set_cons_succ])))
          refine heldI_nil ?_
          refine wpAnyH_ready (rs := [6, 11, 12]) (by kernel_rfl) (by simp) ?_
          refine ready_cons rfl rfl (fun K hK => ?_) (ready_cons rfl rfl (fun K hK => ?_) (ready_cons rfl rfl (fun K hK => ?_) AllReadyH.nil))
          · skip
            have kc := compact_any _ _ d l b wd (hv.below s0).tight (show Pieces wd.heap.size wd (.slice ax M cx) b from (hbr.below (s0.mono hb.size)).tight) (by have := HH.out.half; omega) (HT.out.below (hb.trans (s0.mono hb.size)) hT) (Nat.lt_of_lt_of_le hT (Nat.le_trans hb.size s0.size)) (fun x hx => Nat.le_trans (greatN_le b 0 HGN.out x hx) (by decide)) (by rw [← HM.out]; omega)
            rw [← HRR.out] at kc
            unfold DLE at kc
            simp only [logV] at kc
            go_simp
            refine kc.mono ?_
            rintro e wt1 ⟨⟨vr, rfl, hdr⟩, hb⟩
            clear kc
            obtain ⟨r1, r2, r3, r4, rfl, _, _⟩ := hdr.parts
            have st1 := s0.trans (hb.mono s0.size)
            refine hK.out _ _ st1 ?_
            clear hK K hb
            refine wpAnyH_part [(false, 7), (false, 8), (false, 9), (false, 10)] (by kernel_rfl) st1 ?_
            repeat (first | (refine heldI_skip rfl rfl ?_; simp only [Act.put, List.setIfInBounds_toArray, List.set_cons_zero, List.set_cons_succ]) | (refine heldI_take rfl ?_ rfl (fun w' hw' => ?_) ?_; rotate_left; (go_simp; first | done | with_reducible rfl); (try simp only [Act.put, List.setIfInBounds_toArray, List.set_cons_zero, List.set_cons_succ])))
            refine heldI_nil ?_
            refine wpAnyH_ready (rs := [11, 12]) (by kernel_rfl) (by simp) ?_
            refine ready_cons rfl rfl (fun K hK => ?_) (ready_cons rfl rfl (fun K hK => ?_) AllReadyH.nil)
            · skip
              obtain ⟨wt2, ga, hw, hg, hga, hb, hlt, hle⟩ := fresh_disk wt1
              have st2 := st1.trans (hb.mono st1.size)
              have lga := Nat.le_trans st1.size hle
              have hdr := (hdr.below hb).tight
              have ltga := hlt
              refine op_alloc 25 rfl (zero_disk _) hw.out ?_
              rw [← hg.out]
              refine hK.out _ _ st2 ?_
              clear hK K hw hg hb hlt hle
              simp only [Act.put, List.setIfInBounds_toArray, List.set_cons_zero, List.set_cons_succ]
              refine wpAnyH_ready (rs := [12]) (by kernel_rfl) (by simp) ?_
              refine ready_cons rfl rfl (fun K hK => ?_) AllReadyH.nil
              · skip
                obtain ⟨wt3, gb, hw, hg, hgb, hb, hlt, hle⟩ := fresh_log wt2
                have st3 := st2.trans (hb.mono st2.size)
                have lgb := Nat.le_trans st2.size hle
                have hga := hga.below hb
                have ngagb : ga ≠ gb := Nat.ne_of_lt (Nat.lt_of_lt_of_le ltga hle)
                have ltga := Nat.lt_trans ltga (Nat.lt_of_le_of_lt hle hlt)
                have hdr := (hdr.below hb).tight
                have ltgb := hlt
                refine op_alloc 27 rfl (zero_log _) hw.out ?_
                rw [← hg.out]
                refine hK.out _ _ st3 ?_
                clear hK K hw hg hb hlt hle
                simp only [Act.put, List.setIfInBounds_toArray, List.set_cons_zero, List.set_cons_succ]
                refine wpAnyH_end [(true, 13), (true, 14), (false, 15)] (by kernel_rfl) st3 ?_
                obtain ⟨_, _, _, _, hrA⟩ := hga.row
                obtain ⟨wx, hst, hnA, hbx, hzx, hkx, _⟩ := storeBig info_disk hrA rfl #[.slice r1 r.1.secs.length r2, .slice r3 r.1.loose.length r4, .int .i64 r.1.fuse, .bool r.1.down] rfl (ones4 rfl rfl rfl rfl)
                have sx : Below w4.heap.size w4 wx := st3.trans (hbx.mono lga)
                have hA1 := hga.stored hdr hnA hkx
                refine heldI_act rfl rfl fun K hK => ?_
                refine op_store (.tmp 9) (.tmp 57) 25 rfl rfl rfl hst ?_
                refine hK.out _ _ sx ?_
                clear hK K hst
                simp only [Act.put, List.setIfInBounds_toArray, List.set_cons_zero, List.set_cons_succ]
                have nab : ga ≠ gb := ngagb
                have hrB : wx.heap[gb]? = _ := (hkx gb (Ne.symm nab)).trans hgb
                obtain ⟨wy, hst, hnB, hby2, hzy, hky, _⟩ := storeBig info_log hrB rfl #[.int .i64 r.2.1.half, .int .i64 r.2.1.gen, .int .i64 r.2.1.used, .int .i64 r.2.1.count] rfl (ones4 rfl rfl rfl rfl)
                have sy : Below w4.heap.size w4 wy := sx.trans (hby2.mono lgb)
                have hA2 := hA1.kept hrB (by simp) hky nab
                refine heldI_act rfl rfl fun K hK => ?_
                refine op_store (.tmp 10) (.tmp 58) 27 rfl rfl rfl hst ?_
                refine hK.out _ _ sy ?_
                clear hK K hst
                simp only [Act.put, List.setIfInBounds_toArray, List.set_cons_zero, List.set_cons_succ]
                repeat (first | (refine heldI_skip rfl rfl ?_; simp only [Act.put, List.setIfInBounds_toArray, List.set_cons_zero, List.set_cons_succ]) | (refine heldI_take rfl ?_ rfl (fun w' hw' => ?_) ?_; rotate_left; (go_simp; first | done | with_reducible rfl); (try simp only [Act.put, List.setIfInBounds_toArray, List.set_cons_zero, List.set_cons_succ])))
                refine heldI_nil ?_
                clear hzx hkx hzy hky hrA hrB hdr
                go_wp2_with fail
                go_meet
                case rel => exact ⟨ga, gb, rfl, rfl, rfl, lga, lgb, nab, hA2, hnB, sy⟩
            · skip
              obtain ⟨wt4, gb, hw, hg, hgb, hb, hlt, hle⟩ := fresh_log wt1
              have st4 := st1.trans (hb.mono st1.size)
              have lgb := Nat.le_trans st1.size hle
              have hdr := (hdr.below hb).tight
              have ltgb := hlt
              refine op_alloc 27 rfl (zero_log _) hw.out ?_
              rw [← hg.out]
              refine hK.out _ _ st4 ?_
              clear hK K hw hg hb hlt hle
              simp only [Act.put, List.setIfInBounds_toArray, List.set_cons_zero, List.set_cons_succ]
              refine wpAnyH_ready (rs := [11]) (by kernel_rfl) (by simp) ?_
              refine ready_cons rfl rfl (fun K hK => ?_) AllReadyH.nil
              · skip
                obtain ⟨wt5, ga, hw, hg, hga, hb, hlt, hle⟩ := fresh_disk wt4
                have st5 := st4.trans (hb.mono st4.size)
                have lga := Nat.le_trans st4.size hle
                have hgb := hgb.below hb
                have ngbga : gb ≠ ga := Nat.ne_of_lt (Nat.lt_of_lt_of_le ltgb hle)
                have ltgb := Nat.lt_trans ltgb (Nat.lt_of_le_of_lt hle hlt)
                have hdr := (hdr.below hb).tight
                have ltga := hlt
                refine op_alloc 25 rfl (zero_disk _) hw.out ?_
                rw [← hg.out]
                refine hK.out _ _ st5 ?_
                clear hK K hw hg hb hlt hle
                simp only [Act.put, List.setIfInBounds_toArray, List.set_cons_zero, List.set_cons_succ]
                refine wpAnyH_end [(true, 13), (true, 14), (false, 15)] (by kernel_rfl) st5 ?_
                obtain ⟨_, _, _, _, hrA⟩ := hga.row
                obtain ⟨wx, hst, hnA, hbx, hzx, hkx, _⟩ := storeBig info_disk hrA rfl #[.slice r1 r.1.secs.length r2, .slice r3 r.1.loose.length r4, .int .i64 r.1.fuse, .bool r.1.down] rfl (ones4 rfl rfl rfl rfl)
                have sx : Below w4.heap.size w4 wx := st5.trans (hbx.mono lga)
                have hA1 := hga.stored hdr hnA hkx
                refine heldI_act rfl rfl fun K hK => ?_
                refine op_store (.tmp 9) (.tmp 57) 25 rfl rfl rfl hst ?_
                refine hK.out _ _ sx ?_
                clear hK K hst
                simp only [Act.put, List.setIfInBounds_toArray, List.set_cons_zero, List.set_cons_succ]
                have nab : ga ≠ gb := Ne.symm ngbga
                have hrB : wx.heap[gb]? = _ := (hkx gb (Ne.symm nab)).trans hgb
                obtain ⟨wy, hst, hnB, hby2, hzy, hky, _⟩ := storeBig info_log hrB rfl #[.int .i64 r.2.1.half, .int .i64 r.2.1.gen, .int .i64 r.2.1.used, .int .i64 r.2.1.count] rfl (ones4 rfl rfl rfl rfl)
                have sy : Below w4.heap.size w4 wy := sx.trans (hby2.mono lgb)
                have hA2 := hA1.kept hrB (by simp) hky nab
                refine heldI_act rfl rfl fun K hK => ?_
                refine op_store (.tmp 10) (.tmp 58) 27 rfl rfl rfl hst ?_
                refine hK.out _ _ sy ?_
                clear hK K hst
                simp only [Act.put, List.setIfInBounds_toArray, List.set_cons_zero, List.set_cons_succ]
                repeat (first | (refine heldI_skip rfl rfl ?_; simp only [Act.put, List.setIfInBounds_toArray, List.set_cons_zero, List.set_cons_succ]) | (refine heldI_take rfl ?_ rfl (fun w' hw' => ?_) ?_; rotate_left; (go_simp; first | done | with_reducible rfl); (try simp only [Act.put, List.setIfInBounds_toArray, List.set_cons_zero, List.set_cons_succ])))
                refine heldI_nil ?_
                clear hzx hkx hzy hky hrA hrB hdr
                go_wp2_with fail
                go_meet
                case rel => exact ⟨ga, gb, rfl, rfl, rfl, lga, lgb, nab, hA2, hnB, sy⟩
          · skip
            obtain ⟨wt6, ga, hw, hg, hga, hb, hlt, hle⟩ := fresh_disk wd
            have st6 := s0.trans (hb.mono s0.size)
            have lga := Nat.le_trans s0.size hle
            have ltga := hlt
            refine op_alloc 25 rfl (zero_disk _) hw.out ?_
            rw [← hg.out]
            refine hK.out _ _ st6 ?_
            clear hK K hw hg hb hlt hle
            simp only [Act.put, List.setIfInBounds_toArray, List.set_cons_zero, List.set_cons_succ]
            refine wpAnyH_ready (rs := [6, 12]) (by kernel_rfl) (by simp) ?_
            refine ready_cons rfl rfl (fun K hK => ?_) (ready_cons rfl rfl (fun K hK => ?_) AllReadyH.nil)
            · skip
              have kc := compact_any _ _ d l b wt6 (hv.below st6).tight (show Pieces wt6.heap.size wt6 (.slice ax M cx) b from (hbr.below (st6.mono hb.size)).tight) (by have := HH.out.half; omega) (HT.out.below (hb.trans (st6.mono hb.size)) hT) (Nat.lt_of_lt_of_le hT (Nat.le_trans hb.size st6.size)) (fun x hx => Nat.le_trans (greatN_le b 0 HGN.out x hx) (by decide)) (by rw [← HM.out]; omega)
              rw [← HRR.out] at kc
              unfold DLE at kc
              simp only [logV] at kc
              go_simp
              refine kc.mono ?_
              rintro e wt7 ⟨⟨vr, rfl, hdr⟩, hb⟩
              clear kc
              obtain ⟨r1, r2, r3, r4, rfl, _, _⟩ := hdr.parts
              have st7 := st6.trans (hb.mono st6.size)
              have hga := hga.below hb
              have ltga := Nat.lt_of_lt_of_le ltga hb.size
              refine hK.out _ _ st7 ?_
              clear hK K hb
              refine wpAnyH_part [(false, 7), (false, 8), (false, 9), (false, 10)] (by kernel_rfl) st7 ?_
              repeat (first | (refine heldI_skip rfl rfl ?_; simp only [Act.put, List.setIfInBounds_toArray, List.set_cons_zero, List.set_cons_succ]) | (refine heldI_take rfl ?_ rfl (fun w' hw' => ?_) ?_; rotate_left; (go_simp; first | done | with_reducible rfl); (try simp only [Act.put, List.setIfInBounds_toArray, List.set_cons_zero, List.set_cons_succ])))
              refine heldI_nil ?_
              refine wpAnyH_ready (rs := [12]) (by kernel_rfl) (by simp) ?_
              refine ready_cons rfl rfl (fun K hK => ?_) AllReadyH.nil
              · skip
                obtain ⟨wt8, gb, hw, hg, hgb, hb, hlt, hle⟩ := fresh_log wt7
                have st8 := st7.trans (hb.mono st7.size)
                have lgb := Nat.le_trans st7.size hle
                have hga := hga.below hb
                have ngagb : ga ≠ gb := Nat.ne_of_lt (Nat.lt_of_lt_of_le ltga hle)
                have ltga := Nat.lt_trans ltga (Nat.lt_of_le_of_lt hle hlt)
                have hdr := (hdr.below hb).tight
                have ltgb := hlt
                refine op_alloc 27 rfl (zero_log _) hw.out ?_
                rw [← hg.out]
                refine hK.out _ _ st8 ?_
                clear hK K hw hg hb hlt hle
                simp only [Act.put, List.setIfInBounds_toArray, List.set_cons_zero, List.set_cons_succ]
                refine wpAnyH_end [(true, 13), (true, 14), (false, 15)] (by kernel_rfl) st8 ?_
                obtain ⟨_, _, _, _, hrA⟩ := hga.row
                obtain ⟨wx, hst, hnA, hbx, hzx, hkx, _⟩ := storeBig info_disk hrA rfl #[.slice r1 r.1.secs.length r2, .slice r3 r.1.loose.length r4, .int .i64 r.1.fuse, .bool r.1.down] rfl (ones4 rfl rfl rfl rfl)
                have sx : Below w4.heap.size w4 wx := st8.trans (hbx.mono lga)
                have hA1 := hga.stored hdr hnA hkx
                refine heldI_act rfl rfl fun K hK => ?_
                refine op_store (.tmp 9) (.tmp 57) 25 rfl rfl rfl hst ?_
                refine hK.out _ _ sx ?_
                clear hK K hst
                simp only [Act.put, List.setIfInBounds_toArray, List.set_cons_zero, List.set_cons_succ]
                have nab : ga ≠ gb := ngagb
                have hrB : wx.heap[gb]? = _ := (hkx gb (Ne.symm nab)).trans hgb
                obtain ⟨wy, hst, hnB, hby2, hzy, hky, _⟩ := storeBig info_log hrB rfl #[.int .i64 r.2.1.half, .int .i64 r.2.1.gen, .int .i64 r.2.1.used, .int .i64 r.2.1.count] rfl (ones4 rfl rfl rfl rfl)
                have sy : Below w4.heap.size w4 wy := sx.trans (hby2.mono lgb)
                have hA2 := hA1.kept hrB (by simp) hky nab
                refine heldI_act rfl rfl fun K hK => ?_
                refine op_store (.tmp 10) (.tmp 58) 27 rfl rfl rfl hst ?_
                refine hK.out _ _ sy ?_
                clear hK K hst
                simp only [Act.put, List.setIfInBounds_toArray, List.set_cons_zero, List.set_cons_succ]
                repeat (first | (refine heldI_skip rfl rfl ?_; simp only [Act.put, List.setIfInBounds_toArray, List.set_cons_zero, List.set_cons_succ]) | (refine heldI_take rfl ?_ rfl (fun w' hw' => ?_) ?_; rotate_left; (go_simp; first | done | with_reducible rfl); (try simp only [Act.put, List.setIfInBounds_toArray, List.set_cons_zero, List.set_cons_succ])))
                refine heldI_nil ?_
                clear hzx hkx hzy hky hrA hrB hdr
                go_wp2_with fail
                go_meet
                case rel => exact ⟨ga, gb, rfl, rfl, rfl, lga, lgb, nab, hA2, hnB, sy⟩
            · skip
              obtain ⟨wt9, gb, hw, hg, hgb, hb, hlt, hle⟩ := fresh_log wt6
              have st9 := st6.trans (hb.mono st6.size)
              have lgb := Nat.le_trans st6.size hle
              have hga := hga.below hb
              have ngagb : ga ≠ gb := Nat.ne_of_lt (Nat.lt_of_lt_of_le ltga hle)
              have ltga := Nat.lt_trans ltga (Nat.lt_of_le_of_lt hle hlt)
              have ltgb := hlt
              refine op_alloc 27 rfl (zero_log _) hw.out ?_
              rw [← hg.out]
              refine hK.out _ _ st9 ?_
              clear hK K hw hg hb hlt hle
              simp only [Act.put, List.setIfInBounds_toArray, List.set_cons_zero, List.set_cons_succ]
              refine wpAnyH_ready (rs := [6]) (by kernel_rfl) (by simp) ?_
              refine ready_cons rfl rfl (fun K hK => ?_) AllReadyH.nil
              · skip
                have kc := compact_any _ _ d l b wt9 (hv.below st9).tight (show Pieces wt9.heap.size wt9 (.slice ax M cx) b from (hbr.below (st9.mono hb.size)).tight) (by have := HH.out.half; omega) (HT.out.below (hb.trans (st9.mono hb.size)) hT) (Nat.lt_of_lt_of_le hT (Nat.le_trans hb.size st9.size)) (fun x hx => Nat.le_trans (greatN_le b 0 HGN.out x hx) (by decide)) (by rw [← HM.out]; omega)
                rw [← HRR.out] at kc
                unfold DLE at kc
                simp only [logV] at kc
                go_simp
                refine kc.mono ?_
                rintro e wt10 ⟨⟨vr, rfl, hdr⟩, hb⟩
                clear kc
                obtain ⟨r1, r2, r3, r4, rfl, _, _⟩ := hdr.parts
                have st10 := st9.trans (hb.mono st9.size)
                have hga := hga.below hb
                have ltga := Nat.lt_of_lt_of_le ltga hb.size
                have hgb := hgb.below hb
                have ltgb := Nat.lt_of_lt_of_le ltgb hb.size
                refine hK.out _ _ st10 ?_
                clear hK K hb
                refine wpAnyH_part [(false, 7), (false, 8), (false, 9), (false, 10)] (by kernel_rfl) st10 ?_
                repeat (first | (refine heldI_skip rfl rfl ?_; simp only [Act.put, List.setIfInBounds_toArray, List.set_cons_zero, List.set_cons_succ]) | (refine heldI_take rfl ?_ rfl (fun w' hw' => ?_) ?_; rotate_left; (go_simp; first | done | with_reducible rfl); (try simp only [Act.put, List.setIfInBounds_toArray, List.set_cons_zero, List.set_cons_succ])))
                refine heldI_nil ?_
                refine wpAnyH_end [(true, 13), (true, 14), (false, 15)] (by kernel_rfl) st10 ?_
                obtain ⟨_, _, _, _, hrA⟩ := hga.row
                obtain ⟨wx, hst, hnA, hbx, hzx, hkx, _⟩ := storeBig info_disk hrA rfl #[.slice r1 r.1.secs.length r2, .slice r3 r.1.loose.length r4, .int .i64 r.1.fuse, .bool r.1.down] rfl (ones4 rfl rfl rfl rfl)
                have sx : Below w4.heap.size w4 wx := st10.trans (hbx.mono lga)
                have hA1 := hga.stored hdr hnA hkx
                refine heldI_act rfl rfl fun K hK => ?_
                refine op_store (.tmp 9) (.tmp 57) 25 rfl rfl rfl hst ?_
                refine hK.out _ _ sx ?_
                clear hK K hst
                simp only [Act.put, List.setIfInBounds_toArray, List.set_cons_zero, List.set_cons_succ]
                have nab : ga ≠ gb := ngagb
                have hrB : wx.heap[gb]? = _ := (hkx gb (Ne.symm nab)).trans hgb
                obtain ⟨wy, hst, hnB, hby2, hzy, hky, _⟩ := storeBig info_log hrB rfl #[.int .i64 r.2.1.half, .int .i64 r.2.1.gen, .int .i64 r.2.1.used, .int .i64 r.2.1.count] rfl (ones4 rfl rfl rfl rfl)
                have sy : Below w4.heap.size w4 wy := sx.trans (hby2.mono lgb)
                have hA2 := hA1.kept hrB (by simp) hky nab
                refine heldI_act rfl rfl fun K hK => ?_
                refine op_store (.tmp 10) (.tmp 58) 27 rfl rfl rfl hst ?_
                refine hK.out _ _ sy ?_
                clear hK K hst
                simp only [Act.put, List.setIfInBounds_toArray, List.set_cons_zero, List.set_cons_succ]
                repeat (first | (refine heldI_skip rfl rfl ?_; simp only [Act.put, List.setIfInBounds_toArray, List.set_cons_zero, List.set_cons_succ]) | (refine heldI_take rfl ?_ rfl (fun w' hw' => ?_) ?_; rotate_left; (go_simp; first | done | with_reducible rfl); (try simp only [Act.put, List.setIfInBounds_toArray, List.set_cons_zero, List.set_cons_succ])))
                refine heldI_nil ?_
                clear hzx hkx hzy hky hrA hrB hdr
                go_wp2_with fail
                go_meet
                case rel => exact ⟨ga, gb, rfl, rfl, rfl, lga, lgb, nab, hA2, hnB, sy⟩
          · skip
            obtain ⟨wt11, gb, hw, hg, hgb, hb, hlt, hle⟩ := fresh_log wd
            have st11 := s0.trans (hb.mono s0.size)
            have lgb := Nat.le_trans s0.size hle
            have ltgb := hlt
            refine op_alloc 27 rfl (zero_log _) hw.out ?_
            rw [← hg.out]
            refine hK.out _ _ st11 ?_
            clear hK K hw hg hb hlt hle
            simp only [Act.put, List.setIfInBounds_toArray, List.set_cons_zero, List.set_cons_succ]
            refine wpAnyH_ready (rs := [6, 11]) (by kernel_rfl) (by simp) ?_
            refine ready_cons rfl rfl (fun K hK => ?_) (ready_cons rfl rfl (fun K hK => ?_) AllReadyH.nil)
            · skip
              have kc := compact_any _ _ d l b wt11 (hv.below st11).tight (show Pieces wt11.heap.size wt11 (.slice ax M cx) b from (hbr.below (st11.mono hb.size)).tight) (by have := HH.out.half; omega) (HT.out.below (hb.trans (st11.mono hb.size)) hT) (Nat.lt_of_lt_of_le hT (Nat.le_trans hb.size st11.size)) (fun x hx => Nat.le_trans (greatN_le b 0 HGN.out x hx) (by decide)) (by rw [← HM.out]; omega)
              rw [← HRR.out] at kc
              unfold DLE at kc
              simp only [logV] at kc
              go_simp
              refine kc.mono ?_
              rintro e wt12 ⟨⟨vr, rfl, hdr⟩, hb⟩
              clear kc
              obtain ⟨r1, r2, r3, r4, rfl, _, _⟩ := hdr.parts
              have st12 := st11.trans (hb.mono st11.size)
              have hgb := hgb.below hb
              have ltgb := Nat.lt_of_lt_of_le ltgb hb.size
              refine hK.out _ _ st12 ?_
              clear hK K hb
              refine wpAnyH_part [(false, 7), (false, 8), (false, 9), (false, 10)] (by kernel_rfl) st12 ?_
              repeat (first | (refine heldI_skip rfl rfl ?_; simp only [Act.put, List.setIfInBounds_toArray, List.set_cons_zero, List.set_cons_succ]) | (refine heldI_take rfl ?_ rfl (fun w' hw' => ?_) ?_; rotate_left; (go_simp; first | done | with_reducible rfl); (try simp only [Act.put, List.setIfInBounds_toArray, List.set_cons_zero, List.set_cons_succ])))
              refine heldI_nil ?_
              refine wpAnyH_ready (rs := [11]) (by kernel_rfl) (by simp) ?_
              refine ready_cons rfl rfl (fun K hK => ?_) AllReadyH.nil
              · skip
                obtain ⟨wt13, ga, hw, hg, hga, hb, hlt, hle⟩ := fresh_disk wt12
                have st13 := st12.trans (hb.mono st12.size)
                have lga := Nat.le_trans st12.size hle
                have hgb := hgb.below hb
                have ngbga : gb ≠ ga := Nat.ne_of_lt (Nat.lt_of_lt_of_le ltgb hle)
                have ltgb := Nat.lt_trans ltgb (Nat.lt_of_le_of_lt hle hlt)
                have hdr := (hdr.below hb).tight
                have ltga := hlt
                refine op_alloc 25 rfl (zero_disk _) hw.out ?_
                rw [← hg.out]
                refine hK.out _ _ st13 ?_
                clear hK K hw hg hb hlt hle
                simp only [Act.put, List.setIfInBounds_toArray, List.set_cons_zero, List.set_cons_succ]
                refine wpAnyH_end [(true, 13), (true, 14), (false, 15)] (by kernel_rfl) st13 ?_
                obtain ⟨_, _, _, _, hrA⟩ := hga.row
                obtain ⟨wx, hst, hnA, hbx, hzx, hkx, _⟩ := storeBig info_disk hrA rfl #[.slice r1 r.1.secs.length r2, .slice r3 r.1.loose.length r4, .int .i64 r.1.fuse, .bool r.1.down] rfl (ones4 rfl rfl rfl rfl)
                have sx : Below w4.heap.size w4 wx := st13.trans (hbx.mono lga)
                have hA1 := hga.stored hdr hnA hkx
                refine heldI_act rfl rfl fun K hK => ?_
                refine op_store (.tmp 9) (.tmp 57) 25 rfl rfl rfl hst ?_
                refine hK.out _ _ sx ?_
                clear hK K hst
                simp only [Act.put, List.setIfInBounds_toArray, List.set_cons_zero, List.set_cons_succ]
                have nab : ga ≠ gb := Ne.symm ngbga
                have hrB : wx.heap[gb]? = _ := (hkx gb (Ne.symm nab)).trans hgb
                obtain ⟨wy, hst, hnB, hby2, hzy, hky, _⟩ := storeBig info_log hrB rfl #[.int .i64 r.2.1.half, .int .i64 r.2.1.gen, .int .i64 r.2.1.used, .int .i64 r.2.1.count] rfl (ones4 rfl rfl rfl rfl)
                have sy : Below w4.heap.size w4 wy := sx.trans (hby2.mono lgb)
                have hA2 := hA1.kept hrB (by simp) hky nab
                refine heldI_act rfl rfl fun K hK => ?_
                refine op_store (.tmp 10) (.tmp 58) 27 rfl rfl rfl hst ?_
                refine hK.out _ _ sy ?_
                clear hK K hst
                simp only [Act.put, List.setIfInBounds_toArray, List.set_cons_zero, List.set_cons_succ]
                repeat (first | (refine heldI_skip rfl rfl ?_; simp only [Act.put, List.setIfInBounds_toArray, List.set_cons_zero, List.set_cons_succ]) | (refine heldI_take rfl ?_ rfl (fun w' hw' => ?_) ?_; rotate_left; (go_simp; first | done | with_reducible rfl); (try simp only [Act.put, List.setIfInBounds_toArray, List.set_cons_zero, List.set_cons_succ])))
                refine heldI_nil ?_
                clear hzx hkx hzy hky hrA hrB hdr
                go_wp2_with fail
                go_meet
                case rel => exact ⟨ga, gb, rfl, rfl, rfl, lga, lgb, nab, hA2, hnB, sy⟩
            · skip
              obtain ⟨wt14, ga, hw, hg, hga, hb, hlt, hle⟩ := fresh_disk wt11
              have st14 := st11.trans (hb.mono st11.size)
              have lga := Nat.le_trans st11.size hle
              have hgb := hgb.below hb
              have ngbga : gb ≠ ga := Nat.ne_of_lt (Nat.lt_of_lt_of_le ltgb hle)
              have ltgb := Nat.lt_trans ltgb (Nat.lt_of_le_of_lt hle hlt)
              have ltga := hlt
              refine op_alloc 25 rfl (zero_disk _) hw.out ?_
              rw [← hg.out]
              refine hK.out _ _ st14 ?_
              clear hK K hw hg hb hlt hle
              simp only [Act.put, List.setIfInBounds_toArray, List.set_cons_zero, List.set_cons_succ]
              refine wpAnyH_ready (rs := [6]) (by kernel_rfl) (by simp) ?_
              refine ready_cons rfl rfl (fun K hK => ?_) AllReadyH.nil
              · skip
                have kc := compact_any _ _ d l b wt14 (hv.below st14).tight (show Pieces wt14.heap.size wt14 (.slice ax M cx) b from (hbr.below (st14.mono hb.size)).tight) (by have := HH.out.half; omega) (HT.out.below (hb.trans (st14.mono hb.size)) hT) (Nat.lt_of_lt_of_le hT (Nat.le_trans hb.size st14.size)) (fun x hx => Nat.le_trans (greatN_le b 0 HGN.out x hx) (by decide)) (by rw [← HM.out]; omega)
                rw [← HRR.out] at kc
                unfold DLE at kc
                simp only [logV] at kc
                go_simp
                refine kc.mono ?_
                rintro e wt15 ⟨⟨vr, rfl, hdr⟩, hb⟩
                clear kc
                obtain ⟨r1, r2, r3, r4, rfl, _, _⟩ := hdr.parts
                have st15 := st14.trans (hb.mono st14.size)
                have hgb := hgb.below hb
                have ltgb := Nat.lt_of_lt_of_le ltgb hb.size
                have hga := hga.below hb
                have ltga := Nat.lt_of_lt_of_le ltga hb.size
                refine hK.out _ _ st15 ?_
                clear hK K hb
                refine wpAnyH_part [(false, 7), (false, 8), (false, 9), (false, 10)] (by kernel_rfl) st15 ?_
                repeat (first | (refine heldI_skip rfl rfl ?_; simp only [Act.put, List.setIfInBounds_toArray, List.set_cons_zero, List.set_cons_succ]) | (refine heldI_take rfl ?_ rfl (fun w' hw' => ?_) ?_; rotate_left; (go_simp; first | done | with_reducible rfl); (try simp only [Act.put, List.setIfInBounds_toArray, List.set_cons_zero, List.set_cons_succ])))
                refine heldI_nil ?_
                refine wpAnyH_end [(true, 13), (true, 14), (false, 15)] (by kernel_rfl) st15 ?_
                obtain ⟨_, _, _, _, hrA⟩ := hga.row
                obtain ⟨wx, hst, hnA, hbx, hzx, hkx, _⟩ := storeBig info_disk hrA rfl #[.slice r1 r.1.secs.length r2, .slice r3 r.1.loose.length r4, .int .i64 r.1.fuse, .bool r.1.down] rfl (ones4 rfl rfl rfl rfl)
                have sx : Below w4.heap.size w4 wx := st15.trans (hbx.mono lga)
                have hA1 := hga.stored hdr hnA hkx
                refine heldI_act rfl rfl fun K hK => ?_
                refine op_store (.tmp 9) (.tmp 57) 25 rfl rfl rfl hst ?_
                refine hK.out _ _ sx ?_
                clear hK K hst
                simp only [Act.put, List.setIfInBounds_toArray, List.set_cons_zero, List.set_cons_succ]
                have nab : ga ≠ gb := Ne.symm ngbga
                have hrB : wx.heap[gb]? = _ := (hkx gb (Ne.symm nab)).trans hgb
                obtain ⟨wy, hst, hnB, hby2, hzy, hky, _⟩ := storeBig info_log hrB rfl #[.int .i64 r.2.1.half, .int .i64 r.2.1.gen, .int .i64 r.2.1.used, .int .i64 r.2.1.count] rfl (ones4 rfl rfl rfl rfl)
                have sy : Below w4.heap.size w4 wy := sx.trans (hby2.mono lgb)
                have hA2 := hA1.kept hrB (by simp) hky nab
                refine heldI_act rfl rfl fun K hK => ?_
                refine op_store (.tmp 10) (.tmp 58) 27 rfl rfl rfl hst ?_
                refine hK.out _ _ sy ?_
                clear hK K hst
                simp only [Act.put, List.setIfInBounds_toArray, List.set_cons_zero, List.set_cons_succ]
                repeat (first | (refine heldI_skip rfl rfl ?_; simp only [Act.put, List.setIfInBounds_toArray, List.set_cons_zero, List.set_cons_succ]) | (refine heldI_take rfl ?_ rfl (fun w' hw' => ?_) ?_; rotate_left; (go_simp; first | done | with_reducible rfl); (try simp only [Act.put, List.setIfInBounds_toArray, List.set_cons_zero, List.set_cons_succ])))
                refine heldI_nil ?_
                clear hzx hkx hzy hky hrA hrB hdr
                go_wp2_with fail
                go_meet
                case rel => exact ⟨ga, gb, rfl, rfl, rfl, lga, lgb, nab, hA2, hnB, sy⟩
        case rest =>
          obtain ⟨ga, gb, rfl, rfl, rfl, lga, lgb, nab, hA, hB, hb13⟩ := hcut
          have hDlt := hD.lt
          have hLlt := hL.lt
          have nDa : D ≠ ga := by omega
          have nDb : D ≠ gb := by omega
          have nLa : L ≠ ga := by omega
          have nLb : L ≠ gb := by omega
          have hD := hD.below hb13
          have hL := hL.below hb13
          have hbc := hb.trans (hb13.mono hb.size)
          have HWN := Lib.hid (HWN.out.below hb13).tight
          have hle4 : ∀ w', Below wc.heap.size wc w' → w'.cell? ⟨bb, off + k, none⟩ = some (.slice ax M cx) := fun w' hw => hle3 w' (hb13.trans (hw.mono hb13.size))
          clear hle3 lga lgb hDlt hLlt hb13 hv
          clear L0 L1 L2 L3 Q0 Q1 Q2 Q3
          obtain ⟨wq, hwq⟩ : ∃ w, w = wc := ⟨_, rfl⟩
          rw [← hwq] at hA hB hD hL hbc HWN hle4 ⊢
          clear hwq hb
          go_upto_if 61 with (fail)
          go_cut [7] from 60 to 91 (fun s7 wx => GensInv W D L M0 (2 * k + 2) wx s7)
          case first =>
            have hg40 : l.gen < 1099511627776 := by have := HGE.out; omega
            rcases compact_holds HH.out hg40 b with hbad | ⟨c1, c2, c3, c4, c5, c6⟩
            · have hcase : (r.1 = d ∧ r.2.1 = l) ∧ (r.2.2 != 0) = true := by
                rcases hbad with ⟨_, h⟩ | ⟨_, h⟩
                · rw [HRR.out, h]; exact ⟨⟨rfl, rfl⟩, rfl⟩
                · rw [HRR.out, h]; exact ⟨⟨rfl, rfl⟩, rfl⟩
              have q1 : (r.2.2 == 0) = false := by
                have := hcase.2
                cases h : (r.2.2 == 0) with
                | false => rfl
                | true => rw [beq_iff_eq.1 h] at this; exact absurd this (by decide)
              have HM0 := Lib.hid (show GensInv W D L M0 (2 * k + 2) wq (.slice wa cur.length wk) from ⟨d, l, cur, wa, wk, hD, hL, HH.out, by have := HGE.out; omega, hbc, rfl, HWN.out⟩)
              clear hbad hcase hg40
              go_wp2_with fail
              go_meet
              case rel => exact HM0.out
            · rw [← HRR.out] at c4 c5 c6
              obtain ⟨rd, rl, re⟩ := r
              dsimp only at c4 c5 c6 hA hB
              subst c4
              subst c5
              have HX := Lib.hid c6
              have hhb : 0 ≤ l.half ∧ l.half ≤ 1 := by have := HH.out.half; omega
              obtain ⟨hh0, hh1⟩ := hhb
              have hgg : 0 ≤ l.gen ∧ l.gen ≤ 100 := by have := HH.out.gen0; have := HGE.out; omega
              obtain ⟨hg0, hg1⟩ := hgg
              have hw1 : IntKind.i64.wrap (l.gen + 1) = l.gen + 1 := by
                simp only [IntKind.wrap, IntKind.bits, IntKind.signed]
                simp
                omega
              have hw2 : IntKind.i64.wrap (1 - l.half) = 1 - l.half := by
                simp only [IntKind.wrap, IntKind.bits, IntKind.signed]
                simp
                omega
              have HML := Lib.hid HM.out
              rw [← HM.out] at hB
              have TB := hB
              unfold LAt at TB
              have TL := hL
              unfold LAt at TL
              have h00 : Below wq.heap.size wq wq.drew := below_draws (Below.refl _ _) 1
              have X0 := fun w' (h : Below wq.heap.size wq w') => cell_of_row w' _ 0 _ _ _ ((h.block _ (block_lt TB)).trans TB)
              have X1 := fun w' (h : Below wq.heap.size wq w') => cell_of_row w' _ 1 _ _ _ ((h.block _ (block_lt TB)).trans TB)
              have X3 := fun w' (h : Below wq.heap.size wq w') => cell_of_row w' _ 3 _ _ _ ((h.block _ (block_lt TB)).trans TB)
              have Y0 := fun w' (h : Below wq.heap.size wq w') => cell_of_row w' _ 0 _ _ _ ((h.block _ (block_lt TL)).trans TL)
              have Y1 := fun w' (h : Below wq.heap.size wq w') => cell_of_row w' _ 1 _ _ _ ((h.block _ (block_lt TL)).trans TL)
              try dsimp only at X0 X1 X3 Y0 Y1
              have HB2 := Lib.hid hB
              have HL2 := Lib.hid hL
              have HLE4 := Lib.hid hle4
              clear c1 c2 c3 c6 TB TL hB hL hg40
              go_upto_region 17 with (fail)
              go_cut [85] from 62 to 85 (fun s wx => s = .bool false ∧ wx = wq.drew)
              case first =>
                refine wp_region_I [(false, 0), (false, 1), (false, 2), (false, 3), (false, 4), (false, 5), (false, 6), (false, 7), (false, 8), (false, 9), (false, 10), (false, 11), (false, 12), (false, 13), (false, 14), (false, 15), (false, 16), (false, 17), (false, 18), (false, 19), (false, 20), (false, 21), (false, 22), (false, 23)] (fun w' => Below wq.heap.size wq w') (by kernel_rfl) (by kernel_rfl) h00 ?_
                repeat (first | (refine heldI_skip rfl rfl ?_; simp only [Act.put, List.setIfInBounds_toArray, List.set_cons_zero, List.set_cons_succ]) | (refine heldI_take rfl ?_ rfl (fun w' hw' => ?_) ?_; rotate_left; (go_simp; first | done | with_reducible rfl); (try simp only [Act.put, List.setIfInBounds_toArray, List.set_cons_zero, List.set_cons_succ])))
                refine heldI_nil ?_
                go_wp2_with fail
                go_meet
                case rel => exact ⟨rfl, rfl⟩
              case rest =>
                obtain ⟨rfl, rfl⟩ := hcut
                have hA := hA.below h00
                have hB := HB2.out.below h00
                have hD := hD.below h00
                have hL := HL2.out.below h00
                have hbc := hbc.trans (h00.mono hbc.size)
                have hle4 : ∀ w', Below wq.drew.heap.size wq.drew w' → w'.cell? ⟨bb, off + k, none⟩ = some (.slice ax M cx) := fun w' hw => HLE4.out w' (h00.trans (hw.mono h00.size))
                clear X0 X1 X3 Y0 Y1 hw1 hw2
                obtain ⟨wq1, hwq1⟩ : ∃ w, w = wq.drew := ⟨_, rfl⟩
                rw [← hwq1] at hA hB hD hL hbc hle4 ⊢
                clear hwq1 h00
                have hleW : ∀ w', Below W.heap.size W w' → w'.cell? ⟨bb, off + k, none⟩ = some (.slice ax M cx) := HLE0.out
                clear hle4
                go_upto_region 19 with (fail)
                obtain ⟨xa, xn, xb, xm, TA, hvA⟩ := id hA
                have TB := hB
                unfold LAt at TB
                obtain ⟨oa, hoa⟩ : ∃ o, o = Obj.cells #[.slice xa (rd : DiskP).secs.length xn, .slice xb (rd : DiskP).loose.length xm, .int .i64 (rd : DiskP).fuse, .bool (rd : DiskP).down] 25 (0, 0) := ⟨_, rfl⟩
                obtain ⟨ob, hob⟩ : ∃ o, o = Obj.cells #[.int .i64 (⟨1 - l.half, l.gen + 1, posN b, M⟩ : LogP).half, .int .i64 (⟨1 - l.half, l.gen + 1, posN b, M⟩ : LogP).gen, .int .i64 (⟨1 - l.half, l.gen + 1, posN b, M⟩ : LogP).used, .int .i64 (⟨1 - l.half, l.gen + 1, posN b, M⟩ : LogP).count] 27 (0, 0) := ⟨_, rfl⟩
                have t0 : Two ga gb oa ob wq1.drew := ⟨by rw [hoa]; exact TA, by rw [hob]; exact TB⟩
                have L0 := fun w' (h : TwoW W ga gb oa ob w') => cell_of_row w' _ 0 _ _ _ (h.1.1.trans (congrArg some hoa))
                have L1 := fun w' (h : TwoW W ga gb oa ob w') => cell_of_row w' _ 1 _ _ _ (h.1.1.trans (congrArg some hoa))
                have L2 := fun w' (h : TwoW W ga gb oa ob w') => cell_of_row w' _ 2 _ _ _ (h.1.1.trans (congrArg some hoa))
                have L3 := fun w' (h : TwoW W ga gb oa ob w') => cell_of_row w' _ 3 _ _ _ (h.1.1.trans (congrArg some hoa))
                have Q0 := fun w' (h : TwoW W ga gb oa ob w') => cell_of_row w' _ 0 _ _ _ (h.1.2.trans (congrArg some hob))
                have Q1 := fun w' (h : TwoW W ga gb oa ob w') => cell_of_row w' _ 1 _ _ _ (h.1.2.trans (congrArg some hob))
                have Q2 := fun w' (h : TwoW W ga gb oa ob w') => cell_of_row w' _ 2 _ _ _ (h.1.2.trans (congrArg some hob))
                have Q3 := fun w' (h : TwoW W ga gb oa ob w') => cell_of_row w' _ 3 _ _ _ (h.1.2.trans (congrArg some hob))
                try dsimp only at L0 L1 L2 L3 Q0 Q1 Q2 Q3
                have hbd : Below wq1.heap.size wq1 wq1.drew := below_draws (Below.refl _ _) 1
                have hD1 := hD.below hbd
                have hL1 := hL.below hbd
                have hv1 := (hvA.below hbd).tight
                have hbc1 := hbc.trans (hbd.mono hbc.size)
                obtain ⟨_, _, _, _, hrD⟩ := hD1.row
                obtain ⟨wx, hst1, hnD, hbx, -, hkx, -⟩ := storeBig info_disk hrD rfl #[.slice xa (rd : DiskP).secs.length xn, .slice xb (rd : DiskP).loose.length xm, .int .i64 (rd : DiskP).fuse, .bool (rd : DiskP).down] rfl (ones4 rfl rfl rfl rfl)
                have hD2 := hD1.stored hv1 hnD hkx
                have hL2 := hL1.kept hkx (Ne.symm hDL)
                have t1 : Two ga gb oa ob wx := ⟨(hkx _ (Ne.symm nDa)).trans t0.1, (hkx _ (Ne.symm nDb)).trans t0.2⟩
                have hL2' := hL2
                unfold LAt at hL2'
                obtain ⟨wy, hst2, hnL, hby, -, hky, -⟩ := storeBig info_log hL2' rfl #[.int .i64 (⟨1 - l.half, l.gen + 1, posN b, M⟩ : LogP).half, .int .i64 (⟨1 - l.half, l.gen + 1, posN b, M⟩ : LogP).gen, .int .i64 (⟨1 - l.half, l.gen + 1, posN b, M⟩ : LogP).used, .int .i64 (⟨1 - l.half, l.gen + 1, posN b, M⟩ : LogP).count] rfl (ones4 rfl rfl rfl rfl)
                have hD3 := hD2.kept hL2' (by simp) hky hDL
                have t2 : Two ga gb oa ob wy := ⟨(hky _ (Ne.symm nLa)).trans t1.1, (hky _ (Ne.symm nLb)).trans t1.2⟩
                have hbx1 := hbc1.trans (hbx.mono hDw)
                have hby1 := hbx1.trans (hby.mono hLw)
                have s0 : TwoW W ga gb oa ob wq1.drew := ⟨t0, hbc1⟩
                have s1 : TwoW W ga gb oa ob wx := ⟨t1, hbx1⟩
                have s2 : TwoW W ga gb oa ob wy := ⟨t2, hby1⟩
                have HFIN := Lib.hid (show GensInv W D L M0 (2 * k + 2) wy (.slice ax M cx) from ⟨rd, ⟨1 - l.half, l.gen + 1, posN b, M⟩, b, ax, cx, hD3, hnL, by rw [HM.out]; exact HX.out, by show l.gen + 1 ≤ _; have := HGE.out; omega, hby1, by rw [HM.out], (show PiecesS _ wy.heap.size wy (.slice ax b.length cx) b by rw [← HM.out]; exact ((HBX.out.below hby1).toS.weak (fun b hb => .inl hb)).tight)⟩)
                have R0 := fun w' (h : TwoW W ga gb oa ob w') => hleW w' h.2
                clear hleW
                clear hoa hob hrD hnD hbx hkx hnL hby hky hD1 hL1 hv1 hbc1 hD2 hL2 hL2' hD3 hbx1 hby1 TA TB hvA t0 t1 t2
                refine wp_region_I [(false, 0), (false, 1), (false, 2), (false, 3), (false, 4), (false, 5), (true, 6), (true, 7), (false, 8)] (TwoW W ga gb oa ob) (by kernel_rfl) (by kernel_rfl) s0 ?_
                repeat (first | (refine heldI_skip rfl rfl ?_; simp only [Act.put, List.setIfInBounds_toArray, List.set_cons_zero, List.set_cons_succ]) | (refine heldI_take rfl ?_ rfl (fun w' hw' => ?_) ?_; rotate_left; (go_simp; first | done | with_reducible rfl); (try simp only [Act.put, List.setIfInBounds_toArray, List.set_cons_zero, List.set_cons_succ])))
                refine heldI_act rfl rfl fun K hK => ?_
                refine op_store (.tmp 3) (.tmp 86) 25 rfl rfl rfl hst1 ?_
                refine hK.out _ _ s1 ?_
                clear hK K hst1
                simp only [Act.put, List.setIfInBounds_toArray, List.set_cons_zero, List.set_cons_succ]
                refine heldI_act rfl rfl fun K hK => ?_
                refine op_store (.tmp 5) (.tmp 87) 27 rfl rfl rfl hst2 ?_
                refine hK.out _ _ s2 ?_
                clear hK K hst2
                simp only [Act.put, List.setIfInBounds_toArray, List.set_cons_zero, List.set_cons_succ]
                repeat (first | (refine heldI_skip rfl rfl ?_; simp only [Act.put, List.setIfInBounds_toArray, List.set_cons_zero, List.set_cons_succ]) | (refine heldI_take rfl ?_ rfl (fun w' hw' => ?_) ?_; rotate_left; (go_simp; first | done | with_reducible rfl); (try simp only [Act.put, List.setIfInBounds_toArray, List.set_cons_zero, List.set_cons_succ])))
                refine heldI_nil ?_
                clear L0 L1 L2 L3 Q0 Q1 Q2 Q3 s0 s1 s2 R0
                go_wp2_with fail
                go_meet
                case rel => exact HFIN.out
          case rest =>
            obtain ⟨d, l, cur, wa, wk, hD, hL, hho, hgen, hb, rfl, hwant⟩ := hcut
            have HH := Lib.hid hho
            have HGE := Lib.hid hgen
            have HWN := Lib.hid hwant
            have hhb : 0 ≤ l.half ∧ l.half ≤ 1 := by have := hho.half; omega
            obtain ⟨hh0, hh1⟩ := hhb
            have hgg : 0 ≤ l.gen ∧ l.gen ≤ 100 := by have := hho.gen0; omega
            obtain ⟨hg0, hg1⟩ := hgg
            clear hho hgen hwant hA hB hbc nDa nDb nLa nLb nab hle4
            obtain ⟨da, na, db, nb, T, hv⟩ := id hD
            obtain ⟨C0, C1, C2, C3, _⟩ := Four.of T
            clear T
            obtain ⟨o1, o2, o3, o4⟩ := open_holds HH.out (by omega)
            have ko := open_any _ d wc hv (HT.out.below hb hT) (Nat.lt_of_lt_of_le hT hb.size)
            obtain ⟨o, ho⟩ : ∃ o, o = openP d := ⟨_, rfl⟩
            rw [← ho] at o1 o2 o3 o4 ko
            clear hv ho
            obtain ⟨od, ol, oc, oe⟩ := o
            dsimp only at o1 o2 o3 o4
            subst o1
            subst o2
            subst o3
            have HO4 := Lib.hid o4
            unfold OpenE at ko
            simp only [logV] at ko
            clear o4
            go_wp2_with fail
            refine ko.mono ?_
            rintro e w9 ⟨⟨v11, lv11, rfl, hd9, hp11⟩, hb9⟩
            clear ko C0 C1 C2 C3
            obtain ⟨p3, q3, p4, q4, rfl, _, _⟩ := hd9.parts
            obtain ⟨ax, cx, rfl⟩ : ∃ a c, lv11 = .slice a oc.length c := by
              obtain ⟨_, ⟨_, a, c, h, _⟩, _⟩ := hp11
              exact ⟨a, c, h⟩
            have HP11 := Lib.hid hp11
            clear hp11
            obtain ⟨w10, ga, HW10, HG10, hA10, hb10, lt10, le10⟩ := fresh_disk w9
            obtain ⟨w11, gb, HW11, HG11, hB11, hb11, lt11, le11⟩ := fresh_log w10
            have hAB : ga ≠ gb := by omega
            have hb911 := hb10.trans (hb11.mono hb10.size)
            obtain ⟨w12, x0, x1, x2, x3, hw12, ⟨C0, C1, C2, C3, Z⟩, ⟨N0, N1, N2, N3, Y⟩, HX12⟩ := pack_store ⟨1 - l.half, l.gen + 1, posN oc, oc.length⟩ (hA10.below hb11) hB11 (hd9.below hb911).tight hAB
            have hw12 := hw12.out
            dsimp only at hw12
            have HW12 := Lib.hid hw12
            clear hw12
            go_wp2_with (with_reducible refine wp_alloc_to (w' := w10) 25 rfl rfl (zero_disk _) HW10.out ?_; refine Halt.in ?_)
            refine Halt.out ?_
            rw [← HG10.out]
            go_wp2_with (with_reducible refine wp_alloc_to (w' := w11) 27 rfl rfl (zero_log _) HW11.out ?_; refine Halt.in ?_)
            refine Halt.out ?_
            rw [← HG11.out]
            go_upto_region 21 with (fail)
            rw [← HW12.out]
            clear C0 C1 C2 C3 Z N0 N1 N2 N3 Y hd9
            obtain ⟨hA, hB, hz12, hk12, hbb12⟩ := HX12.out
            have hDlt := hD.lt
            have hLlt := hL.lt
            have nDa : D ≠ ga := by have := hb9.size; omega
            have nDb : D ≠ gb := by have := hb9.size; have := hb10.size; omega
            have nLa : L ≠ ga := by have := hb9.size; omega
            have nLb : L ≠ gb := by have := hb9.size; have := hb10.size; omega
            have hb912 := hbb12 w9.heap.size w9 hb911 le10 (Nat.le_trans hb10.size le11)
            have hbc12 := hb9.trans (hb912.mono hb9.size)
            have hD := hD.below hbc12
            have hL := hL.below hbc12
            have hbc := hb.trans (hbc12.mono hb.size)
            have HPG := Lib.hid (HP11.out.below hb912).tight.pieces
            have HWN := Lib.hid (HWN.out.below hbc12).tight
            clear hz12 hk12 hbb12 HX12 hb9 hb10 hb11 hb911 hb912 hbc12 hA10 hB11 lt10 lt11 le10 le11 hDlt hLlt hb hAB
            have kz := same5_any _ _ oc oc w12 HPG.out HWN.out.pieces
            rw [decide_eq_true (show oc = oc from rfl)] at kz
            obtain ⟨N0, N1, N2, N3, _⟩ := hL.four
            try dsimp only at N0 N1 N2 N3
            obtain ⟨F0, F1, F2, F3, _⟩ := hB.four
            try dsimp only at F0 F1 F2 F3
            go_wp2_with fail
            refine kz.mono ?_
            rintro e w14 ⟨rfl, hb14⟩
            clear kz N0 N1 N2 N3 F0 F1 F2 F3
            have hA := hA.below hb14
            have hB := hB.below hb14
            have hD := hD.below hb14
            have hL := hL.below hb14
            have hbc := hbc.trans (hb14.mono hbc.size)
            have HWN := Lib.hid (HWN.out.below hb14).tight
            clear hb14
            go_upto_region 23 with (fail)
            obtain ⟨xa, xn, xb, xm, TA, hvA⟩ := id hA
            have TB := hB
            unfold LAt at TB
            obtain ⟨oa, hoa⟩ : ∃ o, o = Obj.cells #[.slice xa (od : DiskP).secs.length xn, .slice xb (od : DiskP).loose.length xm, .int .i64 (od : DiskP).fuse, .bool (od : DiskP).down] 25 (0, 0) := ⟨_, rfl⟩
            obtain ⟨ob, hob⟩ : ∃ o, o = Obj.cells #[.int .i64 (⟨1 - l.half, l.gen + 1, posN oc, oc.length⟩ : LogP).half, .int .i64 (⟨1 - l.half, l.gen + 1, posN oc, oc.length⟩ : LogP).gen, .int .i64 (⟨1 - l.half, l.gen + 1, posN oc, oc.length⟩ : LogP).used, .int .i64 (⟨1 - l.half, l.gen + 1, posN oc, oc.length⟩ : LogP).count] 27 (0, 0) := ⟨_, rfl⟩
            have t0 : Two ga gb oa ob w14.drew := ⟨by rw [hoa]; exact TA, by rw [hob]; exact TB⟩
            have L0 := fun w' (h : Two ga gb oa ob w') => cell_of_row w' _ 0 _ _ _ (h.1.trans (congrArg some hoa))
            have L1 := fun w' (h : Two ga gb oa ob w') => cell_of_row w' _ 1 _ _ _ (h.1.trans (congrArg some hoa))
            have L2 := fun w' (h : Two ga gb oa ob w') => cell_of_row w' _ 2 _ _ _ (h.1.trans (congrArg some hoa))
            have L3 := fun w' (h : Two ga gb oa ob w') => cell_of_row w' _ 3 _ _ _ (h.1.trans (congrArg some hoa))
            have Q0 := fun w' (h : Two ga gb oa ob w') => cell_of_row w' _ 0 _ _ _ (h.2.trans (congrArg some hob))
            have Q1 := fun w' (h : Two ga gb oa ob w') => cell_of_row w' _ 1 _ _ _ (h.2.trans (congrArg some hob))
            have Q2 := fun w' (h : Two ga gb oa ob w') => cell_of_row w' _ 2 _ _ _ (h.2.trans (congrArg some hob))
            have Q3 := fun w' (h : Two ga gb oa ob w') => cell_of_row w' _ 3 _ _ _ (h.2.trans (congrArg some hob))
            try dsimp only at L0 L1 L2 L3 Q0 Q1 Q2 Q3
            have hbd : Below w14.heap.size w14 w14.drew := below_draws (Below.refl _ _) 1
            have hD1 := hD.below hbd
            have hL1 := hL.below hbd
            have hv1 := (hvA.below hbd).tight
            have hbc1 := hbc.trans (hbd.mono hbc.size)
            obtain ⟨_, _, _, _, hrD⟩ := hD1.row
            obtain ⟨wx, hst1, hnD, hbx, -, hkx, -⟩ := storeBig info_disk hrD rfl #[.slice xa (od : DiskP).secs.length xn, .slice xb (od : DiskP).loose.length xm, .int .i64 (od : DiskP).fuse, .bool (od : DiskP).down] rfl (ones4 rfl rfl rfl rfl)
            have hD2 := hD1.stored hv1 hnD hkx
            have hL2 := hL1.kept hkx (Ne.symm hDL)
            have t1 : Two ga gb oa ob wx := ⟨(hkx _ (Ne.symm nDa)).trans t0.1, (hkx _ (Ne.symm nDb)).trans t0.2⟩
            have hL2' := hL2
            unfold LAt at hL2'
            obtain ⟨wy, hst2, hnL, hby, -, hky, -⟩ := storeBig info_log hL2' rfl #[.int .i64 (⟨1 - l.half, l.gen + 1, posN oc, oc.length⟩ : LogP).half, .int .i64 (⟨1 - l.half, l.gen + 1, posN oc, oc.length⟩ : LogP).gen, .int .i64 (⟨1 - l.half, l.gen + 1, posN oc, oc.length⟩ : LogP).used, .int .i64 (⟨1 - l.half, l.gen + 1, posN oc, oc.length⟩ : LogP).count] rfl (ones4 rfl rfl rfl rfl)
            have hD3 := hD2.kept hL2' (by simp) hky hDL
            have t2 : Two ga gb oa ob wy := ⟨(hky _ (Ne.symm nLa)).trans t1.1, (hky _ (Ne.symm nLb)).trans t1.2⟩
            have hbx1 := hbc1.trans (hbx.mono hDw)
            have hby1 := hbx1.trans (hby.mono hLw)
            have s0 : Two ga gb oa ob w14.drew := t0
            have s1 : Two ga gb oa ob wx := t1
            have s2 : Two ga gb oa ob wy := t2
            have HFIN := Lib.hid (show GensInv W D L M0 (2 * (k + 1) + 1) wy (.slice wa oc.length wk) from ⟨od, _, oc, wa, wk, hD3, hnL, HO4.out, by show l.gen + 1 ≤ _; have := HGE.out; omega, hby1, rfl, (HWN.out.keep (w' := wy) (fun j h1 h2 => (hky j (by rcases h1 with h1 | h1 <;> omega)).trans (hkx j (by rcases h1 with h1 | h1 <;> omega)))).tight⟩)
            clear hoa hob hrD hnD hbx hkx hnL hby hky hD1 hL1 hv1 hbc1 hD2 hL2 hL2' hD3 hbx1 hby1 TA TB hvA t0 t1 t2
            refine wp_region_I [(false, 0), (false, 1), (true, 2), (true, 3)] (Two ga gb oa ob) (by kernel_rfl) (by kernel_rfl) s0 ?_
            repeat (first | (refine heldI_skip rfl rfl ?_; simp only [Act.put, List.setIfInBounds_toArray, List.set_cons_zero, List.set_cons_succ]) | (refine heldI_take rfl ?_ rfl (fun w' hw' => ?_) ?_; rotate_left; (go_simp; first | done | with_reducible rfl); (try simp only [Act.put, List.setIfInBounds_toArray, List.set_cons_zero, List.set_cons_succ])))
            refine heldI_act rfl rfl fun K hK => ?_
            refine op_store (.tmp 3) (.tmp 123) 25 rfl rfl rfl hst1 ?_
            refine hK.out _ _ s1 ?_
            clear hK K hst1
            simp only [Act.put, List.setIfInBounds_toArray, List.set_cons_zero, List.set_cons_succ]
            refine heldI_act rfl rfl fun K hK => ?_
            refine op_store (.tmp 5) (.tmp 124) 27 rfl rfl rfl hst2 ?_
            refine hK.out _ _ s2 ?_
            clear hK K hst2
            simp only [Act.put, List.setIfInBounds_toArray, List.set_cons_zero, List.set_cons_succ]
            repeat (first | (refine heldI_skip rfl rfl ?_; simp only [Act.put, List.setIfInBounds_toArray, List.set_cons_zero, List.set_cons_succ]) | (refine heldI_take rfl ?_ rfl (fun w' hw' => ?_) ?_; rotate_left; (go_simp; first | done | with_reducible rfl); (try simp only [Act.put, List.setIfInBounds_toArray, List.set_cons_zero, List.set_cons_succ])))
            refine heldI_nil ?_
            clear L0 L1 L2 L3 Q0 Q1 Q2 Q3 s0 s1 s2
            go_wp2_with fail
            go_roundw
            case rel => exact ⟨k + 1, by omega, by go_num, HFIN.out⟩
            case measure => simp [intOf]; omega
    · have k0 : decide ((k : Int) < (N : Int)) = false := by simp; omega
      go_wp2_with fail
      go_ret
      exact ⟨rfl, hb⟩
end Go.Proofs.YtaijompnohkmaaaDoor
