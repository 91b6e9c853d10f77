/- Layer 5 (wal), the document's answer: Open. -/
import Derived.Test.YtaijompnohkmaaaDoorMQ
namespace Go.Proofs.YtaijompnohkmaaaDoor
open Go.RowKit WalP PackP
set_option maxRecDepth 100000 in
set_option maxHeartbeats 8000000 in
theorem refOpen_any {B : Nat} (v : Value) (d : DiskP) (w : World) (hd : DiskV B w v d) :
    Calls Tryd.prog 13 #[v] w (OpenE w (openP d)) := by
  have hd := hd.tight
  obtain ⟨p1, q1, p2, q2, rfl, _, _⟩ := hd.parts
  obtain ⟨dn, hdn⟩ : ∃ b, b = d.down := ⟨_, rfl⟩
  rw [← hdn] at hd ⊢
  have HDN := Lib.hid hdn
  clear hdn
  obtain ⟨w3, hw3, hb3, hs3, R0, R1, R2⟩ := three w (.cells #[.slice p1 d.secs.length q1, .slice p2 d.loose.length q2, .int .i64 d.fuse, .bool dn] 25) (.cells #[.slice none 0 0, .slice none 0 0, .int .i64 0, .bool false] 25) (.cells #[.int .i64 0, .int .i64 0, .int .i64 0, .int .i64 0] 27)
  have hd3 := (hd.below hb3).tight
  have HW3 := Lib.hid hw3
  clear hw3
  have n12 : w.heap.size + 1 ≠ w.heap.size + 1 + 1 := by omega
  have l1 : w.heap.size ≤ w.heap.size + 1 := by omega
  have l2 : w.heap.size ≤ w.heap.size + 1 + 1 := by omega
  have kr := refright_any _ d w3 hd3
  obtain ⟨R, hR⟩ : ∃ R, R = rightB d := ⟨_, rfl⟩
  rw [← hR] at kr
  have HR := Lib.hid hR
  clear hR
  have C0 := cell_of_row w3 _ 0 _ _ _ R0
  have C1 := cell_of_row w3 _ 1 _ _ _ R0
  have C2 := cell_of_row w3 _ 2 _ _ _ R0
  have C3 := cell_of_row w3 _ 3 _ _ _ R0
  cases R with
  | false =>
    have hF : openP d = (d, log0, [], 1) := by unfold openP; rw [if_pos HR.out.symm]
    rw [hF]
    clear hF
    unfold OpenE logV
    try unfold log0
    go_enter Tryd.func13, Tryd.ntmps13
    go_upto_region 1 with (fail)
    rw [← HW3.out]
    go_wp2_with fail
    refine kr.mono ?_
    rintro e w4 ⟨rfl, hb4⟩
    clear kr C0 C1 C2 C3
    have S0 := (hb4.block _ (block_lt R0)).trans R0
    have S1 := (hb4.block _ (block_lt R1)).trans R1
    have S2 := (hb4.block _ (block_lt R2)).trans R2
    have hd4 := (hd3.below hb4).tight
    have hb04 := hb3.trans (hb4.mono hb3.size)
    have C0 := cell_of_row w4 _ 0 _ _ _ S0
    have C1 := cell_of_row w4 _ 1 _ _ _ S0
    have C2 := cell_of_row w4 _ 2 _ _ _ S0
    have C3 := cell_of_row w4 _ 3 _ _ _ S0
    have D0 := cell_of_row w4 _ 0 _ _ _ S1
    have D1 := cell_of_row w4 _ 1 _ _ _ S1
    have D2 := cell_of_row w4 _ 2 _ _ _ S1
    have D3 := cell_of_row w4 _ 3 _ _ _ S1
    have F0 := cell_of_row w4 _ 0 _ _ _ S2
    have F1 := cell_of_row w4 _ 1 _ _ _ S2
    have F2 := cell_of_row w4 _ 2 _ _ _ S2
    have F3 := cell_of_row w4 _ 3 _ _ _ S2
    have Z2 := frozen_row S1
    have Z3 := frozen_row S2
    have HX := Lib.hid (exit_dl (.int .i64 0) (.int .i64 0) (.int .i64 0) (.int .i64 0) S1 S2 hd4 n12 hb04 l1 l2)
    clear R0 R1 R2 S0 S1 S2 hd hd3 hd4 hb3 hb4 hb04 hs3 n12 l1 l2
    go_wp2_with fail
    refine bodyPost_ret (results_cctt rfl _ _ (w.heap.size + 1) (w.heap.size + 1 + 1) _ _ _ _ _ _ _ _ rfl rfl HX.out.1 HX.out.2.1 Tryd.underlying25 rfl size_disk Tryd.underlying27 rfl size_log) rfl ?_
    exact ⟨⟨_, _, rfl, HX.out.2.2.1, pieces_nil _ _ _⟩, HX.out.2.2.2⟩
  | true =>
    cases dn with
    | true =>
      have hF : openP d = (d, log0, [], 9) := by unfold openP; rw [if_neg (by rw [← HR.out]; simp), if_pos HDN.out.symm]
      rw [hF]
      clear hF
      unfold OpenE logV
      try unfold log0
      go_enter Tryd.func13, Tryd.ntmps13
      go_upto_region 1 with (fail)
      rw [← HW3.out]
      go_wp2_with fail
      refine kr.mono ?_
      rintro e w4 ⟨rfl, hb4⟩
      clear kr C0 C1 C2 C3
      have S0 := (hb4.block _ (block_lt R0)).trans R0
      have S1 := (hb4.block _ (block_lt R1)).trans R1
      have S2 := (hb4.block _ (block_lt R2)).trans R2
      have hd4 := (hd3.below hb4).tight
      have hb04 := hb3.trans (hb4.mono hb3.size)
      have C0 := cell_of_row w4 _ 0 _ _ _ S0
      have C1 := cell_of_row w4 _ 1 _ _ _ S0
      have C2 := cell_of_row w4 _ 2 _ _ _ S0
      have C3 := cell_of_row w4 _ 3 _ _ _ S0
      have D0 := cell_of_row w4 _ 0 _ _ _ S1
      have D1 := cell_of_row w4 _ 1 _ _ _ S1
      have D2 := cell_of_row w4 _ 2 _ _ _ S1
      have D3 := cell_of_row w4 _ 3 _ _ _ S1
      have F0 := cell_of_row w4 _ 0 _ _ _ S2
      have F1 := cell_of_row w4 _ 1 _ _ _ S2
      have F2 := cell_of_row w4 _ 2 _ _ _ S2
      have F3 := cell_of_row w4 _ 3 _ _ _ S2
      have Z2 := frozen_row S1
      have Z3 := frozen_row S2
      have HX := Lib.hid (exit_dl (.int .i64 0) (.int .i64 0) (.int .i64 0) (.int .i64 0) S1 S2 hd4 n12 hb04 l1 l2)
      clear R0 R1 R2 S0 S1 S2 hd hd3 hd4 hb3 hb4 hb04 hs3 n12 l1 l2
      go_wp2_with fail
      refine bodyPost_ret (results_cctt rfl _ _ (w.heap.size + 1) (w.heap.size + 1 + 1) _ _ _ _ _ _ _ _ rfl rfl HX.out.1 HX.out.2.1 Tryd.underlying25 rfl size_disk Tryd.underlying27 rfl size_log) rfl ?_
      exact ⟨⟨_, _, rfl, HX.out.2.2.1, pieces_nil _ _ _⟩, HX.out.2.2.2⟩
    | false =>
      have hS : d.secs.length ≤ 4096 := by
        have h := HR.out.symm
        unfold rightB at h
        simp only [Bool.and_eq_true, decide_eq_true_eq] at h
        exact h.1.1.1
      obtain ⟨gA, hgA⟩ : ∃ x, x = genV (viewP d 0) := ⟨_, rfl⟩
      obtain ⟨gB, hgB⟩ : ∃ x, x = genV (viewP d 1) := ⟨_, rfl⟩
      obtain ⟨wh, hwh⟩ : ∃ wh : Int, wh = if gA < gB then 1 else 0 := ⟨_, rfl⟩
      have hwh01 : wh = 0 ∨ wh = 1 := by rw [hwh]; split <;> omega
      obtain ⟨g, hg⟩ : ∃ x, x = genV (viewP d wh) := ⟨_, rfl⟩
      have hbnd := records_bounds (viewP d wh)
      rw [view_len] at hbnd
      obtain ⟨X, hX⟩ : ∃ x, x = recordsP (viewP d wh) := ⟨_, rfl⟩
      have hxx : (if gA < gB then recordsP (viewP d 1) else recordsP (viewP d 0)) = X := by
        rw [hX, hwh]; split <;> rfl
      have hop : openP d = (if X.2.2.2 ≠ 0 then (d, log0, [], X.2.2.2) else if (compactP d ⟨wh, X.2.2.1, X.2.1, X.1.length⟩ X.1).2.2 ≠ 0 then ((compactP d ⟨wh, X.2.2.1, X.2.1, X.1.length⟩ X.1).1, log0, [], (compactP d ⟨wh, X.2.2.1, X.2.1, X.1.length⟩ X.1).2.2) else ((compactP d ⟨wh, X.2.2.1, X.2.1, X.1.length⟩ X.1).1, (compactP d ⟨wh, X.2.2.1, X.2.1, X.1.length⟩ X.1).2.1, X.1, 0)) := by
        unfold openP
        rw [if_neg (by rw [← HR.out]; simp), if_neg (by rw [← HDN.out]; simp)]
        change (let a := recordsP (viewP d 0); let b := recordsP (viewP d 1); _) = _
        have e1 : (recordsP (viewP d 0)).2.2.1 = gA := hgA.symm
        have e2 : (recordsP (viewP d 1)).2.2.1 = gB := hgB.symm
        simp only [e1, e2, hxx, ← hwh]
      have hhalf := right_half HR.out.symm
      obtain ⟨rr, hrr⟩ : ∃ rr, rr = refRecs (viewP d wh) g := ⟨_, rfl⟩
      have hz : g = 0 → openP d = (d, log0, [], 6) := fun h => by
        rw [hop, hX, gen_none (by rw [← hg]; exact h)]
        rfl
      have hlaw : g ≠ 0 → X = finR g rr ∧ (rr.2.2 = 0 → rr.1 ≠ []) := fun h => by
        rw [hX, hrr]
        exact refRecs_law hg.symm h
      have herr : rr.2.2 = 0 ∨ rr.2.2 = 10 := by rw [hrr]; exact refGo_err _ _ _ _ _
      have KG : ∀ (h : Int) (w' : World), h = 0 ∨ h = 1 → Below w3.heap.size w3 w' → Calls Tryd.prog 35 #[.agg #[.slice p1 d.secs.length q1, .slice p2 d.loose.length q2, .int .i64 d.fuse, .bool false], .int .i64 h] w' fun e w'' => e = .returned (.int .i64 (genV (viewP d h))) ∧ Below w'.heap.size w' w'' := fun h w' hh hb => refGen_any _ d h w' (hd3.below hb) hS hh
      have KR : ∀ (w' : World), Below w3.heap.size w3 w' → Calls Tryd.prog 36 #[.agg #[.slice p1 d.secs.length q1, .slice p2 d.loose.length q2, .int .i64 d.fuse, .bool false], .int .i64 wh, .int .i64 g] w' fun e w'' => (∃ lv, e = .returned (.tuple #[lv, .int .i64 rr.2.1, .int .i64 rr.2.2]) ∧ PiecesS (fun b => w'.heap.size ≤ b) w''.heap.size w'' lv rr.1) ∧ Below w'.heap.size w' w'' := fun w' hb => by
        rw [hrr]
        exact refRecords_any _ d wh g w' (hd3.below hb) hS hwh01
      have KG0 := fun w' hb => KG 0 w' (.inl rfl) hb
      have KG1 := fun w' hb => KG 1 w' (.inr rfl) hb
      have KGX := fun w' hb => KG wh w' hwh01 hb
      rw [← hgA] at KG0
      rw [← hgB] at KG1
      rw [← hg] at KGX
      have HKG0 := Lib.hid KG0
      have HKG1 := Lib.hid KG1
      have HKGX := Lib.hid KGX
      have HKR := Lib.hid KR
      have HWH := Lib.hid hwh
      have HWH01 := Lib.hid hwh01
      have HZ := Lib.hid hz
      have HLAW := Lib.hid hlaw
      have HERR := Lib.hid herr
      have HBND := Lib.hid (show (∀ b ∈ X.1, b.length ≤ 6000) ∧ X.1.length ≤ half d by rw [hX]; exact hbnd)
      have HOP := Lib.hid hop
      have HHALF := Lib.hid hhalf
      clear KG KG0 KG1 KGX KR hwh hwh01 hz hlaw herr hbnd hop hhalf hgA hgB hg hX hrr hxx hS
      by_cases hg0 : g = 0
      · have qg : (g == 0) = true := by simp [hg0]
        have hF := HZ.out hg0
        rw [hF]
        clear hF hg0
        unfold OpenE logV
        try unfold log0
        go_enter Tryd.func13, Tryd.ntmps13
        go_upto_region 1 with (fail)
        rw [← HW3.out]
        go_wp2_with fail
        refine kr.mono ?_
        rintro e w4 ⟨rfl, hb4⟩
        clear kr C0 C1 C2 C3
        have S0 := (hb4.block _ (block_lt R0)).trans R0
        have S1 := (hb4.block _ (block_lt R1)).trans R1
        have S2 := (hb4.block _ (block_lt R2)).trans R2
        have hd4 := (hd3.below hb4).tight
        have hb04 := hb3.trans (hb4.mono hb3.size)
        have hb3r := hb4
        have L0 : ∀ w', Below w4.heap.size w4 w' → w'.cell? ⟨w.heap.size, 0, none⟩ = some (.slice p1 d.secs.length q1) := fun w' h => cell_of_row w' _ 0 _ _ _ ((h.block _ (block_lt S0)).trans S0)
        have L1 : ∀ w', Below w4.heap.size w4 w' → w'.cell? ⟨w.heap.size, 1, none⟩ = some (.slice p2 d.loose.length q2) := fun w' h => cell_of_row w' _ 1 _ _ _ ((h.block _ (block_lt S0)).trans S0)
        have L2 : ∀ w', Below w4.heap.size w4 w' → w'.cell? ⟨w.heap.size, 2, none⟩ = some (.int .i64 d.fuse) := fun w' h => cell_of_row w' _ 2 _ _ _ ((h.block _ (block_lt S0)).trans S0)
        have L3 : ∀ w', Below w4.heap.size w4 w' → w'.cell? ⟨w.heap.size, 3, none⟩ = some (.bool false) := fun w' h => cell_of_row w' _ 3 _ _ _ ((h.block _ (block_lt S0)).trans S0)
        have C0 := cell_of_row w4 _ 0 _ _ _ S0
        have C1 := cell_of_row w4 _ 1 _ _ _ S0
        have C2 := cell_of_row w4 _ 2 _ _ _ S0
        have C3 := cell_of_row w4 _ 3 _ _ _ S0
        have h00 : Below w4.heap.size w4 w4.drew := below_draws (Below.refl _ _) 1
        have HB4 := Lib.hid hb4
        have HSS := Lib.hid (show _ ∧ _ ∧ _ from ⟨S0, S1, S2⟩)
        have HD4 := Lib.hid hd4
        have HB04 := Lib.hid hb04
        clear R0 R1 R2 S0 S1 S2 hd hd3 hd4 hb3 hb4 hb04 hb3r
        obtain ⟨cg, hcg⟩ : ∃ c, decide (gA < gB) = c := ⟨_, rfl⟩
        have HCG := Lib.hid (show (if cg = true then (1 : Int) else 0) = wh by rw [HWH.out, ← hcg]; simp)
        go_upto_region 6 with (fail)
        clear C0 C1 C2 C3
        refine wp_region_I [(false, 0), (false, 2), (true, 1), (true, 3), (false, 4)] (fun w' => Below w4.heap.size w4 w') (by kernel_rfl) (by kernel_rfl) h00 ?_
        repeat (first | (refine heldI_skip rfl rfl ?_; simp only [Act.put, List.setIfInBounds_toArray, List.set_cons_zero, List.set_cons_succ]) | (refine heldI_take rfl ?_ rfl (fun w' hw' => ?_) ?_; rotate_left; (go_simp; first | done | with_reducible rfl); (try simp only [Act.put, List.setIfInBounds_toArray, List.set_cons_zero, List.set_cons_succ])))
        refine heldI_act rfl rfl fun K hK => ?_
        go_simp
        refine (HKG1.out _ (HB4.out.trans (h00.mono HB4.out.size))).mono ?_
        rintro e w5 ⟨rfl, hb5⟩
        have h05 := h00.trans hb5
        refine hK.out _ _ h05 ?_
        clear hK K
        refine heldI_act rfl rfl fun K hK => ?_
        go_simp
        refine (HKG0.out _ (HB4.out.trans (h05.mono HB4.out.size))).mono ?_
        rintro e w6 ⟨rfl, hb6⟩
        have h06 := h05.trans (hb6.mono h05.size)
        refine hK.out _ _ h06 ?_
        clear hK K
        repeat (first | (refine heldI_skip rfl rfl ?_; simp only [Act.put, List.setIfInBounds_toArray, List.set_cons_zero, List.set_cons_succ]) | (refine heldI_take rfl ?_ rfl (fun w' hw' => ?_) ?_; rotate_left; (go_simp; first | done | with_reducible rfl); (try simp only [Act.put, List.setIfInBounds_toArray, List.set_cons_zero, List.set_cons_succ])))
        refine heldI_nil ?_
        have HB46 := Lib.hid h06
        clear hb5 hb6 h05 h06 h00
        go_upto_if 28 with (fail)
        go_cut [6] from 14 to 28 (fun s6 wx => s6 = .int .i64 wh ∧ wx = w6)
        case first =>
          cases cg with
          | true =>
            have HF := Lib.hid (show (1 : Int) = wh from HCG.out)
            go_wp2_with fail
            go_meet
            case rel => exact ⟨by rw [← HF.out], rfl⟩
          | false =>
            have HF := Lib.hid (show (0 : Int) = wh from HCG.out)
            go_wp2_with fail
            go_meet
            case rel => exact ⟨by rw [← HF.out], rfl⟩
        case rest =>
          obtain ⟨rfl, rfl⟩ := hcut
          clear hcg
          have hb3c := HB4.out.trans (HB46.out.mono HB4.out.size)
          have kg := HKGX.out wc hb3c
          have C0 := L0 wc HB46.out
          have C1 := L1 wc HB46.out
          have C2 := L2 wc HB46.out
          have C3 := L3 wc HB46.out
          clear L0 L1 L2 L3
          go_wp2_with fail
          refine kg.mono ?_
          rintro e w7 ⟨rfl, hb7⟩
          have hb47 := HB46.out.trans (hb7.mono HB46.out.size)
          have hb37 := HB4.out.trans (hb47.mono HB4.out.size)
          have hb07 := HB04.out.trans (hb47.mono HB04.out.size)
          have S0 := (hb47.block _ (block_lt HSS.out.1)).trans HSS.out.1
          have S1 := (hb47.block _ (block_lt HSS.out.2.1)).trans HSS.out.2.1
          have S2 := (hb47.block _ (block_lt HSS.out.2.2)).trans HSS.out.2.2
          have hd7 := (HD4.out.below hb47).tight
          clear kg C0 C1 C2 C3 hb7 hb47 hb3c
          have C0 := cell_of_row w7 _ 0 _ _ _ S0
          have C1 := cell_of_row w7 _ 1 _ _ _ S0
          have C2 := cell_of_row w7 _ 2 _ _ _ S0
          have C3 := cell_of_row w7 _ 3 _ _ _ S0
          have D0 := cell_of_row w7 _ 0 _ _ _ S1
          have D1 := cell_of_row w7 _ 1 _ _ _ S1
          have D2 := cell_of_row w7 _ 2 _ _ _ S1
          have D3 := cell_of_row w7 _ 3 _ _ _ S1
          have F0 := cell_of_row w7 _ 0 _ _ _ S2
          have F1 := cell_of_row w7 _ 1 _ _ _ S2
          have F2 := cell_of_row w7 _ 2 _ _ _ S2
          have F3 := cell_of_row w7 _ 3 _ _ _ S2
          have Z2 := frozen_row S1
          have Z3 := frozen_row S2
          have HX := Lib.hid (exit_dl (.int .i64 0) (.int .i64 0) (.int .i64 0) (.int .i64 0) S1 S2 hd7 n12 hb07 l1 l2)
          clear S0 S1 S2 hd7 hb07 hb37 n12 l1 l2
          go_wp2_with fail
          refine bodyPost_ret (results_cctt rfl _ _ (w.heap.size + 1) (w.heap.size + 1 + 1) _ _ _ _ _ _ _ _ rfl rfl HX.out.1 HX.out.2.1 Tryd.underlying25 rfl size_disk Tryd.underlying27 rfl size_log) rfl ?_
          exact ⟨⟨_, _, rfl, HX.out.2.2.1, pieces_nil _ _ _⟩, HX.out.2.2.2⟩
      · have qg : (g == 0) = false := by simp [hg0]
        obtain ⟨hX, hne⟩ := HLAW.out hg0
        clear hg0
        by_cases he : rr.2.2 = 0
        · have qe : (rr.2.2 != 0) = false := by simp [he]
          have hX' : X = (rr.1, rr.2.1, g, 0) := by rw [hX]; unfold finR; rw [if_pos he]
          have hne := hne he
          obtain ⟨r, hr⟩ : ∃ r, r = compactP d ⟨wh, g, rr.2.1, rr.1.length⟩ rr.1 := ⟨_, rfl⟩
          have hF : openP d = if r.2.2 ≠ 0 then (r.1, log0, [], r.2.2) else (r.1, r.2.1, rr.1, 0) := by
            rw [HOP.out, hX', hr]
            rfl
          have hlen0 : (((rr.1.length : Nat) : Int) == 0) = false := by
            have : 0 < rr.1.length := List.length_pos_iff.2 hne
            simp; exact hne
          have hb1 : ∀ b ∈ rr.1, b.length ≤ 2 ^ 20 := fun b hb => by
            have h := HBND.out.1 b (by rw [hX']; exact hb)
            omega
          have hb2 : rr.1.length ≤ 2 ^ 20 := by
            have h := HBND.out.2
            rw [hX'] at h
            have := HHALF.out
            have h' : rr.1.length ≤ half d := h
            omega
          have HBL := Lib.hid (show (∀ b ∈ rr.1, b.length ≤ 2 ^ 20) ∧ rr.1.length ≤ 2 ^ 20 from ⟨hb1, hb2⟩)
          have HRC := Lib.hid hr
          obtain ⟨lst, hlst⟩ : ∃ l, l = rr.1 := ⟨_, rfl⟩
          obtain ⟨us, hus⟩ : ∃ u, u = rr.2.1 := ⟨_, rfl⟩
          obtain ⟨N, hN⟩ : ∃ N, N = lst.length := ⟨_, rfl⟩
          rw [← hlst] at hF hlen0 HBL HRC HKR
          rw [← hus] at HRC HKR
          rw [← hN] at hlen0 HRC
          rw [he] at HKR
          have HN := Lib.hid hN
          clear hX hX' hne hr hlst hus he hb1 hb2 hN
          by_cases hc : r.2.2 = 0
          · have q3 : (r.2.2 != 0) = false := by simp [hc]
            have hF' : openP d = (r.1, r.2.1, lst, 0) := by rw [hF, if_neg (by simp [hc])]
            rw [hF']
            have HRC2 := Lib.hid hc
            clear hF hF' hc
            unfold OpenE logV
            try unfold log0
            go_enter Tryd.func13, Tryd.ntmps13
            go_upto_region 1 with (fail)
            rw [← HW3.out]
            go_wp2_with fail
            refine kr.mono ?_
            rintro e w4 ⟨rfl, hb4⟩
            clear kr C0 C1 C2 C3
            have S0 := (hb4.block _ (block_lt R0)).trans R0
            have S1 := (hb4.block _ (block_lt R1)).trans R1
            have S2 := (hb4.block _ (block_lt R2)).trans R2
            have hd4 := (hd3.below hb4).tight
            have hb04 := hb3.trans (hb4.mono hb3.size)
            have hb3r := hb4
            have L0 : ∀ w', Below w4.heap.size w4 w' → w'.cell? ⟨w.heap.size, 0, none⟩ = some (.slice p1 d.secs.length q1) := fun w' h => cell_of_row w' _ 0 _ _ _ ((h.block _ (block_lt S0)).trans S0)
            have L1 : ∀ w', Below w4.heap.size w4 w' → w'.cell? ⟨w.heap.size, 1, none⟩ = some (.slice p2 d.loose.length q2) := fun w' h => cell_of_row w' _ 1 _ _ _ ((h.block _ (block_lt S0)).trans S0)
            have L2 : ∀ w', Below w4.heap.size w4 w' → w'.cell? ⟨w.heap.size, 2, none⟩ = some (.int .i64 d.fuse) := fun w' h => cell_of_row w' _ 2 _ _ _ ((h.block _ (block_lt S0)).trans S0)
            have L3 : ∀ w', Below w4.heap.size w4 w' → w'.cell? ⟨w.heap.size, 3, none⟩ = some (.bool false) := fun w' h => cell_of_row w' _ 3 _ _ _ ((h.block _ (block_lt S0)).trans S0)
            have C0 := cell_of_row w4 _ 0 _ _ _ S0
            have C1 := cell_of_row w4 _ 1 _ _ _ S0
            have C2 := cell_of_row w4 _ 2 _ _ _ S0
            have C3 := cell_of_row w4 _ 3 _ _ _ S0
            have h00 : Below w4.heap.size w4 w4.drew := below_draws (Below.refl _ _) 1
            have HB4 := Lib.hid hb4
            have HSS := Lib.hid (show _ ∧ _ ∧ _ from ⟨S0, S1, S2⟩)
            have HD4 := Lib.hid hd4
            have HB04 := Lib.hid hb04
            clear R0 R1 R2 S0 S1 S2 hd hd3 hd4 hb3 hb4 hb04 hb3r
            obtain ⟨cg, hcg⟩ : ∃ c, decide (gA < gB) = c := ⟨_, rfl⟩
            have HCG := Lib.hid (show (if cg = true then (1 : Int) else 0) = wh by rw [HWH.out, ← hcg]; simp)
            go_upto_region 6 with (fail)
            clear C0 C1 C2 C3
            refine wp_region_I [(false, 0), (false, 2), (true, 1), (true, 3), (false, 4)] (fun w' => Below w4.heap.size w4 w') (by kernel_rfl) (by kernel_rfl) h00 ?_
            repeat (first | (refine heldI_skip rfl rfl ?_; simp only [Act.put, List.setIfInBounds_toArray, List.set_cons_zero, List.set_cons_succ]) | (refine heldI_take rfl ?_ rfl (fun w' hw' => ?_) ?_; rotate_left; (go_simp; first | done | with_reducible rfl); (try simp only [Act.put, List.setIfInBounds_toArray, List.set_cons_zero, List.set_cons_succ])))
            refine heldI_act rfl rfl fun K hK => ?_
            go_simp
            refine (HKG1.out _ (HB4.out.trans (h00.mono HB4.out.size))).mono ?_
            rintro e w5 ⟨rfl, hb5⟩
            have h05 := h00.trans hb5
            refine hK.out _ _ h05 ?_
            clear hK K
            refine heldI_act rfl rfl fun K hK => ?_
            go_simp
            refine (HKG0.out _ (HB4.out.trans (h05.mono HB4.out.size))).mono ?_
            rintro e w6 ⟨rfl, hb6⟩
            have h06 := h05.trans (hb6.mono h05.size)
            refine hK.out _ _ h06 ?_
            clear hK K
            repeat (first | (refine heldI_skip rfl rfl ?_; simp only [Act.put, List.setIfInBounds_toArray, List.set_cons_zero, List.set_cons_succ]) | (refine heldI_take rfl ?_ rfl (fun w' hw' => ?_) ?_; rotate_left; (go_simp; first | done | with_reducible rfl); (try simp only [Act.put, List.setIfInBounds_toArray, List.set_cons_zero, List.set_cons_succ])))
            refine heldI_nil ?_
            have HB46 := Lib.hid h06
            clear hb5 hb6 h05 h06 h00
            go_upto_if 28 with (fail)
            go_cut [6] from 14 to 28 (fun s6 wx => s6 = .int .i64 wh ∧ wx = w6)
            case first =>
              cases cg with
              | true =>
                have HF := Lib.hid (show (1 : Int) = wh from HCG.out)
                go_wp2_with fail
                go_meet
                case rel => exact ⟨by rw [← HF.out], rfl⟩
              | false =>
                have HF := Lib.hid (show (0 : Int) = wh from HCG.out)
                go_wp2_with fail
                go_meet
                case rel => exact ⟨by rw [← HF.out], rfl⟩
            case rest =>
              obtain ⟨rfl, rfl⟩ := hcut
              clear hcg
              have hb3c := HB4.out.trans (HB46.out.mono HB4.out.size)
              have kg := HKGX.out wc hb3c
              have C0 := L0 wc HB46.out
              have C1 := L1 wc HB46.out
              have C2 := L2 wc HB46.out
              have C3 := L3 wc HB46.out
              clear L0 L1 L2 L3
              go_wp2_with fail
              refine kg.mono ?_
              rintro e w7 ⟨rfl, hb7⟩
              have hb47 := HB46.out.trans (hb7.mono HB46.out.size)
              have hb37 := HB4.out.trans (hb47.mono HB4.out.size)
              have hb07 := HB04.out.trans (hb47.mono HB04.out.size)
              have S0 := (hb47.block _ (block_lt HSS.out.1)).trans HSS.out.1
              have S1 := (hb47.block _ (block_lt HSS.out.2.1)).trans HSS.out.2.1
              have S2 := (hb47.block _ (block_lt HSS.out.2.2)).trans HSS.out.2.2
              have hd7 := (HD4.out.below hb47).tight
              clear kg C0 C1 C2 C3 hb7 hb47 hb3c
              have C0 := cell_of_row w7 _ 0 _ _ _ S0
              have C1 := cell_of_row w7 _ 1 _ _ _ S0
              have C2 := cell_of_row w7 _ 2 _ _ _ S0
              have C3 := cell_of_row w7 _ 3 _ _ _ S0
              have kq := HKR.out w7 hb37
              go_wp2_with fail
              refine kq.mono ?_
              rintro e w8 ⟨⟨lv, rfl, hlv⟩, hb8⟩
              have hLV := LV.of (M := w7.heap.size) hlv (Nat.le_refl _)
              obtain ⟨ax, cx, rfl, hpx⟩ := hLV
              have T0 := (hb8.block _ (block_lt S0)).trans S0
              have T1 := (hb8.block _ (block_lt S1)).trans S1
              have T2 := (hb8.block _ (block_lt S2)).trans S2
              have hd8 := (hd7.below hb8).tight
              have hb08 := hb07.trans (hb8.mono hb07.size)
              clear kq C0 C1 C2 C3 hlv S0 S1 S2 hd7 hb07
              have C0 := cell_of_row w8 _ 0 _ _ _ T0
              have C1 := cell_of_row w8 _ 1 _ _ _ T0
              have C2 := cell_of_row w8 _ 2 _ _ _ T0
              have C3 := cell_of_row w8 _ 3 _ _ _ T0
              have kc := refCompact_any _ (.slice ax lst.length cx) d ⟨wh, g, us, N⟩ lst w8 hd8 hpx.pieces HBL.out.1 HBL.out.2
              rw [← HRC.out] at kc
              unfold DLE logV at kc
              rw [← HN.out] at kc hpx ⊢
              have HPX := Lib.hid hpx
              have HTT := Lib.hid (show _ ∧ _ from ⟨T1, T2⟩)
              have HB08 := Lib.hid hb08
              have HM7 := Lib.hid hb8.size
              clear hpx T0 T1 T2 hb08 hd8 hb8
              go_wp2_with fail
              refine kc.mono ?_
              rintro e w9 ⟨⟨v', rfl, hd9⟩, hb9⟩
              obtain ⟨y1, z1, y2, z2, rfl, _, _⟩ := hd9.parts
              clear kc C0 C1 C2 C3
              obtain ⟨w10, hw10⟩ : ∃ w10, w10 = (w9.alloc (.cells #[.slice y1 r.1.secs.length z1, .slice y2 r.1.loose.length z2, .int .i64 r.1.fuse, .bool r.1.down] 25)).alloc (.cells #[.int .i64 r.2.1.half, .int .i64 r.2.1.gen, .int .i64 r.2.1.used, .int .i64 r.2.1.count] 27) := ⟨_, rfl⟩
              have hb10 : Below w9.heap.size w9 w10 := by rw [hw10]; exact Below.alloc (Below.alloc (Below.refl _ _) (Nat.le_refl _) _) (by simp) _
              have U0 : w10.heap[w9.heap.size]? = some (.cells #[.slice y1 r.1.secs.length z1, .slice y2 r.1.loose.length z2, .int .i64 r.1.fuse, .bool r.1.down] 25 (0, 0)) := by rw [hw10]; exact heap_alloc2_old w9 _ _
              have U1 : w10.heap[w9.heap.size + 1]? = some (.cells #[.int .i64 r.2.1.half, .int .i64 r.2.1.gen, .int .i64 r.2.1.used, .int .i64 r.2.1.count] 27 (0, 0)) := by rw [hw10]; exact heap_alloc2_new w9 _ _
              have hd10 := (hd9.below hb10).tight
              have hb810 := hb9.trans (hb10.mono hb9.size)
              have hb010 := HB08.out.trans (hb810.mono HB08.out.size)
              have T1 := (hb810.block _ (block_lt HTT.out.1)).trans HTT.out.1
              have T2 := (hb810.block _ (block_lt HTT.out.2)).trans HTT.out.2
              have lt1 := block_lt HTT.out.1
              have lt2 := block_lt HTT.out.2
              have hle9 := hb9.size
              have hp10 := (HPX.out.below hb810).tight
              have l7 : w.heap.size + 3 ≤ w7.heap.size := by have := hb37.size; omega
              obtain ⟨gn, hgn⟩ : ∃ gn, gn = w9.heap.size := ⟨_, rfl⟩
              rw [← hgn] at U0 U1 hle9
              have HW10 := Lib.hid hw10
              have HGN := Lib.hid hgn
              clear hw10 hgn hb10 hb810 hd9 hb9 hb37
              rw [HRC2.out]
              obtain ⟨oa, ob, wa, wb, HWA, HWB, s0, sa, sb, L0, L1, L2, L3, M0, M1, M2, M3, D0, D1, D2, D3, Z2, F0, F1, F2, F3, Z3, HX⟩ := exit_all (w := w) (wx := w10) U0 U1 T1 T2 hd10 hb010 (by omega) (by omega) (by omega) (by omega) (by omega) (by omega) (by omega)
              have hkb : ∀ k, w7.heap.size ≤ k → k < w10.heap.size → wb.heap[k]? = w10.heap[k]? := fun k h1 h2 => by
                rw [HWB.out, setFar (by omega), setFar (by omega), setFar (by omega), setFar (by omega), HWA.out]
                show ((((w10.setCell ⟨w.heap.size + 1, 0, none⟩ _).setCell ⟨w.heap.size + 1, 1, none⟩ _).setCell ⟨w.heap.size + 1, 2, none⟩ _).setCell ⟨w.heap.size + 1, 3, none⟩ _).heap[k]? = _
                rw [setFar (by omega), setFar (by omega), setFar (by omega), setFar (by omega)]
              have HPB := Lib.hid ((hp10.keep hkb).tight.weak (T := fun b => w.heap.size ≤ b) (fun b hb => Nat.le_trans (by omega) hb))
              clear hkb T1 T2 U0 U1 hd10 hb010 n12 l1 l2 hp10 lt1 lt2 hle9
              go_upto_region 19 with (fail)
              rw [← HW10.out, ← HGN.out]
              refine wp_region_I [(false, 0), (false, 1), (false, 2), (true, 3), (true, 4), (false, 5), (false, 6)] (Two gn (gn + 1) oa ob) (by kernel_rfl) (by kernel_rfl) s0 ?_
              repeat (first | (refine heldI_skip rfl rfl ?_; simp only [Act.put, List.setIfInBounds_toArray, List.set_cons_zero, List.set_cons_succ]) | (refine heldI_take rfl ?_ rfl (fun w' hw' => ?_) ?_; rotate_left; (go_simp; first | done | with_reducible rfl); (try simp only [Act.put, List.setIfInBounds_toArray, List.set_cons_zero, List.set_cons_succ])))
              refine heldI_act rfl rfl fun K hK => ?_
              go_simp
              rw [← HWA.out]
              refine hK.out _ _ sa ?_
              clear hK K D0 D1 D2 D3 Z2
              refine heldI_act rfl rfl fun K hK => ?_
              go_simp
              rw [← HWB.out]
              refine hK.out _ _ sb ?_
              clear hK K F0 F1 F2 F3 Z3
              repeat (first | (refine heldI_skip rfl rfl ?_; simp only [Act.put, List.setIfInBounds_toArray, List.set_cons_zero, List.set_cons_succ]) | (refine heldI_take rfl ?_ rfl (fun w' hw' => ?_) ?_; rotate_left; (go_simp; first | done | with_reducible rfl); (try simp only [Act.put, List.setIfInBounds_toArray, List.set_cons_zero, List.set_cons_succ])))
              refine heldI_nil ?_
              go_wp2_with fail
              refine bodyPost_ret (results_cctt rfl _ _ (w.heap.size + 1) (w.heap.size + 1 + 1) _ _ _ _ _ _ _ _ rfl rfl HX.out.1 HX.out.2.1 Tryd.underlying25 rfl size_disk Tryd.underlying27 rfl size_log) rfl ?_
              exact ⟨⟨_, _, rfl, HX.out.2.2.1, HPB.out⟩, HX.out.2.2.2⟩
          · have q3 : (r.2.2 != 0) = true := by simp [hc]
            have hF' : openP d = (r.1, log0, [], r.2.2) := by rw [hF, if_pos (by simp [hc])]
            rw [hF']
            clear hF hF' hc
            unfold OpenE logV
            try unfold log0
            go_enter Tryd.func13, Tryd.ntmps13
            go_upto_region 1 with (fail)
            rw [← HW3.out]
            go_wp2_with fail
            refine kr.mono ?_
            rintro e w4 ⟨rfl, hb4⟩
            clear kr C0 C1 C2 C3
            have S0 := (hb4.block _ (block_lt R0)).trans R0
            have S1 := (hb4.block _ (block_lt R1)).trans R1
            have S2 := (hb4.block _ (block_lt R2)).trans R2
            have hd4 := (hd3.below hb4).tight
            have hb04 := hb3.trans (hb4.mono hb3.size)
            have hb3r := hb4
            have L0 : ∀ w', Below w4.heap.size w4 w' → w'.cell? ⟨w.heap.size, 0, none⟩ = some (.slice p1 d.secs.length q1) := fun w' h => cell_of_row w' _ 0 _ _ _ ((h.block _ (block_lt S0)).trans S0)
            have L1 : ∀ w', Below w4.heap.size w4 w' → w'.cell? ⟨w.heap.size, 1, none⟩ = some (.slice p2 d.loose.length q2) := fun w' h => cell_of_row w' _ 1 _ _ _ ((h.block _ (block_lt S0)).trans S0)
            have L2 : ∀ w', Below w4.heap.size w4 w' → w'.cell? ⟨w.heap.size, 2, none⟩ = some (.int .i64 d.fuse) := fun w' h => cell_of_row w' _ 2 _ _ _ ((h.block _ (block_lt S0)).trans S0)
            have L3 : ∀ w', Below w4.heap.size w4 w' → w'.cell? ⟨w.heap.size, 3, none⟩ = some (.bool false) := fun w' h => cell_of_row w' _ 3 _ _ _ ((h.block _ (block_lt S0)).trans S0)
            have C0 := cell_of_row w4 _ 0 _ _ _ S0
            have C1 := cell_of_row w4 _ 1 _ _ _ S0
            have C2 := cell_of_row w4 _ 2 _ _ _ S0
            have C3 := cell_of_row w4 _ 3 _ _ _ S0
            have h00 : Below w4.heap.size w4 w4.drew := below_draws (Below.refl _ _) 1
            have HB4 := Lib.hid hb4
            have HSS := Lib.hid (show _ ∧ _ ∧ _ from ⟨S0, S1, S2⟩)
            have HD4 := Lib.hid hd4
            have HB04 := Lib.hid hb04
            clear R0 R1 R2 S0 S1 S2 hd hd3 hd4 hb3 hb4 hb04 hb3r
            obtain ⟨cg, hcg⟩ : ∃ c, decide (gA < gB) = c := ⟨_, rfl⟩
            have HCG := Lib.hid (show (if cg = true then (1 : Int) else 0) = wh by rw [HWH.out, ← hcg]; simp)
            go_upto_region 6 with (fail)
            clear C0 C1 C2 C3
            refine wp_region_I [(false, 0), (false, 2), (true, 1), (true, 3), (false, 4)] (fun w' => Below w4.heap.size w4 w') (by kernel_rfl) (by kernel_rfl) h00 ?_
            repeat (first | (refine heldI_skip rfl rfl ?_; simp only [Act.put, List.setIfInBounds_toArray, List.set_cons_zero, List.set_cons_succ]) | (refine heldI_take rfl ?_ rfl (fun w' hw' => ?_) ?_; rotate_left; (go_simp; first | done | with_reducible rfl); (try simp only [Act.put, List.setIfInBounds_toArray, List.set_cons_zero, List.set_cons_succ])))
            refine heldI_act rfl rfl fun K hK => ?_
            go_simp
            refine (HKG1.out _ (HB4.out.trans (h00.mono HB4.out.size))).mono ?_
            rintro e w5 ⟨rfl, hb5⟩
            have h05 := h00.trans hb5
            refine hK.out _ _ h05 ?_
            clear hK K
            refine heldI_act rfl rfl fun K hK => ?_
            go_simp
            refine (HKG0.out _ (HB4.out.trans (h05.mono HB4.out.size))).mono ?_
            rintro e w6 ⟨rfl, hb6⟩
            have h06 := h05.trans (hb6.mono h05.size)
            refine hK.out _ _ h06 ?_
            clear hK K
            repeat (first | (refine heldI_skip rfl rfl ?_; simp only [Act.put, List.setIfInBounds_toArray, List.set_cons_zero, List.set_cons_succ]) | (refine heldI_take rfl ?_ rfl (fun w' hw' => ?_) ?_; rotate_left; (go_simp; first | done | with_reducible rfl); (try simp only [Act.put, List.setIfInBounds_toArray, List.set_cons_zero, List.set_cons_succ])))
            refine heldI_nil ?_
            have HB46 := Lib.hid h06
            clear hb5 hb6 h05 h06 h00
            go_upto_if 28 with (fail)
            go_cut [6] from 14 to 28 (fun s6 wx => s6 = .int .i64 wh ∧ wx = w6)
            case first =>
              cases cg with
              | true =>
                have HF := Lib.hid (show (1 : Int) = wh from HCG.out)
                go_wp2_with fail
                go_meet
                case rel => exact ⟨by rw [← HF.out], rfl⟩
              | false =>
                have HF := Lib.hid (show (0 : Int) = wh from HCG.out)
                go_wp2_with fail
                go_meet
                case rel => exact ⟨by rw [← HF.out], rfl⟩
            case rest =>
              obtain ⟨rfl, rfl⟩ := hcut
              clear hcg
              have hb3c := HB4.out.trans (HB46.out.mono HB4.out.size)
              have kg := HKGX.out wc hb3c
              have C0 := L0 wc HB46.out
              have C1 := L1 wc HB46.out
              have C2 := L2 wc HB46.out
              have C3 := L3 wc HB46.out
              clear L0 L1 L2 L3
              go_wp2_with fail
              refine kg.mono ?_
              rintro e w7 ⟨rfl, hb7⟩
              have hb47 := HB46.out.trans (hb7.mono HB46.out.size)
              have hb37 := HB4.out.trans (hb47.mono HB4.out.size)
              have hb07 := HB04.out.trans (hb47.mono HB04.out.size)
              have S0 := (hb47.block _ (block_lt HSS.out.1)).trans HSS.out.1
              have S1 := (hb47.block _ (block_lt HSS.out.2.1)).trans HSS.out.2.1
              have S2 := (hb47.block _ (block_lt HSS.out.2.2)).trans HSS.out.2.2
              have hd7 := (HD4.out.below hb47).tight
              clear kg C0 C1 C2 C3 hb7 hb47 hb3c
              have C0 := cell_of_row w7 _ 0 _ _ _ S0
              have C1 := cell_of_row w7 _ 1 _ _ _ S0
              have C2 := cell_of_row w7 _ 2 _ _ _ S0
              have C3 := cell_of_row w7 _ 3 _ _ _ S0
              have kq := HKR.out w7 hb37
              go_wp2_with fail
              refine kq.mono ?_
              rintro e w8 ⟨⟨lv, rfl, hlv⟩, hb8⟩
              have hLV := LV.of (M := w7.heap.size) hlv (Nat.le_refl _)
              obtain ⟨ax, cx, rfl, hpx⟩ := hLV
              have T0 := (hb8.block _ (block_lt S0)).trans S0
              have T1 := (hb8.block _ (block_lt S1)).trans S1
              have T2 := (hb8.block _ (block_lt S2)).trans S2
              have hd8 := (hd7.below hb8).tight
              have hb08 := hb07.trans (hb8.mono hb07.size)
              clear kq C0 C1 C2 C3 hlv S0 S1 S2 hd7 hb07
              have C0 := cell_of_row w8 _ 0 _ _ _ T0
              have C1 := cell_of_row w8 _ 1 _ _ _ T0
              have C2 := cell_of_row w8 _ 2 _ _ _ T0
              have C3 := cell_of_row w8 _ 3 _ _ _ T0
              have kc := refCompact_any _ (.slice ax lst.length cx) d ⟨wh, g, us, N⟩ lst w8 hd8 hpx.pieces HBL.out.1 HBL.out.2
              rw [← HRC.out] at kc
              unfold DLE logV at kc
              rw [← HN.out] at kc hpx ⊢
              have HPX := Lib.hid hpx
              have HTT := Lib.hid (show _ ∧ _ from ⟨T1, T2⟩)
              have HB08 := Lib.hid hb08
              have HM7 := Lib.hid hb8.size
              clear hpx T0 T1 T2 hb08 hd8 hb8
              go_wp2_with fail
              refine kc.mono ?_
              rintro e w9 ⟨⟨v', rfl, hd9⟩, hb9⟩
              obtain ⟨y1, z1, y2, z2, rfl, _, _⟩ := hd9.parts
              clear kc C0 C1 C2 C3
              obtain ⟨w10, hw10⟩ : ∃ w10, w10 = (w9.alloc (.cells #[.slice y1 r.1.secs.length z1, .slice y2 r.1.loose.length z2, .int .i64 r.1.fuse, .bool r.1.down] 25)).alloc (.cells #[.int .i64 r.2.1.half, .int .i64 r.2.1.gen, .int .i64 r.2.1.used, .int .i64 r.2.1.count] 27) := ⟨_, rfl⟩
              have hb10 : Below w9.heap.size w9 w10 := by rw [hw10]; exact Below.alloc (Below.alloc (Below.refl _ _) (Nat.le_refl _) _) (by simp) _
              have U0 : w10.heap[w9.heap.size]? = some (.cells #[.slice y1 r.1.secs.length z1, .slice y2 r.1.loose.length z2, .int .i64 r.1.fuse, .bool r.1.down] 25 (0, 0)) := by rw [hw10]; exact heap_alloc2_old w9 _ _
              have U1 : w10.heap[w9.heap.size + 1]? = some (.cells #[.int .i64 r.2.1.half, .int .i64 r.2.1.gen, .int .i64 r.2.1.used, .int .i64 r.2.1.count] 27 (0, 0)) := by rw [hw10]; exact heap_alloc2_new w9 _ _
              have hd10 := (hd9.below hb10).tight
              have hb810 := hb9.trans (hb10.mono hb9.size)
              have hb010 := HB08.out.trans (hb810.mono HB08.out.size)
              have T1 := (hb810.block _ (block_lt HTT.out.1)).trans HTT.out.1
              have T2 := (hb810.block _ (block_lt HTT.out.2)).trans HTT.out.2
              have lt1 := block_lt HTT.out.1
              have lt2 := block_lt HTT.out.2
              have hle9 := hb9.size
              have hp10 := (HPX.out.below hb810).tight
              have l7 : w.heap.size + 3 ≤ w7.heap.size := by have := hb37.size; omega
              obtain ⟨gn, hgn⟩ : ∃ gn, gn = w9.heap.size := ⟨_, rfl⟩
              rw [← hgn] at U0 U1 hle9
              have HW10 := Lib.hid hw10
              have HGN := Lib.hid hgn
              clear hw10 hgn hb10 hb810 hd9 hb9 hb37
              have D0 := cell_of_row w10 _ 0 _ _ _ T1
              have D1 := cell_of_row w10 _ 1 _ _ _ T1
              have D2 := cell_of_row w10 _ 2 _ _ _ T1
              have D3 := cell_of_row w10 _ 3 _ _ _ T1
              have F0 := cell_of_row w10 _ 0 _ _ _ T2
              have F1 := cell_of_row w10 _ 1 _ _ _ T2
              have F2 := cell_of_row w10 _ 2 _ _ _ T2
              have F3 := cell_of_row w10 _ 3 _ _ _ T2
              have C0 := cell_of_row w10 _ 0 _ _ _ U0
              have C1 := cell_of_row w10 _ 1 _ _ _ U0
              have C2 := cell_of_row w10 _ 2 _ _ _ U0
              have C3 := cell_of_row w10 _ 3 _ _ _ U0
              have Z2 := frozen_row T1
              have Z3 := frozen_row T2
              have HX := Lib.hid (exit_dl (.int .i64 0) (.int .i64 0) (.int .i64 0) (.int .i64 0) T1 T2 hd10 n12 hb010 l1 l2)
              clear T1 T2 U0 U1 hd10 hb010 n12 l1 l2 hp10 lt1 lt2 hle9
              go_upto_region 18 with (fail)
              rw [← HW10.out, ← HGN.out]
              go_wp2_with fail
              refine bodyPost_ret (results_cctt rfl _ _ (w.heap.size + 1) (w.heap.size + 1 + 1) _ _ _ _ _ _ _ _ rfl rfl HX.out.1 HX.out.2.1 Tryd.underlying25 rfl size_disk Tryd.underlying27 rfl size_log) rfl ?_
              exact ⟨⟨_, _, rfl, HX.out.2.2.1, pieces_nil _ _ _⟩, HX.out.2.2.2⟩
        · have qe : (rr.2.2 != 0) = true := by simp [he]
          have hX' : X = ([], 0, g, 10) := by rw [hX]; unfold finR; rw [if_neg he]
          have h10 : rr.2.2 = 10 := by rcases HERR.out with h | h; exact absurd h he; exact h
          have hF : openP d = (d, log0, [], rr.2.2) := by rw [HOP.out, hX', h10]; rfl
          rw [hF]
          clear hF he hX hX' hne h10
          unfold OpenE logV
          try unfold log0
          go_enter Tryd.func13, Tryd.ntmps13
          go_upto_region 1 with (fail)
          rw [← HW3.out]
          go_wp2_with fail
          refine kr.mono ?_
          rintro e w4 ⟨rfl, hb4⟩
          clear kr C0 C1 C2 C3
          have S0 := (hb4.block _ (block_lt R0)).trans R0
          have S1 := (hb4.block _ (block_lt R1)).trans R1
          have S2 := (hb4.block _ (block_lt R2)).trans R2
          have hd4 := (hd3.below hb4).tight
          have hb04 := hb3.trans (hb4.mono hb3.size)
          have hb3r := hb4
          have L0 : ∀ w', Below w4.heap.size w4 w' → w'.cell? ⟨w.heap.size, 0, none⟩ = some (.slice p1 d.secs.length q1) := fun w' h => cell_of_row w' _ 0 _ _ _ ((h.block _ (block_lt S0)).trans S0)
          have L1 : ∀ w', Below w4.heap.size w4 w' → w'.cell? ⟨w.heap.size, 1, none⟩ = some (.slice p2 d.loose.length q2) := fun w' h => cell_of_row w' _ 1 _ _ _ ((h.block _ (block_lt S0)).trans S0)
          have L2 : ∀ w', Below w4.heap.size w4 w' → w'.cell? ⟨w.heap.size, 2, none⟩ = some (.int .i64 d.fuse) := fun w' h => cell_of_row w' _ 2 _ _ _ ((h.block _ (block_lt S0)).trans S0)
          have L3 : ∀ w', Below w4.heap.size w4 w' → w'.cell? ⟨w.heap.size, 3, none⟩ = some (.bool false) := fun w' h => cell_of_row w' _ 3 _ _ _ ((h.block _ (block_lt S0)).trans S0)
          have C0 := cell_of_row w4 _ 0 _ _ _ S0
          have C1 := cell_of_row w4 _ 1 _ _ _ S0
          have C2 := cell_of_row w4 _ 2 _ _ _ S0
          have C3 := cell_of_row w4 _ 3 _ _ _ S0
          have h00 : Below w4.heap.size w4 w4.drew := below_draws (Below.refl _ _) 1
          have HB4 := Lib.hid hb4
          have HSS := Lib.hid (show _ ∧ _ ∧ _ from ⟨S0, S1, S2⟩)
          have HD4 := Lib.hid hd4
          have HB04 := Lib.hid hb04
          clear R0 R1 R2 S0 S1 S2 hd hd3 hd4 hb3 hb4 hb04 hb3r
          obtain ⟨cg, hcg⟩ : ∃ c, decide (gA < gB) = c := ⟨_, rfl⟩
          have HCG := Lib.hid (show (if cg = true then (1 : Int) else 0) = wh by rw [HWH.out, ← hcg]; simp)
          go_upto_region 6 with (fail)
          clear C0 C1 C2 C3
          refine wp_region_I [(false, 0), (false, 2), (true, 1), (true, 3), (false, 4)] (fun w' => Below w4.heap.size w4 w') (by kernel_rfl) (by kernel_rfl) h00 ?_
          repeat (first | (refine heldI_skip rfl rfl ?_; simp only [Act.put, List.setIfInBounds_toArray, List.set_cons_zero, List.set_cons_succ]) | (refine heldI_take rfl ?_ rfl (fun w' hw' => ?_) ?_; rotate_left; (go_simp; first | done | with_reducible rfl); (try simp only [Act.put, List.setIfInBounds_toArray, List.set_cons_zero, List.set_cons_succ])))
          refine heldI_act rfl rfl fun K hK => ?_
          go_simp
          refine (HKG1.out _ (HB4.out.trans (h00.mono HB4.out.size))).mono ?_
          rintro e w5 ⟨rfl, hb5⟩
          have h05 := h00.trans hb5
          refine hK.out _ _ h05 ?_
          clear hK K
          refine heldI_act rfl rfl fun K hK => ?_
          go_simp
          refine (HKG0.out _ (HB4.out.trans (h05.mono HB4.out.size))).mono ?_
          rintro e w6 ⟨rfl, hb6⟩
          have h06 := h05.trans (hb6.mono h05.size)
          refine hK.out _ _ h06 ?_
          clear hK K
          repeat (first | (refine heldI_skip rfl rfl ?_; simp only [Act.put, List.setIfInBounds_toArray, List.set_cons_zero, List.set_cons_succ]) | (refine heldI_take rfl ?_ rfl (fun w' hw' => ?_) ?_; rotate_left; (go_simp; first | done | with_reducible rfl); (try simp only [Act.put, List.setIfInBounds_toArray, List.set_cons_zero, List.set_cons_succ])))
          refine heldI_nil ?_
          have HB46 := Lib.hid h06
          clear hb5 hb6 h05 h06 h00
          go_upto_if 28 with (fail)
          go_cut [6] from 14 to 28 (fun s6 wx => s6 = .int .i64 wh ∧ wx = w6)
          case first =>
            cases cg with
            | true =>
              have HF := Lib.hid (show (1 : Int) = wh from HCG.out)
              go_wp2_with fail
              go_meet
              case rel => exact ⟨by rw [← HF.out], rfl⟩
            | false =>
              have HF := Lib.hid (show (0 : Int) = wh from HCG.out)
              go_wp2_with fail
              go_meet
              case rel => exact ⟨by rw [← HF.out], rfl⟩
          case rest =>
            obtain ⟨rfl, rfl⟩ := hcut
            clear hcg
            have hb3c := HB4.out.trans (HB46.out.mono HB4.out.size)
            have kg := HKGX.out wc hb3c
            have C0 := L0 wc HB46.out
            have C1 := L1 wc HB46.out
            have C2 := L2 wc HB46.out
            have C3 := L3 wc HB46.out
            clear L0 L1 L2 L3
            go_wp2_with fail
            refine kg.mono ?_
            rintro e w7 ⟨rfl, hb7⟩
            have hb47 := HB46.out.trans (hb7.mono HB46.out.size)
            have hb37 := HB4.out.trans (hb47.mono HB4.out.size)
            have hb07 := HB04.out.trans (hb47.mono HB04.out.size)
            have S0 := (hb47.block _ (block_lt HSS.out.1)).trans HSS.out.1
            have S1 := (hb47.block _ (block_lt HSS.out.2.1)).trans HSS.out.2.1
            have S2 := (hb47.block _ (block_lt HSS.out.2.2)).trans HSS.out.2.2
            have hd7 := (HD4.out.below hb47).tight
            clear kg C0 C1 C2 C3 hb7 hb47 hb3c
            have C0 := cell_of_row w7 _ 0 _ _ _ S0
            have C1 := cell_of_row w7 _ 1 _ _ _ S0
            have C2 := cell_of_row w7 _ 2 _ _ _ S0
            have C3 := cell_of_row w7 _ 3 _ _ _ S0
            have kq := HKR.out w7 hb37
            go_wp2_with fail
            refine kq.mono ?_
            rintro e w8 ⟨⟨lv, rfl, hlv⟩, hb8⟩
            have hLV := LV.of (M := w7.heap.size) hlv (Nat.le_refl _)
            obtain ⟨ax, cx, rfl, hpx⟩ := hLV
            have T0 := (hb8.block _ (block_lt S0)).trans S0
            have T1 := (hb8.block _ (block_lt S1)).trans S1
            have T2 := (hb8.block _ (block_lt S2)).trans S2
            have hd8 := (hd7.below hb8).tight
            have hb08 := hb07.trans (hb8.mono hb07.size)
            clear kq C0 C1 C2 C3 hlv S0 S1 S2 hd7 hb07
            have C0 := cell_of_row w8 _ 0 _ _ _ T0
            have C1 := cell_of_row w8 _ 1 _ _ _ T0
            have C2 := cell_of_row w8 _ 2 _ _ _ T0
            have C3 := cell_of_row w8 _ 3 _ _ _ T0
            have D0 := cell_of_row w8 _ 0 _ _ _ T1
            have D1 := cell_of_row w8 _ 1 _ _ _ T1
            have D2 := cell_of_row w8 _ 2 _ _ _ T1
            have D3 := cell_of_row w8 _ 3 _ _ _ T1
            have F0 := cell_of_row w8 _ 0 _ _ _ T2
            have F1 := cell_of_row w8 _ 1 _ _ _ T2
            have F2 := cell_of_row w8 _ 2 _ _ _ T2
            have F3 := cell_of_row w8 _ 3 _ _ _ T2
            have Z2 := frozen_row T1
            have Z3 := frozen_row T2
            have HX := Lib.hid (exit_dl (.int .i64 0) (.int .i64 0) (.int .i64 0) (.int .i64 0) T1 T2 hd8 n12 hb08 l1 l2)
            clear T0 T1 T2 hd8 hb08 hb8 n12 l1 l2 hpx
            go_wp2_with fail
            refine bodyPost_ret (results_cctt rfl _ _ (w.heap.size + 1) (w.heap.size + 1 + 1) _ _ _ _ _ _ _ _ rfl rfl HX.out.1 HX.out.2.1 Tryd.underlying25 rfl size_disk Tryd.underlying27 rfl size_log) rfl ?_
            exact ⟨⟨_, _, rfl, HX.out.2.2.1, pieces_nil _ _ _⟩, HX.out.2.2.2⟩
end Go.Proofs.YtaijompnohkmaaaDoor
