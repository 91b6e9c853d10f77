/- Layer 5 (wal): Open. -/
import Derived.Test.YtaijompnohkmaaaGreatDoorMK
set_option linter.unusedSimpArgs false
set_option linter.unusedVariables false
namespace Go.Proofs.YtaijompnohkmaaaGreatDoor
open Go.RowKit WalP PackP
theorem results_cctt {P : Program} {fn : Func} {p q u v : Tmp} {tp tq : TypeId} (h : fn.results = #[.cell p tp, .cell q tq, .tmp u, .tmp v]) (tmps : Array Value) (w : World) (gp gq : Nat) (t1 t2 : TypeId) (c1 c2 : Array Value) (f1 f2 : Nat × Nat) (d1 d2 : TypeDesc)
    (hp : tmps.getD p undef = .pointer (some ⟨gp, 0, none⟩)) (hq : tmps.getD q undef = .pointer (some ⟨gq, 0, none⟩)) (hg1 : w.heap[gp]? = some (.cells c1 t1 f1)) (hg2 : w.heap[gq]? = some (.cells c2 t2 f2))
    (hu1 : P.underlying tp = some d1) (hd1 : (match d1 with | .struct _ | .array _ _ => true | _ => false) = true) (hi1 : (P.info? tp).map (·.size) = some c1.size)
    (hu2 : P.underlying tq = some d2) (hd2 : (match d2 with | .struct _ | .array _ _ => true | _ => false) = true) (hi2 : (P.info? tq).map (·.size) = some c2.size) :
    (results fn tmps).run P w = .ok (.tuple #[.agg c1, .agg c2, tmps.getD u undef, tmps.getD v undef]) w := by
  have hp' : tmps[p]?.getD undef = .pointer (some ⟨gp, 0, none⟩) := by simpa using hp
  have hq' : tmps[q]?.getD undef = .pointer (some ⟨gq, 0, none⟩) := by simpa using hq
  simp [results, h, hp', hq', asAddr, run_loadVar_row w gp t1 tp c1 f1 d1 hg1 hu1 hd1 hi1, run_loadVar_row w gq t2 tq c2 f2 d2 hg2 hu2 hd2 hi2]
theorem three (w : World) (o0 o1 o2 : Obj) : ∃ w3, w3 = ((w.alloc o0).alloc o1).alloc o2 ∧ Below w.heap.size w w3 ∧ w3.heap.size = w.heap.size + 3 ∧ w3.heap[w.heap.size]? = some o0 ∧ w3.heap[w.heap.size + 1]? = some o1 ∧ w3.heap[w.heap.size + 1 + 1]? = some o2 := by
  refine ⟨_, rfl, Below.alloc (Below.alloc (Below.alloc (Below.refl _ _) (Nat.le_refl _) _) (by simp) _) (by simp; omega) _, by simp, ?_, ?_, ?_⟩
  all_goals
    simp only [alloc_heap, alloc_size]
    repeat (first | rw [if_pos trivial] | rw [if_neg (by omega)])
/-- How Open ends. -/
def OpenE (w : World) (r : DiskP × LogP × List (List UInt8) × Int) (e : Ending) (w' : World) : Prop :=
  (∃ v' lv, e = .returned (.tuple #[v', logV r.2.1, lv, .int .i64 r.2.2.2]) ∧ DiskV w'.heap.size w' v' r.1 ∧ PiecesS (fun b => w.heap.size ≤ b) w'.heap.size w' lv r.2.2.1) ∧ Below w.heap.size w w'
theorem pieces_nil (S : Nat → Prop) (B : Nat) (w : World) : PiecesS S B w (.slice none 0 0) [] := ⟨[], Row.nil _ _ _, fun a n c h => by simp at h, fun k h => absurd h (Nat.not_lt_zero _)⟩
/-- Records, in a slice whose blocks lie from M on. -/
def LV (M : Nat) (w : World) (l : List (List UInt8)) (s : Value) : Prop := ∃ a c, s = .slice a l.length c ∧ PiecesS (fun b => M ≤ b) w.heap.size w (.slice a l.length c) l
theorem LV.of {M M' : Nat} {w : World} {l : List (List UInt8)} {s : Value} (h : PiecesS (fun b => M' ≤ b) w.heap.size w s l) (hM : M ≤ M') : LV M w l s := by
  have h := h.weak (T := fun b => M ≤ b) (fun b hb => Nat.le_trans hM hb)
  obtain ⟨vs, ⟨h1, a, c, rfl, h2, h3, h4⟩, h5, h6⟩ := h
  exact ⟨a, c, rfl, vs, ⟨h1, a, c, rfl, h2, h3, h4⟩, h5, h6⟩
theorem LV.below {M : Nat} {w w' : World} {l : List (List UInt8)} {s : Value} (h : LV M w l s) (hb : Below w.heap.size w w') : LV M w' l s := by
  obtain ⟨a, c, rfl, h⟩ := h
  exact ⟨a, c, rfl, (h.below hb).tight⟩
theorem put4_other {w : World} {G k : Nat} (h : G ≠ k) (a b c d : Value) : (put4 w G a b c d).heap[k]? = w.heap[k]? := by
  unfold put4
  rw [setFar h, setFar h, setFar h, setFar h]
theorem zero_log : ∀ w, (zeroValue 41).run Tryz.prog w = .ok (.agg #[.int .i64 0, .int .i64 0, .int .i64 0, .int .i64 0]) w := by
  have h : (Tryz.prog.info? 41).bind (fun i => i.zero) = some (.agg #[.int .i64 0, .int .i64 0, .int .i64 0, .int .i64 0]) := by kernel_rfl
  obtain ⟨i, hi, hz⟩ := Option.bind_eq_some_iff.1 h
  intro w
  simp [zeroValue, typeInfo, hi, hz]
theorem put4_size (w : World) (G : Nat) (a b c d : Value) : (put4 w G a b c d).heap.size = w.heap.size := by simp [put4, World.setCell]
set_option maxRecDepth 100000 in
set_option maxHeartbeats 8000000 in
theorem open_any {B : Nat} (v : Value) (d : DiskP) (w : World) (hd : DiskV B w v d) (ht : TabAt w) (hT : 1 < w.heap.size) :
    Calls Tryz.prog 57 #[v] w (OpenE w (openP d)) := by
  have hd := hd.tight
  obtain ⟨p1, q1, p2, q2, rfl, _, _⟩ := hd.parts
  obtain ⟨dn, hdn⟩ : ∃ b, b = d.down := ⟨_, rfl⟩
  rw [← hdn] at hd ⊢
  have HDN := Lib.hid hdn
  clear hdn
  obtain ⟨w3, hw3, hb3, hs3, R0, R1, R2⟩ := three w (.cells #[.slice p1 d.secs.length q1, .slice p2 d.loose.length q2, .int .i64 d.fuse, .bool dn] 38) (.cells #[.slice none 0 0, .slice none 0 0, .int .i64 0, .bool false] 38) (.cells #[.int .i64 0, .int .i64 0, .int .i64 0, .int .i64 0] 41)
  have hd3 := (hd.below hb3).tight
  have HW3 := Lib.hid hw3
  clear hw3
  have n12 : w.heap.size + 1 ≠ w.heap.size + 1 + 1 := by omega
  have l1 : w.heap.size ≤ w.heap.size + 1 := by omega
  have l2 : w.heap.size ≤ w.heap.size + 1 + 1 := by omega
  have kr := right_any _ d w3 hd3
  obtain ⟨R, hR⟩ : ∃ R, R = rightB d := ⟨_, rfl⟩
  rw [← hR] at kr
  have HR := Lib.hid hR
  clear hR
  have C0 := cell_of_row w3 _ 0 _ _ _ R0
  have C1 := cell_of_row w3 _ 1 _ _ _ R0
  have C2 := cell_of_row w3 _ 2 _ _ _ R0
  have C3 := cell_of_row w3 _ 3 _ _ _ R0
  cases R with
  | false =>
    have hF : openP d = (d, log0, [], 1) := by unfold openP; rw [if_pos HR.out.symm]
    rw [hF]
    clear hF
    unfold OpenE logV log0
    go_enter Tryz.func57, Tryz.ntmps57
    go_upto_region 1 with (fail)
    rw [← HW3.out]
    go_wp2_with fail
    refine kr.mono ?_
    rintro e w4 ⟨rfl, hb4⟩
    clear kr C0 C1 C2 C3
    have S0 := (hb4.block _ (block_lt R0)).trans R0
    have S1 := (hb4.block _ (block_lt R1)).trans R1
    have S2 := (hb4.block _ (block_lt R2)).trans R2
    have hd4 := (hd3.below hb4).tight
    have hb04 := hb3.trans (hb4.mono hb3.size)
    have C0 := cell_of_row w4 _ 0 _ _ _ S0
    have C1 := cell_of_row w4 _ 1 _ _ _ S0
    have C2 := cell_of_row w4 _ 2 _ _ _ S0
    have C3 := cell_of_row w4 _ 3 _ _ _ S0
    have D0 := cell_of_row w4 _ 0 _ _ _ S1
    have D1 := cell_of_row w4 _ 1 _ _ _ S1
    have D2 := cell_of_row w4 _ 2 _ _ _ S1
    have D3 := cell_of_row w4 _ 3 _ _ _ S1
    have F0 := cell_of_row w4 _ 0 _ _ _ S2
    have F1 := cell_of_row w4 _ 1 _ _ _ S2
    have F2 := cell_of_row w4 _ 2 _ _ _ S2
    have F3 := cell_of_row w4 _ 3 _ _ _ S2
    have Z2 := frozen_row S1
    have Z3 := frozen_row S2
    have HX := Lib.hid (exit_dl (.int .i64 0) (.int .i64 0) (.int .i64 0) (.int .i64 0) S1 S2 hd4 n12 hb04 l1 l2)
    clear R0 R1 R2 S0 S1 S2 hd hd3 hd4 hb3 hb4 hb04 hs3 ht n12 l1 l2
    go_wp2_with fail
    refine bodyPost_ret (results_cctt rfl _ _ (w.heap.size + 1) (w.heap.size + 1 + 1) _ _ _ _ _ _ _ _ rfl rfl HX.out.1 HX.out.2.1 Tryz.underlying38 rfl size_disk Tryz.underlying41 rfl size_log) rfl ?_
    exact ⟨⟨_, _, rfl, HX.out.2.2.1, pieces_nil _ _ _⟩, HX.out.2.2.2⟩
  | true =>
    cases dn with
    | true =>
      have hF : openP d = (d, log0, [], 9) := by unfold openP; rw [if_neg (by rw [← HR.out]; simp), if_pos HDN.out.symm]
      rw [hF]
      clear hF
      unfold OpenE logV log0
      go_enter Tryz.func57, Tryz.ntmps57
      go_upto_region 1 with (fail)
      rw [← HW3.out]
      go_wp2_with fail
      refine kr.mono ?_
      rintro e w4 ⟨rfl, hb4⟩
      clear kr C0 C1 C2 C3
      have S0 := (hb4.block _ (block_lt R0)).trans R0
      have S1 := (hb4.block _ (block_lt R1)).trans R1
      have S2 := (hb4.block _ (block_lt R2)).trans R2
      have hd4 := (hd3.below hb4).tight
      have hb04 := hb3.trans (hb4.mono hb3.size)
      have C0 := cell_of_row w4 _ 0 _ _ _ S0
      have C1 := cell_of_row w4 _ 1 _ _ _ S0
      have C2 := cell_of_row w4 _ 2 _ _ _ S0
      have C3 := cell_of_row w4 _ 3 _ _ _ S0
      have D0 := cell_of_row w4 _ 0 _ _ _ S1
      have D1 := cell_of_row w4 _ 1 _ _ _ S1
      have D2 := cell_of_row w4 _ 2 _ _ _ S1
      have D3 := cell_of_row w4 _ 3 _ _ _ S1
      have F0 := cell_of_row w4 _ 0 _ _ _ S2
      have F1 := cell_of_row w4 _ 1 _ _ _ S2
      have F2 := cell_of_row w4 _ 2 _ _ _ S2
      have F3 := cell_of_row w4 _ 3 _ _ _ S2
      have Z2 := frozen_row S1
      have Z3 := frozen_row S2
      have HX := Lib.hid (exit_dl (.int .i64 0) (.int .i64 0) (.int .i64 0) (.int .i64 0) S1 S2 hd4 n12 hb04 l1 l2)
      clear R0 R1 R2 S0 S1 S2 hd hd3 hd4 hb3 hb4 hb04 hs3 ht n12 l1 l2
      go_wp2_with fail
      refine bodyPost_ret (results_cctt rfl _ _ (w.heap.size + 1) (w.heap.size + 1 + 1) _ _ _ _ _ _ _ _ rfl rfl HX.out.1 HX.out.2.1 Tryz.underlying38 rfl size_disk Tryz.underlying41 rfl size_log) rfl ?_
      exact ⟨⟨_, _, rfl, HX.out.2.2.1, pieces_nil _ _ _⟩, HX.out.2.2.2⟩
    | false =>
      have hh := right_half HR.out.symm
      obtain ⟨x0, hx0⟩ : ∃ x, x = recordsP (viewP d 0) := ⟨_, rfl⟩
      obtain ⟨x1, hx1⟩ : ∃ x, x = recordsP (viewP d 1) := ⟨_, rfl⟩
      have hbd0 := records_bounds (viewP d 0)
      have hbd1 := records_bounds (viewP d 1)
      rw [← hx0, length_viewP] at hbd0
      rw [← hx1, length_viewP] at hbd1
      have HX0 := Lib.hid hx0
      have HX1 := Lib.hid hx1
      clear hx0 hx1
      obtain ⟨lA, uA, gA, eA⟩ := x0
      obtain ⟨lB, uB, gB, eB⟩ := x1
      obtain ⟨lX, uX, gX, eX, wh, hch⟩ : ∃ (lX : List (List UInt8)) (uX : Nat) (gX eX wh : Int), (gA < gB ∧ lX = lB ∧ uX = uB ∧ gX = gB ∧ eX = eB ∧ wh = 1) ∨ (¬ gA < gB ∧ lX = lA ∧ uX = uA ∧ gX = gA ∧ eX = eA ∧ wh = 0) := by
        by_cases h : gA < gB
        · exact ⟨lB, uB, gB, eB, 1, .inl ⟨h, rfl, rfl, rfl, rfl, rfl⟩⟩
        · exact ⟨lA, uA, gA, eA, 0, .inr ⟨h, rfl, rfl, rfl, rfl, rfl⟩⟩
      have hwh : wh = 0 ∨ wh = 1 := by rcases hch with h | h <;> omega
      have hbX : (∀ b ∈ lX, b.length ≤ 6000) ∧ lX.length ≤ half d := by
        rcases hch with ⟨_, rfl, _⟩ | ⟨_, rfl, _⟩
        · exact hbd1
        · exact hbd0
      have hop : openP d = (if eX ≠ 0 then (d, log0, [], eX) else if (compactP d ⟨wh, gX, uX, lX.length⟩ lX).2.2 ≠ 0 then ((compactP d ⟨wh, gX, uX, lX.length⟩ lX).1, log0, [], (compactP d ⟨wh, gX, uX, lX.length⟩ lX).2.2) else ((compactP d ⟨wh, gX, uX, lX.length⟩ lX).1, (compactP d ⟨wh, gX, uX, lX.length⟩ lX).2.1, lX, 0)) := by
        unfold openP
        rw [if_neg (by rw [← HR.out]; simp), if_neg (by rw [← HDN.out]; simp), ← HX0.out, ← HX1.out]
        rcases hch with ⟨h, rfl, rfl, rfl, rfl, rfl⟩ | ⟨h, rfl, rfl, rfl, rfl, rfl⟩
        · simp only [if_pos h]
        · simp only [if_neg h]
      have HCH := Lib.hid hch
      have HBX := Lib.hid hbX
      have HWH := Lib.hid hwh
      have HT0 := Lib.hid ht
      clear hch hbX hbd0 hbd1 hwh ht
      obtain ⟨r, hr⟩ : ∃ r, r = compactP d ⟨wh, gX, uX, lX.length⟩ lX := ⟨_, rfl⟩
      rw [← hr] at hop
      have HOP := Lib.hid hop
      have HRR := Lib.hid hr
      clear hr hop
      by_cases he : eX ≠ 0
      · have q1 : (eX != 0) = true := by simpa using he
        have hF : openP d = (d, log0, [], eX) := by rw [HOP.out, if_pos he]
        rw [hF]
        clear hF he
        unfold OpenE logV log0
        go_enter Tryz.func57, Tryz.ntmps57
        go_upto_region 1 with (fail)
        rw [← HW3.out]
        go_wp2_with fail
        refine kr.mono ?_
        rintro e w4 ⟨rfl, hb4⟩
        clear kr C0 C1 C2 C3
        have S0 := (hb4.block _ (block_lt R0)).trans R0
        have S1 := (hb4.block _ (block_lt R1)).trans R1
        have S2 := (hb4.block _ (block_lt R2)).trans R2
        have hd4 := (hd3.below hb4).tight
        have hb04 := hb3.trans (hb4.mono hb3.size)
        have C0 := cell_of_row w4 _ 0 _ _ _ S0
        have C1 := cell_of_row w4 _ 1 _ _ _ S0
        have C2 := cell_of_row w4 _ 2 _ _ _ S0
        have C3 := cell_of_row w4 _ 3 _ _ _ S0
        have kv := view_any _ d 0 w4 hd4 (.inl rfl) (Nat.le_trans hh (by decide))
        have htb : TabAt w4 := HT0.out.below hb04 hT
        go_wp2_with fail
        refine kv.mono ?_
        rintro e w5 ⟨⟨sv, rfl, hsv⟩, hb5⟩
        clear kv C0 C1 C2 C3
        have kq := records_any sv _ w5 hsv (by rw [length_viewP]; omega) (htb.below hb5 (Nat.lt_of_lt_of_le hT hb04.size)) (Nat.lt_of_lt_of_le hT (Nat.le_trans hb04.size hb5.size))
        rw [← HX0.out] at kq
        go_wp2_with fail
        refine kq.mono ?_
        rintro e w6 ⟨⟨va, rfl, hva⟩, hb6⟩
        clear kq hsv
        have hb46 := hb5.trans (hb6.mono hb5.size)
        have hb06 := hb04.trans (hb46.mono hb04.size)
        have hLA := LV.of (M := w3.heap.size) hva (Nat.le_trans hb4.size hb5.size)
        clear hva
        have S0 := (hb46.block _ (block_lt S0)).trans S0
        have S1 := (hb46.block _ (block_lt S1)).trans S1
        have S2 := (hb46.block _ (block_lt S2)).trans S2
        have hd6 := (hd4.below hb46).tight
        have htb : TabAt w6 := HT0.out.below hb06 hT
        have C0 := cell_of_row w6 _ 0 _ _ _ S0
        have C1 := cell_of_row w6 _ 1 _ _ _ S0
        have C2 := cell_of_row w6 _ 2 _ _ _ S0
        have C3 := cell_of_row w6 _ 3 _ _ _ S0
        have kv := view_any _ d 1 w6 hd6 (.inr rfl) (Nat.le_trans hh (by decide))
        have HLA := Lib.hid hLA
        have hm37 : w3.heap.size ≤ w6.heap.size := Nat.le_trans hb4.size hb46.size
        clear hLA hb46 hd4 hd3 hd hb5 hb6
        go_wp2_with fail
        refine kv.mono ?_
        rintro e w7 ⟨⟨sv, rfl, hsv⟩, hb7⟩
        clear kv C0 C1 C2 C3
        have kq := records_any sv _ w7 hsv (by rw [length_viewP]; omega) (htb.below hb7 (Nat.lt_of_lt_of_le hT hb06.size)) (Nat.lt_of_lt_of_le hT (Nat.le_trans hb06.size hb7.size))
        rw [← HX1.out] at kq
        go_wp2_with fail
        refine kq.mono ?_
        rintro e w8 ⟨⟨vb, rfl, hvb⟩, hb8⟩
        clear kq hsv
        have hb68 := hb7.trans (hb8.mono hb7.size)
        have hb08 := hb06.trans (hb68.mono hb06.size)
        have HLB := Lib.hid (LV.of (M := w3.heap.size) hvb (Nat.le_trans hm37 hb7.size))
        have HLA := Lib.hid (HLA.out.below hb68)
        have S0 := (hb68.block _ (block_lt S0)).trans S0
        have S1 := (hb68.block _ (block_lt S1)).trans S1
        have S2 := (hb68.block _ (block_lt S2)).trans S2
        have hd8 := (hd6.below hb68).tight
        have HTB := Lib.hid (show TabAt w8 from HT0.out.below hb08 hT)
        have HM := Lib.hid (show w.heap.size + 3 ≤ w3.heap.size by omega)
        clear hvb hd6 hb7 hb8 hb68 hb04 hb06 hb4 hb3 htb R0 R1 R2 hs3 hm37
        go_upto_if 45 with (fail)
        go_cut [6, 7, 8, 9, 10] from 43 to 49 (fun s6 s7 s8 s9 s10 wx => s6 = .int .i64 wh ∧ LV w3.heap.size w8 lX s7 ∧ s8 = .int .i64 uX ∧ s9 = .int .i64 gX ∧ s10 = .int .i64 eX ∧ wx = w8)
        case first =>
          rcases HCH.out with ⟨h, e1, e2, e3, e4, e5⟩ | ⟨h, e1, e2, e3, e4, e5⟩
          · have q0 : decide (gA < gB) = true := by simpa using h
            have HE := Lib.hid (show _ ∧ _ ∧ _ ∧ _ ∧ _ from ⟨e1, e2, e3, e4, e5⟩)
            clear e1 e2 e3 e4 e5
            go_wp2_with fail
            go_meet
            case rel => exact ⟨by rw [HE.out.2.2.2.2], by rw [HE.out.1]; exact HLB.out, by rw [HE.out.2.1], by rw [HE.out.2.2.1], by rw [HE.out.2.2.2.1], rfl⟩
          · have q0 : decide (gA < gB) = false := by simpa using h
            have HE := Lib.hid (show _ ∧ _ ∧ _ ∧ _ ∧ _ from ⟨e1, e2, e3, e4, e5⟩)
            clear e1 e2 e3 e4 e5
            go_wp2_with fail
            go_meet
            case rel => exact ⟨by rw [HE.out.2.2.2.2], by rw [HE.out.1]; exact HLA.out, by rw [HE.out.2.1], by rw [HE.out.2.2.1], by rw [HE.out.2.2.2.1], rfl⟩
        case rest =>
          obtain ⟨rfl, ⟨ax, cx, rfl, hpx⟩, rfl, rfl, rfl, rfl⟩ := hcut
          have C0 := cell_of_row wc _ 0 _ _ _ S0
          have C1 := cell_of_row wc _ 1 _ _ _ S0
          have C2 := cell_of_row wc _ 2 _ _ _ S0
          have C3 := cell_of_row wc _ 3 _ _ _ S0
          have D0 := cell_of_row wc _ 0 _ _ _ S1
          have D1 := cell_of_row wc _ 1 _ _ _ S1
          have D2 := cell_of_row wc _ 2 _ _ _ S1
          have D3 := cell_of_row wc _ 3 _ _ _ S1
          have F0 := cell_of_row wc _ 0 _ _ _ S2
          have F1 := cell_of_row wc _ 1 _ _ _ S2
          have F2 := cell_of_row wc _ 2 _ _ _ S2
          have F3 := cell_of_row wc _ 3 _ _ _ S2
          have Z2 := frozen_row S1
          have Z3 := frozen_row S2
          have HX := Lib.hid (exit_dl (.int .i64 0) (.int .i64 0) (.int .i64 0) (.int .i64 0) S1 S2 hd8 n12 hb08 l1 l2)
          clear hpx S0 S1 S2 hd8 hb08 n12 l1 l2
          go_wp2_with fail
          refine bodyPost_ret (results_cctt rfl _ _ (w.heap.size + 1) (w.heap.size + 1 + 1) _ _ _ _ _ _ _ _ rfl rfl HX.out.1 HX.out.2.1 Tryz.underlying38 rfl size_disk Tryz.underlying41 rfl size_log) rfl ?_
          exact ⟨⟨_, _, rfl, HX.out.2.2.1, pieces_nil _ _ _⟩, HX.out.2.2.2⟩
      · have he0 : eX = 0 := Classical.not_not.1 he
        have q1 : (eX != 0) = false := by simp [he0]
        have HE0 := Lib.hid he0
        clear he0
        by_cases hc : r.2.2 ≠ 0
        · have q2 : (r.2.2 != 0) = true := by simpa using hc
          have hF : openP d = (r.1, log0, [], r.2.2) := by rw [HOP.out, if_neg he, if_pos hc]
          rw [hF]
          clear hF he hc
          unfold OpenE logV log0
          go_enter Tryz.func57, Tryz.ntmps57
          go_upto_region 1 with (fail)
          rw [← HW3.out]
          go_wp2_with fail
          refine kr.mono ?_
          rintro e w4 ⟨rfl, hb4⟩
          clear kr C0 C1 C2 C3
          have S0 := (hb4.block _ (block_lt R0)).trans R0
          have S1 := (hb4.block _ (block_lt R1)).trans R1
          have S2 := (hb4.block _ (block_lt R2)).trans R2
          have hd4 := (hd3.below hb4).tight
          have hb04 := hb3.trans (hb4.mono hb3.size)
          have C0 := cell_of_row w4 _ 0 _ _ _ S0
          have C1 := cell_of_row w4 _ 1 _ _ _ S0
          have C2 := cell_of_row w4 _ 2 _ _ _ S0
          have C3 := cell_of_row w4 _ 3 _ _ _ S0
          have kv := view_any _ d 0 w4 hd4 (.inl rfl) (Nat.le_trans hh (by decide))
          have htb : TabAt w4 := HT0.out.below hb04 hT
          go_wp2_with fail
          refine kv.mono ?_
          rintro e w5 ⟨⟨sv, rfl, hsv⟩, hb5⟩
          clear kv C0 C1 C2 C3
          have kq := records_any sv _ w5 hsv (by rw [length_viewP]; omega) (htb.below hb5 (Nat.lt_of_lt_of_le hT hb04.size)) (Nat.lt_of_lt_of_le hT (Nat.le_trans hb04.size hb5.size))
          rw [← HX0.out] at kq
          go_wp2_with fail
          refine kq.mono ?_
          rintro e w6 ⟨⟨va, rfl, hva⟩, hb6⟩
          clear kq hsv
          have hb46 := hb5.trans (hb6.mono hb5.size)
          have hb06 := hb04.trans (hb46.mono hb04.size)
          have hLA := LV.of (M := w3.heap.size) hva (Nat.le_trans hb4.size hb5.size)
          clear hva
          have S0 := (hb46.block _ (block_lt S0)).trans S0
          have S1 := (hb46.block _ (block_lt S1)).trans S1
          have S2 := (hb46.block _ (block_lt S2)).trans S2
          have hd6 := (hd4.below hb46).tight
          have htb : TabAt w6 := HT0.out.below hb06 hT
          have C0 := cell_of_row w6 _ 0 _ _ _ S0
          have C1 := cell_of_row w6 _ 1 _ _ _ S0
          have C2 := cell_of_row w6 _ 2 _ _ _ S0
          have C3 := cell_of_row w6 _ 3 _ _ _ S0
          have kv := view_any _ d 1 w6 hd6 (.inr rfl) (Nat.le_trans hh (by decide))
          have HLA := Lib.hid hLA
          have hm37 : w3.heap.size ≤ w6.heap.size := Nat.le_trans hb4.size hb46.size
          clear hLA hb46 hd4 hd3 hd hb5 hb6
          go_wp2_with fail
          refine kv.mono ?_
          rintro e w7 ⟨⟨sv, rfl, hsv⟩, hb7⟩
          clear kv C0 C1 C2 C3
          have kq := records_any sv _ w7 hsv (by rw [length_viewP]; omega) (htb.below hb7 (Nat.lt_of_lt_of_le hT hb06.size)) (Nat.lt_of_lt_of_le hT (Nat.le_trans hb06.size hb7.size))
          rw [← HX1.out] at kq
          go_wp2_with fail
          refine kq.mono ?_
          rintro e w8 ⟨⟨vb, rfl, hvb⟩, hb8⟩
          clear kq hsv
          have hb68 := hb7.trans (hb8.mono hb7.size)
          have hb08 := hb06.trans (hb68.mono hb06.size)
          have HLB := Lib.hid (LV.of (M := w3.heap.size) hvb (Nat.le_trans hm37 hb7.size))
          have HLA := Lib.hid (HLA.out.below hb68)
          have S0 := (hb68.block _ (block_lt S0)).trans S0
          have S1 := (hb68.block _ (block_lt S1)).trans S1
          have S2 := (hb68.block _ (block_lt S2)).trans S2
          have hd8 := (hd6.below hb68).tight
          have HTB := Lib.hid (show TabAt w8 from HT0.out.below hb08 hT)
          have HM := Lib.hid (show w.heap.size + 3 ≤ w3.heap.size by omega)
          clear hvb hd6 hb7 hb8 hb68 hb04 hb06 hb4 hb3 htb R0 R1 R2 hs3 hm37
          go_upto_if 45 with (fail)
          go_cut [6, 7, 8, 9, 10] from 43 to 49 (fun s6 s7 s8 s9 s10 wx => s6 = .int .i64 wh ∧ LV w3.heap.size w8 lX s7 ∧ s8 = .int .i64 uX ∧ s9 = .int .i64 gX ∧ s10 = .int .i64 eX ∧ wx = w8)
          case first =>
            rcases HCH.out with ⟨h, e1, e2, e3, e4, e5⟩ | ⟨h, e1, e2, e3, e4, e5⟩
            · have q0 : decide (gA < gB) = true := by simpa using h
              have HE := Lib.hid (show _ ∧ _ ∧ _ ∧ _ ∧ _ from ⟨e1, e2, e3, e4, e5⟩)
              clear e1 e2 e3 e4 e5
              go_wp2_with fail
              go_meet
              case rel => exact ⟨by rw [HE.out.2.2.2.2], by rw [HE.out.1]; exact HLB.out, by rw [HE.out.2.1], by rw [HE.out.2.2.1], by rw [HE.out.2.2.2.1], rfl⟩
            · have q0 : decide (gA < gB) = false := by simpa using h
              have HE := Lib.hid (show _ ∧ _ ∧ _ ∧ _ ∧ _ from ⟨e1, e2, e3, e4, e5⟩)
              clear e1 e2 e3 e4 e5
              go_wp2_with fail
              go_meet
              case rel => exact ⟨by rw [HE.out.2.2.2.2], by rw [HE.out.1]; exact HLA.out, by rw [HE.out.2.1], by rw [HE.out.2.2.1], by rw [HE.out.2.2.2.1], rfl⟩
          case rest =>
            obtain ⟨rfl, ⟨ax, cx, rfl, hpx⟩, rfl, rfl, rfl, rfl⟩ := hcut
            have kc := compact_any _ (.slice ax lX.length cx) d ⟨wh, gX, uX, lX.length⟩ lX wc hd8 hpx.pieces (by rcases HWH.out with h | h <;> simp only [h] <;> decide) HTB.out (Nat.lt_of_lt_of_le hT hb08.size) (fun b hb => Nat.le_trans (HBX.out.1 b hb) (by decide)) (Nat.le_trans HBX.out.2 (Nat.le_trans hh (by decide)))
            rw [← HRR.out] at kc
            unfold DLE at kc
            simp only [logV] at kc
            have C0 := cell_of_row wc _ 0 _ _ _ S0
            have C1 := cell_of_row wc _ 1 _ _ _ S0
            have C2 := cell_of_row wc _ 2 _ _ _ S0
            have C3 := cell_of_row wc _ 3 _ _ _ S0
            go_wp2_with fail
            refine kc.mono ?_
            rintro e w9 ⟨⟨v', rfl, hd9⟩, hb9⟩
            clear kc C0 C1 C2 C3
            obtain ⟨y1, z1, y2, z2, rfl, _, _⟩ := hd9.parts
            have HPX := Lib.hid ((hpx.below hb9).tight)
            clear hpx
            have S0 := (hb9.block _ (block_lt S0)).trans S0
            have S1 := (hb9.block _ (block_lt S1)).trans S1
            have S2 := (hb9.block _ (block_lt S2)).trans S2
            have hb09 := hb08.trans (hb9.mono hb08.size)
            obtain ⟨w10, hw10⟩ : ∃ w10, w10 = w9.alloc (.cells #[.int .i64 0, .int .i64 0, .int .i64 0, .int .i64 0] 41) := ⟨_, rfl⟩
            have hb10 : Below w9.heap.size w9 w10 := by rw [hw10]; exact Below.alloc (Below.refl _ _) (Nat.le_refl _) _
            have hn10 : w10.heap[w9.heap.size]? = some (.cells #[.int .i64 0, .int .i64 0, .int .i64 0, .int .i64 0] 41 (0, 0)) := by rw [hw10]; exact heap_alloc_new w9 _
            have lt0 := block_lt S0
            have lt1 := block_lt S1
            have lt2 := block_lt S2
            have T0 := (hb10.block _ lt0).trans S0
            have T1 := (hb10.block _ lt1).trans S1
            have T2 := (hb10.block _ lt2).trans S2
            have hd10 := (hd9.below hb10).tight
            have hb010 := hb09.trans (hb10.mono hb09.size)
            obtain ⟨gn, hgn⟩ : ∃ gn, gn = w9.heap.size := ⟨_, rfl⟩
            rw [← hgn] at hn10 lt0 lt1 lt2
            have ngn : w.heap.size ≤ gn := by rw [hgn]; exact hb09.size
            have HE := exit_dl (.int .i64 r.2.1.half) (.int .i64 r.2.1.gen) (.int .i64 r.2.1.used) (.int .i64 r.2.1.count) T0 hn10 hd10 (by omega) hb010 (Nat.le_refl _) ngn
            obtain ⟨w11, hw11⟩ : ∃ w11, w11 = put4 (put4 w10 w.heap.size (.slice y1 r.1.secs.length z1) (.slice y2 r.1.loose.length z2) (.int .i64 r.1.fuse) (.bool r.1.down)) gn (.int .i64 r.2.1.half) (.int .i64 r.2.1.gen) (.int .i64 r.2.1.used) (.int .i64 r.2.1.count) := ⟨_, rfl⟩
            have U1 : w11.heap[w.heap.size + 1]? = some (.cells #[.slice none 0 0, .slice none 0 0, .int .i64 0, .bool false] 38 (0, 0)) := by rw [hw11]; exact put4_far (put4_far T1 (by omega) _ _ _ _) (by omega) _ _ _ _
            have U2 : w11.heap[w.heap.size + 1 + 1]? = some (.cells #[.int .i64 0, .int .i64 0, .int .i64 0, .int .i64 0] 41 (0, 0)) := by rw [hw11]; exact put4_far (put4_far T2 (by omega) _ _ _ _) (by omega) _ _ _ _
            have hk11 : ∀ k, w3.heap.size ≤ k → k < w9.heap.size → w11.heap[k]? = w9.heap[k]? := fun k h1 h2 => by
              rw [hw11, put4_other (by omega), put4_other (by have := HM.out; omega), hb10.block k h2]
            have hp11 : PiecesS (fun b => w3.heap.size ≤ b) w11.heap.size w11 (.slice ax lX.length cx) lX := (HPX.out.keep hk11).tight
            rw [← hw11] at HE
            have HE' := Lib.hid HE
            clear HE
            dsimp only [put4] at hw11
            have HU1 := Lib.hid U1
            have HU2 := Lib.hid U2
            have HW11 := Lib.hid hw11
            have HW10 := Lib.hid (show w10 = w9.alloc (.cells (Value.agg #[.int .i64 0, .int .i64 0, .int .i64 0, .int .i64 0]).cells 41) from hw10)
            have HGN := Lib.hid hgn
            have HP11 := Lib.hid hp11
            have E0 := cell_of_row w10 _ 0 _ _ _ T0
            have E1 := cell_of_row w10 _ 1 _ _ _ T0
            have E2 := cell_of_row w10 _ 2 _ _ _ T0
            have E3 := cell_of_row w10 _ 3 _ _ _ T0
            have F0 := cell_of_row w10 _ 0 _ _ _ hn10
            have F1 := cell_of_row w10 _ 1 _ _ _ hn10
            have F2 := cell_of_row w10 _ 2 _ _ _ hn10
            have F3 := cell_of_row w10 _ 3 _ _ _ hn10
            have Z0 := frozen_row T0
            have Z1 := frozen_row hn10
            clear U1 U2 hk11 hw11 hw10 hgn hp11 S0 S1 S2 T0 T1 T2 hd8 hd9 hd10 hb9 hb10 hb09 hb010 hb08 hn10
            go_wp2_with (with_reducible refine wp_alloc_to (w' := w10) 41 rfl rfl (zero_log _) HW10.out ?_; refine Halt.in ?_)
            refine Halt.out ?_
            rw [← HGN.out]
            go_upto_region 13 with (fail)
            rw [← HW11.out]
            clear E0 E1 E2 E3 F0 F1 F2 F3 Z0 Z1
            obtain ⟨T0, T9, hd11, hb011⟩ := HE'.out
            have T1 := HU1.out
            have T2 := HU2.out
            have C0 := cell_of_row w11 _ 0 _ _ _ T0
            have C1 := cell_of_row w11 _ 1 _ _ _ T0
            have C2 := cell_of_row w11 _ 2 _ _ _ T0
            have C3 := cell_of_row w11 _ 3 _ _ _ T0
            have D0 := cell_of_row w11 _ 0 _ _ _ T1
            have D1 := cell_of_row w11 _ 1 _ _ _ T1
            have D2 := cell_of_row w11 _ 2 _ _ _ T1
            have D3 := cell_of_row w11 _ 3 _ _ _ T1
            have F0 := cell_of_row w11 _ 0 _ _ _ T2
            have F1 := cell_of_row w11 _ 1 _ _ _ T2
            have F2 := cell_of_row w11 _ 2 _ _ _ T2
            have F3 := cell_of_row w11 _ 3 _ _ _ T2
            have Z2 := frozen_row T1
            have Z3 := frozen_row T2
            have HX := Lib.hid (exit_dl (.int .i64 0) (.int .i64 0) (.int .i64 0) (.int .i64 0) T1 T2 hd11 n12 hb011 l1 l2)
            clear T0 T9 hd11 hb011 T1 T2 lt0 lt1 lt2 ngn n12 l1 l2
            go_wp2_with fail
            refine bodyPost_ret (results_cctt rfl _ _ (w.heap.size + 1) (w.heap.size + 1 + 1) _ _ _ _ _ _ _ _ rfl rfl HX.out.1 HX.out.2.1 Tryz.underlying38 rfl size_disk Tryz.underlying41 rfl size_log) rfl ?_
            exact ⟨⟨_, _, rfl, HX.out.2.2.1, pieces_nil _ _ _⟩, HX.out.2.2.2⟩
        · have hc0 : r.2.2 = 0 := Classical.not_not.1 hc
          have q2 : (r.2.2 != 0) = false := by simp [hc0]
          have hF : openP d = (r.1, r.2.1, lX, 0) := by rw [HOP.out, if_neg he, if_neg hc]
          rw [hF]
          have HC0 := Lib.hid hc0
          clear hF he hc hc0
          unfold OpenE logV
          go_enter Tryz.func57, Tryz.ntmps57
          go_upto_region 1 with (fail)
          rw [← HW3.out]
          go_wp2_with fail
          refine kr.mono ?_
          rintro e w4 ⟨rfl, hb4⟩
          clear kr C0 C1 C2 C3
          have S0 := (hb4.block _ (block_lt R0)).trans R0
          have S1 := (hb4.block _ (block_lt R1)).trans R1
          have S2 := (hb4.block _ (block_lt R2)).trans R2
          have hd4 := (hd3.below hb4).tight
          have hb04 := hb3.trans (hb4.mono hb3.size)
          have C0 := cell_of_row w4 _ 0 _ _ _ S0
          have C1 := cell_of_row w4 _ 1 _ _ _ S0
          have C2 := cell_of_row w4 _ 2 _ _ _ S0
          have C3 := cell_of_row w4 _ 3 _ _ _ S0
          have kv := view_any _ d 0 w4 hd4 (.inl rfl) (Nat.le_trans hh (by decide))
          have htb : TabAt w4 := HT0.out.below hb04 hT
          go_wp2_with fail
          refine kv.mono ?_
          rintro e w5 ⟨⟨sv, rfl, hsv⟩, hb5⟩
          clear kv C0 C1 C2 C3
          have kq := records_any sv _ w5 hsv (by rw [length_viewP]; omega) (htb.below hb5 (Nat.lt_of_lt_of_le hT hb04.size)) (Nat.lt_of_lt_of_le hT (Nat.le_trans hb04.size hb5.size))
          rw [← HX0.out] at kq
          go_wp2_with fail
          refine kq.mono ?_
          rintro e w6 ⟨⟨va, rfl, hva⟩, hb6⟩
          clear kq hsv
          have hb46 := hb5.trans (hb6.mono hb5.size)
          have hb06 := hb04.trans (hb46.mono hb04.size)
          have hLA := LV.of (M := w3.heap.size) hva (Nat.le_trans hb4.size hb5.size)
          clear hva
          have S0 := (hb46.block _ (block_lt S0)).trans S0
          have S1 := (hb46.block _ (block_lt S1)).trans S1
          have S2 := (hb46.block _ (block_lt S2)).trans S2
          have hd6 := (hd4.below hb46).tight
          have htb : TabAt w6 := HT0.out.below hb06 hT
          have C0 := cell_of_row w6 _ 0 _ _ _ S0
          have C1 := cell_of_row w6 _ 1 _ _ _ S0
          have C2 := cell_of_row w6 _ 2 _ _ _ S0
          have C3 := cell_of_row w6 _ 3 _ _ _ S0
          have kv := view_any _ d 1 w6 hd6 (.inr rfl) (Nat.le_trans hh (by decide))
          have HLA := Lib.hid hLA
          have hm37 : w3.heap.size ≤ w6.heap.size := Nat.le_trans hb4.size hb46.size
          clear hLA hb46 hd4 hd3 hd hb5 hb6
          go_wp2_with fail
          refine kv.mono ?_
          rintro e w7 ⟨⟨sv, rfl, hsv⟩, hb7⟩
          clear kv C0 C1 C2 C3
          have kq := records_any sv _ w7 hsv (by rw [length_viewP]; omega) (htb.below hb7 (Nat.lt_of_lt_of_le hT hb06.size)) (Nat.lt_of_lt_of_le hT (Nat.le_trans hb06.size hb7.size))
          rw [← HX1.out] at kq
          go_wp2_with fail
          refine kq.mono ?_
          rintro e w8 ⟨⟨vb, rfl, hvb⟩, hb8⟩
          clear kq hsv
          have hb68 := hb7.trans (hb8.mono hb7.size)
          have hb08 := hb06.trans (hb68.mono hb06.size)
          have HLB := Lib.hid (LV.of (M := w3.heap.size) hvb (Nat.le_trans hm37 hb7.size))
          have HLA := Lib.hid (HLA.out.below hb68)
          have S0 := (hb68.block _ (block_lt S0)).trans S0
          have S1 := (hb68.block _ (block_lt S1)).trans S1
          have S2 := (hb68.block _ (block_lt S2)).trans S2
          have hd8 := (hd6.below hb68).tight
          have HTB := Lib.hid (show TabAt w8 from HT0.out.below hb08 hT)
          have HM := Lib.hid (show w.heap.size + 3 ≤ w3.heap.size by omega)
          clear hvb hd6 hb7 hb8 hb68 hb04 hb06 hb4 hb3 htb R0 R1 R2 hs3 hm37
          go_upto_if 45 with (fail)
          go_cut [6, 7, 8, 9, 10] from 43 to 49 (fun s6 s7 s8 s9 s10 wx => s6 = .int .i64 wh ∧ LV w3.heap.size w8 lX s7 ∧ s8 = .int .i64 uX ∧ s9 = .int .i64 gX ∧ s10 = .int .i64 eX ∧ wx = w8)
          case first =>
            rcases HCH.out with ⟨h, e1, e2, e3, e4, e5⟩ | ⟨h, e1, e2, e3, e4, e5⟩
            · have q0 : decide (gA < gB) = true := by simpa using h
              have HE := Lib.hid (show _ ∧ _ ∧ _ ∧ _ ∧ _ from ⟨e1, e2, e3, e4, e5⟩)
              clear e1 e2 e3 e4 e5
              go_wp2_with fail
              go_meet
              case rel => exact ⟨by rw [HE.out.2.2.2.2], by rw [HE.out.1]; exact HLB.out, by rw [HE.out.2.1], by rw [HE.out.2.2.1], by rw [HE.out.2.2.2.1], rfl⟩
            · have q0 : decide (gA < gB) = false := by simpa using h
              have HE := Lib.hid (show _ ∧ _ ∧ _ ∧ _ ∧ _ from ⟨e1, e2, e3, e4, e5⟩)
              clear e1 e2 e3 e4 e5
              go_wp2_with fail
              go_meet
              case rel => exact ⟨by rw [HE.out.2.2.2.2], by rw [HE.out.1]; exact HLA.out, by rw [HE.out.2.1], by rw [HE.out.2.2.1], by rw [HE.out.2.2.2.1], rfl⟩
          case rest =>
            obtain ⟨rfl, ⟨ax, cx, rfl, hpx⟩, rfl, rfl, rfl, rfl⟩ := hcut
            have kc := compact_any _ (.slice ax lX.length cx) d ⟨wh, gX, uX, lX.length⟩ lX wc hd8 hpx.pieces (by rcases HWH.out with h | h <;> simp only [h] <;> decide) HTB.out (Nat.lt_of_lt_of_le hT hb08.size) (fun b hb => Nat.le_trans (HBX.out.1 b hb) (by decide)) (Nat.le_trans HBX.out.2 (Nat.le_trans hh (by decide)))
            rw [← HRR.out] at kc
            unfold DLE at kc
            simp only [logV] at kc
            have C0 := cell_of_row wc _ 0 _ _ _ S0
            have C1 := cell_of_row wc _ 1 _ _ _ S0
            have C2 := cell_of_row wc _ 2 _ _ _ S0
            have C3 := cell_of_row wc _ 3 _ _ _ S0
            go_wp2_with fail
            refine kc.mono ?_
            rintro e w9 ⟨⟨v', rfl, hd9⟩, hb9⟩
            clear kc C0 C1 C2 C3
            obtain ⟨y1, z1, y2, z2, rfl, _, _⟩ := hd9.parts
            have HPX := Lib.hid ((hpx.below hb9).tight)
            clear hpx
            have S0 := (hb9.block _ (block_lt S0)).trans S0
            have S1 := (hb9.block _ (block_lt S1)).trans S1
            have S2 := (hb9.block _ (block_lt S2)).trans S2
            have hb09 := hb08.trans (hb9.mono hb08.size)
            obtain ⟨w10, hw10⟩ : ∃ w10, w10 = w9.alloc (.cells #[.int .i64 0, .int .i64 0, .int .i64 0, .int .i64 0] 41) := ⟨_, rfl⟩
            have hb10 : Below w9.heap.size w9 w10 := by rw [hw10]; exact Below.alloc (Below.refl _ _) (Nat.le_refl _) _
            have hn10 : w10.heap[w9.heap.size]? = some (.cells #[.int .i64 0, .int .i64 0, .int .i64 0, .int .i64 0] 41 (0, 0)) := by rw [hw10]; exact heap_alloc_new w9 _
            have lt0 := block_lt S0
            have lt1 := block_lt S1
            have lt2 := block_lt S2
            have T0 := (hb10.block _ lt0).trans S0
            have T1 := (hb10.block _ lt1).trans S1
            have T2 := (hb10.block _ lt2).trans S2
            have hd10 := (hd9.below hb10).tight
            have hb010 := hb09.trans (hb10.mono hb09.size)
            obtain ⟨gn, hgn⟩ : ∃ gn, gn = w9.heap.size := ⟨_, rfl⟩
            rw [← hgn] at hn10 lt0 lt1 lt2
            have ngn : w.heap.size ≤ gn := by rw [hgn]; exact hb09.size
            have HE := exit_dl (.int .i64 r.2.1.half) (.int .i64 r.2.1.gen) (.int .i64 r.2.1.used) (.int .i64 r.2.1.count) T0 hn10 hd10 (by omega) hb010 (Nat.le_refl _) ngn
            obtain ⟨w11, hw11⟩ : ∃ w11, w11 = put4 (put4 w10 w.heap.size (.slice y1 r.1.secs.length z1) (.slice y2 r.1.loose.length z2) (.int .i64 r.1.fuse) (.bool r.1.down)) gn (.int .i64 r.2.1.half) (.int .i64 r.2.1.gen) (.int .i64 r.2.1.used) (.int .i64 r.2.1.count) := ⟨_, rfl⟩
            have U1 : w11.heap[w.heap.size + 1]? = some (.cells #[.slice none 0 0, .slice none 0 0, .int .i64 0, .bool false] 38 (0, 0)) := by rw [hw11]; exact put4_far (put4_far T1 (by omega) _ _ _ _) (by omega) _ _ _ _
            have U2 : w11.heap[w.heap.size + 1 + 1]? = some (.cells #[.int .i64 0, .int .i64 0, .int .i64 0, .int .i64 0] 41 (0, 0)) := by rw [hw11]; exact put4_far (put4_far T2 (by omega) _ _ _ _) (by omega) _ _ _ _
            have hk11 : ∀ k, w3.heap.size ≤ k → k < w9.heap.size → w11.heap[k]? = w9.heap[k]? := fun k h1 h2 => by
              rw [hw11, put4_other (by omega), put4_other (by have := HM.out; omega), hb10.block k h2]
            have hp11 : PiecesS (fun b => w3.heap.size ≤ b) w11.heap.size w11 (.slice ax lX.length cx) lX := (HPX.out.keep hk11).tight
            rw [← hw11] at HE
            have HE' := Lib.hid HE
            clear HE
            dsimp only [put4] at hw11
            have HU1 := Lib.hid U1
            have HU2 := Lib.hid U2
            have HW11 := Lib.hid hw11
            have HW10 := Lib.hid (show w10 = w9.alloc (.cells (Value.agg #[.int .i64 0, .int .i64 0, .int .i64 0, .int .i64 0]).cells 41) from hw10)
            have HGN := Lib.hid hgn
            have HP11 := Lib.hid hp11
            have E0 := cell_of_row w10 _ 0 _ _ _ T0
            have E1 := cell_of_row w10 _ 1 _ _ _ T0
            have E2 := cell_of_row w10 _ 2 _ _ _ T0
            have E3 := cell_of_row w10 _ 3 _ _ _ T0
            have F0 := cell_of_row w10 _ 0 _ _ _ hn10
            have F1 := cell_of_row w10 _ 1 _ _ _ hn10
            have F2 := cell_of_row w10 _ 2 _ _ _ hn10
            have F3 := cell_of_row w10 _ 3 _ _ _ hn10
            have Z0 := frozen_row T0
            have Z1 := frozen_row hn10
            clear U1 U2 hk11 hw11 hw10 hgn hp11 S0 S1 S2 T0 T1 T2 hd8 hd9 hd10 hb9 hb10 hb09 hb010 hb08 hn10
            go_wp2_with (with_reducible refine wp_alloc_to (w' := w10) 41 rfl rfl (zero_log _) HW10.out ?_; refine Halt.in ?_)
            refine Halt.out ?_
            rw [← HGN.out]
            go_upto_region 13 with (fail)
            rw [← HW11.out]
            clear E0 E1 E2 E3 F0 F1 F2 F3 Z0 Z1
            obtain ⟨T0, T9, hd11, hb011⟩ := HE'.out
            have T1 := HU1.out
            have T2 := HU2.out
            obtain ⟨oa, ob, wa, wb, HWA, HWB, s0, sa, sb, L0, L1, L2, L3, M0, M1, M2, M3, D0, D1, D2, D3, Z2, F0, F1, F2, F3, Z3, HX⟩ := exit_all (w := w) (wx := w11) T0 T9 T1 T2 hd11 hb011 (by omega) (by omega) (by omega) (by omega) (by omega) (by omega) (by omega)
            have hkb : ∀ k, w3.heap.size ≤ k → k < w11.heap.size → wb.heap[k]? = w11.heap[k]? := fun k h1 h2 => by
              have := HM.out
              rw [HWB.out, setFar (by omega), setFar (by omega), setFar (by omega), setFar (by omega), HWA.out]
              show ((((w11.setCell ⟨w.heap.size + 1, 0, none⟩ _).setCell ⟨w.heap.size + 1, 1, none⟩ _).setCell ⟨w.heap.size + 1, 2, none⟩ _).setCell ⟨w.heap.size + 1, 3, none⟩ _).heap[k]? = _
              rw [setFar (by omega), setFar (by omega), setFar (by omega), setFar (by omega)]
            have HPB := Lib.hid ((HP11.out.keep hkb).tight.weak (T := fun b => w.heap.size ≤ b) (fun b hb => Nat.le_trans (by have := HM.out; omega) hb))
            clear hkb T0 T9 hd11 hb011 T1 T2 lt0 lt1 lt2 ngn n12 l1 l2
            go_wp2_with fail
            refine wp_region_I [(false, 0), (false, 1), (false, 2), (true, 3), (true, 4), (false, 5), (false, 6)] (Two w.heap.size gn oa ob) (by kernel_rfl) (by kernel_rfl) s0 ?_
            repeat (first | (refine heldI_skip rfl rfl ?_; simp only [Act.put, List.setIfInBounds_toArray, List.set_cons_zero, List.set_cons_succ]) | (refine heldI_take rfl ?_ rfl (fun w' hw' => ?_) ?_; rotate_left; (go_simp; first | done | with_reducible rfl); (try simp only [Act.put, List.setIfInBounds_toArray, List.set_cons_zero, List.set_cons_succ])))
            refine heldI_act rfl rfl fun K hK => ?_
            go_simp
            rw [← HWA.out]
            refine hK.out _ _ sa ?_
            clear hK K D0 D1 D2 D3 Z2
            refine heldI_act rfl rfl fun K hK => ?_
            go_simp
            rw [← HWB.out]
            refine hK.out _ _ sb ?_
            clear hK K F0 F1 F2 F3 Z3
            repeat (first | (refine heldI_skip rfl rfl ?_; simp only [Act.put, List.setIfInBounds_toArray, List.set_cons_zero, List.set_cons_succ]) | (refine heldI_take rfl ?_ rfl (fun w' hw' => ?_) ?_; rotate_left; (go_simp; first | done | with_reducible rfl); (try simp only [Act.put, List.setIfInBounds_toArray, List.set_cons_zero, List.set_cons_succ])))
            refine heldI_nil ?_
            go_wp2_with fail
            refine bodyPost_ret (results_cctt rfl _ _ (w.heap.size + 1) (w.heap.size + 1 + 1) _ _ _ _ _ _ _ _ rfl rfl HX.out.1 HX.out.2.1 Tryz.underlying38 rfl size_disk Tryz.underlying41 rfl size_log) rfl ?_
            exact ⟨⟨_, _, rfl, HX.out.2.2.1, HPB.out⟩, HX.out.2.2.2⟩
end Go.Proofs.YtaijompnohkmaaaGreatDoor
/- Layer 1 (sector), the document's answer: New. -/
namespace Go.Proofs.YtaijompnohkmaaaGreatDoor
open Go.RowKit
set_option maxRecDepth 100000 in
set_option maxHeartbeats 1000000 in
theorem refnew_any (n : Int) (w : World) :
    Calls Tryz.prog 28 #[.int .i64 n] w fun e w' => (∃ v', e = .returned (.tuple #[v', .int .i64 (newP n).2]) ∧ DiskV w'.heap.size w' v' (newP n).1) ∧ Below w.heap.size w w' := by
  have hg := heap_alloc_new w (.cells #[.slice none 0 0, .slice none 0 0, .int .i64 0, .bool false] 38)
  have hb := Below.alloc (Below.refl w.heap.size w) (Nat.le_refl _) (.cells #[.slice none 0 0, .slice none 0 0, .int .i64 0, .bool false] 38)
  have hsz : (w.alloc (.cells #[.slice none 0 0, .slice none 0 0, .int .i64 0, .bool false] 38)).heap.size = w.heap.size + 1 := by simp
  obtain ⟨w2, hw2⟩ : ∃ w2, w2 = w.alloc (.cells #[.slice none 0 0, .slice none 0 0, .int .i64 0, .bool false] 38) := ⟨_, rfl⟩
  rw [← hw2] at hg hb hsz
  by_cases h1 : 0 ≤ n
  · by_cases h2 : n ≤ 4096
    · have hP : newP n = (⟨List.replicate n.toNat zeroS, [], -1, false⟩, 0) := by simp [newP, h1, h2]
      obtain ⟨m, rfl⟩ := Int.eq_ofNat_of_zero_le h1
      rw [hP]
      clear hP
      obtain ⟨i0, hi, hx⟩ := Option.bind_eq_some_iff.1 zero_sector
      obtain ⟨z0, hz0, hx⟩ := Option.map_eq_some_iff.1 hx
      simp only [Prod.mk.injEq] at hx
      obtain ⟨hz1, hz2, hz3⟩ := hx
      have B1 := Lib.hid (show i0.bytes * m ≤ 281474976710656 by rw [hz2]; omega)
      have B2 := Lib.hid (show m ≤ maxLen by unfold maxLen; omega)
      have hle : w2.heap.size ≤ w2.heap.size := Nat.le_refl _
      go_enter Tryz.func28, Tryz.ntmps28
      go_wp2_with (at_make; refine wpList_make_full _ rfl (.tmp 11) (.tmp 11) 35 rfl w2.heap.size 94 i0 z0 64 Tryz.underlying35 hi hz0 hz1 _ _ _ _ m rfl rfl rfl rfl B1.out B2.out (hw2 ▸ hle) ?_; intro w3 hown3 hgrow3; refine Halt.in ?_)
      rw [← hw2] at hown3 hgrow3
      have hb3 : Below w2.heap.size w2 w3 := (Below.refl w2.heap.size w2).grown hgrow3 (Nat.le_refl _) (fun k e => by cases e)
      have hs3 : Secs w3.heap.size w3 (.slice (some ⟨w2.heap.size, 0, none⟩) m m) (List.replicate m zeroS) := by
        rw [hz3] at hown3
        exact ownsRow_secs hown3
      rw [hsz] at hs3
      have G2 := (hb3.block w.heap.size (by omega)).trans hg
      have hbb := hb.trans (hb3.mono (by omega))
      have r3 : RowIn (w.heap.size + 1) w3.heap.size w3 (.slice (some ⟨w.heap.size + 1, 0, none⟩) m m) 64 (List.replicate m zeroS).length ((List.replicate m zeroS).map u8s).flatten := by
        obtain ⟨hl, a, cap, hv, h1, h2, h3⟩ := hs3.2
        refine ⟨hl, a, cap, hv, h1, h2, fun hp => ?_⟩
        obtain ⟨b, off, rfl, hb, hc⟩ := h3 hp
        refine ⟨b, off, rfl, ?_, hb, hc⟩
        injection hv with hv
        injection hv with hv
        injection hv with hv
        omega
      have D0 := cell_of_row w3 _ 0 _ _ _ G2
      have D1 := cell_of_row w3 _ 1 _ _ _ G2
      have D2 := cell_of_row w3 _ 2 _ _ _ G2
      have D3 := cell_of_row w3 _ 3 _ _ _ G2
      have Z := frozen_row G2
      have h64 := hs3.1
      clear hown3 hgrow3 hs3 hi hz0 hz1 hz2 hz3 hw2 hg hb hb3
      refine Halt.out ?_
      go_wp2_with fail
      refine bodyPost_ret (results_ct rfl _ _ w.heap.size _ _ _ _ rfl (put4_heap G2 _ _ _ _) Tryz.underlying38 rfl size_disk) rfl ?_
      exact ⟨⟨_, rfl, DiskV.mk (d := ⟨List.replicate m zeroS, [], -1, false⟩) ⟨h64, (((((r3.setOther ⟨w.heap.size, 0, none⟩ _ (Nat.lt_succ_self _)).setOther ⟨w.heap.size, 1, none⟩ _ (Nat.lt_succ_self _)).setOther ⟨w.heap.size, 2, none⟩ _ (Nat.lt_succ_self _)).setOther ⟨w.heap.size, 3, none⟩ _ (Nat.lt_succ_self _)).row)⟩ (Loose.nil 0 _)⟩, put4_below hbb (Nat.le_refl _) _ _ _ _⟩
    · have hP : newP n = (⟨[], [], 0, false⟩, 1) := by simp [newP, h2]
      rw [hP]
      have D0 := cell_of_row w2 _ 0 _ _ _ hg
      have D1 := cell_of_row w2 _ 1 _ _ _ hg
      have D2 := cell_of_row w2 _ 2 _ _ _ hg
      have D3 := cell_of_row w2 _ 3 _ _ _ hg
      have Z := frozen_row hg
      rw [hw2] at D0 D1 D2 D3 Z
      clear hP
      go_enter Tryz.func28, Tryz.ntmps28
      go_wp2_with fail
      rw [← hw2]
      refine bodyPost_ret (results_ct rfl _ _ w.heap.size _ _ _ _ rfl hg Tryz.underlying38 rfl size_disk) rfl ?_
      exact ⟨⟨_, rfl, DiskV.mk (d := ⟨[], [], 0, false⟩) (Secs.nil 0 _) (Loose.nil 0 _)⟩, hb⟩
  · have hP : newP n = (⟨[], [], 0, false⟩, 1) := by simp [newP, h1]
    rw [hP]
    have D0 := cell_of_row w2 _ 0 _ _ _ hg
    have D1 := cell_of_row w2 _ 1 _ _ _ hg
    have D2 := cell_of_row w2 _ 2 _ _ _ hg
    have D3 := cell_of_row w2 _ 3 _ _ _ hg
    have Z := frozen_row hg
    rw [hw2] at D0 D1 D2 D3 Z
    clear hP
    go_enter Tryz.func28, Tryz.ntmps28
    go_wp2_with fail
    rw [← hw2]
    refine bodyPost_ret (results_ct rfl _ _ w.heap.size _ _ _ _ rfl hg Tryz.underlying38 rfl size_disk) rfl ?_
    exact ⟨⟨_, rfl, DiskV.mk (d := ⟨[], [], 0, false⟩) (Secs.nil 0 _) (Loose.nil 0 _)⟩, hb⟩
end Go.Proofs.YtaijompnohkmaaaGreatDoor
/- The document's answer: the same bytes; the same records. And layer 5's bound on what is looked at. -/
namespace Go.Proofs.YtaijompnohkmaaaGreatDoor
open Go.RowKit WalP PackP
set_option maxRecDepth 100000 in
set_option maxHeartbeats 1000000 in
theorem sameB_any (A B : Nat) (u v : Value) (xs bs : List UInt8) (w : World) (hu : Bytes A w u xs) (hv : Bytes B w v bs) :
    Calls Tryz.prog 16 #[u, v] w fun e w' => e = .returned (.bool (decide (xs = bs))) ∧ w = w' := by
  have k1 := run_bytes_string (P := Tryz.prog) Tryz.underlying23 Tryz.underlying5 Tryz.underlying9 hu
  have k2 := run_bytes_string (P := Tryz.prog) Tryz.underlying23 Tryz.underlying5 Tryz.underlying9 hv
  go_enter Tryz.func16, Tryz.ntmps16
  go_wp2
  go_ret
  refine ⟨ret_bool ?_, rfl⟩
  rw [Bool.eq_iff_iff, decide_eq_true_eq]
  simp [strB]
/-- A record's slice, loaded. -/
theorem load_piece {B : Nat} {w : World} {a : Option Addr} {n c : Nat} {ls : List (List UInt8)} (h : Pieces B w (.slice a n c) ls) {k : Nat} (hk : k < ls.length) :
    ∃ b off a' c', a = some ⟨b, off, none⟩ ∧ b < B ∧ n = ls.length ∧ n ≤ c ∧ c ≤ 2 ^ 63 - 1 ∧ (∀ w' : World, (∀ p : Addr, p.block < B → w'.cell? p = w.cell? p) → w'.cell? ⟨b, off + k, none⟩ = some (.slice a' ls[k].length c')) ∧ Bytes B w (.slice a' ls[k].length c') ls[k] := by
  obtain ⟨vs, ⟨hl, a0, cap, hv, hnc, hcap, hcells⟩, hel⟩ := h
  cases hv
  obtain ⟨b, off, rfl, hBb, hc⟩ := hcells (by omega)
  obtain ⟨u, hu, hb⟩ := hel k hk
  obtain ⟨_, a', c', rfl, _, _, _⟩ := id hb
  exact ⟨b, off, a', c', rfl, hBb, rfl, hnc, hcap, fun w' hw => (hw ⟨b, off + k, none⟩ hBb).trans (hc _ _ hu), hb⟩
set_option maxRecDepth 100000 in
set_option maxHeartbeats 2000000 in
theorem same5_any {B B' : Nat} (v v' : Value) (ls ls' : List (List UInt8)) (w : World) (h : Pieces B w v ls) (h' : Pieces B' w v' ls') :
    Calls Tryz.prog 41 #[v, v'] w fun e w' => e = .returned (.bool (decide (ls = ls'))) ∧ Below w.heap.size w w' := by
  have hs := h.tight
  have hs' := h'.tight
  clear h h'
  have HS := Lib.hid hs
  have HS' := Lib.hid hs'
  obtain ⟨_, ⟨_, a1, n1, rfl, q1, p1, _⟩, _⟩ := hs
  obtain ⟨_, ⟨_, c1, m1, rfl, q2, p2, _⟩, _⟩ := hs'
  unfold maxLen at p1 p2
  obtain ⟨L, hL⟩ : ∃ L, L = ls.length := ⟨_, rfl⟩
  obtain ⟨M, hM⟩ : ∃ M, M = ls'.length := ⟨_, rfl⟩
  rw [← hL] at q1 HS ⊢
  rw [← hM] at q2 HS' ⊢
  have HL := Lib.hid hL
  have HM := Lib.hid hM
  clear hL hM
  by_cases hLM : L = M
  · subst hLM
    go_enter Tryz.func41, Tryz.ntmps41
    go_wp2_with fail
    go_loopw [5] (fun i wr => ∃ k : Nat, k ≤ L ∧ i = .int .i64 k ∧ (∀ j, j < k → ls[j]? = ls'[j]?) ∧ Below w.heap.size w wr) (fun i _ => L - (intOf i).toNat)
    case atStart => exact ⟨0, Nat.zero_le _, rfl, fun j h => absurd h (Nat.not_lt_zero _), Below.refl _ _⟩
    case round =>
      obtain ⟨k, hk, rfl, hpre, hb⟩ := hrel
      have HP := Lib.hid hpre
      clear hpre
      by_cases hlt : k < L
      · have h1 : k < ls.length := HL.out ▸ hlt
        have h2 : k < ls'.length := HM.out ▸ hlt
        have k0 : decide ((k : Int) < (L : Int)) = true := by simp; omega
        have k1 : (0 : Int) ≤ (k : Int) := by omega
        have k2 : (k : Int) < (L : Int) := by omega
        obtain ⟨ba, oa, a', c', rfl, hBa, e1, _, _, hlA, hbA⟩ := load_piece HS.out h1
        obtain ⟨bb, ob, a'', c'', rfl, hBb, e2, _, _, hlB, hbB⟩ := load_piece HS'.out h2
        have HLA := Lib.hid hlA
        have HLB := Lib.hid hlB
        have hlA : ∀ w', Below wr.heap.size wr w' → w'.cell? ⟨ba, oa + k, none⟩ = some (.slice a' ls[k].length c') := fun w' hw => HLA.out w' (fun p hp => (hb.trans (hw.mono hb.size)).cell hp)
        have hlB : ∀ w', Below wr.heap.size wr w' → w'.cell? ⟨bb, ob + k, none⟩ = some (.slice a'' ls'[k].length c'') := fun w' hw => HLB.out w' (fun p hp => (hb.trans (hw.mono hb.size)).cell hp)
        have h00 : Below wr.heap.size wr wr.drew := below_draws (Below.refl _ _) 1
        have ks := sameB_any w.heap.size w.heap.size _ _ _ _ wr.drew ((hbA.below hb).below (h00.mono hb.size)) ((hbB.below hb).below (h00.mono hb.size))
        obtain ⟨q, hq0⟩ : ∃ q, q = decide (ls[k] = ls'[k]) := ⟨_, rfl⟩
        rw [← hq0] at ks
        have HQ := Lib.hid hq0
        obtain ⟨x1, hx1⟩ : ∃ x, x = ls[k].length := ⟨_, rfl⟩
        obtain ⟨x2, hx2⟩ : ∃ x, x = ls'[k].length := ⟨_, rfl⟩
        rw [← hx1] at hlA ks
        rw [← hx2] at hlB ks
        have hB2 := below_draws hb 1
        clear e1 e2 hq0 hx1 hx2 hbA hbB
        go_upto_region 6 with (fail)
        refine wp_region_I [(false, 0), (false, 1), (false, 2), (false, 3), (false, 4), (false, 5), (false, 6), (false, 7), (true, 8), (false, 9)] (fun w' => Below wr.heap.size wr w') (by kernel_rfl) (by kernel_rfl) h00 ?_
        repeat (first | (refine heldI_skip rfl rfl ?_; simp only [Act.put, List.setIfInBounds_toArray, List.set_cons_zero, List.set_cons_succ]) | (refine heldI_take rfl ?_ rfl (fun w' hw' => ?_) ?_; rotate_left; (go_simp; first | done | with_reducible rfl); (try simp only [Act.put, List.setIfInBounds_toArray, List.set_cons_zero, List.set_cons_succ])))
        refine heldI_act rfl rfl fun K hK => ?_
        go_simp
        refine ks.mono ?_
        rintro e w9 ⟨rfl, rfl⟩
        refine hK.out _ _ h00 ?_
        clear hK K ks
        repeat (first | (refine heldI_skip rfl rfl ?_; simp only [Act.put, List.setIfInBounds_toArray, List.set_cons_zero, List.set_cons_succ]) | (refine heldI_take rfl ?_ rfl (fun w' hw' => ?_) ?_; rotate_left; (go_simp; first | done | with_reducible rfl); (try simp only [Act.put, List.setIfInBounds_toArray, List.set_cons_zero, List.set_cons_succ])))
        refine heldI_nil ?_
        clear hlA hlB
        cases q with
        | true =>
          go_wp2_with fail
          go_roundw
          case rel =>
            refine ⟨k + 1, by omega, by go_num, fun j hj => ?_, hB2⟩
            by_cases hjk : j < k
            · exact HP.out j hjk
            · obtain rfl : j = k := by omega
              rw [List.getElem?_eq_getElem h1, List.getElem?_eq_getElem h2, of_decide_eq_true HQ.out.symm]
          case measure => simp [intOf]; omega
        | false =>
          go_wp2_with fail
          go_ret
          have hd : decide (ls = ls') = false := decide_eq_false (fun e => by
            have := of_decide_eq_false HQ.out.symm
            subst e
            exact this rfl)
          exact ⟨by rw [hd]; rfl, hB2⟩
      · have k0 : decide ((k : Int) < (L : Int)) = false := by simp; omega
        go_wp2_with fail
        go_ret
        have hd : decide (ls = ls') = true := decide_eq_true (List.ext_getElem? fun j => by
          by_cases hj : j < L
          · exact HP.out j (by omega)
          · have := HL.out
            have := HM.out
            rw [List.getElem?_eq_none (by omega), List.getElem?_eq_none (by omega)])
        exact ⟨by rw [hd]; rfl, hb⟩
  · have hne : ((L : Int) == (M : Int)) = false := by rw [beq_eq_false_iff_ne]; omega
    have hne2 : ((L : Int) != (M : Int)) = true := by simp; omega
    go_enter Tryz.func41, Tryz.ntmps41
    go_wp2_with fail
    go_ret
    have hd : decide (ls = ls') = false := decide_eq_false (fun e => by
      have h1 := HL.out
      have h2 := HM.out
      rw [e] at h1
      omega)
    exact ⟨by rw [hd]; rfl, Below.refl _ _⟩
/-- More than is looked at? -/
def greatN : List (List UInt8) → Nat → Nat
  | [], n => n
  | b :: l, n => if n ≤ 20000 then greatN l (n + 50 + b.length) else n
def greatB (s l : Nat) (ls : List (List UInt8)) : Bool := decide (120 < s) || decide (120 < l) || decide (20000 < greatN ls 0)
theorem greatN_end {ls : List (List UInt8)} {n : Nat} (h : ¬ n ≤ 20000) : greatN ls n = n := by
  cases ls with
  | nil => rfl
  | cons b l => unfold greatN; rw [if_neg h]
theorem greatN_le : ∀ (ls : List (List UInt8)) (n : Nat), greatN ls n ≤ 20000 → ∀ b ∈ ls, b.length ≤ 20000
  | [], _, _, b, h => absurd h List.not_mem_nil
  | x :: l, n, hg, b, h => by
    unfold greatN at hg
    by_cases hn : n ≤ 20000
    · rw [if_pos hn] at hg
      have hm : ∀ (l : List (List UInt8)) (n : Nat), n ≤ greatN l n := by
        intro l
        induction l with
        | nil => intro n; exact Nat.le_refl _
        | cons y l ih =>
          intro n
          unfold greatN
          split
          · exact Nat.le_trans (by omega) (ih _)
          · exact Nat.le_refl _
      rcases List.mem_cons.1 h with rfl | h
      · have := hm l (n + 50 + b.length)
        omega
      · exact greatN_le l _ hg b h
    · rw [if_neg hn] at hg
      omega
theorem greatN_len : ∀ (ls : List (List UInt8)) (n : Nat), greatN ls n ≤ 20000 → n + 50 * ls.length ≤ 20000
  | [], n, hg => by simpa [greatN] using hg
  | x :: l, n, hg => by
    unfold greatN at hg
    by_cases hn : n ≤ 20000
    · rw [if_pos hn] at hg
      have := greatN_len l _ hg
      rw [List.length_cons]
      omega
    · rw [if_neg hn] at hg
      omega
end Go.Proofs.YtaijompnohkmaaaGreatDoor
/- Layer 5 (wal): a disk and a log in variables; what a step lays into them. -/
namespace Go.Proofs.YtaijompnohkmaaaGreatDoor
open Go.RowKit WalP PackP
/-- A disk, in a variable. -/
def DAt (w : World) (D : Nat) (d : DiskP) : Prop := ∃ a0 n0 a1 n1, w.heap[D]? = some (.cells #[.slice a0 d.secs.length n0, .slice a1 d.loose.length n1, .int .i64 d.fuse, .bool d.down] 38 (0, 0)) ∧ DiskV w.heap.size w (.agg #[.slice a0 d.secs.length n0, .slice a1 d.loose.length n1, .int .i64 d.fuse, .bool d.down]) d
/-- A log, in a variable. -/
def LAt (w : World) (L : Nat) (l : LogP) : Prop := w.heap[L]? = some (.cells #[.int .i64 l.half, .int .i64 l.gen, .int .i64 l.used, .int .i64 l.count] 41 (0, 0))
theorem DAt.below {w w' : World} {D : Nat} {d : DiskP} (h : DAt w D d) (hb : Below w.heap.size w w') : DAt w' D d := by
  obtain ⟨a0, n0, a1, n1, h1, h2⟩ := h
  exact ⟨a0, n0, a1, n1, (hb.block _ (block_lt h1)).trans h1, (h2.below hb).tight⟩
theorem LAt.below {w w' : World} {L : Nat} {l : LogP} (h : LAt w L l) (hb : Below w.heap.size w w') : LAt w' L l := (hb.block _ (block_lt h)).trans h
theorem LAt.lt {w : World} {L : Nat} {l : LogP} (h : LAt w L l) : L < w.heap.size := block_lt h
theorem DAt.lt {w : World} {D : Nat} {d : DiskP} (h : DAt w D d) : D < w.heap.size := by
  obtain ⟨a0, n0, a1, n1, h1, h2⟩ := h
  exact block_lt h1
/-- The four cells of a variable, as the walk reads and writes them. -/
structure Four (w : World) (g : Nat) (a b c d : Value) : Prop where
  c0 : w.cell? ⟨g, 0, none⟩ = some a
  c1 : w.cell? ⟨g, 1, none⟩ = some b
  c2 : w.cell? ⟨g, 2, none⟩ = some c
  c3 : w.cell? ⟨g, 3, none⟩ = some d
  z : ∀ o, w.frozen? ⟨g, o, none⟩ = false
theorem Four.of {w : World} {g : Nat} {a b c d : Value} {t : TypeId} (h : w.heap[g]? = some (.cells #[a, b, c, d] t (0, 0))) : Four w g a b c d :=
  ⟨cell_of_row w _ 0 _ _ _ h, cell_of_row w _ 1 _ _ _ h, cell_of_row w _ 2 _ _ _ h, cell_of_row w _ 3 _ _ _ h, fun o => frozen_row h o⟩
theorem LAt.four {w : World} {L : Nat} {l : LogP} (h : LAt w L l) : Four w L (.int .i64 l.half) (.int .i64 l.gen) (.int .i64 l.used) (.int .i64 l.count) := Four.of h
theorem DAt.put {w : World} {D : Nat} {d d' : DiskP} {y0 y1 y2 y3 : Value} (h : DAt w D d) (hd : DiskV w.heap.size w (.agg #[y0, y1, y2, y3]) d') : DAt (put4 w D y0 y1 y2 y3) D d' := by
  obtain ⟨a0, n0, a1, n1, h1, _⟩ := h
  obtain ⟨w9, rfl, e1, e2, _⟩ := box_put h1 hd
  obtain ⟨p1, q1, p2, q2, hv, _, _⟩ := hd.parts
  simp only [Value.agg.injEq, Array.mk.injEq, List.cons.injEq] at hv
  obtain ⟨rfl, rfl, rfl, rfl, _⟩ := hv
  exact ⟨p1, q1, p2, q2, e1, e2⟩
/-- What is laid elsewhere leaves a disk as it is. -/
theorem DAt.other {w : World} {D g : Nat} {d : DiskP} {x0 x1 x2 x3 : Value} {t : TypeId} {fr : Nat × Nat} (h : DAt w D d) (hg : w.heap[g]? = some (.cells #[x0, x1, x2, x3] t fr)) (hne : g ≠ D) (a b c e : Value) : DAt (put4 w g a b c e) D d := by
  obtain ⟨a0, n0, a1, n1, h1, h2⟩ := h
  refine ⟨a0, n0, a1, n1, put4_far h1 hne _ _ _ _, ?_⟩
  rw [put4_size]
  exact put4_diskV h2 (h2.slFar hg (by simp)) a b c e
theorem DAt.row {w : World} {D : Nat} {d : DiskP} (h : DAt w D d) : ∃ x0 x1 x2 x3, w.heap[D]? = some (.cells #[x0, x1, x2, x3] 38 (0, 0)) := by
  obtain ⟨a0, n0, a1, n1, h1, _⟩ := h
  exact ⟨_, _, _, _, h1⟩
theorem LAt.other {w : World} {L g : Nat} {l : LogP} (h : LAt w L l) (hne : g ≠ L) (a b c e : Value) : LAt (put4 w g a b c e) L l := put4_far h hne _ _ _ _
theorem LAt.put {w : World} {L : Nat} {l : LogP} (h : LAt w L l) (l' : LogP) : LAt (put4 w L (.int .i64 l'.half) (.int .i64 l'.gen) (.int .i64 l'.used) (.int .i64 l'.count)) L l' := put4_heap h _ _ _ _
/-- A disk is laid into its variable, a log into its own. -/
theorem pack_store {w : World} {D L : Nat} {d d' : DiskP} {l : LogP} {y0 y1 y2 y3 : Value} (l' : LogP) (hD : DAt w D d) (hL : LAt w L l) (hd : DiskV w.heap.size w (.agg #[y0, y1, y2, y3]) d') (hne : D ≠ L) :
    ∃ w9 x0 x1 x2 x3, Hid (w9 = ((((((((w.setCell ⟨D, 0, none⟩ y0).setCell ⟨D, 1, none⟩ y1).setCell ⟨D, 2, none⟩ y2).setCell ⟨D, 3, none⟩ y3).setCell ⟨L, 0, none⟩ (.int .i64 l'.half)).setCell ⟨L, 1, none⟩ (.int .i64 l'.gen)).setCell ⟨L, 2, none⟩ (.int .i64 l'.used)).setCell ⟨L, 3, none⟩ (.int .i64 l'.count))) ∧
      Four w D x0 x1 x2 x3 ∧ Four w L (.int .i64 l.half) (.int .i64 l.gen) (.int .i64 l.used) (.int .i64 l.count) ∧ Hid (DAt w9 D d' ∧ LAt w9 L l' ∧ w9.heap.size = w.heap.size ∧ (∀ k, k ≠ D → k ≠ L → w9.heap[k]? = w.heap[k]?) ∧ (∀ B w0, Below B w0 w → B ≤ D → B ≤ L → Below B w0 w9)) := by
  obtain ⟨x0, x1, x2, x3, hr⟩ := hD.row
  have s1 := hD.put hd
  have s2 : LAt (put4 w D y0 y1 y2 y3) L l := hL.other hne _ _ _ _
  have s3 : DAt (put4 (put4 w D y0 y1 y2 y3) L (.int .i64 l'.half) (.int .i64 l'.gen) (.int .i64 l'.used) (.int .i64 l'.count)) D d' := s1.other (show (put4 w D y0 y1 y2 y3).heap[L]? = some (.cells #[.int .i64 l.half, .int .i64 l.gen, .int .i64 l.used, .int .i64 l.count] 41 (0, 0)) from s2) (Ne.symm hne) _ _ _ _
  have s4 := s2.put l'
  have f1 := Four.of hr
  have f2 := Four.of (show w.heap[L]? = some (.cells #[.int .i64 l.half, .int .i64 l.gen, .int .i64 l.used, .int .i64 l.count] 41 (0, 0)) from hL)
  have s5 : ∀ k, k ≠ D → k ≠ L → (put4 (put4 w D y0 y1 y2 y3) L (.int .i64 l'.half) (.int .i64 l'.gen) (.int .i64 l'.used) (.int .i64 l'.count)).heap[k]? = w.heap[k]? := fun k h1 h2 => (put4_other (w := put4 w D y0 y1 y2 y3) (Ne.symm h2) _ _ _ _).trans (put4_other (Ne.symm h1) _ _ _ _)
  have s6 : (put4 (put4 w D y0 y1 y2 y3) L (.int .i64 l'.half) (.int .i64 l'.gen) (.int .i64 l'.used) (.int .i64 l'.count)).heap.size = w.heap.size := by rw [put4_size, put4_size]
  exact ⟨put4 (put4 w D y0 y1 y2 y3) L (.int .i64 l'.half) (.int .i64 l'.gen) (.int .i64 l'.used) (.int .i64 l'.count), x0, x1, x2, x3, Lib.hid rfl, f1, f2, Lib.hid ⟨s3, s4, s6, s5, fun B w0 hb h1 h2 => put4_below (put4_below hb h1 _ _ _ _) h2 _ _ _ _⟩⟩
/-- A fresh variable for a log. -/
theorem fresh_log (w : World) : ∃ w' g, Hid (w' = w.alloc (.cells (Value.agg #[.int .i64 0, .int .i64 0, .int .i64 0, .int .i64 0]).cells 41)) ∧ Hid (g = w.heap.size) ∧ LAt w' g log0 ∧ Below w.heap.size w w' ∧ g < w'.heap.size ∧ w.heap.size ≤ g :=
  ⟨_, _, Lib.hid rfl, Lib.hid rfl, heap_alloc_new w _, Below.alloc (Below.refl _ _) (Nat.le_refl _) _, by simp, Nat.le_refl _⟩
theorem zero_disk : ∀ w, (zeroValue 38).run Tryz.prog w = .ok (.agg #[.slice none 0 0, .slice none 0 0, .int .i64 0, .bool false]) w := by
  have h : (Tryz.prog.info? 38).bind (fun i => i.zero) = some (.agg #[.slice none 0 0, .slice none 0 0, .int .i64 0, .bool false]) := by kernel_rfl
  obtain ⟨i, hi, hz⟩ := Option.bind_eq_some_iff.1 h
  intro w
  simp [zeroValue, typeInfo, hi, hz]
def disk0 : DiskP := ⟨[], [], 0, false⟩
/-- A fresh variable for a disk. -/
theorem fresh_disk (w : World) : ∃ w' g, Hid (w' = w.alloc (.cells (Value.agg #[.slice none 0 0, .slice none 0 0, .int .i64 0, .bool false]).cells 38)) ∧ Hid (g = w.heap.size) ∧ DAt w' g disk0 ∧ Below w.heap.size w w' ∧ g < w'.heap.size ∧ w.heap.size ≤ g :=
  ⟨_, _, Lib.hid rfl, Lib.hid rfl, ⟨none, 0, none, 0, heap_alloc_new w _, DiskV.mk (d := disk0) (Secs.nil 0 _) (Loose.nil 0 _)⟩, Below.alloc (Below.refl _ _) (Nat.le_refl _) _, by simp, Nat.le_refl _⟩
/-- A disk is laid into its variable. -/
theorem pack_disk {w : World} {D : Nat} {d d' : DiskP} {y0 y1 y2 y3 : Value} (hD : DAt w D d) (hd : DiskV w.heap.size w (.agg #[y0, y1, y2, y3]) d') :
    ∃ w9 x0 x1 x2 x3, Hid (w9 = (((w.setCell ⟨D, 0, none⟩ y0).setCell ⟨D, 1, none⟩ y1).setCell ⟨D, 2, none⟩ y2).setCell ⟨D, 3, none⟩ y3) ∧
      Four w D x0 x1 x2 x3 ∧ Hid (DAt w9 D d' ∧ w9.heap.size = w.heap.size ∧ (∀ k, k ≠ D → w9.heap[k]? = w.heap[k]?) ∧ (∀ B w0, Below B w0 w → B ≤ D → Below B w0 w9)) := by
  obtain ⟨x0, x1, x2, x3, hr⟩ := hD.row
  exact ⟨put4 w D y0 y1 y2 y3, x0, x1, x2, x3, Lib.hid rfl, Four.of hr, Lib.hid ⟨hD.put hd, put4_size _ _ _ _ _ _, fun k h1 => put4_other (Ne.symm h1) _ _ _ _, fun B w0 hb h1 => put4_below hb h1 _ _ _ _⟩⟩
end Go.Proofs.YtaijompnohkmaaaGreatDoor
/- Layer 5 (wal), plainly: what a disk that is up holds, sector by sector, behind deeds. -/
namespace Go.Proofs.YtaijompnohkmaaaGreatDoor
namespace WalP
theorem lastW_add (ls : List WriteP) (x : WriteP) (a : Int) (s : List UInt8) : lastW (ls ++ [x]) a s = if x.at_ = a then x.data else lastW ls a s := by
  simp [lastW, List.foldl_append]
/-- What all sectors of a disk read as. -/
def see (d : DiskP) : List (List UInt8) := (List.range d.secs.length).map fun i : Nat => lastW d.loose i (d.secs[i]?.getD zeroS)
theorem length_see (d : DiskP) : (see d).length = d.secs.length := by simp [see]
theorem see_at (d : DiskP) (i : Nat) : (see d)[i]? = if i < d.secs.length then some (lastW d.loose i (d.secs[i]?.getD zeroS)) else none := by
  unfold see
  rw [List.getElem?_map]
  by_cases h : i < d.secs.length
  · rw [List.getElem?_range h, if_pos h]; rfl
  · rw [List.getElem?_eq_none (by simpa using h), if_neg h]; rfl
/-- A disk that is up, with no fall ahead, of S sectors, with at most n loose writes. -/
structure Calm (S n : Nat) (d : DiskP) : Prop where
  secs : d.secs.length = S
  down : d.down = false
  fuse : d.fuse = -1
  at_ : ∀ x ∈ d.loose, 0 ≤ x.at_ ∧ x.at_ < S
  len : d.loose.length ≤ n
theorem right_of {S n : Nat} {d : DiskP} (h1 : d.secs.length = S) (h2 : d.loose.length ≤ n) (h3 : -1 ≤ d.fuse ∧ d.fuse ≤ 1099511627776) (h4 : ∀ x ∈ d.loose, 0 ≤ x.at_ ∧ x.at_ < S) (hS : S ≤ 4096) (hn : n ≤ 100000) : rightB d = true := by
  have hb : badAt d d.loose = false := by
    unfold badAt
    rw [List.any_eq_false]
    intro x hx
    have := h4 x hx
    simp [thereB, h1, this]
  simp only [rightB, fusedB, hb, Bool.and_eq_true, decide_eq_true_eq, Bool.not_false, and_true]
  omega
theorem Calm.right {S n : Nat} {d : DiskP} (h : Calm S n d) (hS : S ≤ 4096) (hn : n ≤ 100000) : rightB d = true := right_of h.secs h.len (by rw [h.fuse]; omega) h.at_ hS hn
theorem Calm.mono {S n m : Nat} {d : DiskP} (h : Calm S n d) (hm : n ≤ m) : Calm S m d := ⟨h.secs, h.down, h.fuse, h.at_, Nat.le_trans h.len hm⟩
theorem Calm.up {S n : Nat} {d : DiskP} (h : Calm S n d) : downP d = false ∧ burnF d = -1 := by
  have h1 := h.down
  have h2 := h.fuse
  exact ⟨by simp [downP, h1, h2], by simp [burnF, downP, h1, h2]⟩
theorem see_put (d : DiskP) (a : Nat) (s : List UInt8) (f : Int) (b : Bool) (ha : a < d.secs.length) : see { d with loose := d.loose ++ [⟨(a : Int), s⟩], fuse := f, down := b } = (see d).set a s := by
  apply List.ext_getElem?
  intro i
  rw [see_at, List.getElem?_set, length_see, see_at]
  simp only [lastW_add]
  by_cases hi : i < d.secs.length
  · rw [if_pos hi, if_pos hi]
    by_cases e : a = i
    · subst e; simp [ha]
    · rw [if_neg (by omega), if_neg e]
  · rw [if_neg hi, if_neg hi]
    by_cases e : a = i
    · omega
    · rw [if_neg e]
theorem Calm.put {S n : Nat} {d : DiskP} (h : Calm S n d) (hS : S ≤ 4096) (hn : n ≤ 100000) (a : Int) (s : List UInt8) (h0 : 0 ≤ a) (h1 : a < S) :
    (putP d a s).2 = 0 ∧ Calm S (n + 1) (putP d a s).1 ∧ see (putP d a s).1 = (see d).set a.toNat s := by
  have hr := h.right hS hn
  obtain ⟨u1, u2⟩ := h.up
  have hs := h.secs
  have ht : thereB d a = true := by simp [thereB, hs]; omega
  have e : putP d a s = ({ d with loose := d.loose ++ [⟨a, s⟩], fuse := -1, down := false }, 0) := by simp [putP, hr, ht, u1, u2]
  rw [e]
  obtain ⟨k, rfl⟩ : ∃ k : Nat, a = k := ⟨a.toNat, by omega⟩
  refine ⟨rfl, ⟨hs, rfl, rfl, ?_, ?_⟩, see_put d k s _ _ (by omega)⟩
  · intro x hx
    rcases List.mem_append.1 hx with hx | hx
    · exact h.at_ x hx
    · rw [List.mem_singleton.1 hx]; exact ⟨h0, h1⟩
  · have := h.len
    simp; omega
theorem walSettleAll (ss : List (List UInt8)) (ls : List WriteP) (at_ : Nat) (hl : at_ < ss.length) (h0 : ∀ x ∈ ls, 0 ≤ x.at_) : ∀ k, k ≤ ls.length → (settleN ss ls (fun _ => true) k)[at_]? = some (lastW (ls.take k) at_ ss[at_])
  | 0, _ => by simp [settleN, lastW, hl]
  | k + 1, hk => by
    have ih := walSettleAll ss ls at_ hl h0 k (by omega)
    have hlt : k < ls.length := by omega
    have e : ls.take (k + 1) = ls.take k ++ [ls[k]] := by rw [List.take_add_one, List.getElem?_eq_getElem hlt]; rfl
    rw [e, lastW_add]
    show (match ls[k]? with | some x => if true = true then (settleN ss ls (fun _ => true) k).set x.at_.toNat x.data else settleN ss ls (fun _ => true) k | none => settleN ss ls (fun _ => true) k)[at_]? = _
    rw [List.getElem?_eq_getElem hlt]
    simp only [if_true]
    have hp := h0 ls[k] (List.getElem_mem hlt)
    by_cases he : ls[k].at_ = (at_ : Int)
    · rw [if_pos he]
      have : ls[k].at_.toNat = at_ := by omega
      rw [this, List.getElem?_set_self (by rw [length_settleN]; exact hl)]
    · rw [if_neg he, List.getElem?_set_ne (by omega)]
      exact ih
theorem settle_see {d : DiskP} (h0 : ∀ x ∈ d.loose, 0 ≤ x.at_) : settleN d.secs d.loose (fun _ => true) d.loose.length = see d := by
  apply List.ext_getElem?
  intro i
  rw [see_at]
  by_cases hi : i < d.secs.length
  · rw [walSettleAll _ _ i hi h0 _ (Nat.le_refl _), if_pos hi, List.take_length, List.getElem?_eq_getElem hi]; rfl
  · rw [if_neg hi, List.getElem?_eq_none (by rw [length_settleN]; omega)]
theorem see_sure (ss : List (List UInt8)) (f : Int) (b : Bool) : see ⟨ss, [], f, b⟩ = ss := by
  apply List.ext_getElem?
  intro i
  rw [see_at]
  by_cases hi : i < ss.length
  · simp [hi, lastW]
  · simp [hi]
theorem Calm.flush {S n : Nat} {d : DiskP} (h : Calm S n d) (hS : S ≤ 4096) (hn : n ≤ 100000) :
    (flushP d).2 = 0 ∧ Calm S 0 (flushP d).1 ∧ see (flushP d).1 = see d := by
  have hr := h.right hS hn
  obtain ⟨u1, u2⟩ := h.up
  have e : flushP d = (⟨settleN d.secs d.loose (fun _ => true) d.loose.length, [], -1, false⟩, 0) := by simp [flushP, hr, u1, u2]
  rw [e, settle_see (fun x hx => (h.at_ x hx).1)]
  exact ⟨rfl, ⟨by show (see d).length = S; rw [length_see]; exact h.secs, rfl, rfl, fun x hx => absurd hx List.not_mem_nil, Nat.zero_le _⟩, see_sure _ _ _⟩
/-- A deed that is done on a disk of S sectors. -/
def fit (S : Nat) : Deed → Prop
  | .put a _ => 0 ≤ a ∧ a < S
  | .flush => True
/-- What deeds leave. -/
def after1 (v : List (List UInt8)) : Deed → List (List UInt8)
  | .put a s => v.set a.toNat s
  | .flush => v
def after (v : List (List UInt8)) (ds : List Deed) : List (List UInt8) := ds.foldl after1 v
theorem after_append (v : List (List UInt8)) (xs ys : List Deed) : after v (xs ++ ys) = after (after v xs) ys := by simp [after, List.foldl_append]
theorem length_after (ds : List Deed) : ∀ v, (after v ds).length = v.length := by
  induction ds with
  | nil => intro v; rfl
  | cons x ds ih =>
    intro v
    show (after (after1 v x) ds).length = _
    rw [ih]
    cases x <;> simp [after1]
theorem Calm.run {S : Nat} (hS : S ≤ 4096) : ∀ (ds : List Deed) {n : Nat} {d : DiskP}, Calm S n d → n + ds.length ≤ 100000 → (∀ x ∈ ds, fit S x) → (WalP.run d ds).2 = 0 ∧ Calm S (n + ds.length) (WalP.run d ds).1 ∧ see (WalP.run d ds).1 = after (see d) ds
  | [], n, d, h, _, _ => ⟨rfl, h, rfl⟩
  | x :: ds, n, d, h, hn, hf => by
    have hl : (x :: ds).length = ds.length + 1 := rfl
    have h1 : (WalP.deed d x).2 = 0 ∧ Calm S (n + 1) (WalP.deed d x).1 ∧ see (WalP.deed d x).1 = after1 (see d) x := by
      have hx := hf x (List.mem_cons_self ..)
      cases x with
      | put a s => exact h.put hS (by omega) a s hx.1 hx.2
      | flush =>
        obtain ⟨h1, h2, h3⟩ := h.flush hS (by omega)
        exact ⟨h1, h2.mono (Nat.zero_le _), h3⟩
    obtain ⟨e1, e2, e3⟩ := h1
    obtain ⟨i1, i2, i3⟩ := Calm.run hS ds e2 (by omega) (fun y hy => hf y (List.mem_cons_of_mem _ hy))
    simp only [WalP.run, e1, if_true]
    refine ⟨i1, i2.mono (by omega), ?_⟩
    rw [i3, e3]
    rfl
/-- The same, with a flush at the end. -/
theorem Calm.runF {S : Nat} (hS : S ≤ 4096) {ds : List Deed} {n : Nat} {d : DiskP} (h : Calm S n d) (hn : n + ds.length ≤ 100000) (hf : ∀ x ∈ ds, fit S x) : (WalP.run d (ds ++ [.flush])).2 = 0 ∧ Calm S 0 (WalP.run d (ds ++ [.flush])).1 ∧ see (WalP.run d (ds ++ [.flush])).1 = after (see d) ds := by
  obtain ⟨h1, h2, h3⟩ := Calm.run hS ds h hn hf
  rw [WalP.run_append, if_pos h1, run_one]
  obtain ⟨g1, g2, g3⟩ := h2.flush hS (by omega)
  exact ⟨g1, g2, g3.trans h3⟩
theorem Calm.view {S n : Nat} {d : DiskP} (h : Calm S n d) (hS : S ≤ 4096) (hn : n ≤ 100000) (F : Nat) (which : Int) (hF : which * half d = F) (hw : which = 0 ∨ which = 1) : viewP d which = ((see d).drop F).take (half d) := by
  have hr := h.right hS hn
  have hs := h.secs
  have hd := h.down
  have hFH : F + half d ≤ S := by
    unfold half at hF ⊢
    rw [hs] at hF ⊢
    rcases hw with rfl | rfl <;> omega
  unfold viewP
  rw [hF]
  apply List.ext_getElem?
  intro i
  rw [List.getElem?_map, List.getElem?_take, List.getElem?_drop]
  by_cases hi : i < half d
  · rw [List.getElem?_range hi, if_pos hi, see_at, if_pos (by omega)]
    have ht : thereB d ((F : Int) + i) = true := by simp [thereB, hs]; omega
    simp [readP, hr, ht, hd]
    have : ((F : Int) + i).toNat = F + i := by omega
    rw [this]
  · rw [if_neg hi, List.getElem?_eq_none (by simpa using hi)]; rfl
end WalP
end Go.Proofs.YtaijompnohkmaaaGreatDoor
