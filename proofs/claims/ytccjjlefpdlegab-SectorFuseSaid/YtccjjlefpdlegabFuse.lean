/- Layer 1 (sector): the law SectorFuse. -/
import Derived.Test.YtccjjlefpdlegabFusePure
namespace Go.Proofs.Ytccjjlefpdlegab
open Go.RowKit
set_option maxRecDepth 100000 in
set_option maxHeartbeats 2000000 in
theorem SectorFuse_walk (v1 : Value) (kz : Int) (bs : List Bool) (W : World) (hk0 : 0 ≤ kz) (hk : kz < 256) (hf : Row W.heap.size W v1 1 bs.length (bs.map Value.bool)) :
    Calls Try.prog 3 #[.int .u8 kz, v1] W fun e w' => e = .returned (.bool true) ∧ Below W.heap.size W w' := by
  obtain ⟨k, rfl⟩ := Int.eq_ofNat_of_zero_le hk0
  have hk : k < 256 := by omega
  obtain ⟨_, fa, fcap, rfl, hfn, hfc, hfcells⟩ := hf
  unfold maxLen at hfc
  obtain ⟨L, hL⟩ : ∃ L, L = bs.length := ⟨_, rfl⟩
  rw [← hL] at hfn hfcells ⊢
  have HL := Lib.hid hL
  have HFC := Lib.hid hfcells
  clear hL hfcells hk0
  obtain ⟨q1, q2, q3⟩ := FuseInv.arm hk
  have k1 := alive_any W
  have b1 := run_build44 1
  obtain ⟨X1, hX1⟩ : ∃ X, X = (u8s (lit64 1)).toArray := ⟨_, rfl⟩
  rw [← hX1] at b1
  have HX1 := Lib.hid hX1
  have B1 := Lib.hid b1
  have Q2 := Lib.hid q2
  have Q3 := Lib.hid q3
  clear b1 hX1 q2 q3
  go_enter Try.func3, Try.ntmps3
  go_wp2_with fail
  refine k1.mono ?_
  rintro e w0 ⟨rfl, hb0⟩
  clear k1
  have k1 := new_any 3 w0 (fun _ => True) (fun _ _ => trivial)
  rw [q1] at k1
  clear q1
  go_wp2_with fail
  refine k1.mono ?_
  rintro e w1 ⟨⟨v, rfl, hd1, _⟩, hb1⟩
  clear k1
  obtain ⟨d0, hd0⟩ : ∃ d, d = (newP 3).1 := ⟨_, rfl⟩
  rw [← hd0] at hd1
  have Q2 := Q2.out
  have Q3 := Q3.out
  rw [← hd0] at Q2 Q3
  have HQ3 := Lib.hid Q3
  clear Q3 hd0
  obtain ⟨a1, n1, a2, n2, rfl, _, _⟩ := hd1.parts
  obtain ⟨T, hT⟩ : ∃ T, T = w1.heap.size := ⟨_, rfl⟩
  obtain ⟨u1, hu1⟩ : ∃ u, u = w1.alloc (.cells #[.slice a1 d0.secs.length n1, .slice a2 d0.loose.length n2, .int .i64 d0.fuse, .bool d0.down] 27) := ⟨_, rfl⟩
  have hbu : Below w1.heap.size w1 u1 := by rw [hu1]; exact Below.alloc (Below.refl _ _) (Nat.le_refl _) _
  have hsl : DSl (· ≠ T) (.agg #[.slice a1 d0.secs.length n1, .slice a2 d0.loose.length n2, .int .i64 d0.fuse, .bool d0.down]) := hd1.sl (fun b hb => by show b ≠ T; omega)
  have hd := hd1.below hbu
  have hrow : u1.heap[T]? = some (.cells #[.slice a1 d0.secs.length n1, .slice a2 d0.loose.length n2, .int .i64 d0.fuse, .bool d0.down] 27 (0, 0)) := by rw [hu1, hT]; exact heap_alloc_new w1 _
  have hlt : T < u1.heap.size := block_lt hrow
  have hB := (hb0.trans (hb1.mono hb0.size)).trans (hbu.mono (Nat.le_trans hb0.size hb1.size))
  have hTl : W.heap.size ≤ T := by have := hb0.size; have := hb1.size; omega
  clear hbu hd1 hb1 hb0
  have k2 := arm_any _ d0 k u1 hd (· ≠ T) hsl
  rw [Q2] at k2
  clear Q2
  have HT := Lib.hid hT
  have HU := Lib.hid hu1
  clear hT hu1
  go_wp2_with fail
  rw [← HT.out, ← HU.out]
  refine k2.mono ?_
  rintro e w2 ⟨⟨v', rfl, hd', hsl'⟩, hb'⟩
  obtain ⟨d1, hd1⟩ : ∃ d, d = (armP d0 k).1 := ⟨_, rfl⟩
  have hinv := HQ3.out
  rw [← hd1] at hd' hinv
  clear hd1
  obtain ⟨c1, m1, c2, m2, rfl, _, _⟩ := hd'.parts
  have hrow' := (hb'.block T hlt).trans hrow
  have hB' := hB.trans (hb'.mono hB.size)
  clear k2 hd hsl hrow hB hb' hlt
  have C0 := cell_of_row w2 _ 0 _ _ _ hrow'
  have C1 := cell_of_row w2 _ 1 _ _ _ hrow'
  have C2 := cell_of_row w2 _ 2 _ _ _ hrow'
  have C3 := cell_of_row w2 _ 3 _ _ _ hrow'
  have Y := frozen_row hrow'
  obtain ⟨u2, hu⟩ : ∃ u, u = put4 w2 T (.slice c1 d1.secs.length m1) (.slice c2 d1.loose.length m2) (.int .i64 d1.fuse) (.bool d1.down) := ⟨_, rfl⟩
  have hd : DiskV u2.heap.size u2 (.agg #[.slice c1 d1.secs.length m1, .slice c2 d1.loose.length m2, .int .i64 d1.fuse, .bool d1.down]) d1 := by rw [hu]; exact (put4_disk hd' hsl' _ _ _ _).tight
  have hrow : u2.heap[T]? = some (.cells #[.slice c1 d1.secs.length m1, .slice c2 d1.loose.length m2, .int .i64 d1.fuse, .bool d1.down] 27 (0, 0)) := by rw [hu]; exact put4_heap hrow' _ _ _ _
  have hB : Below W.heap.size W u2 := by rw [hu]; exact put4_below hB' hTl _ _ _ _
  unfold put4 at hu
  have HU := Lib.hid hu
  have HINV := Lib.hid hinv
  clear hd' hB' hrow' hu hinv
  by_cases hL3 : 300 < L
  · go_wp2_with fail
    rw [← HU.out]
    go_ret
    exact ⟨rfl, hB⟩
  go_wp2_with fail
  rw [← HU.out]
  go_loopw [8] (fun i wr => ∃ (i' : Nat) (d : DiskP) (p r : Option Addr) (q s : Nat), i' ≤ L ∧ i = .int .i64 i' ∧ FuseInv k i' d ∧ wr.heap[T]? = some (.cells #[.slice p d.secs.length q, .slice r d.loose.length s, .int .i64 d.fuse, .bool d.down] 27 (0, 0)) ∧ DiskV wr.heap.size wr (.agg #[.slice p d.secs.length q, .slice r d.loose.length s, .int .i64 d.fuse, .bool d.down]) d ∧ DSl (· ≠ T) (.agg #[.slice p d.secs.length q, .slice r d.loose.length s, .int .i64 d.fuse, .bool d.down]) ∧ Below W.heap.size W wr) (fun i _ => L - (intOf i).toNat)
  case atStart => exact ⟨0, d1, c1, c2, m1, m2, Nat.zero_le _, rfl, HINV.out, hrow, hd, hsl', hB⟩
  case round =>
    obtain ⟨i, d, p, r, q, s, hi, rfl, hinv, hrow, hd, hsl, hB⟩ := hrel
    clear C0 C1 C2 C3 Y hsl'
    have hlt := block_lt hrow
    have hi3 : i ≤ 300 := by omega
    have HINV := Lib.hid hinv
    have HI3 := Lib.hid hi3
    clear hinv hi3
    by_cases hil : i < L
    · obtain ⟨fb, foff, rfl, hfb, hfcell⟩ := HFC.out (by omega)
      have hib : i < bs.length := HL.out ▸ hil
      obtain ⟨β, hβ⟩ : ∃ β, β = bs[i] := ⟨_, rfl⟩
      have hfc0 : W.cell? ⟨fb, foff + i, none⟩ = some (.bool β) := hfcell i (.bool β) (by rw [hβ]; simp [hib])
      obtain ⟨pe, pinv⟩ := HINV.out.put hk HI3.out (lit64 1)
      obtain ⟨fe, finv⟩ := HINV.out.flush hk HI3.out
      clear hfcell hβ
      by_cases hik : i < k
      · have e1 : (putP d 1 (lit64 1)).2 = 0 := by rw [pe]; simp [hik]
        have e2 : (flushP d).2 = 0 := by rw [fe]; simp [hik]
        have hdec : decide ((i : Int) < (k : Int)) = true := by rw [decide_eq_true_eq]; omega
        have k2 := put_any _ d 1 (lit64 1) wr hd rfl (· ≠ T) hsl (fun b hb => by show b ≠ T; omega)
        rw [← HX1.out, e1] at k2
        have HE2 := Lib.hid e2
        have HPI := Lib.hid pinv
        have HFI := Lib.hid finv
        clear e1 e2 pe fe pinv finv
        have C0 := cell_of_row wr _ 0 _ _ _ hrow
        have C1 := cell_of_row wr _ 1 _ _ _ hrow
        have C2 := cell_of_row wr _ 2 _ _ _ hrow
        have C3 := cell_of_row wr _ 3 _ _ _ hrow
        go_wp2_with (refine wp_build_l 33 [(0, .const (.int .u8 1))] rfl rfl rfl (B1.out _) ?_; refine Halt.in ?_)
        refine Halt.out ?_
        go_wp2_with fail
        refine k2.mono ?_
        rintro e wa ⟨⟨v', rfl, hdP, hslP⟩, hba⟩
        obtain ⟨dP, hdPe⟩ : ∃ x, x = (putP d 1 (lit64 1)).1 := ⟨_, rfl⟩
        have hpi := HPI.out
        rw [← hdPe] at hdP hpi
        clear hdPe
        have HPI := Lib.hid hpi
        have HDN := Lib.hid hpi.down
        obtain ⟨c1, m1, c2, m2, rfl, _, _⟩ := hdP.parts
        obtain ⟨wb, hwb⟩ : ∃ u, u = wa.alloc (.cells #[.slice c1 dP.secs.length m1, .slice c2 dP.loose.length m2, .int .i64 dP.fuse, .bool dP.down] 27) := ⟨_, rfl⟩
        have hbb : Below wa.heap.size wa wb := by rw [hwb]; exact Below.alloc (Below.refl _ _) (Nat.le_refl _) _
        have row9 : wb.heap[wa.heap.size]? = some (.cells #[.slice c1 dP.secs.length m1, .slice c2 dP.loose.length m2, .int .i64 dP.fuse, .bool dP.down] 27 (0, 0)) := by rw [hwb]; exact heap_alloc_new wa _
        have hTa : T < wa.heap.size := Nat.lt_of_lt_of_le hlt hba.size
        have hrowb := (hbb.block T hTa).trans ((hba.block T hlt).trans hrow)
        have hBb := (hB.trans (hba.mono hB.size)).trans (hbb.mono (by have := hB.size; have := hba.size; omega))
        have hdb := ((hd.below hba).tight).below hbb
        have hslb : DSl (fun b => b ≠ T ∧ b ≠ wa.heap.size) (.agg #[.slice p d.secs.length q, .slice r d.loose.length s, .int .i64 d.fuse, .bool d.down]) := hsl.and (((hd.below hba).tight).sl (fun b hb => by show b ≠ wa.heap.size; omega))
        have hdPb := hdP.below hbb
        have hlb : (loadVar 4 ⟨fb, foff + i, none⟩).run Try.prog wb = .ok (.bool β) wb := by
          have hc := (hBb.cell (p := ⟨fb, foff + i, none⟩) hfb).trans hfc0
          simp [go_sem, hc]
        have HWB := Lib.hid hwb
        clear k2 C0 C1 C2 C3 hwb hd hsl hrow hB hdP hba hbb hlt hpi
        go_wp2_with (refine wp_load_to (w' := wb) (.tmp 53) 4 rfl rfl ?_ rfl hlb ?_; (exact HWB.out); refine Halt.in ?_)
        refine Halt.out ?_
        clear hlb
        have hlt9 := block_lt row9
        cases β with
        | false =>
          have N0 := cell_of_row wb _ 0 _ _ _ row9
          have N1 := cell_of_row wb _ 1 _ _ _ row9
          have N2 := cell_of_row wb _ 2 _ _ _ row9
          have N3 := cell_of_row wb _ 3 _ _ _ row9
          have C0 := cell_of_row wb _ 0 _ _ _ hrowb
          have C1 := cell_of_row wb _ 1 _ _ _ hrowb
          have C2 := cell_of_row wb _ 2 _ _ _ hrowb
          have C3 := cell_of_row wb _ 3 _ _ _ hrowb
          have Y := frozen_row hrowb
          have hrowF := put4_heap hrowb (.slice c1 dP.secs.length m1) (.slice c2 dP.loose.length m2) (.int .i64 dP.fuse) (.bool dP.down)
          have hdF := (put4_disk hdPb hslP (.slice c1 dP.secs.length m1) (.slice c2 dP.loose.length m2) (.int .i64 dP.fuse) (.bool dP.down)).tight
          have hBF := put4_below hBb hTl (.slice c1 dP.secs.length m1) (.slice c2 dP.loose.length m2) (.int .i64 dP.fuse) (.bool dP.down)
          have hslF := hslP
          clear hdPb hslP hdb hslb
          go_wp2_with fail
          go_roundw
          case rel =>
            refine ⟨i + 1, dP, c1, c2, m1, m2, by omega, by go_num, HPI.out, ?_, ?_, ?_, hBF⟩
            · exact hrowF
            · exact hdF
            · exact hslF
          case measure => simp [intOf]; omega
        | true =>
          have k3 := flush_any _ d wb hdb (fun b => b ≠ T ∧ b ≠ wa.heap.size) hslb (fun b hb => by constructor <;> omega)
          rw [HE2.out] at k3
          have C0 := cell_of_row wb _ 0 _ _ _ hrowb
          have C1 := cell_of_row wb _ 1 _ _ _ hrowb
          have C2 := cell_of_row wb _ 2 _ _ _ hrowb
          have C3 := cell_of_row wb _ 3 _ _ _ hrowb
          go_wp2_with fail
          refine k3.mono ?_
          rintro e wc ⟨⟨v', rfl, hdQ, hslQ⟩, hbc⟩
          obtain ⟨dQ, hdQe⟩ : ∃ x, x = (flushP d).1 := ⟨_, rfl⟩
          have hfi := HFI.out
          rw [← hdQe] at hdQ hfi
          clear hdQe
          have HFI := Lib.hid hfi
          have HDQ := Lib.hid hfi.down
          clear hfi
          obtain ⟨g1, l1, g2, l2, rfl, _, _⟩ := hdQ.parts
          have rowc := (hbc.block T (by omega)).trans hrowb
          have row9c := (hbc.block _ hlt9).trans row9
          have hBc := hBb.trans (hbc.mono hBb.size)
          clear k3 C0 C1 C2 C3 hdPb hslP hdb hslb hbc hrowb row9 hBb
          have C0 := cell_of_row wc _ 0 _ _ _ rowc
          have C1 := cell_of_row wc _ 1 _ _ _ rowc
          have C2 := cell_of_row wc _ 2 _ _ _ rowc
          have C3 := cell_of_row wc _ 3 _ _ _ rowc
          have N0 := cell_of_row wc _ 0 _ _ _ row9c
          have N1 := cell_of_row wc _ 1 _ _ _ row9c
          have N2 := cell_of_row wc _ 2 _ _ _ row9c
          have N3 := cell_of_row wc _ 3 _ _ _ row9c
          have Y := frozen_row rowc
          have Z := frozen_row row9c
          have hne : wa.heap.size ≠ T := by omega
          have hrowF := put4_heap (put4_far rowc hne (.slice g1 dQ.secs.length l1) (.slice g2 dQ.loose.length l2) (.int .i64 dQ.fuse) (.bool dQ.down)) (.slice g1 dQ.secs.length l1) (.slice g2 dQ.loose.length l2) (.int .i64 dQ.fuse) (.bool dQ.down)
          have hslF := hslQ.imp (fun b hb => hb.1)
          have hdF := (put4_disk (put4_disk hdQ (hslQ.imp (fun b hb => hb.2)) (.slice g1 dQ.secs.length l1) (.slice g2 dQ.loose.length l2) (.int .i64 dQ.fuse) (.bool dQ.down)) hslF (.slice g1 dQ.secs.length l1) (.slice g2 dQ.loose.length l2) (.int .i64 dQ.fuse) (.bool dQ.down)).tight
          have hBF := put4_below (put4_below hBc (show W.heap.size ≤ wa.heap.size by omega) (.slice g1 dQ.secs.length l1) (.slice g2 dQ.loose.length l2) (.int .i64 dQ.fuse) (.bool dQ.down)) hTl (.slice g1 dQ.secs.length l1) (.slice g2 dQ.loose.length l2) (.int .i64 dQ.fuse) (.bool dQ.down)
          clear hdQ hslQ hBc rowc row9c
          go_wp2_with fail
          go_roundw
          case rel =>
            refine ⟨i + 1, dQ, g1, g2, l1, l2, by omega, by go_num, HFI.out, ?_, ?_, ?_, hBF⟩
            · exact hrowF
            · exact hdF
            · exact hslF
          case measure => simp [intOf]; omega
      · have e1 : (putP d 1 (lit64 1)).2 = 9 := by rw [pe]; simp [hik]
        have e2 : (flushP d).2 = 9 := by rw [fe]; simp [hik]
        have hdec : decide ((i : Int) < (k : Int)) = false := by rw [decide_eq_false_iff_not]; omega
        have k2 := put_any _ d 1 (lit64 1) wr hd rfl (· ≠ T) hsl (fun b hb => by show b ≠ T; omega)
        rw [← HX1.out, e1] at k2
        have HE2 := Lib.hid e2
        have HPI := Lib.hid pinv
        have HFI := Lib.hid finv
        clear e1 e2 pe fe pinv finv
        have C0 := cell_of_row wr _ 0 _ _ _ hrow
        have C1 := cell_of_row wr _ 1 _ _ _ hrow
        have C2 := cell_of_row wr _ 2 _ _ _ hrow
        have C3 := cell_of_row wr _ 3 _ _ _ hrow
        go_wp2_with (refine wp_build_l 33 [(0, .const (.int .u8 1))] rfl rfl rfl (B1.out _) ?_; refine Halt.in ?_)
        refine Halt.out ?_
        go_wp2_with fail
        refine k2.mono ?_
        rintro e wa ⟨⟨v', rfl, hdP, hslP⟩, hba⟩
        obtain ⟨dP, hdPe⟩ : ∃ x, x = (putP d 1 (lit64 1)).1 := ⟨_, rfl⟩
        have hpi := HPI.out
        rw [← hdPe] at hdP hpi
        clear hdPe
        have HPI := Lib.hid hpi
        have HDN := Lib.hid hpi.down
        obtain ⟨c1, m1, c2, m2, rfl, _, _⟩ := hdP.parts
        obtain ⟨wb, hwb⟩ : ∃ u, u = wa.alloc (.cells #[.slice c1 dP.secs.length m1, .slice c2 dP.loose.length m2, .int .i64 dP.fuse, .bool dP.down] 27) := ⟨_, rfl⟩
        have hbb : Below wa.heap.size wa wb := by rw [hwb]; exact Below.alloc (Below.refl _ _) (Nat.le_refl _) _
        have row9 : wb.heap[wa.heap.size]? = some (.cells #[.slice c1 dP.secs.length m1, .slice c2 dP.loose.length m2, .int .i64 dP.fuse, .bool dP.down] 27 (0, 0)) := by rw [hwb]; exact heap_alloc_new wa _
        have hTa : T < wa.heap.size := Nat.lt_of_lt_of_le hlt hba.size
        have hrowb := (hbb.block T hTa).trans ((hba.block T hlt).trans hrow)
        have hBb := (hB.trans (hba.mono hB.size)).trans (hbb.mono (by have := hB.size; have := hba.size; omega))
        have hdb := ((hd.below hba).tight).below hbb
        have hslb : DSl (fun b => b ≠ T ∧ b ≠ wa.heap.size) (.agg #[.slice p d.secs.length q, .slice r d.loose.length s, .int .i64 d.fuse, .bool d.down]) := hsl.and (((hd.below hba).tight).sl (fun b hb => by show b ≠ wa.heap.size; omega))
        have hdPb := hdP.below hbb
        have hlb : (loadVar 4 ⟨fb, foff + i, none⟩).run Try.prog wb = .ok (.bool β) wb := by
          have hc := (hBb.cell (p := ⟨fb, foff + i, none⟩) hfb).trans hfc0
          simp [go_sem, hc]
        have HWB := Lib.hid hwb
        clear k2 C0 C1 C2 C3 hwb hd hsl hrow hB hdP hba hbb hlt hpi
        go_wp2_with (refine wp_load_to (w' := wb) (.tmp 53) 4 rfl rfl ?_ rfl hlb ?_; (exact HWB.out); refine Halt.in ?_)
        refine Halt.out ?_
        clear hlb
        have hlt9 := block_lt row9
        cases β with
        | false =>
          have hdn9 : dP.down = true := by rw [HDN.out]; simp; omega
          have N0 := cell_of_row wb _ 0 _ _ _ row9
          have N1 := cell_of_row wb _ 1 _ _ _ row9
          have N2 := cell_of_row wb _ 2 _ _ _ row9
          have N3 := cell_of_row wb _ 3 _ _ _ row9
          have C0 := cell_of_row wb _ 0 _ _ _ hrowb
          have C1 := cell_of_row wb _ 1 _ _ _ hrowb
          have C2 := cell_of_row wb _ 2 _ _ _ hrowb
          have C3 := cell_of_row wb _ 3 _ _ _ hrowb
          have Y := frozen_row hrowb
          rw [hdn9] at N3
          have hrowF := put4_heap hrowb (.slice c1 dP.secs.length m1) (.slice c2 dP.loose.length m2) (.int .i64 dP.fuse) (.bool dP.down)
          have hdF := (put4_disk hdPb hslP (.slice c1 dP.secs.length m1) (.slice c2 dP.loose.length m2) (.int .i64 dP.fuse) (.bool dP.down)).tight
          have hBF := put4_below hBb hTl (.slice c1 dP.secs.length m1) (.slice c2 dP.loose.length m2) (.int .i64 dP.fuse) (.bool dP.down)
          have hslF := hslP
          rw [hdn9] at hrowF hdF hBF hslF
          have HD9 := Lib.hid hdn9
          clear hdPb hslP hdb hslb hdn9
          go_wp2_with fail
          go_roundw
          case rel =>
            refine ⟨i + 1, dP, c1, c2, m1, m2, by omega, by go_num, HPI.out, ?_, ?_, ?_, hBF⟩
            · rw [HD9.out]; exact hrowF
            · rw [HD9.out]; exact hdF
            · rw [HD9.out]; exact hslF
          case measure => simp [intOf]; omega
        | true =>
          have k3 := flush_any _ d wb hdb (fun b => b ≠ T ∧ b ≠ wa.heap.size) hslb (fun b hb => by constructor <;> omega)
          rw [HE2.out] at k3
          have C0 := cell_of_row wb _ 0 _ _ _ hrowb
          have C1 := cell_of_row wb _ 1 _ _ _ hrowb
          have C2 := cell_of_row wb _ 2 _ _ _ hrowb
          have C3 := cell_of_row wb _ 3 _ _ _ hrowb
          go_wp2_with fail
          refine k3.mono ?_
          rintro e wc ⟨⟨v', rfl, hdQ, hslQ⟩, hbc⟩
          obtain ⟨dQ, hdQe⟩ : ∃ x, x = (flushP d).1 := ⟨_, rfl⟩
          have hfi := HFI.out
          rw [← hdQe] at hdQ hfi
          clear hdQe
          have HFI := Lib.hid hfi
          have HDQ := Lib.hid hfi.down
          clear hfi
          obtain ⟨g1, l1, g2, l2, rfl, _, _⟩ := hdQ.parts
          have rowc := (hbc.block T (by omega)).trans hrowb
          have row9c := (hbc.block _ hlt9).trans row9
          have hBc := hBb.trans (hbc.mono hBb.size)
          clear k3 C0 C1 C2 C3 hdPb hslP hdb hslb hbc hrowb row9 hBb
          have C0 := cell_of_row wc _ 0 _ _ _ rowc
          have C1 := cell_of_row wc _ 1 _ _ _ rowc
          have C2 := cell_of_row wc _ 2 _ _ _ rowc
          have C3 := cell_of_row wc _ 3 _ _ _ rowc
          have N0 := cell_of_row wc _ 0 _ _ _ row9c
          have N1 := cell_of_row wc _ 1 _ _ _ row9c
          have N2 := cell_of_row wc _ 2 _ _ _ row9c
          have N3 := cell_of_row wc _ 3 _ _ _ row9c
          have Y := frozen_row rowc
          have Z := frozen_row row9c
          have hne : wa.heap.size ≠ T := by omega
          have hrowF := put4_heap (put4_far rowc hne (.slice g1 dQ.secs.length l1) (.slice g2 dQ.loose.length l2) (.int .i64 dQ.fuse) (.bool dQ.down)) (.slice g1 dQ.secs.length l1) (.slice g2 dQ.loose.length l2) (.int .i64 dQ.fuse) (.bool dQ.down)
          have hslF := hslQ.imp (fun b hb => hb.1)
          have hdF := (put4_disk (put4_disk hdQ (hslQ.imp (fun b hb => hb.2)) (.slice g1 dQ.secs.length l1) (.slice g2 dQ.loose.length l2) (.int .i64 dQ.fuse) (.bool dQ.down)) hslF (.slice g1 dQ.secs.length l1) (.slice g2 dQ.loose.length l2) (.int .i64 dQ.fuse) (.bool dQ.down)).tight
          have hBF := put4_below (put4_below hBc (show W.heap.size ≤ wa.heap.size by omega) (.slice g1 dQ.secs.length l1) (.slice g2 dQ.loose.length l2) (.int .i64 dQ.fuse) (.bool dQ.down)) hTl (.slice g1 dQ.secs.length l1) (.slice g2 dQ.loose.length l2) (.int .i64 dQ.fuse) (.bool dQ.down)
          have hdq9 : dQ.down = true := by rw [HDQ.out]; simp; omega
          rw [hdq9] at hrowF hdF hBF hslF
          have HQ9 := Lib.hid hdq9
          rw [hdq9]
          clear hdq9
          clear hdQ hslQ hBc rowc row9c
          go_wp2_with fail
          go_roundw
          case rel =>
            refine ⟨i + 1, dQ, g1, g2, l1, l2, by omega, by go_num, HFI.out, ?_, ?_, ?_, hBF⟩
            · rw [HQ9.out]; exact hrowF
            · rw [HQ9.out]; exact hdF
            · rw [HQ9.out]; exact hslF
          case measure => simp [intOf]; omega
    · obtain ⟨s1, s2, s3⟩ := HINV.out.start hk HI3.out
      have k2 := start_any _ d 0 wr hd (by decide) (by decide) (· ≠ T) hsl (fun b hb => by show b ≠ T; omega)
      rw [s1] at k2
      clear s1
      have C0 := cell_of_row wr _ 0 _ _ _ hrow
      have C1 := cell_of_row wr _ 1 _ _ _ hrow
      have C2 := cell_of_row wr _ 2 _ _ _ hrow
      have C3 := cell_of_row wr _ 3 _ _ _ hrow
      go_wp2_with fail
      refine k2.mono ?_
      rintro e w5 ⟨⟨v', rfl, hd', hsl'⟩, hb'⟩
      obtain ⟨d5, hd5⟩ : ∃ d5, d5 = (startP d 0).1 := ⟨_, rfl⟩
      rw [← hd5] at hd' s2 s3
      clear hd5
      obtain ⟨c1, m1, c2, m2, rfl, _, _⟩ := hd'.parts
      have hrow' := (hb'.block T hlt).trans hrow
      have hB' := hB.trans (hb'.mono hB.size)
      clear k2 C0 C1 C2 C3 hb' hd hsl hrow hB
      rw [s2, s3]
      have C0 := cell_of_row w5 _ 0 _ _ _ hrow'
      have C1 := cell_of_row w5 _ 1 _ _ _ hrow'
      have C2 := cell_of_row w5 _ 2 _ _ _ hrow'
      have C3 := cell_of_row w5 _ 3 _ _ _ hrow'
      have Y := frozen_row hrow'
      have hB := put4_below hB' hTl (.slice c1 d5.secs.length m1) (.slice c2 d5.loose.length m2) (.int .i64 (-1)) (.bool false)
      clear hB' s2 s3
      go_wp2_with fail
      go_ret
      exact ⟨rfl, hB⟩
end Go.Proofs.Ytccjjlefpdlegab
