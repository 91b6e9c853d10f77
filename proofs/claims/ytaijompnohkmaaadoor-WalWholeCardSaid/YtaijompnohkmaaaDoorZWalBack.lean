/- Layer 5 (wal): WalBack, walked. -/
import Derived.Test.YtaijompnohkmaaaDoorMR
namespace Go.Proofs.YtaijompnohkmaaaDoor
open Go.RowKit WalP PackP
theorem Pieces.toS {B : Nat} {w : World} {v : Value} {ls : List (List UInt8)} (h : Pieces B w v ls) : PiecesS (· < B) B w v ls := by
  have one : ∀ {sz n : Nat} {cs : List Value} {u : Value}, Row B w u sz n cs → Sl (· < B) u := fun {sz n cs u} h => by
    obtain ⟨_, a, cap, rfl, _, _, h3⟩ := h
    intro a' n' c' hv hp
    cases hv
    obtain ⟨b, off, he, hb, _⟩ := h3 hp
    cases he
    exact hb
  obtain ⟨vs, h1, h2⟩ := h
  exact ⟨vs, h1, one h1, fun k hk => let ⟨u, h3, h4⟩ := h2 k hk; ⟨u, h3, h4, one h4⟩⟩
theorem Pieces.ones {B : Nat} {w : World} {v : Value} {ls : List (List UInt8)} {vs : List Value} (h1 : Row B w v 1 ls.length vs) (h2 : ∀ (k : Nat) (h : k < ls.length), ∃ u, vs[k]? = some u ∧ Bytes B w u ls[k]) : ∀ u ∈ vs, u.oneCell' = true := by
  intro u hu
  obtain ⟨k, hk, rfl⟩ := List.getElem_of_mem hu
  have hl := h1.1
  obtain ⟨x, hx, _, a, c, hxv, _⟩ := h2 k (by omega)
  rw [List.getElem?_eq_getElem hk] at hx
  have e := Option.some.inj hx
  rw [e, hxv]
  rfl
/-- What is there behind the record more. -/
def BackMid (W : World) (D L : Nat) (list : List (List UInt8)) (wx : World) (s9 : Value) : Prop :=
  ∃ dd ll cur M0 a c, DAt wx D dd ∧ LAt wx L ll ∧ Holds 300 dd ll cur ∧ ll.gen = 1 ∧ Below W.heap.size W wx ∧ D < M0 ∧ L < M0 ∧ s9 = .slice a cur.length c ∧ PiecesS (fun b => b < W.heap.size ∨ M0 ≤ b) wx.heap.size wx (.slice a cur.length c) cur ∧ cur[0]? = list[0]?
set_option maxRecDepth 100000 in
set_option maxHeartbeats 8000000 in
theorem WalBack_walk (v u : Value) (list : List (List UInt8)) (more : List UInt8) (W : World) (ht : TabAt W) (hT : 0 < W.heap.size) (hv : Pieces W.heap.size W v list) (hu : Bytes W.heap.size W u more) (hl : ∀ b ∈ list, b.length ≤ 2 ^ 50) :
    Calls Tryd.prog 6 #[v, u] W fun e w' => e = .returned (.bool true) ∧ Below W.heap.size W w' := by
  obtain ⟨_, ⟨_, la, lc, rfl, hn1, hn2, _⟩, _⟩ := id hv
  obtain ⟨_, ma, mc, rfl, hm1, hm2, _⟩ := id hu
  unfold maxLen at hn2 hm2
  obtain ⟨N, hN⟩ : ∃ N, N = list.length := ⟨_, rfl⟩
  obtain ⟨M, hM⟩ : ∃ M, M = more.length := ⟨_, rfl⟩
  rw [← hN] at hv hn1 ⊢
  rw [← hM] at hu hm1 ⊢
  have HN := Lib.hid hN
  have HM := Lib.hid hM
  have HV := Lib.hid hv
  have HU := Lib.hid hu
  have HLL := Lib.hid hl
  have HT := Lib.hid ht
  have ka := walAlive_any W ht hT
  have hcn := calm_new (n := 300) (by decide)
  have kn := fun w : World => refnew_any 300 w
  obtain ⟨d0, hd0⟩ : ∃ d, d = (newP 300).1 := ⟨_, rfl⟩
  have hcn : WalP.Calm 300 0 d0 := by rw [hd0]; exact hcn
  have kn : ∀ w, Calls Tryd.prog 26 #[.int .i64 300] w fun e w' => (∃ v', e = .returned (.tuple #[v', .int .i64 0]) ∧ DiskV w'.heap.size w' v' d0) ∧ Below w.heap.size w w' := fun w => by rw [hd0]; exact kn w
  have KN := Lib.hid kn
  have HC := Lib.hid hcn
  clear hd0 kn hcn ht hv hu hl hN hM
  go_enter Tryd.func6, Tryd.ntmps6
  go_wp2_with fail
  refine ka.mono ?_
  rintro e w0 ⟨rfl, hb0⟩
  clear ka
  go_wp2_with fail
  refine (KN.out w0).mono ?_
  rintro e w1 ⟨⟨v1, rfl, hd1⟩, hb1⟩
  obtain ⟨p1, q1, p2, q2, rfl, _, _⟩ := hd1.parts
  obtain ⟨w2, D, HW2, HG2, hD2, hb2, lt2, le2⟩ := fresh_disk w1
  obtain ⟨w3, x0, x1, x2, x3, HW3, ⟨C0, C1, C2, C3, Z⟩, HX3⟩ := pack_disk hD2 (hd1.below hb2).tight
  go_wp2_with (with_reducible refine wp_alloc_to (w' := w2) 25 rfl rfl (zero_disk _) HW2.out ?_; refine Halt.in ?_)
  refine Halt.out ?_
  rw [← HG2.out]
  go_upto_region 4 with (fail)
  rw [← HW3.out]
  clear C0 C1 C2 C3 Z hd1 hD2
  obtain ⟨hD3, hz3, _, hbb3⟩ := HX3.out
  have hb02 := hb0.trans ((hb1.trans (hb2.mono hb1.size)).mono hb0.size)
  have hDw : W.heap.size ≤ D := Nat.le_trans hb0.size (Nat.le_trans hb1.size le2)
  have hb03 := hbb3 W.heap.size W hb02 hDw
  clear hz3 hbb3 HX3 HW3 hb1 hb2 lt2 le2 hb02 hb0
  have hv3 := (HV.out.below hb03)
  have kg := great_any _ _ disk0 list w3 (DiskV.mk (d := disk0) (Secs.nil 0 _) (Loose.nil 0 _)) hv3.tight HLL.out
  obtain ⟨G, hG⟩ : ∃ G, G = greatB 0 0 list := ⟨_, rfl⟩
  rw [show greatB disk0.secs.length disk0.loose.length list = greatB 0 0 list from rfl, ← hG] at kg
  have HG := Lib.hid hG
  clear hG hv3
  cases G with
  | true =>
    go_wp2_with fail
    refine kg.mono ?_
    rintro e w4 ⟨rfl, hb4⟩
    clear kg
    go_wp2_with fail
    go_ret
    exact ⟨rfl, hb03.trans (hb4.mono hb03.size)⟩
  | false =>
    have hgn : greatN list 0 ≤ 20000 := by
      have hg := HG.out
      rw [greatB0] at hg
      have := of_decide_eq_false hg.symm; omega
    have HGN := Lib.hid hgn
    have hlen : N ≤ 400 := by
      have h2 := greatN_len list 0 hgn
      rw [HN.out]; omega
    clear hgn
    by_cases hM6 : 6000 < M
    · have q0 : decide ((6000 : Int) < (M : Int)) = true := by simp; omega
      go_wp2_with fail
      refine kg.mono ?_
      rintro e w4 ⟨rfl, hb4⟩
      clear kg
      go_wp2_with fail
      go_ret
      exact ⟨rfl, hb03.trans (hb4.mono hb03.size)⟩
    have q0 : decide ((6000 : Int) < (M : Int)) = false := by simp; omega
    go_wp2_with fail
    refine kg.mono ?_
    rintro e w4 ⟨rfl, hb4⟩
    clear kg
    have hb04 := hb03.trans (hb4.mono hb03.size)
    have hD4 := hD3.below hb4
    clear hD3 hb4 hb03
    obtain ⟨da, na, db, nb, T, hv⟩ := id hD4
    obtain ⟨C0, C1, C2, C3, _⟩ := Four.of T
    clear T
    have kf := format_any _ _ d0 list w4 hv (HV.out.below hb04).tight (HT.out.below hb04 hT) (Nat.lt_of_lt_of_le hT hb04.size) (fun b hb => Nat.le_trans (greatN_le list 0 HGN.out b hb) (by decide)) (by rw [← HN.out]; omega)
    obtain ⟨r, hr⟩ : ∃ r, r = formatP d0 list := ⟨_, rfl⟩
    rw [← hr] at kf
    have HR := Lib.hid hr
    unfold DLE at kf
    simp only [logV] at kf
    clear hr
    go_wp2_with fail
    refine kf.mono ?_
    rintro e w6 ⟨⟨v6, rfl, hd6⟩, hb6⟩
    clear kf C0 C1 C2 C3
    obtain ⟨p3, q3, p4, q4, rfl, _, _⟩ := hd6.parts
    obtain ⟨w7, L, HW7, HG7, hL7, hb7, lt7, le7⟩ := fresh_log w6
    have hb47 := hb6.trans (hb7.mono hb6.size)
    have hD7 := hD4.below hb47
    have hDL : D ≠ L := by have := hD4.lt; have := hb6.size; omega
    have hLw : W.heap.size ≤ L := Nat.le_trans (Nat.le_trans hb04.size hb6.size) le7
    obtain ⟨w8, x0, x1, x2, x3, HW8, ⟨C0, C1, C2, C3, Z⟩, ⟨N0, N1, N2, N3, Y⟩, HX8⟩ := pack_store r.2.1 hD7 hL7 (hd6.below hb7).tight hDL
    go_wp2_with (with_reducible refine wp_alloc_to (w' := w7) 27 rfl rfl (zero_log _) HW7.out ?_; refine Halt.in ?_)
    refine Halt.out ?_
    rw [← HG7.out]
    go_upto_region 7 with (fail)
    rw [← HW8.out]
    clear C0 C1 C2 C3 Z N0 N1 N2 N3 Y hd6 hD7 hL7 hD4
    obtain ⟨hD8, hL8, hz8, hk8, hbb8⟩ := HX8.out
    have hb08 := hbb8 W.heap.size W (hb04.trans (hb47.mono hb04.size)) hDw hLw
    clear hz8 hk8 hbb8 HX8 HW8 hb04 hb47 hb6 hb7 lt7 le7
    have hbad : r.2.2 = 0 ∨ r.2.2 = 1 ∨ r.2.2 = 8 := by
      rw [HR.out]
      rcases format_holds HC.out (show 300 ≤ 4096 by decide) list with ⟨_, h⟩ | ⟨_, _, _, h⟩ | ⟨_, _, _, h, _⟩
      · rw [h]; exact .inr (.inl rfl)
      · rw [h]; exact .inr (.inr rfl)
      · exact .inl h
    rcases hbad with hbad | hbad | hbad
    rotate_left
    · have q1 : (r.2.2 != 0) = true := by rw [hbad]; rfl
      have q2 : (r.2.2 == 1) = true := by rw [hbad]; rfl
      clear hbad
      go_wp2_with fail
      go_ret
      exact ⟨rfl, hb08⟩
    · have q1 : (r.2.2 != 0) = true := by rw [hbad]; rfl
      have q2 : (r.2.2 == 1) = false := by rw [hbad]; rfl
      have q3 : (r.2.2 == 8) = true := by rw [hbad]; rfl
      clear hbad
      go_wp2_with fail
      go_ret
      exact ⟨rfl, hb08⟩
    · have q1 : (r.2.2 != 0) = false := by rw [hbad]; rfl
      have hgood : list ≠ [] ∧ r.2.1 = ⟨0, 1, posN list, list.length⟩ ∧ Holds 300 r.1 r.2.1 list := by
        rw [HR.out] at hbad ⊢
        rcases format_holds HC.out (show 300 ≤ 4096 by decide) list with ⟨_, h⟩ | ⟨_, _, _, h⟩ | ⟨h1, _, _, _, h2, h3⟩
        · rw [h] at hbad; exact absurd (show (1 : Int) = 0 from hbad) (by decide)
        · rw [h] at hbad; exact absurd (show (8 : Int) = 0 from hbad) (by decide)
        · exact ⟨h1, h2, h3⟩
      obtain ⟨hne, hlog, hho⟩ := hgood
      have HHO := Lib.hid hho
      have HLG := Lib.hid hlog
      have HNE := Lib.hid hne
      obtain ⟨d, hdd⟩ : ∃ d, d = r.1 := ⟨_, rfl⟩
      obtain ⟨l, hll⟩ : ∃ l, l = r.2.1 := ⟨_, rfl⟩
      rw [← hdd] at HHO hD8
      rw [← hll] at HHO HLG hL8
      clear hho hlog hne hbad hdd hll
      obtain ⟨da, na, db, nb, T, hv⟩ := id hD8
      obtain ⟨C0, C1, C2, C3, _⟩ := Four.of T
      clear T
      obtain ⟨N0, N1, N2, N3, _⟩ := hL8.four
      try dsimp only at N0 N1 N2 N3
      have kp := append_any _ _ d l more w8 hv (HU.out.below hb08).tight (by have := HHO.out.half; omega) (HT.out.below hb08 hT) (Nat.lt_of_lt_of_le hT hb08.size)
      obtain ⟨r2, hr2⟩ : ∃ r, r = appendP d l more := ⟨_, rfl⟩
      rw [← hr2] at kp
      have HR2 := Lib.hid hr2
      unfold DLE at kp
      simp only [logV] at kp
      clear hr2
      go_wp2_with fail
      refine kp.mono ?_
      rintro e w9 ⟨⟨v9, rfl, hd9⟩, hb9⟩
      clear kp C0 C1 C2 C3 N0 N1 N2 N3
      obtain ⟨p3, q3, p4, q4, rfl, _, _⟩ := hd9.parts
      obtain ⟨w10, ga, HW10, HG10, hA10, hb10, lt10, le10⟩ := fresh_disk w9
      obtain ⟨w11, gb, HW11, HG11, hB11, hb11, lt11, le11⟩ := fresh_log w10
      have hAB : ga ≠ gb := by omega
      have hb911 := hb10.trans (hb11.mono hb10.size)
      obtain ⟨w12, x0, x1, x2, x3, HW12, ⟨C0, C1, C2, C3, Z⟩, ⟨N0, N1, N2, N3, Y⟩, HX12⟩ := pack_store r2.2.1 (hA10.below hb11) hB11 (hd9.below hb911).tight hAB
      go_wp2_with (with_reducible refine wp_alloc_to (w' := w10) 25 rfl rfl (zero_disk _) HW10.out ?_; refine Halt.in ?_)
      refine Halt.out ?_
      rw [← HG10.out]
      go_wp2_with (with_reducible refine wp_alloc_to (w' := w11) 27 rfl rfl (zero_log _) HW11.out ?_; refine Halt.in ?_)
      refine Halt.out ?_
      rw [← HG11.out]
      go_upto_region 11 with (fail)
      rw [← HW12.out]
      clear C0 C1 C2 C3 Z N0 N1 N2 N3 Y hd9
      obtain ⟨hA, hB, hz12, hk12, hbb12⟩ := HX12.out
      have hb811 := hb9.trans (hb911.mono hb9.size)
      have hDlt := hD8.lt
      have hLlt := hL8.lt
      have nDa : D ≠ ga := by have := hb9.size; omega
      have nDb : D ≠ gb := by have := hb9.size; have := hb10.size; omega
      have nLa : L ≠ ga := by have := hb9.size; omega
      have nLb : L ≠ gb := by have := hb9.size; have := hb10.size; omega
      have hb012 := hbb12 W.heap.size W (hb08.trans (hb811.mono hb08.size)) (Nat.le_trans hb08.size (Nat.le_trans hb9.size le10)) (Nat.le_trans hb08.size (Nat.le_trans hb9.size (Nat.le_trans hb10.size le11)))
      have hb812 := hbb12 w8.heap.size w8 hb811 (Nat.le_trans hb9.size le10) (Nat.le_trans hb9.size (Nat.le_trans hb10.size le11))
      have hD := hD8.below hb812
      have hL := hL8.below hb812
      clear hz12 hk12 hbb12 HX12 HW12 hb9 hb10 hb11 hb911 hb811 hb812 hD8 hL8 hA10 hB11 lt10 lt11 le10 le11 hDlt hLlt hb08
      have hbc := hb012
      clear hb012
      go_upto_if 54 with (fail)
      go_cut [9] from 53 to 62 (fun s9 wx => BackMid W D L list wx s9)
      case first =>
        rcases append_holds HHO.out more with ⟨e0, he⟩ | ⟨e0, e1, he⟩ | ⟨e0, e1, e2, e3, e4⟩
        · obtain rfl : r2 = (d, l, 1) := HR2.out.trans he
          have HM0 := Lib.hid (show BackMid W D L list w12 (.slice la N lc) from ⟨d, l, list, max D L + 1, la, lc, hD, hL, HHO.out, by rw [HLG.out], hbc, by omega, by omega, by rw [HN.out], ((HN.out ▸ (HV.out.below hbc).toS : PiecesS (· < W.heap.size) W.heap.size w12 (.slice la list.length lc) list).weak (fun b hb => .inl hb)).tight, rfl⟩)
          clear he e0
          go_wp2_with fail
          go_meet
          case rel => exact HM0.out
        · obtain rfl : r2 = (d, l, 8) := HR2.out.trans he
          have HM0 := Lib.hid (show BackMid W D L list w12 (.slice la N lc) from ⟨d, l, list, max D L + 1, la, lc, hD, hL, HHO.out, by rw [HLG.out], hbc, by omega, by omega, by rw [HN.out], ((HN.out ▸ (HV.out.below hbc).toS : PiecesS (· < W.heap.size) W.heap.size w12 (.slice la list.length lc) list).weak (fun b hb => .inl hb)).tight, rfl⟩)
          clear he e0 e1
          go_wp2_with fail
          go_meet
          case rel => exact HM0.out
        · rw [← HR2.out] at e2 e3 e4
          obtain ⟨rd, rl, re⟩ := r2
          dsimp only at e2 e3 e4 hA hB
          subst e2
          have hgen : rl.gen = 1 := by rw [e3]; show l.gen = 1; rw [HLG.out]
          have HG1 := Lib.hid hgen
          have HHX := Lib.hid e4
          clear e0 e1 e3 e4 hgen
          go_upto_region 12 with (fail)
          obtain ⟨xa, xn, xb, xm, TA, hvA⟩ := id hA
          have TB := hB
          unfold LAt at TB
          have s0 : Two ga gb _ _ w12.drew := ⟨TA, TB⟩
          obtain ⟨oa, hoa⟩ : ∃ o, o = Obj.cells #[.slice xa (rd : DiskP).secs.length xn, .slice xb (rd : DiskP).loose.length xm, .int .i64 (rd : DiskP).fuse, .bool (rd : DiskP).down] 25 (0, 0) := ⟨_, rfl⟩
          obtain ⟨ob, hob⟩ : ∃ o, o = Obj.cells #[.int .i64 (rl : LogP).half, .int .i64 (rl : LogP).gen, .int .i64 (rl : LogP).used, .int .i64 (rl : LogP).count] 27 (0, 0) := ⟨_, rfl⟩
          rw [← hoa, ← hob] at s0
          have L0 := fun w' (h : Two ga gb oa ob w') => cell_of_row w' _ 0 _ _ _ (h.1.trans (congrArg some hoa))
          have L1 := fun w' (h : Two ga gb oa ob w') => cell_of_row w' _ 1 _ _ _ (h.1.trans (congrArg some hoa))
          have L2 := fun w' (h : Two ga gb oa ob w') => cell_of_row w' _ 2 _ _ _ (h.1.trans (congrArg some hoa))
          have L3 := fun w' (h : Two ga gb oa ob w') => cell_of_row w' _ 3 _ _ _ (h.1.trans (congrArg some hoa))
          have M0 := fun w' (h : Two ga gb oa ob w') => cell_of_row w' _ 0 _ _ _ (h.2.trans (congrArg some hob))
          have M1 := fun w' (h : Two ga gb oa ob w') => cell_of_row w' _ 1 _ _ _ (h.2.trans (congrArg some hob))
          have M2 := fun w' (h : Two ga gb oa ob w') => cell_of_row w' _ 2 _ _ _ (h.2.trans (congrArg some hob))
          have M3 := fun w' (h : Two ga gb oa ob w') => cell_of_row w' _ 3 _ _ _ (h.2.trans (congrArg some hob))
          try dsimp only at L0 L1 L2 L3 M0 M1 M2 M3
          have hbd : Below w12.heap.size w12 w12.drew := below_draws (Below.refl _ _) 1
          have hD1 := hD.below hbd
          have hL1 := hL.below hbd
          have hv1 := (hvA.below hbd).tight
          have hbc1 := hbc.trans (hbd.mono hbc.size)
          obtain ⟨_, _, _, _, hrD⟩ := hD1.row
          obtain ⟨wx, hst1, hnD, hbx, -, hkx, -⟩ := storeBig info_disk hrD rfl #[.slice xa (rd : DiskP).secs.length xn, .slice xb (rd : DiskP).loose.length xm, .int .i64 (rd : DiskP).fuse, .bool (rd : DiskP).down] rfl (ones4 rfl rfl rfl rfl)
          have hD2 := hD1.stored hv1 hnD hkx
          have hL2 := hL1.kept hkx (Ne.symm hDL)
          have s1 : Two ga gb oa ob wx := ⟨(hkx _ (Ne.symm nDa)).trans s0.1, (hkx _ (Ne.symm nDb)).trans s0.2⟩
          have hL2' := hL2
          unfold LAt at hL2'
          obtain ⟨wy, hst2, hnL, hby, -, hky, -⟩ := storeBig info_log hL2' rfl #[.int .i64 (rl : LogP).half, .int .i64 (rl : LogP).gen, .int .i64 (rl : LogP).used, .int .i64 (rl : LogP).count] rfl (ones4 rfl rfl rfl rfl)
          have hD3 := hD2.kept hL2' (by simp) hky hDL
          have s2 : Two ga gb oa ob wy := ⟨(hky _ (Ne.symm nLa)).trans s1.1, (hky _ (Ne.symm nLb)).trans s1.2⟩
          have hby1 := (hbc1.trans (hbx.mono hDw)).trans (hby.mono hLw)
          have HFIN := Lib.hid (show DAt wy D rd ∧ LAt wy L rl ∧ Below W.heap.size W wy from ⟨hD3, hnL, hby1⟩)
          clear hoa hob hrD hnD hbx hkx hnL hby hky hD1 hL1 hv1 hbc1 hD2 hL2 hL2' hD3 hby1 TA TB hvA
          refine wp_region_I [(false, 0), (false, 1), (true, 2), (true, 3)] (Two ga gb oa ob) (by kernel_rfl) (by kernel_rfl) s0 ?_
          repeat (first | (refine heldI_skip rfl rfl ?_; simp only [Act.put, List.setIfInBounds_toArray, List.set_cons_zero, List.set_cons_succ]) | (refine heldI_take rfl ?_ rfl (fun w' hw' => ?_) ?_; rotate_left; (go_simp; first | done | with_reducible rfl); (try simp only [Act.put, List.setIfInBounds_toArray, List.set_cons_zero, List.set_cons_succ])))
          refine heldI_act rfl rfl fun K hK => ?_
          refine op_store (.tmp 5) (.tmp 55) 25 rfl rfl rfl hst1 ?_
          refine hK.out _ _ s1 ?_
          clear hK K hst1
          simp only [Act.put, List.setIfInBounds_toArray, List.set_cons_zero, List.set_cons_succ]
          refine heldI_act rfl rfl fun K hK => ?_
          refine op_store (.tmp 7) (.tmp 56) 27 rfl rfl rfl hst2 ?_
          refine hK.out _ _ s2 ?_
          clear hK K hst2
          simp only [Act.put, List.setIfInBounds_toArray, List.set_cons_zero, List.set_cons_succ]
          refine heldI_nil ?_
          clear L0 L1 L2 L3 M0 M1 M2 M3 s0 s1 s2
          obtain ⟨hDy, hLy, hby⟩ := HFIN.out
          obtain ⟨vs, hrow, hel⟩ := HV.out.below hby
          have hone1 := Pieces.ones (HN.out ▸ hrow) hel
          rw [← HN.out] at hrow
          have hb1 : Below wy.heap.size wy (wy.alloc (.cells #[] 43)) := Below.alloc (Below.refl _ _) (Nat.le_refl _) _
          have hown1 : Own wy.heap.size (wy.alloc (.cells #[] 43)) 43 (.slice (some ⟨wy.heap.size, 0, none⟩) 0 0) 1 0 [] := Own.none _ _ _ _ _
          have hsrc1 : Src Tryd.prog (wy.alloc (.cells #[] 43)) (.slice la N lc) 1 N vs := (hrow.below (hb1.mono hby.size)).src
          obtain ⟨i0, z0, hi0, hz0, hz1, hz2, hz3⟩ := zero_parts infoz_bytes
          have R1 : 0 + N ≤ maxLen := by unfold maxLen; omega
          have R2 : (0 + N) * 24 ≤ 140737488355328 := by omega
          have hB1 : wy.heap.size ≤ (wy.alloc (.cells #[] 43)).heap.size := hb1.size
          have HEL := Lib.hid hel
          have HROW := Lib.hid hrow
          have HB1 := Lib.hid hb1
          clear hrow hel hb1
          go_wp2_with (at_builtin; refine wp_append rfl (.tmp 57) (.tmp 58) 31 31 43 rfl i0 z0 1 24 Tryd.underlying31 (.inl ⟨_, Tryd.underlying31⟩) hi0 hz0 hz1 hz2 hz3 rfl rfl hown1 hsrc1 hone1 R1 R2 hB1 ?_; intro v2 w2 hown2 hb2; refine Halt.in ?_)
          refine Halt.out ?_
          have hb22 : Below wy.heap.size wy w2 := HB1.out.trans hb2
          have hb3 : Below w2.heap.size w2 (w2.alloc (.cells #[.slice ma M mc] 43)) := Below.alloc (Below.refl _ _) (Nat.le_refl _) _
          have hown3 := hown2.below hb3 (Nat.le_refl _)
          have hsrc3 : Src Tryd.prog (w2.alloc (.cells #[.slice ma M mc] 43)) (.slice (some ⟨w2.heap.size, 0, none⟩) 1 1) 1 1 [.slice ma M mc] := Row.src (Row.fresh (w := w2) rfl (Nat.le_refl _) (by decide) (fun k u hk => by simpa using hk))
          have hone3 : ∀ u ∈ [Value.slice ma M mc], u.oneCell' = true := fun u hu => by rw [List.mem_singleton.1 hu]; rfl
          have R3 : 0 + N + 1 ≤ maxLen := by unfold maxLen; omega
          have R4 : (0 + N + 1) * 24 ≤ 140737488355328 := by omega
          have hB3 : wy.heap.size ≤ (w2.alloc (.cells #[.slice ma M mc] 43)).heap.size := Nat.le_trans hb22.size hb3.size
          have HB23 := Lib.hid (hb22.trans (hb3.mono hb22.size))
          clear hown1 hsrc1 hown2 hb2 hb22 hb3 R1 R2 hB1
          go_wp2_with (at_builtin; refine wp_append rfl (.tmp 59) (.tmp 61) 31 31 43 rfl i0 z0 1 24 Tryd.underlying31 (.inl ⟨_, Tryd.underlying31⟩) hi0 hz0 hz1 hz2 hz3 rfl rfl hown3 hsrc3 hone3 R3 R4 hB3 ?_; intro v4 w4 hown4 hb4; refine Halt.in ?_)
          refine Halt.out ?_
          have hb04 : Below wy.heap.size wy w4 := HB23.out.trans hb4
          have HM0 := Lib.hid (show BackMid W D L list w4 v4 by
            have hsl := hown4.sl (S := fun b => b < W.heap.size ∨ wy.heap.size ≤ b) (fun b hb => .inr hb)
            have hr4 := hown4.row
            obtain ⟨_, a4, c4, rfl, _, _, _⟩ := id hown4
            have hlen : (list ++ [more]).length = 0 + N + 1 := by rw [List.length_append, List.length_singleton, HN.out]; omega
            have hWy : Below W.heap.size W w4 := hby.trans (hb04.mono hby.size)
            have hvl : vs.length = list.length := by have := HROW.out.1; rw [HN.out] at this; omega
            refine ⟨rd, rl, list ++ [more], wy.heap.size, a4, c4, hDy.below hb04, hLy.below hb04, HHX.out, HG1.out, hWy, hDy.lt, hLy.lt, by rw [hlen], ?_, ?_⟩
            · rw [hlen]
              refine ⟨[] ++ vs ++ [.slice ma M mc], by rw [hlen]; exact hr4, hsl, fun k hk => ?_⟩
              rw [List.nil_append]
              by_cases hkl : k < list.length
              · obtain ⟨x, h1, h2⟩ := HEL.out k hkl
                have h3 := (show Pieces W.heap.size wy (.slice la N lc) list from ⟨vs, HN.out ▸ HROW.out, HEL.out⟩).toS
                refine ⟨x, by rw [List.getElem?_append_left (by omega)]; exact h1, ?_, ?_⟩
                · rw [List.getElem_append_left hkl]
                  exact Bytes.tight (h2.below (hb04.mono hby.size))
                · obtain ⟨vs', hrow', _, hel'⟩ := h3
                  obtain ⟨_, ax, cx, rfl, _, _, hc⟩ := id h2
                  intro x' n' c' hv' hp'
                  cases hv'
                  obtain ⟨b', off', he', hb', _⟩ := hc hp'
                  cases he'
                  exact .inl hb'
              · have hke : k = list.length := by rw [List.length_append, List.length_singleton] at hk; omega
                subst hke
                refine ⟨.slice ma M mc, by rw [List.getElem?_append_right (by omega), hvl, Nat.sub_self]; rfl, ?_, ?_⟩
                · rw [List.getElem_append_right (Nat.le_refl _)]
                  simp only [Nat.sub_self, List.getElem_cons_zero]
                  exact Bytes.tight (HU.out.below hWy)
                · obtain ⟨_, ax, cx, hvx, _, _, hc⟩ := HU.out
                  cases hvx
                  intro x' n' c' hv' hp'
                  cases hv'
                  obtain ⟨b', off', he', hb', _⟩ := hc (by have := HM.out; omega)
                  cases he'
                  exact .inl hb'
            · rw [List.getElem?_append_left (List.length_pos_iff.2 HNE.out)])
          clear hown3 hsrc3 hone3 hone1 hi0 hz0 hz1 hz2 hz3 R3 R4 hB3 hown4 hb4 hb04 hDy hLy hby
          go_wp2_with fail
          go_meet
          case rel => exact HM0.out
      case rest =>
        obtain ⟨dd, ll, cur, M0, wa, wk, hD, hL, hho, hg1, hb, hDM, hLM, rfl, hwant, hhead⟩ := hcut
        have HHX := Lib.hid hho
        have HG1 := Lib.hid hg1
        have HWN := Lib.hid hwant
        have HHD := Lib.hid hhead
        clear hho hg1 hwant hhead hA hB hbc HHO HLG HR2 nDa nDb nLa nLb hAB
        obtain ⟨da, na, db, nb, T, hv⟩ := id hD
        obtain ⟨C0, C1, C2, C3, _⟩ := Four.of T
        clear T
        obtain ⟨N0, N1, N2, N3, _⟩ := hL.four
        try dsimp only at N0 N1 N2 N3
        have kr := room_any _ dd ll wc hv (by have := HHX.out.half; omega)
        rw [HHX.out.room] at kr
        obtain ⟨ro, hro⟩ : ∃ r : Nat, r = half dd - posN cur := ⟨_, rfl⟩
        rw [← hro] at kr
        simp only [logV] at kr
        have r0 : decide ((ro : Int) < 0) = false := by simp
        clear hro hv
        go_wp2_with fail
        refine kr.mono ?_
        rintro e wa1 ⟨rfl, hb1⟩
        clear kr C0 C1 C2 C3 N0 N1 N2 N3
        have hD := hD.below hb1
        have hL := hL.below hb1
        obtain ⟨da, na, db, nb, T, hv⟩ := id hD
        obtain ⟨C0, C1, C2, C3, _⟩ := Four.of T
        clear T
        obtain ⟨N0, N1, N2, N3, _⟩ := hL.four
        try dsimp only at N0 N1 N2 N3
        have kr := walRight_any _ dd ll wa1 hv (by have := HHX.out.half; omega)
        rw [HHX.out.right] at kr
        simp only [logV] at kr
        clear hv
        go_wp2_with fail
        refine kr.mono ?_
        rintro e wa2 ⟨rfl, hb2⟩
        clear kr C0 C1 C2 C3 N0 N1 N2 N3 r0
        have hD := hD.below hb2
        have hL := hL.below hb2
        have hb12 := hb1.trans (hb2.mono hb1.size)
        have hb := hb.trans (hb12.mono hb.size)
        have HWN := Lib.hid (HWN.out.below hb12).tight
        clear hb1 hb2 hb12
        obtain ⟨da, na, db, nb, T, hv⟩ := id hD
        obtain ⟨C0, C1, C2, C3, _⟩ := Four.of T
        clear T
        obtain ⟨o1, o2, o3, o4⟩ := open_holds HHX.out (by rw [HG1.out]; decide)
        have ko := open_any _ dd wa2 hv (HT.out.below hb hT) (Nat.lt_of_lt_of_le hT hb.size)
        obtain ⟨o, ho⟩ : ∃ o, o = openP dd := ⟨_, rfl⟩
        rw [← ho] at o1 o2 o3 ko
        clear o4 hv ho
        obtain ⟨od, ol, oc, oe⟩ := o
        dsimp only at o1 o2 o3
        subst o1
        subst o2
        subst o3
        unfold OpenE at ko
        simp only [logV] at ko
        have hDlt := hD.lt
        have hLlt := hL.lt
        go_wp2_with fail
        refine ko.mono ?_
        rintro e w11 ⟨⟨v11, lv11, rfl, hd11, hp11⟩, hb11⟩
        clear ko C0 C1 C2 C3
        obtain ⟨p3, q3, p4, q4, rfl, _, _⟩ := hd11.parts
        obtain ⟨ax, cx, rfl⟩ : ∃ a c, lv11 = .slice a oc.length c := by
          obtain ⟨_, ⟨_, a, c, h, _⟩, _⟩ := hp11
          exact ⟨a, c, h⟩
        obtain ⟨w12, x0, x1, x2, x3, hw12, ⟨C0, C1, C2, C3, Z⟩, ⟨N0, N1, N2, N3, Y⟩, HX12⟩ := pack_store ⟨1 - ll.half, ll.gen + 1, posN oc, oc.length⟩ (hD.below hb11) (hL.below hb11) hd11 hDL
        have hw12 := hw12.out
        dsimp only at hw12
        have HW12 := Lib.hid hw12
        have HP11 := Lib.hid hp11
        clear hw12 hd11 hD hL hp11
        go_upto_region 17 with (fail)
        rw [← HW12.out]
        clear C0 C1 C2 C3 Z N0 N1 N2 N3 Y
        obtain ⟨hD12, hL12, hz12, hk12, hbb12⟩ := HX12.out
        have hb012 := hbb12 W.heap.size W (hb.trans (hb11.mono hb.size)) hDw hLw
        have hpG := (HP11.out.keep (w' := w12) (fun k h1 h2 => hk12 k (by omega) (by omega))).tight.pieces
        have hpW := ((HWN.out.below hb11).tight.keep (w' := w12) (fun k h1 h2 => hk12 k (by rcases h1 with h1 | h1 <;> omega) (by rcases h1 with h1 | h1 <;> omega))).tight.pieces
        clear hz12 hk12 hbb12 HX12 HW12 hb11 hb hDlt hLlt hDM hLM hDw hLw HP11 HWN
        have hcl : 0 < oc.length := List.length_pos_iff.2 HHX.out.ne
        have hll0 : 0 < list.length := List.length_pos_iff.2 HNE.out
        obtain ⟨gb1, go1, ga', gc', rfl, hgb, -, hgc1, hgc2, hgl, hgx⟩ := load_piece hpG hcl
        obtain ⟨vb1, vo1, va', vc', hva, hvb, -, hvc1, hvc2, hvl, hvx⟩ := load_piece (HV.out.below hb012) hll0
        subst hva
        obtain ⟨x1, hx1⟩ : ∃ x, x = oc[0].length := ⟨_, rfl⟩
        obtain ⟨x2, hx2⟩ : ∃ x, x = list[0].length := ⟨_, rfl⟩
        have hG1 : ∀ w', Below w12.heap.size w12 w' → w'.cell? ⟨gb1, go1, none⟩ = some (.slice ga' x1 gc') := fun w' h => by rw [hx1]; exact hgl w' (fun p hp => h.cell hp)
        have hV1 : ∀ w', Below w12.heap.size w12 w' → w'.cell? ⟨vb1, vo1, none⟩ = some (.slice va' x2 vc') := fun w' h => by rw [hx2]; exact hvl w' (fun p hp => (h.mono hb012.size).cell hp)
        have h00 : Below w12.heap.size w12 w12.drew := below_draws (Below.refl _ _) 1
        have k1 := same5_any _ _ oc oc w12.drew ((hpG.below h00)) (hpW.below h00)
        rw [decide_eq_true (show oc = oc from rfl)] at k1
        have he0 : oc[0] = list[0] := by
          have h := HHD.out
          rw [List.getElem?_eq_getElem hcl, List.getElem?_eq_getElem hll0] at h
          exact Option.some.inj h
        have k2 : ∀ w', Below w12.heap.size w12 w' → Calls Tryd.prog 30 #[.slice ga' x1 gc', .slice va' x2 vc'] w' fun e w'' => e = .returned (.bool true) ∧ w' = w'' := fun w' h => by
          have h := sameB_any _ _ _ _ _ _ w' (hgx.below h) (hvx.below (h.mono hb012.size))
          rw [decide_eq_true he0, ← hx1, ← hx2] at h
          exact h
        have hTC := hL12
        unfold LAt at hTC
        have N3 := fun w' (h : Below w12.heap.size w12 w') => cell_of_row w' _ 3 _ _ _ ((h.block _ (block_lt hTC)).trans hTC)
        try dsimp only at N3
        obtain ⟨NC, hNC⟩ : ∃ n, n = oc.length := ⟨_, rfl⟩
        rw [← hNC] at hgc1 k1 N3 hcl ⊢
        have K2 := Lib.hid k2
        have hi1 : 0 < N := by rw [HN.out]; exact hll0
        clear hgl hvl hgx hvx hx1 hx2 he0 k2 hTC hpG hpW hD12 hL12 hNC hll0 HHD
        go_upto_region 17 with (fail)
        refine wp_region_I [(false, 0), (false, 1), (false, 2), (false, 3), (false, 4), (true, 5), (false, 6), (false, 7), (false, 8), (false, 9), (false, 10), (false, 11), (false, 12), (false, 13), (false, 14), (false, 15), (false, 16), (false, 17), (false, 18), (false, 19), (false, 20), (true, 21), (false, 22), (false, 23)] (fun w' => Below w12.heap.size w12 w') (by kernel_rfl) (by kernel_rfl) h00 ?_
        repeat (first | (refine heldI_skip rfl rfl ?_; simp only [Act.put, List.setIfInBounds_toArray, List.set_cons_zero, List.set_cons_succ]) | (refine heldI_take rfl ?_ rfl (fun w' hw' => ?_) ?_; rotate_left; (go_simp; first | done | with_reducible rfl); (try simp only [Act.put, List.setIfInBounds_toArray, List.set_cons_zero, List.set_cons_succ])))
        refine heldI_act rfl rfl fun K hK => ?_
        go_simp
        refine k1.mono ?_
        rintro e wx ⟨rfl, hbx⟩
        have sx := h00.trans (hbx.mono h00.size)
        refine hK.out _ _ sx ?_
        clear hK K k1 hbx
        repeat (first | (refine heldI_skip rfl rfl ?_; simp only [Act.put, List.setIfInBounds_toArray, List.set_cons_zero, List.set_cons_succ]) | (refine heldI_take rfl ?_ rfl (fun w' hw' => ?_) ?_; rotate_left; (go_simp; first | done | with_reducible rfl); (try simp only [Act.put, List.setIfInBounds_toArray, List.set_cons_zero, List.set_cons_succ])))
        refine heldI_act rfl rfl fun K hK => ?_
        go_simp
        refine (K2.out wx sx).mono ?_
        rintro e wz ⟨rfl, rfl⟩
        refine hK.out _ _ sx ?_
        clear hK K
        repeat (first | (refine heldI_skip rfl rfl ?_; simp only [Act.put, List.setIfInBounds_toArray, List.set_cons_zero, List.set_cons_succ]) | (refine heldI_take rfl ?_ rfl (fun w' hw' => ?_) ?_; rotate_left; (go_simp; first | done | with_reducible rfl); (try simp only [Act.put, List.setIfInBounds_toArray, List.set_cons_zero, List.set_cons_succ])))
        refine heldI_nil ?_
        go_wp2_with fail
        go_ret
        exact ⟨rfl, hb012.trans (sx.mono hb012.size)⟩
end Go.Proofs.YtaijompnohkmaaaDoor
