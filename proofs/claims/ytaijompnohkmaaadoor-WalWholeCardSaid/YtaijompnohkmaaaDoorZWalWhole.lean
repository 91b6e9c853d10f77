/- Layer 5 (wal): whenever a fall comes, and again while the log is opened, what was answered is there, whole: the law's walk. -/
import Derived.Test.YtaijompnohkmaaaDoorZSteps
import Derived.Test.YtaijompnohkmaaaDoorZWalGens
import Derived.Test.YtaijompnohkmaaaDoorMR
import Derived.Deep.CutRange
namespace Go.Proofs.YtaijompnohkmaaaDoor
open Go.RowKit WalP PackP
/-- What the loop over the steps keeps. -/
def WholeInv (W : World) (D L : Nat) (n : Nat) (w : World) (s7 s10 : Value) : Prop :=
  ∃ d l want f, Core W D L w d l want s7 ∧ HoldsF 80 d l want ∧ d.fuse = -1 ∧ l.gen ≤ 4 * (n : Int) + 1 ∧ s10 = .int .i64 ((f : Nat) : Int) ∧ f ≤ 3 * n
/-- Behind the arming. -/
def WholeArm (W : World) (D L : Nat) (l : LogP) (want : List (List UInt8)) (g : Nat) (o : Obj) (w : World) (s7 : Value) : Prop :=
  ∃ d, Core W D L w d l want s7 ∧ HoldsF 80 d l want ∧ w.heap[g]? = some o
/-- Behind the step. -/
def WholeMid (W : World) (D L : Nat) (G : Int) (want : List (List UInt8)) (quiet : Prop) (g : Nat) (o : Obj) (w : World) (s7 s9 s13 : Value) : Prop :=
  ∃ e d l nx, Core W D L w d l want s7 ∧ s9 = .int .i64 e ∧ LS D L w s13 nx ∧ Outcome G e d l want nx quiet ∧ w.heap[g]? = some o
set_option maxRecDepth 100000 in
set_option maxHeartbeats 16000000 in
theorem WalWhole_walk (v u : Value) (ss : List StepP) (ms : List Int) (W : World) (ht : TabAt W) (hT : 0 < W.heap.size) (hv : StepsV W.heap.size W v ss) (hu : Masks W.heap.size W u ms) (hss : ∀ s ∈ ss, s.wf) (hms : ∀ m ∈ ms, 0 ≤ m ∧ m < 2 ^ 64) :
    Calls Tryd.prog 5 #[v, u] W fun e w' => e = .returned (.bool true) ∧ Below W.heap.size W w' := by
  obtain ⟨_, ⟨_, la, lc, rfl, hn1, hn2, _⟩, _⟩ := id hv
  obtain ⟨_, ma, mc, rfl, hm1, hm2, _⟩ := id hu
  unfold maxLen at hn2 hm2
  obtain ⟨N, hN⟩ : ∃ N, N = ss.length := ⟨_, rfl⟩
  obtain ⟨M, hM⟩ : ∃ M, M = ms.length := ⟨_, rfl⟩
  rw [← hN] at hv hn1 ⊢
  rw [← hM] at hu hm1 ⊢
  have HN := Lib.hid hN
  have HM := Lib.hid hM
  have HV := Lib.hid hv
  have HU := Lib.hid hu
  have HSS := Lib.hid hss
  have HMS := Lib.hid hms
  have HT := Lib.hid ht
  have ka := walAlive_any W ht hT
  have hcn := calm_new (n := 80) (by decide)
  have kn := fun w : World => refnew_any 80 w
  obtain ⟨d0, hd0⟩ : ∃ d, d = (newP 80).1 := ⟨_, rfl⟩
  have hcn : WalP.Calm 80 0 d0 := by rw [hd0]; exact hcn
  have kn : ∀ w, Calls Tryd.prog 26 #[.int .i64 80] w fun e w' => (∃ v', e = .returned (.tuple #[v', .int .i64 0]) ∧ DiskV w'.heap.size w' v' d0) ∧ Below w.heap.size w w' := fun w => by rw [hd0]; exact kn w
  obtain ⟨d1, hf1, hh1, hfu1⟩ := format_holdsF hcn
  have KN := Lib.hid kn
  have HF1 := Lib.hid hf1
  have HH1 := Lib.hid hh1
  have HFU1 := Lib.hid hfu1
  clear hd0 kn hcn ht hv hu hss hms hN hM hf1 hh1 hfu1
  go_enter Tryd.func5, Tryd.ntmps5
  go_wp2_with fail
  refine ka.mono ?_
  rintro e w0 ⟨rfl, hb0⟩
  clear ka
  by_cases h20 : 20 < N
  · have q0 : decide ((20 : Int) < (N : Int)) = true := by simp; omega
    go_wp2_with fail
    go_ret
    exact ⟨rfl, hb0⟩
  have q0 : decide ((20 : Int) < (N : Int)) = false := by simp; omega
  go_wp2_with fail
  refine (KN.out w0).mono ?_
  rintro e w1 ⟨⟨v1, rfl, hd1⟩, hb1⟩
  clear q0
  obtain ⟨p1, q1, p2, q2, rfl, _, _⟩ := hd1.parts
  obtain ⟨w3, hw3⟩ : ∃ x, x = w1.alloc (.cells #[.slice p1 d0.secs.length q1, .slice p2 d0.loose.length q2, .int .i64 d0.fuse, .bool d0.down] 25) := ⟨_, rfl⟩
  have hb3 : Below w1.heap.size w1 w3 := by rw [hw3]; exact Below.alloc (Below.refl _ _) (Nat.le_refl _) _
  obtain ⟨D, hD⟩ : ∃ D, D = w1.heap.size := ⟨_, rfl⟩
  have hD3 : DAt w3 D d0 := ⟨p1, q1, p2, q2, by rw [hw3, hD]; exact heap_alloc_new w1 _, (hd1.below hb3).tight⟩
  have hb01 := hb0.trans (hb1.mono hb0.size)
  have hb03 := hb01.trans (hb3.mono hb01.size)
  have hDw : W.heap.size ≤ D := by rw [hD]; exact hb01.size
  obtain ⟨w5, hw5⟩ : ∃ x, x = (w3.alloc (.cells #[.int .u8 9] 5)).alloc (.cells #[.slice (some ⟨w3.heap.size, 0, none⟩) 1 1] 43) := ⟨_, rfl⟩
  have hb5 : Below w3.heap.size w3 w5 := by rw [hw5]; exact Below.alloc (Below.alloc (Below.refl _ _) (Nat.le_refl _) _) (by simp) _
  obtain ⟨g5, hg5⟩ : ∃ g, g = w3.heap.size + 1 := ⟨_, rfl⟩
  have hp5 : PiecesS (fun b => False ∨ w3.heap.size ≤ b) w5.heap.size w5 (.slice (some ⟨g5, 0, none⟩) 1 1) [[9]] := nine_recS hw5 hg5
  have hD5 := hD3.below hb5
  have hD3l := hD3.lt
  have hb05 := hb03.trans (hb5.mono hb03.size)
  have HW3 := Lib.hid hw3
  have HD := Lib.hid hD
  have HW5 := Lib.hid hw5
  have HG5 := Lib.hid hg5
  obtain ⟨da, na, db, nb, TD, hv⟩ := id hD5
  obtain ⟨C0, C1, C2, C3, _⟩ := Four.of TD
  clear TD
  have kf := format_any _ _ d0 [[9]] w5 hv.tight hp5.pieces (HT.out.below hb05 hT) (Nat.lt_of_lt_of_le hT hb05.size) (fun b hb => by rw [List.mem_singleton.1 hb]; decide) (by decide)
  rw [HF1.out] at kf
  unfold DLE at kf
  simp only [logV] at kf
  clear hv hw3 hD hw5 hg5
  go_upto_region 6 with (fail)
  rw [← HW3.out, ← HD.out]
  go_upto_region 7 with (fail)
  rw [← HW5.out, ← HG5.out]
  go_wp2_with fail
  refine kf.mono ?_
  rintro e w6 ⟨⟨v6, rfl, hd6⟩, hb6⟩
  clear kf C0 C1 C2 C3
  obtain ⟨p3, q3, p4, q4, rfl, _, _⟩ := hd6.parts
  obtain ⟨w7, LL, HW7, HG7, hL7, hb7, lt7, le7⟩ := fresh_log w6
  have hb57 := hb6.trans (hb7.mono hb6.size)
  have hD7 := hD5.below hb57
  have hDL : D ≠ LL := by have := hD5.lt; have := hb6.size; omega
  have hLw : W.heap.size ≤ LL := Nat.le_trans (Nat.le_trans hb05.size hb6.size) le7
  have hg5l : ∀ b, (False ∨ w3.heap.size ≤ b) → b < w5.heap.size → b ≠ D ∧ b ≠ LL := fun b h1 h2 => by
    rcases h1 with h1 | h1
    · exact h1.elim
    · have := hb6.size
      omega
  obtain ⟨w8, x0, x1, x2, x3, hw8, ⟨C0, C1, C2, C3, Z⟩, ⟨N0, N1, N2, N3, Y⟩, HX8⟩ := pack_store ⟨0, 1, 2, 1⟩ hD7 hL7 (hd6.below hb7).tight hDL
  have hw8 := hw8.out
  try dsimp only at hw8
  have HW8 := Lib.hid hw8
  clear hw8
  go_wp2_with (with_reducible refine wp_alloc_to (w' := w7) 27 rfl rfl (zero_log _) HW7.out ?_; refine Halt.in ?_)
  refine Halt.out ?_
  rw [← HG7.out]
  go_upto_region 8 with (fail)
  rw [← HW8.out]
  clear C0 C1 C2 C3 Z N0 N1 N2 N3 Y hd6 hD7 hL7 hD5 hD3
  obtain ⟨hD8, hL8, hz8, hk8, hbb8⟩ := HX8.out
  have hb08 := hbb8 W.heap.size W (hb05.trans (hb57.mono hb05.size)) hDw hLw
  have hls8 : LS D LL w8 (.slice (some ⟨g5, 0, none⟩) 1 1) [[9]] := by
    refine ⟨_, _, rfl, ?_⟩
    have h5 := hp5.weakB hg5l
    exact ((h5.below hb57).keep (fun k hk _ => hk8 k hk.1 hk.2)).tight
  have HI := Lib.hid (show WholeInv W D LL 0 w8 (.slice (some ⟨g5, 0, none⟩) 1 1) (.int .i64 ((0 : Nat) : Int)) from ⟨d1, _, [[9]], 0, ⟨hD8, hL8, hb08, hls8⟩, HH1.out, HFU1.out, by decide, rfl, Nat.zero_le _⟩)
  clear hz8 hk8 hbb8 HX8 hb03 hb05 hb57 hb6 hb7 lt7 le7 hb5 hp5 hg5l hls8 hD8 hL8 hb08 hb0 hb1 hb01 hb3 hD3l HH1 HF1 HFU1 hd1
  go_wp2_with fail
  go_loopw [7, 10, 11] (fun s7 s10 i wr => ∃ k : Nat, k ≤ N ∧ i = .int .i64 k ∧ WholeInv W D LL k wr s7 s10) (fun _ _ i _ => N - (intOf i).toNat)
  case atStart => exact ⟨0, Nat.zero_le _, rfl, HI.out⟩
  case round =>
    obtain ⟨k, hk, rfl, d, l, want, fz, hcore, hho, hfu, hgen, rfl, hfz⟩ := hrel
    clear HI
    obtain ⟨wa, wk, rfl, hls⟩ := id hcore.v
    clear hls
    have HC := Lib.hid hcore
    have HH := Lib.hid hho
    have HGE := Lib.hid hgen
    have HFU := Lib.hid hfu
    clear hho hgen hfu hcore
    by_cases hkN : k < N
    · skip
      have hkl : k < ss.length := HN.out ▸ hkN
      have k0 : decide ((k : Int) < (N : Int)) = true := by simp; omega
      have k1 : (0 : Int) ≤ (k : Int) := by omega
      have k2 : (k : Int) < (N : Int) := by omega
      obtain ⟨bb, off, ra, rc, rfl, hbb, hcells, hby⟩ := load_step HV.out hkl
      have hwf := HSS.out ss[k] (List.getElem_mem hkl)
      obtain ⟨s, hs⟩ : ∃ s, s = ss[k] := ⟨_, rfl⟩
      rw [← hs] at hcells hby hwf
      obtain ⟨S0, S1, S2, S3⟩ := hcells wr HC.out.b
      obtain ⟨rec, last, pack, fuse⟩ := s
      obtain ⟨f1, f2, f3, f4⟩ := hwf
      dsimp only at S0 S1 S2 S3 hby f1 f2 f3 f4
      have HBY := Lib.hid hby
      obtain ⟨R, hR⟩ : ∃ R, R = rec.length := ⟨_, rfl⟩
      rw [← hR] at S0 hby
      have HR := Lib.hid hR
      obtain ⟨w1, hw1⟩ : ∃ x, x = wr.alloc (.cells #[.slice ra R rc, .int .u8 last, .bool pack, .int .i8 fuse] 55) := ⟨_, rfl⟩
      have hb1 : Below wr.heap.size wr w1 := by rw [hw1]; exact Below.alloc (Below.refl _ _) (Nat.le_refl _) _
      obtain ⟨g, hg⟩ : ∃ g, g = wr.heap.size := ⟨_, rfl⟩
      have hbox : w1.heap[g]? = some (.cells #[.slice ra R rc, .int .u8 last, .bool pack, .int .i8 fuse] 55 (0, 0)) := by rw [hw1, hg]; exact heap_alloc_new wr _
      have hgD : g ≠ D := by have := HC.out.d.lt; omega
      have hgL : g ≠ LL := by have := HC.out.l.lt; omega
      have HC1 := Lib.hid (HC.out.below hb1)
      have HW1 := Lib.hid hw1
      have HG := Lib.hid hg
      have HBOX := Lib.hid hbox
      clear hcells hs hw1 hg hb1 hby hR HC hbb
      go_upto_region 15 with (fail)
      rw [← HW1.out, ← HG.out]
      clear S0 S1 S2 S3
      have B0 := cell_of_row w1 _ 0 _ _ _ HBOX.out
      by_cases h300 : 300 < R
      · have q3 : decide ((300 : Int) < (R : Int)) = true := by simp; omega
        go_wp2_with fail
        go_ret
        exact ⟨rfl, HC1.out.b⟩
      have q3 : decide ((300 : Int) < (R : Int)) = false := by simp; omega
      have B3 := cell_of_row w1 _ 3 _ _ _ HBOX.out
      go_upto_if 60 with (fail)
      go_cut [7] from 58 to 60 (fun s7 wx => s7 = .slice wa want.length wk ∧ WholeArm W D LL l want g (.cells #[.slice ra R rc, .int .u8 last, .bool pack, .int .i8 fuse] 55 (0, 0)) wx (.slice wa want.length wk))
      case first =>
        by_cases hfs : 0 ≤ fuse
        · have q4 : decide (0 ≤ fuse) = true := by simp [hfs]
          have hwf2 : IntKind.i64.wrap fuse = fuse := by
            simp only [IntKind.wrap, IntKind.bits, IntKind.signed]
            simp
            omega
          obtain ⟨ea, hha⟩ := HH.out.arm (f := fuse) (by omega) (by omega)
          obtain ⟨da, na, db, nb, TD, hv⟩ := id HC1.out.d
          obtain ⟨C0, C1, C2, C3, _⟩ := Four.of TD
          clear TD
          have kc := refarm_any _ d fuse w1 hv
          rw [ea] at kc
          clear hv
          go_wp2_with fail
          refine kc.mono ?_
          rintro e w2 ⟨⟨va, rfl, hda⟩, hb2⟩
          clear kc C0 C1 C2 C3 B0 B3
          obtain ⟨y1, z1, y2, z2, rfl, _, _⟩ := hda.parts
          have hc2 := HC1.out.below hb2
          have hbx2 := (hb2.block _ (block_lt HBOX.out)).trans HBOX.out
          obtain ⟨w9, x0, x1, x2, x3, hw9, ⟨C0, C1, C2, C3, Z⟩, HX9⟩ := pack_disk hc2.d hda
          have hw9 := hw9.out
          try dsimp only at hw9
          have HW9 := Lib.hid hw9
          have HFIN := Lib.hid (show WholeArm W D LL l want g (.cells #[.slice ra R rc, .int .u8 last, .bool pack, .int .i8 fuse] 55 (0, 0)) w9 (.slice wa want.length wk) from ⟨_, hc2.storedD hDw hDL HX9.out, hha, (HX9.out.2.2.1 g hgD).trans hbx2⟩)
          clear hw9 hc2 hbx2 HX9 hda hb2
          go_wp2_with fail
          rw [← HW9.out]
          go_meet
          case rel => exact ⟨rfl, HFIN.out⟩
        · have q4 : decide (0 ≤ fuse) = false := by simp; omega
          have HFIN := Lib.hid (show WholeArm W D LL l want g (.cells #[.slice ra R rc, .int .u8 last, .bool pack, .int .i8 fuse] 55 (0, 0)) w1 (.slice wa want.length wk) from ⟨d, HC1.out, HH.out, HBOX.out⟩)
          clear B0 B3
          go_wp2_with fail
          go_meet
          case rel => exact ⟨rfl, HFIN.out⟩
      case rest =>
        obtain ⟨rfl, d2, hc2, hh2, hbox2⟩ := hcut
        have HC2 := Lib.hid hc2
        have HH2 := Lib.hid hh2
        have HBOX2 := Lib.hid hbox2
        clear HC1 HH HBOX HFU hc2 hh2 hbox2 B0 B3
        obtain ⟨wA, hwA⟩ : ∃ x, x = wc := ⟨_, rfl⟩
        subst hwA
        have hnw : want.length ≤ 40 := by
          have h1 := len_le_posN want HH2.out.kept.tk
          have h2 := HH2.out.kept.fits
          omega
        have hnwp : 0 < want.length := List.length_pos_iff.2 HH2.out.kept.ne
        have Q0 : ∀ w', Below wA.heap.size wA w' → w'.cell? ⟨g, 0, none⟩ = some (.slice ra R rc) := fun w' h => cell_of_row w' _ 0 _ _ _ ((h.block _ (block_lt HBOX2.out)).trans HBOX2.out)
        have hDl := HC2.out.d.lt
        have hLl := HC2.out.l.lt
        go_upto_region 19 with (fail)
        go_cut [13] from 999 to 999 (fun s13 wx => LS D LL wx s13 (want ++ [rec]) ∧ Below wA.heap.size wA wx)
        case first =>
          have s0 : Below wA.heap.size wA wA.drew := below_draws (Below.refl _ _) 1
          refine wp_region_start (fun w' => Below wA.heap.size wA w') (by kernel_rfl) s0 ?_
          obtain ⟨wd, hwd⟩ : ∃ wd, wd = wA.drew := ⟨_, rfl⟩
          rw [← hwd] at s0 ⊢
          clear hwd
          obtain ⟨_, _, hv0, hps⟩ := HC2.out.v
          cases hv0
          obtain ⟨vs, hrow, _, hel⟩ := (hps.below s0).tight
          have hone : ∀ u ∈ vs, u.oneCell' = true := Pieces.ones hrow (fun k hk => let ⟨u, h1, h2, _⟩ := hel k hk; ⟨u, h1, h2⟩)
          obtain ⟨i0, z0, hi0, hz0, hz1, hz2, hz3⟩ := zero_parts infoz_bytes
          have R1 : 0 + want.length ≤ maxLen := by unfold maxLen; omega
          have R2 : (0 + want.length) * 24 ≤ 140737488355328 := by omega
          have R3 : 0 + want.length + 1 ≤ maxLen := by unfold maxLen; omega
          have R4 : (0 + want.length + 1) * 24 ≤ 140737488355328 := by omega
          have hone1 : ∀ u ∈ [Value.slice ra R rc], u.oneCell' = true := fun u hu => by rw [List.mem_singleton.1 hu]; rfl
          have hvl : vs.length = want.length := by have := hrow.1; omega
          have hbyd : Bytes W.heap.size wd (.slice ra R rc) rec := by rw [HR.out]; exact HBY.out.below (HC2.out.b.trans (s0.mono HC2.out.b.size))
          have hsz := s0.size
          have hDl2 : D < wd.heap.size := by omega
          have hLl2 : LL < wd.heap.size := by omega
          have vd : Below wd.heap.size wd wd := Below.refl _ _
          refine wpAnyH_part [(false, 1), (false, 3), (false, 4)] (by kernel_rfl) s0 ?_
          repeat (first | (refine heldI_skip rfl rfl ?_; simp only [Act.put, List.setIfInBounds_toArray, List.set_cons_zero, List.set_cons_succ]) | (refine heldI_take rfl ?_ rfl (fun w' hw' => ?_) ?_; rotate_left; (go_simp; first | done | with_reducible rfl); (try simp only [Act.put, List.setIfInBounds_toArray, List.set_cons_zero, List.set_cons_succ])))
          refine heldI_nil ?_
          clear hps
          refine wpAnyH_ready (rs := [0, 5]) (by kernel_rfl) (by simp) ?_
          refine ready_cons rfl rfl (fun K hK => ?_) (ready_cons rfl rfl (fun K hK => ?_) AllReadyH.nil)
          · skip
            obtain ⟨x1, hx1⟩ : ∃ x, x = wd.alloc (.cells #[] 43) := ⟨_, rfl⟩
            have hb1 : Below wd.heap.size wd x1 := by rw [hx1]; exact Below.alloc (Below.refl _ _) (Nat.le_refl _) _
            have v1 := vd.trans (hb1.mono vd.size)
            have t1 := s0.trans (v1.mono hsz)
            refine op_buildSlice (w' := x1) 31 0 [] rfl (L' := []) rfl (by rw [hx1]; exact run_build0_recs _) ?_
            refine hK.out _ _ t1 ?_
            clear hK K hx1
            simp only [Act.put, List.setIfInBounds_toArray, List.set_cons_zero, List.set_cons_succ]
            refine wpAnyH_ready (rs := [2, 5]) (by kernel_rfl) (by simp) ?_
            refine ready_cons rfl rfl (fun K hK => ?_) (ready_cons rfl rfl (fun K hK => ?_) AllReadyH.nil)
            · skip
              have hsrc : Src Tryd.prog x1 (.slice wa want.length wk) 1 want.length vs := (hrow.below v1).src
              refine op_append2 (.tmp 69) (.tmp 70) 31 31 43 rfl i0 z0 1 24 Tryd.underlying31 (.inl ⟨_, Tryd.underlying31⟩) hi0 hz0 hz1 hz2 hz3 (B := wd.heap.size) (v := (.slice (some ⟨wd.heap.size, 0, none⟩) 0 0)) rfl rfl (Own.none _ _ _ _ _) hsrc hone R1 R2 v1.size hnwp ?_
              intro y2 x2 o2 hq hgr
              have hb2 := grew_empty hgr
              have v2 := v1.trans (hb2.mono v1.size)
              have t2 := s0.trans (v2.mono hsz)
              refine hK.out _ _ t2 ?_
              clear hK K hsrc hgr hq
              simp only [Act.put, List.setIfInBounds_toArray, List.set_cons_zero, List.set_cons_succ]
              refine wpAnyH_ready (rs := [5]) (by kernel_rfl) (by simp) ?_
              refine ready_cons rfl rfl (fun K hK => ?_) AllReadyH.nil
              · skip
                obtain ⟨x3, hx3⟩ : ∃ x, x = x2.alloc (.cells #[.slice ra R rc] 43) := ⟨_, rfl⟩
                have hb3 : Below x2.heap.size x2 x3 := by rw [hx3]; exact Below.alloc (Below.refl _ _) (Nat.le_refl _) _
                have r5 : Row x3.heap.size x3 (.slice (some ⟨x2.heap.size, 0, none⟩) 1 1) 1 1 [.slice ra R rc] := by
                  rw [hx3]
                  exact (Row.fresh (w := x2) rfl (Nat.le_refl _) (by decide) (fun k u hk => by simpa using hk)).tight (by decide)
                have v3 := v2.trans (hb3.mono v2.size)
                have t3 := s0.trans (v3.mono hsz)
                refine op_buildSlice (w' := x3) 31 1 [(0, .tmp 73)] rfl (L' := [(0, .slice ra R rc)]) rfl (by rw [hx3]; exact run_buildSlice_rec ra R rc) ?_
                refine hK.out _ _ t3 ?_
                clear hK K hx3
                simp only [Act.put, List.setIfInBounds_toArray, List.set_cons_zero, List.set_cons_succ]
                have o2 := o2.below hb3 (Nat.le_refl _)
                refine wpAnyH_ready (rs := [6]) (by kernel_rfl) (by simp) ?_
                refine ready_cons rfl rfl (fun K hK => ?_) AllReadyH.nil
                · skip
                  have hsrc : Src Tryd.prog x3 (.slice (some ⟨x2.heap.size, 0, none⟩) 1 1) 1 1 [.slice ra R rc] := r5.src
                  refine op_append2 (.tmp 71) (.tmp 74) 31 31 43 rfl i0 z0 1 24 Tryd.underlying31 (.inl ⟨_, Tryd.underlying31⟩) hi0 hz0 hz1 hz2 hz3 (B := wd.heap.size) rfl rfl o2 hsrc hone1 R3 R4 v3.size (Nat.lt_succ_self 0) ?_
                  intro y4 x4 o6 hb4 hgr
                  have v4 := v3.trans hb4
                  have t4 := s0.trans (v4.mono hsz)
                  refine hK.out _ _ t4 ?_
                  clear hK K hsrc hgr
                  simp only [Act.put, List.setIfInBounds_toArray, List.set_cons_zero, List.set_cons_succ]
                  have HFIN := Lib.hid (show LS D LL x4 _ (want ++ [rec]) from LS.made hDl2 hLl2 (by simp) o6 (snoc_el v4 hvl hel hbyd hDw hLw))
                  have HT9 := Lib.hid t4
                  refine wpAnyH_end [(false, 7)] (by kernel_rfl) t4 ?_
                  clear o2 o6 r5
                  repeat (first | (refine heldI_skip rfl rfl ?_; simp only [Act.put, List.setIfInBounds_toArray, List.set_cons_zero, List.set_cons_succ]) | (refine heldI_take rfl ?_ rfl (fun w' hw' => ?_) ?_; rotate_left; (go_simp; first | done | with_reducible rfl); (try simp only [Act.put, List.setIfInBounds_toArray, List.set_cons_zero, List.set_cons_succ])))
                  refine heldI_nil ?_
                  go_wp2_with fail
                  go_meet
                  case rel => exact ⟨HFIN.out, HT9.out⟩
            · skip
              obtain ⟨x5, hx5⟩ : ∃ x, x = x1.alloc (.cells #[.slice ra R rc] 43) := ⟨_, rfl⟩
              have hb5 : Below x1.heap.size x1 x5 := by rw [hx5]; exact Below.alloc (Below.refl _ _) (Nat.le_refl _) _
              have r5 : Row x5.heap.size x5 (.slice (some ⟨x1.heap.size, 0, none⟩) 1 1) 1 1 [.slice ra R rc] := by
                rw [hx5]
                exact (Row.fresh (w := x1) rfl (Nat.le_refl _) (by decide) (fun k u hk => by simpa using hk)).tight (by decide)
              have v5 := v1.trans (hb5.mono v1.size)
              have t5 := s0.trans (v5.mono hsz)
              refine op_buildSlice (w' := x5) 31 1 [(0, .tmp 73)] rfl (L' := [(0, .slice ra R rc)]) rfl (by rw [hx5]; exact run_buildSlice_rec ra R rc) ?_
              refine hK.out _ _ t5 ?_
              clear hK K hx5
              simp only [Act.put, List.setIfInBounds_toArray, List.set_cons_zero, List.set_cons_succ]
              refine wpAnyH_ready (rs := [2]) (by kernel_rfl) (by simp) ?_
              refine ready_cons rfl rfl (fun K hK => ?_) AllReadyH.nil
              · skip
                have hsrc : Src Tryd.prog x5 (.slice wa want.length wk) 1 want.length vs := (hrow.below v5).src
                refine op_append2 (.tmp 69) (.tmp 70) 31 31 43 rfl i0 z0 1 24 Tryd.underlying31 (.inl ⟨_, Tryd.underlying31⟩) hi0 hz0 hz1 hz2 hz3 (B := wd.heap.size) (v := (.slice (some ⟨wd.heap.size, 0, none⟩) 0 0)) rfl rfl (Own.none _ _ _ _ _) hsrc hone R1 R2 v5.size hnwp ?_
                intro y6 x6 o2 hq hgr
                have hb6 := grew_empty hgr
                have v6 := v5.trans (hb6.mono v5.size)
                have t6 := s0.trans (v6.mono hsz)
                refine hK.out _ _ t6 ?_
                clear hK K hsrc hgr hq
                simp only [Act.put, List.setIfInBounds_toArray, List.set_cons_zero, List.set_cons_succ]
                have r5 := (r5.below hb6).tight (by decide)
                refine wpAnyH_ready (rs := [6]) (by kernel_rfl) (by simp) ?_
                refine ready_cons rfl rfl (fun K hK => ?_) AllReadyH.nil
                · skip
                  have hsrc : Src Tryd.prog x6 (.slice (some ⟨x1.heap.size, 0, none⟩) 1 1) 1 1 [.slice ra R rc] := r5.src
                  refine op_append2 (.tmp 71) (.tmp 74) 31 31 43 rfl i0 z0 1 24 Tryd.underlying31 (.inl ⟨_, Tryd.underlying31⟩) hi0 hz0 hz1 hz2 hz3 (B := wd.heap.size) rfl rfl o2 hsrc hone1 R3 R4 v6.size (Nat.lt_succ_self 0) ?_
                  intro y7 x7 o6 hb7 hgr
                  have v7 := v6.trans hb7
                  have t7 := s0.trans (v7.mono hsz)
                  refine hK.out _ _ t7 ?_
                  clear hK K hsrc hgr
                  simp only [Act.put, List.setIfInBounds_toArray, List.set_cons_zero, List.set_cons_succ]
                  have HFIN := Lib.hid (show LS D LL x7 _ (want ++ [rec]) from LS.made hDl2 hLl2 (by simp) o6 (snoc_el v7 hvl hel hbyd hDw hLw))
                  have HT9 := Lib.hid t7
                  refine wpAnyH_end [(false, 7)] (by kernel_rfl) t7 ?_
                  clear o2 o6 r5
                  repeat (first | (refine heldI_skip rfl rfl ?_; simp only [Act.put, List.setIfInBounds_toArray, List.set_cons_zero, List.set_cons_succ]) | (refine heldI_take rfl ?_ rfl (fun w' hw' => ?_) ?_; rotate_left; (go_simp; first | done | with_reducible rfl); (try simp only [Act.put, List.setIfInBounds_toArray, List.set_cons_zero, List.set_cons_succ])))
                  refine heldI_nil ?_
                  go_wp2_with fail
                  go_meet
                  case rel => exact ⟨HFIN.out, HT9.out⟩
          · skip
            obtain ⟨x8, hx8⟩ : ∃ x, x = wd.alloc (.cells #[.slice ra R rc] 43) := ⟨_, rfl⟩
            have hb8 : Below wd.heap.size wd x8 := by rw [hx8]; exact Below.alloc (Below.refl _ _) (Nat.le_refl _) _
            have r5 : Row x8.heap.size x8 (.slice (some ⟨wd.heap.size, 0, none⟩) 1 1) 1 1 [.slice ra R rc] := by
              rw [hx8]
              exact (Row.fresh (w := wd) rfl (Nat.le_refl _) (by decide) (fun k u hk => by simpa using hk)).tight (by decide)
            have v8 := vd.trans (hb8.mono vd.size)
            have t8 := s0.trans (v8.mono hsz)
            refine op_buildSlice (w' := x8) 31 1 [(0, .tmp 73)] rfl (L' := [(0, .slice ra R rc)]) rfl (by rw [hx8]; exact run_buildSlice_rec ra R rc) ?_
            refine hK.out _ _ t8 ?_
            clear hK K hx8
            simp only [Act.put, List.setIfInBounds_toArray, List.set_cons_zero, List.set_cons_succ]
            refine wpAnyH_ready (rs := [0]) (by kernel_rfl) (by simp) ?_
            refine ready_cons rfl rfl (fun K hK => ?_) AllReadyH.nil
            · skip
              obtain ⟨x9, hx9⟩ : ∃ x, x = x8.alloc (.cells #[] 43) := ⟨_, rfl⟩
              have hb9 : Below x8.heap.size x8 x9 := by rw [hx9]; exact Below.alloc (Below.refl _ _) (Nat.le_refl _) _
              have v9 := v8.trans (hb9.mono v8.size)
              have t9 := s0.trans (v9.mono hsz)
              refine op_buildSlice (w' := x9) 31 0 [] rfl (L' := []) rfl (by rw [hx9]; exact run_build0_recs _) ?_
              refine hK.out _ _ t9 ?_
              clear hK K hx9
              simp only [Act.put, List.setIfInBounds_toArray, List.set_cons_zero, List.set_cons_succ]
              have r5 := (r5.below hb9).tight (by decide)
              refine wpAnyH_ready (rs := [2]) (by kernel_rfl) (by simp) ?_
              refine ready_cons rfl rfl (fun K hK => ?_) AllReadyH.nil
              · skip
                have hsrc : Src Tryd.prog x9 (.slice wa want.length wk) 1 want.length vs := (hrow.below v9).src
                refine op_append2 (.tmp 69) (.tmp 70) 31 31 43 rfl i0 z0 1 24 Tryd.underlying31 (.inl ⟨_, Tryd.underlying31⟩) hi0 hz0 hz1 hz2 hz3 (B := wd.heap.size) (v := (.slice (some ⟨x8.heap.size, 0, none⟩) 0 0)) rfl rfl (Own.none _ _ _ _ _) hsrc hone R1 R2 v9.size hnwp ?_
                intro y10 x10 o2 hq hgr
                have hb10 := grew_empty hgr
                have v10 := v9.trans (hb10.mono v9.size)
                have t10 := s0.trans (v10.mono hsz)
                refine hK.out _ _ t10 ?_
                clear hK K hsrc hgr hq
                simp only [Act.put, List.setIfInBounds_toArray, List.set_cons_zero, List.set_cons_succ]
                have r5 := (r5.below hb10).tight (by decide)
                refine wpAnyH_ready (rs := [6]) (by kernel_rfl) (by simp) ?_
                refine ready_cons rfl rfl (fun K hK => ?_) AllReadyH.nil
                · skip
                  have hsrc : Src Tryd.prog x10 (.slice (some ⟨wd.heap.size, 0, none⟩) 1 1) 1 1 [.slice ra R rc] := r5.src
                  refine op_append2 (.tmp 71) (.tmp 74) 31 31 43 rfl i0 z0 1 24 Tryd.underlying31 (.inl ⟨_, Tryd.underlying31⟩) hi0 hz0 hz1 hz2 hz3 (B := wd.heap.size) rfl rfl o2 hsrc hone1 R3 R4 v10.size (Nat.lt_succ_self 0) ?_
                  intro y11 x11 o6 hb11 hgr
                  have v11 := v10.trans hb11
                  have t11 := s0.trans (v11.mono hsz)
                  refine hK.out _ _ t11 ?_
                  clear hK K hsrc hgr
                  simp only [Act.put, List.setIfInBounds_toArray, List.set_cons_zero, List.set_cons_succ]
                  have HFIN := Lib.hid (show LS D LL x11 _ (want ++ [rec]) from LS.made hDl2 hLl2 (by simp) o6 (snoc_el v11 hvl hel hbyd hDw hLw))
                  have HT9 := Lib.hid t11
                  refine wpAnyH_end [(false, 7)] (by kernel_rfl) t11 ?_
                  clear o2 o6 r5
                  repeat (first | (refine heldI_skip rfl rfl ?_; simp only [Act.put, List.setIfInBounds_toArray, List.set_cons_zero, List.set_cons_succ]) | (refine heldI_take rfl ?_ rfl (fun w' hw' => ?_) ?_; rotate_left; (go_simp; first | done | with_reducible rfl); (try simp only [Act.put, List.setIfInBounds_toArray, List.set_cons_zero, List.set_cons_succ])))
                  refine heldI_nil ?_
                  go_wp2_with fail
                  go_meet
                  case rel => exact ⟨HFIN.out, HT9.out⟩
        case rest =>
          obtain ⟨hls13, hbA⟩ := hcut
          obtain ⟨pa13, pk13, rfl, _⟩ := id hls13
          obtain ⟨nl, hnl⟩ : ∃ n, n = (want ++ [rec]).length := ⟨_, rfl⟩
          rw [← hnl] at hls13 ⊢
          clear hnl
          have HL13 := Lib.hid hls13
          have HC3 := Lib.hid (HC2.out.below hbA)
          have HBOX3 := Lib.hid ((hbA.block _ (block_lt HBOX2.out)).trans HBOX2.out)
          obtain ⟨wB, hwB⟩ : ∃ x, x = wc := ⟨_, rfl⟩
          subst hwB
          clear hls13 hbA HC2 HBOX2 Q0 hDl hLl
          have B2 := cell_of_row wB _ 2 _ _ _ HBOX3.out
          go_upto_if 77 with (fail)
          go_cut [7, 9, 13, 14] from 999 to 999 (fun s7 s9 s13 s14 wx => s7 = .slice wa want.length wk ∧ WholeMid W D LL (4 * (k : Int) + 2) want (pack = false ∧ rec = []) g (.cells #[.slice ra R rc, .int .u8 last, .bool pack, .int .i8 fuse] 55 (0, 0)) wx (.slice wa want.length wk) s9 s13)
          case first =>
            cases pack with
            | true =>
              clear B2
              have B1 := cell_of_row wB _ 1 _ _ _ HBOX3.out
              obtain ⟨ln, hln⟩ : ∃ n : Nat, last = (n : Int) := ⟨last.toNat, by omega⟩
              subst hln
              have hwl : IntKind.i64.wrap (ln : Int) = (ln : Int) := by
                simp only [IntKind.wrap, IntKind.bits, IntKind.signed]
                simp
                omega
              go_upto_region 22 with (fail)
              have hwl2 : 0 < want.length := hnwp
              obtain ⟨kk, hkk, kk1, kk2⟩ : ∃ kk : Nat, (if 1 + (ln : Int) % 3 < (want.length : Int) then 1 + (ln : Int) % 3 else (want.length : Int)) = (kk : Int) ∧ 1 ≤ kk ∧ kk ≤ want.length := by
                by_cases h : 1 + (ln : Int) % 3 < (want.length : Int)
                · exact ⟨1 + ln % 3, by rw [if_pos h]; omega, by omega, by omega⟩
                · exact ⟨want.length, if_neg h, by omega, Nat.le_refl _⟩
              rw [hkk]
              clear hkk hwl hwl2 B1
              obtain ⟨jj, hjj⟩ : ∃ x, x = want.length - kk := ⟨_, rfl⟩
              have hsub : (want.length : Int) - (kk : Int) = (jj : Int) := by omega
              have hjl : jj < want.length := by omega
              obtain ⟨_, _, hv0, hps⟩ := HC3.out.v
              cases hv0
              obtain ⟨vs, hrow, _, hel⟩ := hps
              have hvl : vs.length = want.length := by have := hrow.1; omega
              obtain ⟨i0, z0, hi0, hz0, hz1, hz2, hz3⟩ := zero_parts infoz_bytes
              obtain ⟨a2, c2, kv, hrow2⟩ := run_slice_row (P := Tryd.prog) Tryd.underlying31 hi0 hz1 hrow jj kk (by omega)
              obtain ⟨ls, hls⟩ : ∃ x, x = want.drop jj := ⟨_, rfl⟩
              have hll : ls.length = kk := by rw [hls, List.length_drop]; omega
              have hlne : ls ≠ [] := by intro h; rw [h] at hll; simp at hll; omega
              have hltk : ∀ b ∈ ls, takes b.length ≠ 0 := fun b hb => HH2.out.kept.tk b (List.mem_of_mem_drop (hls ▸ hb))
              have hout := compact_outcome HH2.out HGE.out (by omega) ls hlne hltk (true = false ∧ rec = [])
              rw [show 4 * (k : Int) + 1 + 1 = 4 * (k : Int) + 2 by omega] at hout
              obtain ⟨r, hr⟩ : ∃ r, r = compactP d2 l ls := ⟨_, rfl⟩
              rw [← hr] at hout
              have hhalf := HH2.out.kept.hw
              have hl20 : ∀ b ∈ ls, b.length ≤ 2 ^ 20 := fun b hb => Nat.le_trans (takes_6000 (hltk b hb)) (by decide)
              have hll20 : ls.length ≤ 2 ^ 20 := Nat.le_trans (show ls.length ≤ 40 by omega) (by decide)
              obtain ⟨w1', hw1'⟩ : ∃ x, x = wB.alloc (.cells #[] 43) := ⟨_, rfl⟩
              have hbP : Below wB.heap.size wB w1' := by rw [hw1']; exact Below.alloc (Below.refl _ _) (Nat.le_refl _) _
              have hsrc : Src Tryd.prog w1' (.slice a2 kk c2) 1 kk (vs.drop jj) := (hrow2.below hbP).src
              have hone : ∀ u ∈ vs.drop jj, u.oneCell' = true := fun u hu => Pieces.ones hrow (fun k hk => let ⟨u, h1, h2, _⟩ := hel k hk; ⟨u, h1, h2⟩) u (List.mem_of_mem_drop hu)
              have R1 : 0 + kk ≤ maxLen := by unfold maxLen; omega
              have R2 : (0 + kk) * 24 ≤ 140737488355328 := by omega
              have hDlB := HC3.out.d.lt
              have hLlB := HC3.out.l.lt
              have HL20 := Lib.hid hl20
              have HLL20 := Lib.hid hll20
              have HOUT := Lib.hid hout
              have HR3 := Lib.hid hr
              have HW1' := Lib.hid hw1'
              have HBP := Lib.hid hbP
              have HEL := Lib.hid hel
              have HLS := Lib.hid hls
              have HLLk := Lib.hid hll
              have HHALF := Lib.hid hhalf
              clear hl20 hll20 hout hr hw1' hbP hel hls hll hhalf hlne hltk hrow hrow2 hjj hvl
              go_wp2_with (refine wp_buildSlice_l 31 0 [] rfl rfl rfl (run_build0_recs _) ?_; refine Halt.in ?_)
              refine Halt.out ?_
              rw [← HW1'.out]
              go_wp2_with (at_builtin; refine wp_append rfl (.tmp 86) (.tmp 92) 31 31 43 rfl i0 z0 1 24 Tryd.underlying31 (.inl ⟨_, Tryd.underlying31⟩) hi0 hz0 hz1 hz2 hz3 rfl rfl (Own.none wB.heap.size _ _ _ _) hsrc hone R1 R2 HBP.out.size ?_; intro v3 wG hown3 hb3; refine Halt.in ?_)
              refine Halt.out ?_
              have hbG := HBP.out.trans hb3
              have hl3 : LS D LL wG v3 ls := by rw [HLS.out]; exact LS.made hDlB hLlB (by rw [← HLS.out, HLLk.out, Nat.zero_add]) hown3 (last_el hbG jj HEL.out)
              obtain ⟨xa3, xc3, rfl, _⟩ := id hl3
              have hcG := HC3.out.below hbG
              have hbxG := (hbG.block _ (block_lt HBOX3.out)).trans HBOX3.out
              clear hi0 hz0 hz1 hz2 hz3 hsrc hone R1 R2 hown3 hb3 kv hsub
              have hhalf := HHALF.out
              obtain ⟨da, na, db, nb, TD, hv⟩ := id hcG.d
              obtain ⟨C0, C1, C2, C3, _⟩ := Four.of TD
              clear TD
              obtain ⟨N0, N1, N2, N3, _⟩ := (hcG.l).four
              try dsimp only at N0 N1 N2 N3
              have kc := compact_any _ _ d2 l ls wG hv hl3.pieces (by omega) (HT.out.below hcG.b hT) (Nat.lt_of_lt_of_le hT hcG.b.size) HL20.out HLL20.out
              rw [← HR3.out] at kc
              unfold DLE at kc
              simp only [logV] at kc
              have HCG := Lib.hid hcG
              have HBXG := Lib.hid hbxG
              have HL3 := Lib.hid hl3
              clear hv hhalf hcG hbxG hl3 hbG
              go_wp2_with fail
              refine kc.mono ?_
              rintro e w2 ⟨⟨va, rfl, hda⟩, hb2⟩
              clear kc C0 C1 C2 C3 N0 N1 N2 N3
              obtain ⟨y1, z1, y2, z2, rfl, _, _⟩ := hda.parts
              have hc4 := HCG.out.below hb2
              have hbx4 := (hb2.block _ (block_lt HBXG.out)).trans HBXG.out
              have hls4 := HL3.out.below hb2
              obtain ⟨w9, x0, x1, x2, x3, hw9, ⟨C0, C1, C2, C3, Z⟩, ⟨N0, N1, N2, N3, Y⟩, HX9⟩ := pack_store r.2.1 hc4.d hc4.l hda hDL
              have HW9 := Lib.hid hw9.out
              have HFIN := Lib.hid (show WholeMid W D LL (4 * (k : Int) + 2) want (true = false ∧ rec = []) g (.cells #[.slice ra R rc, .int .u8 (ln : Int), .bool true, .int .i8 fuse] 55 (0, 0)) w9 (.slice wa want.length wk) (.int .i64 r.2.2) (.slice xa3 ls.length xc3) from
                ⟨r.2.2, r.1, r.2.1, ls, hc4.stored hDw hLw HX9.out, rfl, hls4.keep HX9.out.2.2.2.1, HOUT.out, row_other hbx4 hgD hgL HX9.out.2.2.2.1⟩)
              clear hw9 hc4 hbx4 hls4 HX9 hda hb2
              go_wp2_with fail
              rw [← HW9.out]
              go_meet
              case rel => exact ⟨rfl, HFIN.out⟩
            | false =>
              clear B2
              have B0 := cell_of_row wB _ 0 _ _ _ HBOX3.out
              have hout := append_outcome HH2.out HGE.out (by omega) rec (by rw [← HR.out]; omega)
              obtain ⟨r, hr⟩ : ∃ r, r = appendP d2 l rec := ⟨_, rfl⟩
              rw [← hr] at hout
              have hhalf := HH2.out.kept.hw
              obtain ⟨da, na, db, nb, TD, hv⟩ := id HC3.out.d
              obtain ⟨C0, C1, C2, C3, _⟩ := Four.of TD
              clear TD
              obtain ⟨N0, N1, N2, N3, _⟩ := (HC3.out.l).four
              try dsimp only at N0 N1 N2 N3
              have kc := append_any _ _ d2 l rec wB hv.tight (show Bytes wB.heap.size wB (.slice ra rec.length rc) rec from (HBY.out.below HC3.out.b).tight) (by omega) (HT.out.below HC3.out.b hT) (Nat.lt_of_lt_of_le hT HC3.out.b.size)
              rw [← hr, ← HR.out] at kc
              unfold DLE at kc
              simp only [logV] at kc
              have HOUT := Lib.hid hout
              clear hv hr hout hhalf
              go_wp2_with fail
              refine kc.mono ?_
              rintro e w2 ⟨⟨va, rfl, hda⟩, hb2⟩
              clear kc C0 C1 C2 C3 N0 N1 N2 N3 B0
              obtain ⟨y1, z1, y2, z2, rfl, _, _⟩ := hda.parts
              have hc4 := HC3.out.below hb2
              have hbx4 := (hb2.block _ (block_lt HBOX3.out)).trans HBOX3.out
              have hls4 := HL13.out.below hb2
              obtain ⟨w9, x0, x1, x2, x3, hw9, ⟨C0, C1, C2, C3, Z⟩, ⟨N0, N1, N2, N3, Y⟩, HX9⟩ := pack_store r.2.1 hc4.d hc4.l hda hDL
              have HW9 := Lib.hid hw9.out
              have HFIN := Lib.hid (show WholeMid W D LL (4 * (k : Int) + 2) want (false = false ∧ rec = []) g (.cells #[.slice ra R rc, .int .u8 last, .bool false, .int .i8 fuse] 55 (0, 0)) w9 (.slice wa want.length wk) (.int .i64 r.2.2) (.slice pa13 nl pk13) from
                ⟨r.2.2, r.1, r.2.1, want ++ [rec], hc4.stored hDw hLw HX9.out, rfl, hls4.keep HX9.out.2.2.2.1, by
                  have h := HOUT.out
                  rcases h with h | ⟨h1, h2, h3⟩ | h | h
                  · exact .inl ⟨h.1, h.2.1, by have := h.2.2; omega⟩
                  · exact .inr (.inl ⟨h1, ⟨rfl, h2⟩, h3.1, by have := h3.2; omega⟩)
                  · exact .inr (.inr (.inl ⟨h.1, h.2.1, by have := h.2.2; omega⟩))
                  · exact .inr (.inr (.inr ⟨h.1, h.2.1, fun t ht => let ⟨w, gen, h1, h2⟩ := h.2.2 t ht; ⟨w, gen, by omega, h2⟩⟩)), row_other hbx4 hgD hgL HX9.out.2.2.2.1⟩)
              clear hw9 hc4 hbx4 hls4 HX9 hda hb2
              go_wp2_with fail
              rw [← HW9.out]
              go_meet
              case rel => exact ⟨rfl, HFIN.out⟩
          case rest =>
            obtain ⟨rfl, e, d3, l3, nx, hc3, rfl, hls3, hout, hbox3⟩ := hcut
            obtain ⟨xa, xk, rfl, _⟩ := id hls3
            have HC4 := Lib.hid hc3
            have HL4 := Lib.hid hls3
            have HBOX4 := Lib.hid hbox3
            obtain ⟨wE, hwE⟩ : ∃ x, x = wc := ⟨_, rfl⟩
            subst hwE
            clear hc3 hls3 hbox3 HC3 HBOX3 HL13 HH2 B2
            go_step
            go_step
            go_cut [7, 10] from 999 to 999 (fun s7 s10 wx => ∃ (d : DiskP) (l : LogP) (X : List (List UInt8)) (f : Nat), Core W D LL wx d l X s7 ∧ HoldsF 80 d l X ∧ l.gen ≤ 4 * ((k + 1 : Nat) : Int) + 1 ∧ s10 = .int .i64 ((f : Nat) : Int) ∧ f ≤ 3 * (k + 1))
            case first =>
              rcases hout with ⟨rfl, hh, hg⟩ | ⟨rfl, ⟨hp, hrec⟩, hh, hg⟩ | ⟨rfl, hh, hg⟩ | ⟨rfl, hf⟩
              · have hcore : Core W D LL wE d3 l3 nx (.slice xa nx.length xk) := ⟨HC4.out.d, HC4.out.l, HC4.out.b, HL4.out⟩
                have HCO := Lib.hid hcore
                have HHH := Lib.hid hh
                have HGG := Lib.hid hg
                clear hcore hh hg
                go_wp2_with fail
                go_meet
                case rel => exact ⟨d3, l3, nx, fz, HCO.out, HHH.out, by (have := HGG.out; omega), rfl, by omega⟩
              · subst hp
                subst hrec
                obtain rfl : R = 0 := HR.out
                have B2 := cell_of_row wE _ 2 _ _ _ HBOX4.out
                have B0 := cell_of_row wE _ 0 _ _ _ HBOX4.out
                have HHH := Lib.hid hh
                have HGG := Lib.hid hg
                clear hh hg
                go_wp2_with fail
                go_meet
                case rel => exact ⟨d3, l3, want, fz, HC4.out, HHH.out, by (have := HGG.out; omega), rfl, by omega⟩
              · have HHH := Lib.hid hh
                have HGG := Lib.hid hg
                clear hh hg
                go_wp2_with fail
                go_meet
                case rel => exact ⟨d3, l3, want, fz, HC4.out, HHH.out, by (have := HGG.out; omega), rfl, by omega⟩
              · have HFL := Lib.hid hf
                clear hf
                go_wp2_with fail
                go_loopw [9, 10, 15, 16, 17] (fun s9 s10 _ s16 _ wx => ∃ (j : Nat) (dd : DiskP) (ll : LogP) (f : Nat), j ≤ 2 ∧ s16 = .int .i64 j ∧ s9 = .int .i64 9 ∧ Core W D LL wx dd ll want (.slice wa want.length wk) ∧ LS D LL wx (.slice xa nx.length xk) nx ∧ FallP (4 * (k : Int) + 2 + (j : Int)) dd want nx ∧ s10 = .int .i64 (f : Int) ∧ f ≤ 3 * k + j) (fun _ _ _ s16 _ _ => 3 - (intOf s16).toNat)
                case atStart => exact ⟨0, d3, l3, fz, by decide, rfl, rfl, HC4.out, HL4.out, by simpa using HFL.out, rfl, hfz⟩
                case round =>
                  obtain ⟨j, dd, ll, f, hj, rfl, rfl, hcj, hlj, hfj, rfl, hff⟩ := hrel
                  have HCJ := Lib.hid hcj
                  have HLJ := Lib.hid hlj
                  have HFJ := Lib.hid hfj
                  clear hcj hlj hfj HC4 HL4 HBOX4 HFL
                  have j0 : decide ((j : Int) < 3) = true := by simp; omega
                  go_upto_if 135 with (fail)
                  go_cut [17] from 999 to 999 (fun s17 wx => wx = wr ∧ ∃ m, s17 = .int .u64 m ∧ 0 ≤ m ∧ m < 2 ^ 64)
                  case first =>
                    by_cases hM0 : M = 0
                    · subst hM0
                      go_wp2_with fail
                      go_meet
                      case rel => exact ⟨rfl, 0, rfl, by decide, by decide⟩
                    · have q5 : decide ((0 : Int) < (M : Int)) = true := by simp; omega
                      have q5' : decide (0 < M) = true := by simp; omega
                      have hlt : f % M < M := Nat.mod_lt _ (by omega)
                      have hlm : f % M < ms.length := HM.out ▸ hlt
                      obtain ⟨mb, mo, rfl, hmb, hmc⟩ := load_mask HU.out hlm
                      have hmcell := hmc wr HCJ.out.b
                      have hmm := HMS.out _ (List.getElem_mem hlm)
                      obtain ⟨mv, hmv⟩ : ∃ x, x = ms[f % M] := ⟨_, rfl⟩
                      rw [← hmv] at hmcell hmm
                      obtain ⟨rr, hrr⟩ : ∃ x, x = f % M := ⟨_, rfl⟩
                      rw [← hrr] at hmcell hlt
                      have hmod : (f : Int) % (M : Int) = (rr : Int) := by rw [hrr]; simp
                      have r1 : (0 : Int) ≤ (rr : Int) := by omega
                      have r2 : (rr : Int) < (M : Int) := by omega
                      have HMM := Lib.hid hmm
                      clear hmv hrr hmc hmb hlm hmm hM0
                      go_wp2_with fail
                      go_meet
                      case rel => exact ⟨rfl, mv, rfl, HMM.out.1, HMM.out.2⟩
                  case rest =>
                    obtain ⟨hwc, m, rfl, hm0, hm1⟩ := hcut
                    subst hwc
                    obtain ⟨d4, es, hfu4, X, hX, hup⟩ := HFJ.out.start m
                    obtain ⟨da, na, db, nb, TD, hv⟩ := id HCJ.out.d
                    obtain ⟨C0, C1, C2, C3, _⟩ := Four.of TD
                    clear TD
                    have kc := refstart_any _ dd m wc hv hm0 hm1
                    rw [es] at kc
                    have HUP := Lib.hid hup
                    have HFU4 := Lib.hid hfu4
                    have HX := Lib.hid hX
                    clear hv es hup hfu4 hX
                    go_wp2_with fail
                    refine kc.mono ?_
                    rintro e w2 ⟨⟨va, rfl, hda⟩, hb2⟩
                    clear kc C0 C1 C2 C3
                    obtain ⟨y1, z1, y2, z2, rfl, _, _⟩ := hda.parts
                    have hc5 := HCJ.out.below hb2
                    have hl5 := HLJ.out.below hb2
                    obtain ⟨w3, x0, x1, x2, x3, hw3, ⟨C0, C1, C2, C3, Z⟩, HX3⟩ := pack_disk hc5.d hda
                    have hw3 := hw3.out
                    try dsimp only at hw3
                    have HW3' := Lib.hid hw3
                    have HC5 := Lib.hid (hc5.storedD hDw hDL HX3.out)
                    have HL5 := Lib.hid (hl5.keep (fun q h1 _ => HX3.out.2.2.1 q h1))
                    clear hw3 hc5 hl5 HX3 hda hb2 HCJ HLJ HFJ
                    go_upto_region 43 with (fail)
                    rw [← HW3'.out]
                    clear C0 C1 C2 C3 Z
                    go_upto_if 152 with (fail)
                    go_cut [16] from 150 to 152 (fun s16 wx => s16 = .int .i64 (j : Int) ∧ ∃ d5, Core W D LL wx d5 ll want (.slice wa want.length wk) ∧ LS D LL wx (.slice xa nx.length xk) nx ∧ UpK (4 * (k : Int) + 2 + (j : Int)) d5 X ∧ (j = 2 → d5.fuse = -1))
                    case first =>
                      by_cases hj2 : j < 2
                      · have q6 : decide ((j : Int) < 2) = true := by simp; omega
                        obtain ⟨ea, hup5⟩ := HUP.out.arm (f := m % 50) (by omega) (by omega)
                        have hwm : IntKind.i64.wrap (m % 50) = m % 50 := by
                          simp only [IntKind.wrap, IntKind.bits, IntKind.signed]
                          simp
                          omega
                        obtain ⟨da, na, db, nb, TD, hv⟩ := id HC5.out.d
                        obtain ⟨C0, C1, C2, C3, _⟩ := Four.of TD
                        clear TD
                        have kc := refarm_any _ d4 (m % 50) w3 hv
                        rw [ea] at kc
                        have HUP5 := Lib.hid hup5
                        clear hv ea hup5
                        go_wp2_with fail
                        refine kc.mono ?_
                        rintro e w4 ⟨⟨va, rfl, hda⟩, hb4⟩
                        clear kc C0 C1 C2 C3
                        obtain ⟨y1, z1, y2, z2, rfl, _, _⟩ := hda.parts
                        have hc6 := HC5.out.below hb4
                        have hl6 := HL5.out.below hb4
                        obtain ⟨w5, x0, x1, x2, x3, hw5, ⟨C0, C1, C2, C3, Z⟩, HX5⟩ := pack_disk hc6.d hda
                        have hw5 := hw5.out
                        try dsimp only at hw5
                        have HW5' := Lib.hid hw5
                        have HC6 := Lib.hid (hc6.storedD hDw hDL HX5.out)
                        have HL6 := Lib.hid (hl6.keep (fun q h1 _ => HX5.out.2.2.1 q h1))
                        clear hw5 hc6 hl6 HX5 hda hb4
                        go_wp2_with fail
                        rw [← HW5'.out]
                        go_meet
                        case rel => exact ⟨rfl, _, HC6.out, HL6.out, HUP5.out, fun h => by omega⟩
                      · have q6 : decide ((j : Int) < 2) = false := by simp; omega
                        go_wp2_with fail
                        go_meet
                        case rel => exact ⟨rfl, d4, HC5.out, HL5.out, HUP.out, fun _ => HFU4.out⟩
                    case rest =>
                      obtain ⟨rfl, d5, hc5, hl5, hup5, hj5⟩ := hcut
                      have HC6 := Lib.hid hc5
                      have HL6 := Lib.hid hl5
                      have HJ5 := Lib.hid hj5
                      have hDc := hc5.d.lt
                      have hLc := hc5.l.lt
                      obtain ⟨da, na, db, nb, TD, hv⟩ := id hc5.d
                      obtain ⟨C0, C1, C2, C3, _⟩ := Four.of TD
                      clear TD
                      have ko := open_any _ d5 wc hv (HT.out.below hc5.b hT) (Nat.lt_of_lt_of_le hT hc5.b.size)
                      have hopen := hup5.opened (by omega) want nx HX.out
                      clear hv hc5 hl5 hj5 hup5 HC5 HL5 HUP HFU4
                      rcases hopen with ⟨d6, l6, eo, hh6, hg6, _⟩ | ⟨d6, eo, hne, hf6⟩
                      · rw [eo] at ko
                        unfold OpenE logV at ko
                        have HHH := Lib.hid hh6
                        have HGG := Lib.hid hg6
                        clear eo hh6 hg6
                        go_wp2_with fail
                        refine ko.mono ?_
                        rintro e w6 ⟨⟨va, lv, rfl, hda, hpa⟩, hb6⟩
                        clear ko C0 C1 C2 C3
                        obtain ⟨y1, z1, y2, z2, rfl, _, _⟩ := hda.parts
                        have hc7 := HC6.out.below hb6
                        have hl7 := HL6.out.below hb6
                        have hlv : LS D LL w6 lv X := by
                          obtain ⟨ax, cx, rfl, hpx⟩ := LV.of (M := wc.heap.size) hpa (Nat.le_refl _)
                          exact ⟨ax, cx, rfl, hpx.weak (fun b hb => by omega)⟩
                        obtain ⟨w9, x0, x1, x2, x3, hw9, ⟨C0, C1, C2, C3, Z⟩, ⟨N0, N1, N2, N3, Y⟩, HX9⟩ := pack_store l6 hc7.d hc7.l hda hDL
                        have HW9 := Lib.hid hw9.out
                        have hc8 := hc7.stored hDw hLw HX9.out
                        have hlv9 := hlv.keep HX9.out.2.2.2.1
                        have HL8 := Lib.hid (hl7.keep HX9.out.2.2.2.1)
                        obtain ⟨ax, cx, rfl, _⟩ := id hlv9
                        have HLV := Lib.hid hlv9
                        have HC8 := Lib.hid hc8
                        have HCO := Lib.hid (show Core W D LL w9 d6 l6 X (.slice ax X.length cx) from ⟨hc8.d, hc8.l, hc8.b, hlv9⟩)
                        clear hw9 hc7 hl7 hlv hc8 hlv9 HX9 hda hpa hb6 HC6 HL6
                        go_upto_region 46 with (fail)
                        rw [← HW9.out]
                        clear C0 C1 C2 C3 Z N0 N1 N2 N3 Y
                        rcases HX.out with hXe | hXe
                        · have kk := same5_any (.slice ax X.length cx) (.slice wa want.length wk) X want w9 HLV.out.pieces HC8.out.v.pieces
                          rw [decide_eq_true hXe] at kk
                          clear hXe
                          go_wp2_with fail
                          refine kk.mono ?_
                          rintro e w10 ⟨rfl, hb10⟩
                          clear kk
                          have HCO := Lib.hid (HCO.out.below hb10)
                          clear hb10
                          go_wp2_with fail
                          go_meet
                          case rel => exact ⟨d6, l6, X, (f + 1), HCO.out, HHH.out, by (have := HGG.out; omega), rfl, by omega⟩
                        · have kk := same5_any (.slice ax X.length cx) (.slice wa want.length wk) X want w9 HLV.out.pieces HC8.out.v.pieces
                          obtain ⟨cq, hcq⟩ : ∃ c, c = decide (X = want) := ⟨_, rfl⟩
                          rw [← hcq] at kk
                          have HXE := Lib.hid hXe
                          clear hcq hXe
                          go_wp2_with fail
                          refine kk.mono ?_
                          rintro e w10 ⟨rfl, hb10⟩
                          clear kk
                          have HCO := Lib.hid (HCO.out.below hb10)
                          have HL9 := Lib.hid (HL8.out.below hb10)
                          clear hb10
                          cases cq with
                          | true =>
                            skip
                            go_wp2_with fail
                            go_meet
                            case rel => exact ⟨d6, l6, X, (f + 1), HCO.out, HHH.out, by (have := HGG.out; omega), rfl, by omega⟩
                          | false =>
                            have kk := same5_any (.slice ax X.length cx) (.slice xa nx.length xk) X nx w10 HCO.out.v.pieces HL9.out.pieces
                            rw [decide_eq_true HXE.out] at kk
                            clear HXE
                            go_wp2_with fail
                            refine kk.mono ?_
                            rintro e w11 ⟨rfl, hb11⟩
                            clear kk
                            have HCO := Lib.hid (HCO.out.below hb11)
                            clear hb11
                            go_wp2_with fail
                            go_meet
                            case rel => exact ⟨d6, l6, X, (f + 1), HCO.out, HHH.out, by (have := HGG.out; omega), rfl, by omega⟩
                      · have hj2 : j < 2 := by
                          rcases Nat.lt_or_ge j 2 with h | h
                          · exact h
                          · exact absurd (HJ5.out (by omega)) hne
                        rw [eo] at ko
                        unfold OpenE logV log0 at ko
                        try dsimp only at ko
                        have HFF := Lib.hid hf6
                        have HJ2 := Lib.hid hj2
                        clear eo hf6 hne hj2
                        go_wp2_with fail
                        refine ko.mono ?_
                        rintro e w6 ⟨⟨va, lv, rfl, hda, hpa⟩, hb6⟩
                        clear ko C0 C1 C2 C3
                        obtain ⟨y1, z1, y2, z2, rfl, _, _⟩ := hda.parts
                        obtain ⟨ax, cx, rfl, _⟩ := LV.of (M := wc.heap.size) hpa (Nat.le_refl _)
                        have hc7 := HC6.out.below hb6
                        have hl7 := HL6.out.below hb6
                        obtain ⟨w9, x0, x1, x2, x3, hw9, ⟨C0, C1, C2, C3, Z⟩, ⟨N0, N1, N2, N3, Y⟩, HX9⟩ := pack_store ⟨0, 0, 0, 0⟩ hc7.d hc7.l hda hDL
                        have hw9 := hw9.out
                        try dsimp only at hw9
                        have HW9 := Lib.hid hw9
                        have HC8 := Lib.hid (hc7.stored hDw hLw HX9.out)
                        have HL8 := Lib.hid (hl7.keep HX9.out.2.2.2.1)
                        clear hw9 hc7 hl7 HX9 hda hpa hb6 HC6 HL6
                        go_upto_region 46 with (fail)
                        rw [← HW9.out]
                        clear C0 C1 C2 C3 Z N0 N1 N2 N3 Y
                        go_wp2_with fail
                        go_roundw
                        case rel => exact ⟨j + 1, d6, ⟨0, 0, 0, 0⟩, f + 1, by have := HJ2.out; omega, by go_num, rfl, HC8.out, HL8.out, by have := HFF.out; rwa [show 4 * (k : Int) + 2 + (j : Int) + 1 = 4 * (k : Int) + 2 + ((j + 1 : Nat) : Int) by omega] at this, by go_num, by omega⟩
                        case measure => simp [intOf]; omega
            case rest =>
              obtain ⟨dq, lq, Xq, fq, hcq, hhq, hgq, rfl, hfq⟩ := hcut
              have HCQ := Lib.hid hcq
              have HHQ := Lib.hid hhq
              have HGQ := Lib.hid hgq
              clear hcq hhq hgq HC4 HL4 HBOX4 hout
              obtain ⟨da, na, db, nb, TD, hv⟩ := id HCQ.out.d
              obtain ⟨C0, C1, C2, C3, _⟩ := Four.of TD
              clear TD
              obtain ⟨ea, hha⟩ := HoldsF.arm HHQ.out (f := -1) (Int.le_refl _) (by decide)
              have kc := refarm_any _ dq (-1) wc hv
              rw [ea] at kc
              clear hv
              go_wp2_with fail
              refine kc.mono ?_
              rintro e wT ⟨⟨va, rfl, hda⟩, hbT⟩
              clear kc C0 C1 C2 C3
              obtain ⟨y1, z1, y2, z2, rfl, _, _⟩ := hda.parts
              have hcT := (HCQ.out).below hbT
              obtain ⟨wU, x0, x1, x2, x3, hwU, ⟨C0, C1, C2, C3, Z⟩, HXU⟩ := pack_disk hcT.d hda
              have hwU := hwU.out
              try dsimp only at hwU
              have HWU := Lib.hid hwU
              have HFIN := Lib.hid (show WholeInv W D LL (k + 1) wU u7 (.int .i64 ((fq : Nat) : Int)) from ⟨_, lq, Xq, fq, hcT.storedD hDw hDL HXU.out, hha, rfl, by (have := HGQ.out; omega), rfl, by omega⟩)
              clear hwU hcT HXU hda hbT hha ea
              go_upto_region 13 with (fail)
              rw [← HWU.out]
              clear C0 C1 C2 C3 Z
              go_wp2_with fail
              go_roundw
              case rel => exact ⟨k + 1, by omega, by go_num, HFIN.out⟩
              case measure => simp [intOf]; omega
    · have k0 : decide ((k : Int) < (N : Int)) = false := by simp; omega
      obtain ⟨es, hh2⟩ := HoldsF.start HH.out 0
      obtain ⟨dS, hdS⟩ : ∃ x : DiskP, x = { d with fuse := -1 } := ⟨_, rfl⟩
      rw [← hdS] at es hh2
      have hfS : dS.fuse = -1 := by rw [hdS]
      have HHS := Lib.hid hh2
      have HFS := Lib.hid hfS
      clear hh2 hdS hfS HH HFU
      obtain ⟨da, na, db, nb, TD, hv⟩ := id HC.out.d
      obtain ⟨C0, C1, C2, C3, _⟩ := Four.of TD
      clear TD
      have kc := refstart_any _ d 0 wr hv (by decide) (by decide)
      rw [es] at kc
      clear hv es
      go_wp2_with fail
      refine kc.mono ?_
      rintro e w2 ⟨⟨va, rfl, hda⟩, hb2⟩
      clear kc C0 C1 C2 C3
      obtain ⟨y1, z1, y2, z2, rfl, _, _⟩ := hda.parts
      have hc2 := HC.out.below hb2
      obtain ⟨wS, x0, x1, x2, x3, hwS, ⟨C0, C1, C2, C3, Z⟩, HXS⟩ := pack_disk hc2.d hda
      have hwS := hwS.out
      try dsimp only at hwS
      have HWS := Lib.hid hwS
      have HC3 := Lib.hid (hc2.storedD hDw hDL HXS.out)
      clear hwS hc2 HXS hda hb2 HC
      go_upto_region 54 with (fail)
      rw [← HWS.out]
      clear C0 C1 C2 C3 Z
      have hup := (HoldsF.upK HHS.out HGE.out).opened (by omega) want want (.inl rfl)
      rcases hup with ⟨d6, l6, eo, hh6, hg6, hf6⟩ | ⟨_, _, hne, _⟩
      rotate_left
      · exact absurd HFS.out hne
      have hfu6 := hf6 HFS.out
      obtain ⟨da, na, db, nb, TD, hv⟩ := id HC3.out.d
      obtain ⟨C0, C1, C2, C3, _⟩ := Four.of TD
      clear TD
      have ko := open_any _ dS wS hv (HT.out.below HC3.out.b hT) (Nat.lt_of_lt_of_le hT HC3.out.b.size)
      rw [eo] at ko
      unfold OpenE logV at ko
      try dsimp only at ko
      have HH6 := Lib.hid hh6
      have HGG := Lib.hid hg6
      have HFU6 := Lib.hid hfu6
      clear hv eo hh6 hg6 hf6 hfu6
      go_wp2_with fail
      refine ko.mono ?_
      rintro e w4 ⟨⟨va, lv, rfl, hda, hpa⟩, hb4⟩
      clear ko C0 C1 C2 C3
      obtain ⟨y1, z1, y2, z2, rfl, _, _⟩ := hda.parts
      obtain ⟨ax, cx, rfl, hpx⟩ := LV.of (M := wS.heap.size) hpa (Nat.le_refl _)
      have hc4 := HC3.out.below hb4
      have hlva : LS D LL w4 (.slice ax want.length cx) want := ⟨ax, cx, rfl, hpx.weak (fun b hb => by have := HC3.out.d.lt; have := HC3.out.l.lt; omega)⟩
      obtain ⟨w5', gl, HWb, HGb, hL5, hb5', lt5, le5⟩ := fresh_log w4
      have hDg : D ≠ gl := by have := hc4.d.lt; omega
      obtain ⟨w6', x0, x1, x2, x3, hw6, ⟨C0, C1, C2, C3, Z⟩, ⟨N0, N1, N2, N3, Y⟩, HX6⟩ := pack_store l6 (hc4.d.below hb5') hL5 (hda.below hb5').tight hDg
      have hw6 := hw6.out
      try dsimp only at hw6
      have HW6 := Lib.hid hw6
      clear hw6
      go_wp2_with (with_reducible refine wp_alloc_to (w' := w5') 27 rfl rfl (zero_log _) HWb.out ?_; refine Halt.in ?_)
      refine Halt.out ?_
      rw [← HGb.out]
      go_upto_region 55 with (fail)
      rw [← HW6.out]
      clear C0 C1 C2 C3 Z N0 N1 N2 N3 Y hda hL5
      obtain ⟨hD6, _, hz6, hk6, hbb6⟩ := HX6.out
      have hb06 := hbb6 W.heap.size W (hc4.b.trans (hb5'.mono hc4.b.size)) hDw (Nat.le_trans hc4.b.size le5)
      have hkp : ∀ k, k ≠ D → k ≠ LL → k < w4.heap.size → w6'.heap[k]? = w4.heap[k]? := fun q h1 _ h3 => (hk6 q h1 (by omega)).trans (hb5'.block q h3)
      have hvw := hc4.v.keepB hkp
      have hva := hlva.keepB hkp
      clear hz6 hk6 hbb6 HX6 hkp hlva hc4 hpx hpa hb4 hb5' lt5 le5 hDg
      have hup := (HoldsF.upK HH6.out HGG.out).opened (by omega) want want (.inl rfl)
      rcases hup with ⟨d8, l8, eo, _, _, _⟩ | ⟨_, _, hne, _⟩
      rotate_left
      · exact absurd HFU6.out hne
      obtain ⟨da, na, db, nb, TD, hv⟩ := id hD6
      obtain ⟨C0, C1, C2, C3, _⟩ := Four.of TD
      clear TD
      have ko := open_any _ d6 w6' hv (HT.out.below hb06 hT) (Nat.lt_of_lt_of_le hT hb06.size)
      rw [eo] at ko
      unfold OpenE logV at ko
      try dsimp only at ko
      clear hv eo
      go_wp2_with fail
      refine ko.mono ?_
      rintro e w7' ⟨⟨va, lv, rfl, hda, hpa⟩, hb7'⟩
      clear ko C0 C1 C2 C3
      obtain ⟨y1, z1, y2, z2, rfl, _, _⟩ := hda.parts
      obtain ⟨bx, cy, rfl, hpx⟩ := LV.of (M := w6'.heap.size) hpa (Nat.le_refl _)
      have hDc := hD6.lt
      have hb07 := hb06.trans (hb7'.mono hb06.size)
      have hlvb : LS D D w7' (.slice bx want.length cy) want := ⟨bx, cy, rfl, hpx.weak (fun b hb => by constructor <;> omega)⟩
      obtain ⟨w8', ga, HWc, HGc, hA8, hb8', lt8, le8⟩ := fresh_disk w7'
      obtain ⟨w9', gb, HWd, HGd, hB9, hb9', lt9, le9⟩ := fresh_log w8'
      have hb79 := hb8'.trans (hb9'.mono hb8'.size)
      obtain ⟨wF, x0, x1, x2, x3, hwF, ⟨C0, C1, C2, C3, Z⟩, ⟨N0, N1, N2, N3, Y⟩, HXF⟩ := pack_store l8 (hA8.below hb9') hB9 (hda.below hb79).tight (show ga ≠ gb by omega)
      have hwF := hwF.out
      try dsimp only at hwF
      have HWF := Lib.hid hwF
      clear hwF
      go_wp2_with (with_reducible refine wp_alloc_to (w' := w8') 25 rfl rfl (zero_disk _) HWc.out ?_; refine Halt.in ?_)
      refine Halt.out ?_
      rw [← HGc.out]
      go_wp2_with (with_reducible refine wp_alloc_to (w' := w9') 27 rfl rfl (zero_log _) HWd.out ?_; refine Halt.in ?_)
      refine Halt.out ?_
      rw [← HGd.out]
      go_upto_region 56 with (fail)
      rw [← HWF.out]
      clear C0 C1 C2 C3 Z N0 N1 N2 N3 Y hda
      obtain ⟨_, _, _, hkF, hbbF⟩ := HXF.out
      have hb0F := hbbF W.heap.size W (hb07.trans (hb79.mono hb07.size)) (Nat.le_trans hb07.size le8) (Nat.le_trans hb07.size (Nat.le_trans hb8'.size le9))
      have hkp : ∀ k, k < w7'.heap.size → wF.heap[k]? = w7'.heap[k]? := fun q h3 => (hkF q (by omega) (by have := hb8'.size; omega)).trans (hb79.block q h3)
      have hvw := (hvw.below hb7').keepB (fun q _ _ h => hkp q h)
      have hva := (hva.below hb7').keepB (fun q _ _ h => hkp q h)
      have hvb := hlvb.keepB (fun q _ _ h => hkp q h)
      have HVW := Lib.hid hvw
      have HVB := Lib.hid hvb
      have k1 := same5_any (.slice ax want.length cx) (.slice wa want.length wk) want want wF hva.pieces hvw.pieces
      rw [decide_eq_true rfl] at k1
      clear hvw hva hvb hkp hkF hbbF HXF hb79 hb8' hb9' lt8 lt9 le8 le9 hb07 hb7' hlvb hpx hpa hA8 hB9 hD6 hDc hb06
      go_wp2_with fail
      refine k1.mono ?_
      rintro e w10 ⟨rfl, hb10⟩
      clear k1
      have k2 := same5_any (.slice bx want.length cy) (.slice wa want.length wk) want want w10 (HVB.out.below hb10).pieces (HVW.out.below hb10).pieces
      rw [decide_eq_true rfl] at k2
      go_wp2_with fail
      refine k2.mono ?_
      rintro e w11 ⟨rfl, hb11⟩
      clear k2
      go_wp2_with fail
      go_ret
      have hb0E := hb0F.trans (hb10.mono hb0F.size)
      exact ⟨rfl, hb0E.trans (hb11.mono hb0E.size)⟩
end Go.Proofs.YtaijompnohkmaaaDoor
