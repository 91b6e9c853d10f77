/- PackReads: the law's own function. -/
import Derived.Test.YtccjjlefpdlegaaPackLaws
import Derived.Deep.QuietTactic
import Derived.BigQuiet
import Derived.Deep.RegionHeld3
namespace Go.Proofs.Ytccjjlefpdlegaa
open Go.RowKit PackP
theorem rerr_quiet (B g : Nat) (w : World) (r : RS) (n : Nat) (h : RdAt 73 B g w r) :
    Calls Try.prog 21 #[.pointer (some ⟨g, 0, none⟩)] (w.drewN n) fun e w'' => e = .returned (.int .i64 r.e) ∧ ∃ m, w'' = w.drewN m :=
  (rerr_any B g (w.drewN n) r h).mono fun _ _ ⟨he, hm⟩ => ⟨he, n, hm.symm⟩
/-- Two readers, one of the code's and one of the reference's, that stand alike. -/
def Both (B g h : Nat) (w : World) (r : RS) : Prop := RdAt 73 B g w r ∧ RdAt 65 B h w r ∧ g ≠ h
theorem Both.drew {B g h : Nat} {w : World} {r : RS} (hb : Both B g h w r) (n : Nat) : Both B g h (w.drewN n) r := hb
theorem ne_of_types {B g h : Nat} {w : World} {r s : RS} (h1 : RdAt 73 B g w r) (h2 : RdAt 65 B h w s) : g ≠ h := by
  rintro rfl
  obtain ⟨_, h1, _⟩ := h1
  obtain ⟨_, h2, _⟩ := h2
  rw [h1] at h2
  injection h2 with h2
  injection h2 with _ h2
  exact absurd h2 (by decide)
theorem undrew {w w' : World} {row : Option Nat} (h : w.drew.grownBy w' row) : w.grownBy w' row := ⟨h.os, h.tape, h.output, h.size, h.block⟩
set_option maxRecDepth 100000 in
set_option maxHeartbeats 4000000 in
theorem PackReads_walk (v l : Value) (bs hs : List UInt8) (W : World) (hv : Bytes W.heap.size W v bs) (hl : Bytes W.heap.size W l hs) :
    Calls Try.prog 9 #[v, l] W fun e w' => e = .returned (.bool true) ∧ Below W.heap.size W w' := by
  have HV := Lib.hid hv
  obtain ⟨_, a, cap, rfl, hnc, hcap, _⟩ := hv
  obtain ⟨_, a1, cap1, rfl, hnc1, hcap1, hcells1⟩ := hl
  unfold maxLen at hcap hcap1
  by_cases hg : bs.length ≤ 6000 ∧ hs.length ≤ 200
  · obtain ⟨g1, g2⟩ := hg
    have t1 : decide (6000 < (bs.length : Int)) = false := by simp; omega
    have t2 : decide (200 < (hs.length : Int)) = false := by simp; omega
    go_enter Try.func9, Try.ntmps9
    go_wp2_with fail
    refine (packAlive_any _).mono ?_
    rintro e w1 ⟨rfl, hb1⟩
    go_wp2_with fail
    refine (from_at _ 0 _ bs w1 (HV.out.below hb1) hb1.size).mono ?_
    rintro e w2 ⟨rfl, hr2, hb2⟩
    have hb12 := hb1.trans (hb2.mono hb1.size)
    have hgs : W.heap.size ≤ w1.heap.size := hb1.size
    obtain ⟨g, hg⟩ : ∃ g, g = w1.heap.size := ⟨_, rfl⟩
    rw [← hg] at hr2 hgs
    rw [← hg]
    clear t1 t2 hb1 hb2 hg
    go_wp2_with fail
    obtain ⟨w3, hw3⟩ : ∃ w3, w3 = w2.alloc (.cells #[.slice a bs.length cap, .int .i64 0] 65) := ⟨_, rfl⟩
    have hb23 : Below w2.heap.size w2 w3 := by rw [hw3]; exact Below.alloc (Below.refl _ _) (Nat.le_refl _) _
    have hb3 := hb12.trans (hb23.mono hb12.size)
    have hs3 : RdAt 65 W.heap.size w2.heap.size w3 ⟨bs, 0⟩ := ⟨_, by rw [hw3]; exact heap_alloc_new w2 _, HV.out.below hb3, hb12.size⟩
    have hr3 : RdAt 73 W.heap.size g w3 ⟨bs, 0⟩ := by
      obtain ⟨v0, h1, h2, h3⟩ := hr2
      exact ⟨v0, (hb23.block g (block_lt h1)).trans h1, h2.below (hb23.mono hb12.size), h3⟩
    rw [← hw3]
    obtain ⟨h, hh⟩ : ∃ h, h = w2.heap.size := ⟨_, rfl⟩
    have hhs : W.heap.size ≤ h := by rw [hh]; exact hb12.size
    rw [← hh] at hs3 ⊢
    have hgh := ne_of_types hr3 hs3
    clear hw3 hb12 hb23 hh hr2
    go_loopw [7] (fun i wr => ∃ (k : Nat) (r : RS), k ≤ hs.length ∧ i = .int .i64 k ∧ RdAt 73 W.heap.size g wr r ∧ RdAt 65 W.heap.size h wr r ∧ Below W.heap.size W wr) (fun i _ => hs.length - (intOf i).toNat)
    case atStart => exact ⟨0, ⟨bs, 0⟩, Nat.zero_le _, rfl, hr3, hs3, hb3⟩
    case round =>
      obtain ⟨k, r, hk, rfl, hr, hs', hb⟩ := hrel
      clear hb3 hr3 hs3
      by_cases hlt : k < hs.length
      · obtain ⟨b, off, rfl, hBb, hc⟩ := hcells1 (by omega)
        have hcell := (hb.cell (p := ⟨b, off + k, none⟩) hBb).trans (hc k _ (u8s_at hlt))
        obtain ⟨C, hC⟩ : ∃ C, C = hs[k] := ⟨_, rfl⟩
        rw [← hC] at hcell
        clear hC hc hcells1
        have hcase : C.toNat % 4 = 0 ∨ C.toNat % 4 = 1 ∨ C.toNat % 4 = 2 ∨ C.toNat % 4 = 3 := by omega
        rcases hcase with hm | hm | hm | hm
        · have t0 : (((C.toNat : Int) % 4) == 0) = true := by rw [beq_iff_eq]; omega
          have k1 := rnum_any _ _ _ _ hr
          clear hr hm
          go_wp2_with fail
          refine k1.mono ?_
          rintro e w5 ⟨rfl, hr5⟩
          have hs5 := hs'.far hr5.2 (fun k e => by injection e with e; subst e; exact ⟨hgs, hgh⟩)
          have hb5 := hb.trans (below_of_only hr5.2 hgs hb.size)
          have hcell5 := (below_of_only hr5.2 hgs hb.size).cell (p := ⟨b, off + k, none⟩) hBb
          rw [hcell] at hcell5
          have k2 := refRNum_any _ _ _ _ hs5
          clear k1 hs'
          go_wp2_with fail
          refine k2.mono ?_
          rintro e w6 ⟨rfl, hs6⟩
          have hr6 := hr5.1.far hs6.2 (fun k e => by injection e with e; subst e; exact ⟨hhs, fun h => hgh h.symm⟩)
          have hb6 := hb5.trans (below_of_only hs6.2 hhs hb5.size)
          clear k2 hr5 hs5 hb5
          go_wp2_with fail
          obtain ⟨R, hR⟩ : ∃ R, R = r.num.1 := ⟨_, rfl⟩
          rw [← hR] at hr6 hs6
          clear hR
          obtain ⟨vs, _, _, _, _, hcs, _, _⟩ := hs6.1.parts
          have q1 := fun n => rerr_quiet _ _ _ _ n hr6
          obtain ⟨E, hE⟩ : ∃ E, E = R.e := ⟨_, rfl⟩
          rw [← hE] at hcs q1
          clear hE
          go_quiet ((go_at_call 21; exact q1 _))
          go_wp2_with fail
          go_roundw
          case rel => exact ⟨k + 1, R, by omega, by go_num, hr6, hs6.1, below_draws hb6 _⟩
          case measure => simp [intOf]; omega
        · have t0 : (((C.toNat : Int) % 4) == 0) = false := by rw [beq_eq_false_iff_ne]; omega
          have t1 : (((C.toNat : Int) % 4) == 1) = true := by rw [beq_iff_eq]; omega
          have k1 := rtext_any _ _ _ _ hr
          clear hr hm
          go_wp2_with fail
          refine k1.mono ?_
          rintro e w5 ⟨rfl, hr5⟩
          have hs5 := hs'.far hr5.2 (fun k e => by injection e with e; subst e; exact ⟨hgs, hgh⟩)
          have hb5 := hb.trans (below_of_only hr5.2 hgs hb.size)
          have hcell5 := (below_of_only hr5.2 hgs hb.size).cell (p := ⟨b, off + k, none⟩) hBb
          rw [hcell] at hcell5
          have k2 := refRText_any _ _ _ _ hs5
          clear k1 hs'
          go_wp2_with fail
          refine k2.mono ?_
          rintro e w6 ⟨rfl, hs6⟩
          have hr6 := hr5.1.far hs6.2 (fun k e => by injection e with e; subst e; exact ⟨hhs, fun h => hgh h.symm⟩)
          have hb6 := hb5.trans (below_of_only hs6.2 hhs hb5.size)
          clear k2 hr5 hs5 hb5
          go_wp2_with fail
          obtain ⟨R, hR⟩ : ∃ R, R = r.text.1 := ⟨_, rfl⟩
          rw [← hR] at hr6 hs6
          clear hR
          obtain ⟨vs, _, _, _, _, hcs, _, _⟩ := hs6.1.parts
          have q1 := fun n => rerr_quiet _ _ _ _ n hr6
          obtain ⟨E, hE⟩ : ∃ E, E = R.e := ⟨_, rfl⟩
          rw [← hE] at hcs q1
          clear hE
          go_quiet ((go_at_call 21; exact q1 _))
          go_wp2_with fail
          go_roundw
          case rel => exact ⟨k + 1, R, by omega, by go_num, hr6, hs6.1, below_draws hb6 _⟩
          case measure => simp [intOf]; omega
        · have t0 : (((C.toNat : Int) % 4) == 0) = false := by rw [beq_eq_false_iff_ne]; omega
          have t1 : (((C.toNat : Int) % 4) == 1) = false := by rw [beq_eq_false_iff_ne]; omega
          have t2 : (((C.toNat : Int) % 4) == 2) = true := by rw [beq_iff_eq]; omega
          clear hm
          go_wp2_with fail
          have F1 := Lib.hid (fun (w5 : World) (hg5 : wr.drew.grownBy w5 (some g)) => (hs'.far (undrew hg5) (fun k e => by injection e with e; subst e; exact ⟨hgs, hgh⟩) : RdAt 65 W.heap.size h w5 r))
          have F2 := Lib.hid (fun (w5 : World) (hg5 : wr.drew.grownBy w5 (some g)) => hb.trans (below_of_only (undrew hg5) hgs hb.size))
          have F3 := Lib.hid (fun (w5 : World) (hg5 : wr.drew.grownBy w5 (some g)) => ((below_of_only (undrew hg5) hgs hb.size).cell (p := ⟨b, off + k, none⟩) hBb).trans hcell)
          have G1 := Lib.hid (fun (w5 w6 : World) (R : RS) (hR : RdAt 73 W.heap.size g w5 R) (hg6 : w5.grownBy w6 (some h)) => (hR.far hg6 (fun k e => by injection e with e; subst e; exact ⟨hhs, fun h => hgh h.symm⟩) : RdAt 73 W.heap.size g w6 R))
          have G2 := Lib.hid (fun (w5 w6 : World) (hb5 : Below W.heap.size W w5) (hg6 : w5.grownBy w6 (some h)) => hb5.trans (below_of_only hg6 hhs hb5.size))
          have G3 := Lib.hid (fun (w5 w6 : World) (hb5 : Below W.heap.size W w5) (hc5 : w5.cell? ⟨b, off + k, none⟩ = some (.int .u8 (C.toNat : Int))) (hg6 : w5.grownBy w6 (some h)) => ((below_of_only hg6 hhs hb5.size).cell (p := ⟨b, off + k, none⟩) hBb).trans hc5)
          have hrd : RdAt 73 W.heap.size g wr.drew r := hr
          clear hr
          go_region_with (first
            | (go_at_call 36; refine (rcount_any W.heap.size g _ r _ hrd).mono ?_; rintro e w5 ⟨rfl, hr5⟩; have hs5 := F1.out w5 hr5.2; have hb5 := F2.out w5 hr5.2; have hcell5 := F3.out w5 hr5.2)
            | (go_at_call 37; refine (refRCount_any W.heap.size h _ r _ hs5).mono ?_; rintro e w6 ⟨rfl, hs6⟩; have hr6 := G1.out w5 w6 _ hr5.1 hs6.2; have hb6 := G2.out w5 w6 hb5 hs6.2; have hcell6 := G3.out w5 w6 hb5 hcell5 hs6.2))
          all_goals
            clear F1 F2 F3 G1 G2 G3 hrd hs5 hb5 hcell5 hr5
            go_wp2_with fail
            obtain ⟨R, hR⟩ : ∃ R, R = (r.count (IntKind.i64.wrap (C.toNat : Int))).1 := ⟨_, rfl⟩
            rw [← hR] at hr6 hs6
            clear hR
            obtain ⟨vs, _, _, _, _, hcs, _, _⟩ := hs6.1.parts
            have q1 := fun n => rerr_quiet _ _ _ _ n hr6
            obtain ⟨E, hE⟩ : ∃ E, E = R.e := ⟨_, rfl⟩
            rw [← hE] at hcs q1
            clear hE
            go_quiet ((go_at_call 21; exact q1 _))
            go_wp2_with fail
            go_roundw
            case rel => exact ⟨k + 1, R, by omega, by go_num, hr6, hs6.1, below_draws hb6 _⟩
            case measure => simp [intOf]; omega
        · have t0 : (((C.toNat : Int) % 4) == 0) = false := by rw [beq_eq_false_iff_ne]; omega
          have t1 : (((C.toNat : Int) % 4) == 1) = false := by rw [beq_eq_false_iff_ne]; omega
          have t2 : (((C.toNat : Int) % 4) == 2) = false := by rw [beq_eq_false_iff_ne]; omega
          have k1 := rfail_any _ _ _ _ (decide (200 < (C.toNat : Int))) hr
          clear hr hm
          go_wp2_with fail
          refine k1.mono ?_
          rintro e w5 ⟨rfl, hr5⟩
          have hs5 := hs'.far hr5.2 (fun k e => by injection e with e; subst e; exact ⟨hgs, hgh⟩)
          have hb5 := hb.trans (below_of_only hr5.2 hgs hb.size)
          have hcell5 := (below_of_only hr5.2 hgs hb.size).cell (p := ⟨b, off + k, none⟩) hBb
          rw [hcell] at hcell5
          have k2 := refRFail_any _ _ _ _ (decide (200 < (C.toNat : Int))) hs5
          clear k1 hs'
          go_wp2_with fail
          refine k2.mono ?_
          rintro e w6 ⟨rfl, hs6⟩
          have hr6 := hr5.1.far hs6.2 (fun k e => by injection e with e; subst e; exact ⟨hhs, fun h => hgh h.symm⟩)
          have hb6 := hb5.trans (below_of_only hs6.2 hhs hb5.size)
          clear k2 hr5 hs5 hb5
          go_wp2_with fail
          obtain ⟨R, hR⟩ : ∃ R, R = r.fail (decide (200 < (C.toNat : Int))) 3 := ⟨_, rfl⟩
          rw [← hR] at hr6 hs6
          clear hR
          obtain ⟨vs, _, _, _, _, hcs, _, _⟩ := hs6.1.parts
          have q1 := fun n => rerr_quiet _ _ _ _ n hr6
          obtain ⟨E, hE⟩ : ∃ E, E = R.e := ⟨_, rfl⟩
          rw [← hE] at hcs q1
          clear hE
          go_quiet ((go_at_call 21; exact q1 _))
          go_wp2_with fail
          go_roundw
          case rel => exact ⟨k + 1, R, by omega, by go_num, hr6, hs6.1, below_draws hb6 _⟩
          case measure => simp [intOf]; omega
      · have hke : k = hs.length := by omega
        subst hke
        clear hcells1
        have k1 := rdone_any _ _ _ _ hr
        obtain ⟨D, hD⟩ : ∃ D, D = r.doneE := ⟨_, rfl⟩
        rw [← hD] at k1
        have HD := Lib.hid hD
        clear hr hD
        go_wp2_with fail
        refine k1.mono ?_
        rintro e w5 ⟨rfl, hr5⟩
        have hs5 := hs'.far hr5.2 (fun k e => by injection e with e; subst e; exact ⟨hgs, hgh⟩)
        have hb5 := hb.trans (below_of_only hr5.2 hgs hb.size)
        have k2 := refRDone_any _ _ _ _ hs5
        rw [← HD.out] at k2
        clear k1 hs' hr5
        go_wp2_with fail
        refine k2.mono ?_
        rintro e w6 ⟨rfl, rfl⟩
        go_wp2_with fail
        go_ret
        exact ⟨ret_bool (by simp), hb5⟩
  · have h3 : (6000 < bs.length) ∨ (bs.length ≤ 6000 ∧ 200 < hs.length) := by omega
    clear hcells1 hg
    rcases h3 with h | ⟨h0, h⟩
    · have t1 : decide (6000 < (bs.length : Int)) = true := by simp; omega
      go_enter Try.func9, Try.ntmps9
      go_wp2_with fail
      refine (packAlive_any _).mono ?_
      rintro e w1 ⟨rfl, hb1⟩
      go_wp2_with fail
      go_ret
      exact ⟨rfl, hb1⟩
    · have t1 : decide (6000 < (bs.length : Int)) = false := by simp; omega
      have t2 : decide (200 < (hs.length : Int)) = true := by simp; omega
      go_enter Try.func9, Try.ntmps9
      go_wp2_with fail
      refine (packAlive_any _).mono ?_
      rintro e w1 ⟨rfl, hb1⟩
      go_wp2_with fail
      go_ret
      exact ⟨rfl, hb1⟩
end Go.Proofs.Ytccjjlefpdlegaa
