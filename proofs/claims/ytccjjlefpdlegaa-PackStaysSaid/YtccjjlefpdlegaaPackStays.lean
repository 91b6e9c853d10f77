/- PackStays: the law's own function. -/
import Derived.Test.YtccjjlefpdlegaaPackLaws
namespace Go.Proofs.Ytccjjlefpdlegaa
open Go.RowKit PackP
theorem num_stays (r : RS) (h : r.e ≠ 0) : r.num = (r, 0) := by
  unfold RS.num RS.take; rw [if_neg h]
theorem text_stays (r : RS) (h : r.e ≠ 0) : r.text = (r, []) := by
  unfold RS.text RS.take; rw [if_neg h]
theorem strB_nil : strB [] = { data := #[] } := rfl
set_option maxRecDepth 100000 in
set_option maxHeartbeats 2000000 in
theorem PackStays_walk (v l : Value) (bs hs : List UInt8) (W : World) (hv : Bytes W.heap.size W v bs) (hl : Bytes W.heap.size W l hs) :
    Calls Try.prog 5 #[v, l] W fun e w' => e = .returned (.bool true) ∧ Below W.heap.size W w' := by
  have HV := Lib.hid hv
  obtain ⟨_, a, cap, rfl, hnc, hcap, _⟩ := hv
  obtain ⟨_, a1, cap1, rfl, hnc1, hcap1, hcells1⟩ := hl
  unfold maxLen at hcap hcap1
  by_cases hg : bs.length ≤ 6000 ∧ hs.length ≤ 200
  · obtain ⟨g1, g2⟩ := hg
    have t1 : decide (6000 < (bs.length : Int)) = false := by simp; omega
    have t2 : decide (200 < (hs.length : Int)) = false := by simp; omega
    go_enter Try.func5, Try.ntmps5
    go_wp2_with fail
    refine (packAlive_any _).mono ?_
    rintro e w1 ⟨rfl, hb1⟩
    go_wp2_with fail
    refine (from_any _ _ bs w1 (HV.out.below hb1)).mono ?_
    rintro e w2 ⟨rfl, hr2, hb2⟩
    have hb12 := hb1.trans (hb2.mono hb1.size)
    have hgs : W.heap.size ≤ w1.heap.size := hb1.size
    obtain ⟨g, hg⟩ : ∃ g, g = w1.heap.size := ⟨_, rfl⟩
    rw [← hg] at hr2 hgs
    rw [← hg]
    clear t1 t2 hb1 hb2 hg
    go_wp2_with fail
    go_loopw [6, 7] (fun e i wr => ∃ (k : Nat) (r : RS), k ≤ hs.length ∧ i = .int .i64 k ∧ e = .int .i64 r.e ∧ RdAt 73 g g wr r ∧ Below W.heap.size W wr) (fun _ i _ => hs.length - (intOf i).toNat)
    case atStart => exact ⟨0, ⟨bs, 0⟩, Nat.zero_le _, rfl, rfl, hr2, hb12⟩
    case round =>
      obtain ⟨k, r, hk, rfl, rfl, hr, hb⟩ := hrel
      clear hb12 hr2
      by_cases hlt : k < hs.length
      · obtain ⟨b, off, rfl, hBb, hc⟩ := hcells1 (by omega)
        have hcell := (hb.cell (p := ⟨b, off + k, none⟩) hBb).trans (hc k _ (u8s_at hlt))
        obtain ⟨C, hC⟩ : ∃ C, C = hs[k] := ⟨_, rfl⟩
        rw [← hC] at hcell
        obtain ⟨E, hE⟩ : ∃ E, E = r.e := ⟨_, rfl⟩
        rw [← hE]
        clear hC hc hcells1
        by_cases hm : C.toNat % 2 = 0
        · have t0 : (((C.toNat : Int) % 2) == 0) = true := by rw [beq_iff_eq]; omega
          by_cases h0 : E = 0
          · subst h0
            clear hE hm
            have k1 := rnum_any _ _ _ _ hr
            clear hr
            go_wp2_with fail
            refine k1.mono ?_
            rintro e w3 ⟨rfl, hr3⟩
            clear k1
            go_wp2_with fail
            refine (rerr_any _ _ _ _ hr3.1).mono ?_
            rintro e w4 ⟨rfl, rfl⟩
            go_wp2_with fail
            go_roundw
            case rel => exact ⟨k + 1, _, by omega, by go_num, rfl, hr3.1, hb.trans (below_of_only hr3.2 hgs hb.size)⟩
            case measure => simp [intOf]; omega
          · have hne : r.e ≠ 0 := by rw [← hE]; exact h0
            have k1 := rnum_any _ _ _ _ hr
            rw [num_stays r hne] at k1
            have t3 : (E == 0) = false := by rw [beq_eq_false_iff_ne]; exact h0
            have t4 : (E != 0) = true := by rw [bne_iff_ne]; exact h0
            have HE := Lib.hid hE
            clear hE hm hne h0 hr
            go_wp2_with fail
            refine k1.mono ?_
            rintro e w3 ⟨rfl, hr3⟩
            have k2 := rerr_any _ _ _ _ hr3.1
            rw [← HE.out] at k2
            clear k1
            go_wp2_with fail
            refine k2.mono ?_
            rintro e w4 ⟨rfl, rfl⟩
            go_wp2_with fail
            refine k2.mono ?_
            rintro e w4 ⟨rfl, rfl⟩
            go_wp2_with fail
            go_roundw
            case rel => exact ⟨k + 1, _, by omega, by go_num, by rw [HE.out], hr3.1, hb.trans (below_of_only hr3.2 hgs hb.size)⟩
            case measure => simp [intOf]; omega
        · have t0 : (((C.toNat : Int) % 2) == 0) = false := by rw [beq_eq_false_iff_ne]; omega
          by_cases h0 : E = 0
          · subst h0
            clear hE hm
            have k1 := rtext_any _ _ _ _ hr
            clear hr
            go_wp2_with fail
            refine k1.mono ?_
            rintro e w3 ⟨rfl, hr3⟩
            clear k1
            go_wp2_with fail
            refine (rerr_any _ _ _ _ hr3.1).mono ?_
            rintro e w4 ⟨rfl, rfl⟩
            go_wp2_with fail
            go_roundw
            case rel => exact ⟨k + 1, _, by omega, by go_num, rfl, hr3.1, hb.trans (below_of_only hr3.2 hgs hb.size)⟩
            case measure => simp [intOf]; omega
          · have hne : r.e ≠ 0 := by rw [← hE]; exact h0
            have k1 := rtext_any _ _ _ _ hr
            rw [text_stays r hne, strB_nil] at k1
            have t3 : (E == 0) = false := by rw [beq_eq_false_iff_ne]; exact h0
            have t4 : (E != 0) = true := by rw [bne_iff_ne]; exact h0
            have HE := Lib.hid hE
            clear hE hm hne h0 hr
            go_wp2_with fail
            refine k1.mono ?_
            rintro e w3 ⟨rfl, hr3⟩
            have k2 := rerr_any _ _ _ _ hr3.1
            rw [← HE.out] at k2
            clear k1
            go_wp2_with fail
            refine k2.mono ?_
            rintro e w4 ⟨rfl, rfl⟩
            go_wp2_with fail
            refine k2.mono ?_
            rintro e w4 ⟨rfl, rfl⟩
            go_wp2_with fail
            go_roundw
            case rel => exact ⟨k + 1, _, by omega, by go_num, by rw [HE.out], hr3.1, hb.trans (below_of_only hr3.2 hgs hb.size)⟩
            case measure => simp [intOf]; omega
      · have hke : k = hs.length := by omega
        subst hke
        clear hcells1
        have k1 := rfail_any _ _ _ _ true hr
        obtain ⟨E, hE⟩ : ∃ E, E = r.e := ⟨_, rfl⟩
        rw [← hE]
        by_cases h0 : E = 0
        · have hf : r.fail true 3 = { r with e := 3 } := by simp [RS.fail, ← hE, h0]
          rw [hf] at k1
          subst h0
          clear hE hf hr
          go_wp2_with fail
          refine k1.mono ?_
          rintro e w3 ⟨rfl, hr3⟩
          have k2 := rerr_any _ _ _ _ hr3.1
          clear k1
          go_wp2_with fail
          refine k2.mono ?_
          rintro e w4 ⟨rfl, rfl⟩
          go_wp2_with fail
          go_ret
          exact ⟨rfl, hb.trans (below_of_only hr3.2 hgs hb.size)⟩
        · have hne : r.e ≠ 0 := by rw [← hE]; exact h0
          have hf : r.fail true 3 = r := by simp [RS.fail, hne]
          have hd : r.doneE = r.e := by unfold RS.doneE; rw [if_neg (fun h => hne h.1)]
          have t3 : (E == 0) = false := by rw [beq_eq_false_iff_ne]; exact h0
          have t4 : (E != 0) = true := by rw [bne_iff_ne]; exact h0
          rw [hf] at k1
          have HE := Lib.hid hE
          have HD := Lib.hid hd
          clear hE hf hr h0 hne hd
          go_wp2_with fail
          refine k1.mono ?_
          rintro e w3 ⟨rfl, hr3⟩
          have k2 := rerr_any _ _ _ _ hr3.1
          rw [← HE.out] at k2
          clear k1
          go_wp2_with fail
          refine k2.mono ?_
          rintro e w4 ⟨rfl, rfl⟩
          have k3 := rdone_any _ _ _ _ hr3.1
          rw [HD.out, ← HE.out] at k3
          clear k2
          go_wp2_with fail
          refine k3.mono ?_
          rintro e w5 ⟨rfl, hr5⟩
          go_wp2_with fail
          go_ret
          exact ⟨rfl, hb.trans (below_of_only (only_trans hr3.2 hr5.2) hgs hb.size)⟩
  · have h3 : (6000 < bs.length) ∨ (bs.length ≤ 6000 ∧ 200 < hs.length) := by omega
    clear hcells1 hg
    rcases h3 with h | ⟨h0, h⟩
    · have t1 : decide (6000 < (bs.length : Int)) = true := by simp; omega
      go_enter Try.func5, Try.ntmps5
      go_wp2_with fail
      refine (packAlive_any _).mono ?_
      rintro e w1 ⟨rfl, hb1⟩
      go_wp2_with fail
      go_ret
      exact ⟨rfl, hb1⟩
    · have t1 : decide (6000 < (bs.length : Int)) = false := by simp; omega
      have t2 : decide (200 < (hs.length : Int)) = true := by simp; omega
      go_enter Try.func5, Try.ntmps5
      go_wp2_with fail
      refine (packAlive_any _).mono ?_
      rintro e w1 ⟨rfl, hb1⟩
      go_wp2_with fail
      go_ret
      exact ⟨rfl, hb1⟩
end Go.Proofs.Ytccjjlefpdlegaa
