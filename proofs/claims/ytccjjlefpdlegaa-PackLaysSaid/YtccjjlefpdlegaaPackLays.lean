/- PackLays: the law's own function. -/
import Derived.Test.YtccjjlefpdlegaaPackLaws
namespace Go.Proofs.Ytccjjlefpdlegaa
open Go.RowKit PackP
set_option maxRecDepth 100000 in
set_option maxHeartbeats 2000000 in
theorem PackLays_walk (v l t : Value) (bs : List UInt8) (zs : List Int) (ss : List ByteArray) (W : World) (hv : Bytes W.heap.size W v bs) (hl : Ints W.heap.size W l zs) (ht : Strs W.heap.size W t ss) (hss : ∀ s ∈ ss, s.size ≤ reachBytes) :
    Calls Try.prog 3 #[v, l, t] W fun e w' => e = .returned (.bool true) ∧ Below W.heap.size W w' := by
  have HV := Lib.hid hv
  have HL := Lib.hid hl
  have HT := Lib.hid ht
  obtain ⟨_, a, cap, rfl, hnc, hcap, _⟩ := hv
  obtain ⟨_, a1, cap1, rfl, hnc1, hcap1, hcells1⟩ := hl
  obtain ⟨_, a2, cap2, rfl, hnc2, hcap2, hcells2⟩ := ht
  unfold maxLen at hcap hcap1 hcap2
  by_cases hg : bs.length ≤ 3000 ∧ zs.length ≤ 100 ∧ ss.length ≤ 20
  · obtain ⟨g1, g2, g3⟩ := hg
    have t1 : decide (3000 < (bs.length : Int)) = false := by simp; omega
    have t2 : decide (100 < (zs.length : Int)) = false := by simp; omega
    have t3 : decide (20 < (ss.length : Int)) = false := by simp; omega
    go_enter Try.func3, Try.ntmps3
    go_wp2_with fail
    refine (packAlive_any _).mono ?_
    rintro e w1 ⟨rfl, hb1⟩
    go_wp2_with fail
    clear t1 t2 t3
    go_loopw [7, 9] (fun s i wr => ∃ k : Nat, k ≤ zs.length ∧ i = .int .i64 k ∧ Bytes wr.heap.size wr s (bs ++ numsB (zs.take k)) ∧ Below W.heap.size W wr) (fun _ i _ => zs.length - (intOf i).toNat)
    case atStart => exact ⟨0, Nat.zero_le _, rfl, by simpa [numsB] using (HV.out.below hb1).tight, hb1⟩
    case round =>
      obtain ⟨k, hk, rfl, hx, hb⟩ := hrel
      clear hb1
      by_cases hlt : k < zs.length
      · obtain ⟨b, off, rfl, hBb, hc⟩ := hcells1 (by omega)
        have hcell := (hb.cell (p := ⟨b, off + k, none⟩) hBb).trans (hc k (.int .i64 zs[k]) (by simp [hlt]))
        have hl1 : (bs ++ numsB (zs.take k)).length + 8 ≤ 2 ^ 46 := by
          rw [List.length_append, length_numsB, List.length_take]; omega
        have HN := Lib.hid (numsB_succ zs k hlt)
        clear hc hcells1 hcells2
        go_wp2_with fail
        refine (refNum_any _ _ _ _ _ hx hl1).mono ?_
        rintro e w2 ⟨v2, rfl, ho2, hb2⟩
        go_wp2_with fail
        go_roundw
        case rel => exact ⟨k + 1, by omega, by go_num, by rw [HN.out, ← List.append_assoc]; exact ho2.bytes, hb.trans (hb2.mono hb.size)⟩
        case measure => simp [intOf]; omega
      · have hke : k = zs.length := by omega
        subst hke
        rw [List.take_length] at hx
        clear hcells1
        go_wp2_with fail
        obtain ⟨wo, hwo⟩ : ∃ wo : World, wo = wr := ⟨_, rfl⟩
        rw [← hwo] at hx hb ⊢
        clear hwo
        go_loopw [8, 10] (fun s i wr => ∃ k : Nat, k ≤ ss.length ∧ i = .int .i64 k ∧ Bytes wr.heap.size wr s (bs ++ textsB (ss.take k)) ∧ Below wo.heap.size wo wr) (fun _ i _ => ss.length - (intOf i).toNat)
        case atStart => exact ⟨0, Nat.zero_le _, rfl, by simpa [textsB] using (HV.out.below hb).tight, Below.refl _ _⟩
        case round =>
          obtain ⟨k, hk, rfl, hy, hb2⟩ := hrel
          by_cases hlt : k < ss.length
          · obtain ⟨b, off, rfl, hBb, hc⟩ := hcells2 (by omega)
            have hbb := hb.trans (hb2.mono hb.size)
            have hcell := (hbb.cell (p := ⟨b, off + k, none⟩) hBb).trans (hc k (.string ss[k]) (by simp [hlt]))
            have hl1 : (bs ++ textsB (ss.take k)).length + 4100 ≤ 2 ^ 46 := by
              have := length_textsB (ss.take k)
              rw [List.length_take] at this
              rw [List.length_append]; omega
            have HN := Lib.hid (textsB_succ ss k hlt)
            have hsz : ss[k].size ≤ 2 ^ 47 := by have := hss ss[k] (List.getElem_mem hlt); unfold reachBytes at this; omega
            clear hc hcells2
            go_wp2_with fail
            refine (refText_any _ _ _ _ _ hy hl1 hsz).mono ?_
            rintro e w3 ⟨v3, rfl, ho3, hb3⟩
            go_wp2_with fail
            go_roundw
            case rel => exact ⟨k + 1, by omega, by go_num, by rw [HN.out, ← List.append_assoc]; exact ho3.bytes, hb2.trans (hb3.mono hb2.size)⟩
            case measure => simp [intOf]; omega
          · have hke : k = ss.length := by omega
            subst hke
            rw [List.take_length] at hy
            have hbb := hb.trans (hb2.mono hb.size)
            clear hcells2
            go_wp2_with fail
            refine (num_any _ _ bs zs _ (HV.out.below hbb) (HL.out.below hbb) (by omega)).mono ?_
            rintro e w4 ⟨v4, rfl, ho4, hb4⟩
            go_wp2_with fail
            refine (same_any _ _ _ _ _ _ _ ho4.bytes ((hx.below hb2).tight.below hb4)).mono ?_
            rintro e w5 ⟨rfl, rfl⟩
            have hbc := hbb.trans (hb4.mono hbb.size)
            have d1 : decide (bs ++ numsB zs = bs ++ numsB zs) = true := by simp
            go_wp2_with fail
            refine (text_any _ _ bs ss _ (HV.out.below hbc) (HT.out.below hbc) (by omega) hss).mono ?_
            rintro e w6 ⟨v6, rfl, ho6, hb6⟩
            go_wp2_with fail
            refine (same_any _ _ _ _ _ _ _ ho6.bytes ((hy.below hb4).tight.below hb6)).mono ?_
            rintro e w7 ⟨rfl, rfl⟩
            go_wp2_with fail
            go_ret
            exact ⟨ret_bool (by simp), hbc.trans (hb6.mono hbc.size)⟩
  · have h3 : (3000 < bs.length) ∨ (bs.length ≤ 3000 ∧ 100 < zs.length) ∨ (bs.length ≤ 3000 ∧ zs.length ≤ 100 ∧ 20 < ss.length) := by omega
    clear hcells1 hcells2 hg
    rcases h3 with h | ⟨h0, h⟩ | ⟨h0, h1, h⟩
    · have t1 : decide (3000 < (bs.length : Int)) = true := by simp; omega
      go_enter Try.func3, Try.ntmps3
      go_wp2_with fail
      refine (packAlive_any _).mono ?_
      rintro e w1 ⟨rfl, hb1⟩
      go_wp2_with fail
      go_ret
      exact ⟨rfl, hb1⟩
    · have t1 : decide (3000 < (bs.length : Int)) = false := by simp; omega
      have t2 : decide (100 < (zs.length : Int)) = true := by simp; omega
      go_enter Try.func3, Try.ntmps3
      go_wp2_with fail
      refine (packAlive_any _).mono ?_
      rintro e w1 ⟨rfl, hb1⟩
      go_wp2_with fail
      go_ret
      exact ⟨rfl, hb1⟩
    · have t1 : decide (3000 < (bs.length : Int)) = false := by simp; omega
      have t2 : decide (100 < (zs.length : Int)) = false := by simp; omega
      have t3 : decide (20 < (ss.length : Int)) = true := by simp; omega
      go_enter Try.func3, Try.ntmps3
      go_wp2_with fail
      refine (packAlive_any _).mono ?_
      rintro e w1 ⟨rfl, hb1⟩
      go_wp2_with fail
      go_ret
      exact ⟨rfl, hb1⟩
end Go.Proofs.Ytccjjlefpdlegaa
