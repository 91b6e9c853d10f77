/- PackBack: the law's own function. -/
import Derived.Test.YtccjjlefpdlegaaPackLaws
import Derived.Deep.QuietTactic
import Derived.BigQuiet
namespace Go.Proofs.Ytccjjlefpdlegaa
open Go.RowKit PackP
theorem clamp_clamp (z : Int) : clamp (clamp z : Int) = clamp z := by
  unfold clamp; (repeat' split) <;> omega
theorem numB_clamp (z : Int) : numB (clamp z : Int) = numB z := by unfold numB; rw [clamp_clamp]
theorem num_back (z : Int) (rest : List UInt8) : (RS.mk (numB z ++ rest) 0).num = (RS.mk rest 0, (clamp z : Int)) := by
  have hc := clamp_le z
  have hl := length_numB z
  have ht : (RS.mk (numB z ++ rest) 0).take 8 = (RS.mk rest 0, some (numB z)) := by
    unfold RS.take
    rw [if_pos rfl, if_neg (by simp [hl])]
    simp [← hl]
  have hn : numOf (numB z) = clamp z := numOf_be 8 _ (by omega)
  unfold RS.num
  rw [ht]
  simp only
  rw [hn, if_neg (by omega)]
theorem text_back (s rest : List UInt8) : (RS.mk (textB s ++ rest) 0).text = (RS.mk rest 0, cutT s) := by
  have hc := cutT_len s
  have hl := length_be 4 (cutT s).length
  have ht : (RS.mk (textB s ++ rest) 0).take 4 = (RS.mk (cutT s ++ rest) 0, some (be 4 (cutT s).length)) := by
    unfold RS.take textB
    rw [if_pos rfl, if_neg (by simp [hl])]
    have h4 : ∀ x y : List UInt8, x.length = 4 → (x ++ y).take 4 = x ∧ (x ++ y).drop 4 = y := by
      intro x y h; rw [← h]; simp
    rw [List.append_assoc, (h4 _ _ hl).1, (h4 _ _ hl).2]
  have ht2 : (RS.mk (cutT s ++ rest) 0).take (cutT s).length = (RS.mk rest 0, some (cutT s)) := by
    unfold RS.take
    rw [if_pos rfl, if_neg (by simp)]
    simp
  have hn : numOf (be 4 (cutT s).length) = (cutT s).length := numOf_be 4 _ (by omega)
  unfold RS.text
  rw [ht]
  simp only
  rw [hn, if_neg (by omega), ht2]
theorem cutT_cutT (s : List UInt8) : cutT (cutT s) = cutT s := by unfold cutT; rw [List.take_take]; simp
theorem textB_cutT (s : List UInt8) : textB (cutT s) = textB s := by unfold textB; rw [cutT_cutT]
theorem OwnB.far {B g : Nat} {w w' : World} {v : Value} {bs : List UInt8} (h : OwnB B w v bs) (hg : w.grownBy w' (some g)) (hB : g < B) : OwnB B w' v bs := by
  obtain ⟨h1, a, cap, rfl, h2, h3, h4⟩ := h
  refine ⟨h1, a, cap, rfl, h2, h3, ?_⟩
  rcases h4 with h4 | ⟨b, cur, rfl, hb, hh, r⟩
  · exact .inl h4
  · exact .inr ⟨b, cur, rfl, hb, (hg.block b (block_lt hh) (fun e => by injection e; omega)).trans hh, r⟩
theorem RdAt.keep {T : TypeId} {B B' g : Nat} {w w' : World} {r : RS} (h : RdAt T B g w r) (hb : Below B' w w') (hg : g < B') : RdAt T B g w' r := by
  obtain ⟨v, h1, h2, h3⟩ := h
  exact ⟨v, (hb.block g hg).trans h1, h2.below (hb.mono (by omega)), h3⟩
theorem numsB_drop (zs : List Int) (k : Nat) (h : k < zs.length) : numsB (zs.drop k) = numB zs[k] ++ numsB (zs.drop (k + 1)) := by
  rw [List.drop_eq_getElem_cons h]; rfl
theorem textsB_drop (ss : List ByteArray) (k : Nat) (h : k < ss.length) : textsB (ss.drop k) = textB ss[k].data.toList ++ textsB (ss.drop (k + 1)) := by
  rw [List.drop_eq_getElem_cons h]; rfl
theorem numsB_one (z : Int) : numsB [z] = numB z := by simp [numsB]
theorem textsB_one (s : ByteArray) : textsB [s] = textB s.data.toList := by simp [textsB]
theorem RdAt.lt {T : TypeId} {B g : Nat} {w : World} {r : RS} (h : RdAt T B g w r) : g < w.heap.size := by
  obtain ⟨v, h1, _⟩ := h; exact block_lt h1
set_option maxRecDepth 100000 in
set_option maxHeartbeats 4000000 in
theorem PackBack_walk (l t : Value) (zs : List Int) (ss : List ByteArray) (W : World) (hl : Ints W.heap.size W l zs) (ht : Strs W.heap.size W t ss) (hwf : ∀ z ∈ zs, (Lit.int .i64 z).wf = true) (hss : ∀ s ∈ ss, s.size ≤ reachBytes) :
    Calls Try.prog 4 #[l, t] W fun e w' => e = .returned (.bool true) ∧ Below W.heap.size W w' := by
  have HL := Lib.hid hl
  have HT := Lib.hid ht
  obtain ⟨_, a1, cap1, rfl, hnc1, hcap1, hcells1⟩ := hl
  obtain ⟨_, a2, cap2, rfl, hnc2, hcap2, hcells2⟩ := ht
  unfold maxLen at hcap1 hcap2
  clear hwf
  by_cases hg : zs.length ≤ 100 ∧ ss.length ≤ 20
  · obtain ⟨g2, g3⟩ := hg
    have t2 : decide (100 < (zs.length : Int)) = false := by simp; omega
    have t3 : decide (20 < (ss.length : Int)) = false := by simp; omega
    go_enter Try.func4, Try.ntmps4
    go_wp2_with fail
    refine (packAlive_any _).mono ?_
    rintro e w1 ⟨rfl, hb1⟩
    go_wp2_with fail
    clear t2 t3
    refine (num_any _ _ [] zs w1 (nil_bytes W.heap.size w1) (HL.out.below hb1) (by simp; omega)).mono ?_
    rintro e w2 ⟨v2, rfl, ho2, hb2⟩
    have hbb2 := hb1.trans (hb2.mono hb1.size)
    have hln := length_numsB zs
    have hlt := length_textsB ss
    go_wp2_with fail
    refine (text_any _ _ ([] ++ numsB zs) ss w2 ho2.bytes (HT.out.below hbb2) (by simp [hln]; omega) hss).mono ?_
    rintro e w3 ⟨v3, rfl, ho3, hb3⟩
    have hbb3 := hbb2.trans (hb3.mono hbb2.size)
    rw [List.nil_append] at ho3
    have hby := ho3.bytes
    clear ho2 hb1 hb2 hbb2 ho3 hb3 hln hlt
    go_wp2_with fail
    refine (from_any _ _ _ w3 hby).mono ?_
    rintro e w4 ⟨rfl, hr4, hb4⟩
    have hbb4 := hbb3.trans (hb4.mono hbb3.size)
    have hgs : W.heap.size ≤ w3.heap.size := hbb3.size
    obtain ⟨g, hg⟩ : ∃ g, g = w3.heap.size := ⟨_, rfl⟩
    have hby4 := hby.below hb4
    rw [← hg] at hr4 hgs hby4
    rw [← hg]
    clear hb4 hg hbb3 hby
    go_wp2_with fail
    go_loopw [7, 8] (fun x i wr => ∃ (k : Nat), k ≤ zs.length ∧ i = .int .i64 k ∧ RdAt 73 g g wr ⟨numsB (zs.drop k) ++ textsB ss, 0⟩ ∧ OwnB (g + 1) wr x (numsB (zs.take k)) ∧ Bytes g wr v3 (numsB zs ++ textsB ss) ∧ Below W.heap.size W wr) (fun _ i _ => zs.length - (intOf i).toNat)
    case atStart => exact ⟨0, Nat.zero_le _, rfl, hr4, Own.none _ _ _ _ _, hby4, hbb4⟩
    case round =>
      obtain ⟨k, hk, rfl, hr, hx, hv, hb⟩ := hrel
      clear hbb4 hr4 hby4
      by_cases hlt : k < zs.length
      · obtain ⟨b, off, rfl, hBb, hc⟩ := hcells1 (by omega)
        rw [numsB_drop zs k hlt, List.append_assoc] at hr
        have k1 := rnum_any _ _ _ _ hr
        rw [num_back] at k1
        have HN := Lib.hid (numsB_succ zs k hlt)
        have hc' := hc k (.int .i64 zs[k]) (by simp [hlt])
        obtain ⟨Z, hZ⟩ : ∃ Z, Z = zs[k] := ⟨_, rfl⟩
        rw [← hZ] at k1 hc' HN
        have hgl := hr.lt
        have hrest : (numsB (zs.take k)).length ≤ 2 ^ 20 := by rw [length_numsB, List.length_take]; omega
        obtain ⟨Y, hY, h3⟩ : ∃ Y : Int, (clamp Z : Int) = Y ∧ ((4611686018427387904 ≤ Z ∧ Y = 4611686018427387904) ∨ (Z ≤ 0 ∧ Y = 0) ∨ (0 < Z ∧ Z < 4611686018427387904 ∧ Y = Z)) := by
          refine ⟨_, rfl, ?_⟩
          unfold clamp; (repeat' split) <;> omega
        have hNB := Lib.hid (numB_clamp Z)
        rw [hY] at k1 hNB
        clear hc hcells1 hcells2 hZ hY
        rcases h3 with ⟨hz, rfl⟩ | ⟨hz, rfl⟩ | ⟨hz, hz2, rfl⟩
        all_goals
          go_wp2_with fail
          refine k1.mono ?_
          rintro e w5 ⟨rfl, hr5⟩
          have hb5 := hb.trans (below_of_only hr5.2 hgs hb.size)
          have hcell := (hb5.cell (p := ⟨b, off + k, none⟩) hBb).trans hc'
          have hx6 := fun o => (hx.far hr5.2 (Nat.lt_succ_self g)).alloc o
          have hbo := fun o => Below.alloc (Below.refl w5.heap.size w5) (Nat.le_refl _) o
          have hgl5 : g < w5.heap.size := hr5.1.lt
          have hv5 := hv.below (below_of_only hr5.2 (Nat.le_refl g) (Nat.le_of_lt hgl))
          have hr5' := hr5.1
          have hlx : ∀ y : Int, (numsB (zs.take k)).length + 8 * [y].length + 8 ≤ 2 ^ 46 := by intro y; simp; omega
          clear k1 hr hr5 hx hv
          go_wp2_with fail
          all_goals
            refine (num_any _ _ _ [_] _ (hx6 _).bytes (ints_fresh w5 _) (hlx _)).mono ?_
            rintro e w7 ⟨v7, rfl, ho7, hb7⟩
            have hb57 := (hbo _).trans (hb7.mono (hbo _).size)
            have hr7 := hr5'.keep hb57 hgl5
            have hv7 := hv5.below (hb57.mono (Nat.le_of_lt hgl5))
            have ho8 : OwnB (g + 1) w7 v7 (numsB (zs.take (k + 1))) := by
              rw [HN.out]
              first | rw [← hNB.out, ← numsB_one] | rw [← numsB_one]
              exact Own.lower ho7 (Nat.le_trans hgl5 (hbo _).size)
            have hb8 := hb5.trans (hb57.mono hb5.size)
            clear ho7 hb7 hb57 hx6 hbo hr5' hv5
            go_wp2_with fail
            go_roundw
            case rel => exact ⟨k + 1, by omega, by go_num, hr7, ho8, hv7, hb8⟩
            case measure => simp [intOf]; omega
      · have hke : k = zs.length := by omega
        subst hke
        rw [List.take_length] at hx
        rw [show numsB (zs.drop zs.length) = [] by rw [List.drop_length]; rfl, List.nil_append] at hr
        clear hcells1
        go_wp2_with fail
        obtain ⟨wo, hwo⟩ : ∃ wo : World, wo = wr := ⟨_, rfl⟩
        rw [← hwo] at hx hb hr hv ⊢
        clear hwo
        go_loopw [7, 10] (fun x i wr => ∃ (k : Nat), k ≤ ss.length ∧ i = .int .i64 k ∧ RdAt 73 g g wr ⟨textsB (ss.drop k), 0⟩ ∧ OwnB (g + 1) wr x (numsB zs ++ textsB (ss.take k)) ∧ Bytes g wr v3 (numsB zs ++ textsB ss) ∧ Below W.heap.size W wr) (fun _ i _ => ss.length - (intOf i).toNat)
        case atStart => exact ⟨0, Nat.zero_le _, rfl, hr, by simpa [textsB] using hx, hv, hb⟩
        case round =>
          clear hx hb hr hv
          obtain ⟨k, hk, rfl, hr, hx, hv, hb⟩ := hrel
          by_cases hlt : k < ss.length
          · obtain ⟨b, off, rfl, hBb, hc⟩ := hcells2 (by omega)
            rw [textsB_drop ss k hlt] at hr
            have k1 := rtext_any _ _ _ _ hr
            rw [text_back] at k1
            have HN := Lib.hid (textsB_succ ss k hlt)
            have hc' := hc k (.string ss[k]) (by simp [hlt])
            have hsz : ss[k].size ≤ 2 ^ 47 := by have := hss ss[k] (List.getElem_mem hlt); unfold reachBytes at this; omega
            obtain ⟨Z, hZ⟩ : ∃ Z, Z = ss[k] := ⟨_, rfl⟩
            rw [← hZ] at k1 hc' HN hsz
            have hgl := hr.lt
            have hlen : (numsB zs ++ textsB (ss.take k)).length ≤ 2 ^ 20 := by
              have := length_textsB (ss.take k)
              rw [List.length_take] at this
              rw [List.length_append, length_numsB]; omega
            clear hc hcells2 hZ
            by_cases hs : Z.size ≤ 4096
            · have hTZ : strB (cutT Z.data.toList) = Z := by rw [cut_small Z hs, strB_of]
              have HTB : Hid (textB Z.data.toList = textB Z.data.toList) := rfl
              have hlx : (numsB zs ++ textsB (ss.take k)).length + 4100 * [Z].length + 4100 ≤ 2 ^ 46 := by simp only [List.length_singleton]; omega
              have hTl : ∀ s ∈ [Z], s.size ≤ reachBytes := by intro s h; simp at h; subst h; unfold reachBytes; omega
              rw [hTZ] at k1
              clear hTZ
              go_wp2_with fail
              refine k1.mono ?_
              rintro e w5 ⟨rfl, hr5⟩
              have hb5 := hb.trans (below_of_only hr5.2 hgs hb.size)
              have hcell := (hb5.cell (p := ⟨b, off + k, none⟩) hBb).trans hc'
              have hx5 := hx.far hr5.2 (Nat.lt_succ_self g)
              have hgl5 : g < w5.heap.size := hr5.1.lt
              have hv5 := hv.below (below_of_only hr5.2 (Nat.le_refl g) (Nat.le_of_lt hgl))
              have hr5' := hr5.1
              clear k1 hr hr5 hx hv
              go_wp2_with fail
              go_quiet (fail)
              have hx6 : OwnB (g + 1) (w5.drewN nq) u7 (numsB zs ++ textsB (ss.take k)) := hx5
              have hv6 : Bytes g (w5.drewN nq) v3 (numsB zs ++ textsB ss) := hv5
              have hr6 : RdAt 73 g g (w5.drewN nq) ⟨textsB (ss.drop (k + 1)), 0⟩ := hr5'
              have hb6 : Below W.heap.size W (w5.drewN nq) := below_draws hb5 nq
              have hgl6 : g < (w5.drewN nq).heap.size := hgl5
              obtain ⟨w6, hw6⟩ : ∃ w6, w6 = w5.drewN nq := ⟨_, rfl⟩
              rw [← hw6] at hx6 hv6 hr6 hb6 hgl6 ⊢
              clear hw6 hx5 hv5 hr5' hb5 hgl5 hcell
              have hx7 := fun o => hx6.alloc o
              have hbo := fun o => Below.alloc (Below.refl w6.heap.size w6) (Nat.le_refl _) o
              clear hx6
              go_wp2_with fail
              refine (text_any _ _ _ [_] _ (hx7 _).bytes (strs_fresh w6 _) hlx hTl).mono ?_
              rintro e w7 ⟨v7, rfl, ho7, hb7⟩
              have hb67 := (hbo _).trans (hb7.mono (hbo _).size)
              have hr7 := hr6.keep hb67 hgl6
              have hv7 := hv6.below (hb67.mono (Nat.le_of_lt hgl6))
              have ho8 : OwnB (g + 1) w7 v7 (numsB zs ++ textsB (ss.take (k + 1))) := by
                rw [HN.out]
                first | rw [← HTB.out, ← textsB_one, ← List.append_assoc] | rw [← textsB_one, ← List.append_assoc]
                exact Own.lower ho7 (Nat.le_trans hgl6 (hbo _).size)
              have hb8 := hb6.trans (hb67.mono hb6.size)
              clear ho7 hb7 hb67 hx7 hbo hr6 hv6 hb6
              go_wp2_with fail
              go_roundw
              case rel => exact ⟨k + 1, by omega, by go_num, hr7, ho8, hv7, hb8⟩
              case measure => simp [intOf]; omega
            · obtain ⟨T, hT⟩ : ∃ T, Z.extract 0 4096 = T := ⟨_, rfl⟩
              have hcg := cut_great Z
              rw [hT] at hcg
              have hTZ : strB (cutT Z.data.toList) = T := by rw [← hcg, strB_of]
              have HTB : Hid (textB T.data.toList = textB Z.data.toList) := by rw [hcg, textB_cutT]; exact rfl
              have hT4 : T.size ≤ 4096 := by
                have h1 := cutT_len Z.data.toList
                rw [← hcg, Array.length_toList] at h1
                exact h1
              have hlx : (numsB zs ++ textsB (ss.take k)).length + 4100 * [T].length + 4100 ≤ 2 ^ 46 := by simp only [List.length_singleton]; omega
              have hTl : ∀ s ∈ [T], s.size ≤ reachBytes := by intro s h; simp at h; subst h; unfold reachBytes; omega
              rw [hTZ] at k1
              clear hTZ hcg
              go_wp2_with fail
              refine k1.mono ?_
              rintro e w5 ⟨rfl, hr5⟩
              have hb5 := hb.trans (below_of_only hr5.2 hgs hb.size)
              have hcell := (hb5.cell (p := ⟨b, off + k, none⟩) hBb).trans hc'
              have hx5 := hx.far hr5.2 (Nat.lt_succ_self g)
              have hgl5 : g < w5.heap.size := hr5.1.lt
              have hv5 := hv.below (below_of_only hr5.2 (Nat.le_refl g) (Nat.le_of_lt hgl))
              have hr5' := hr5.1
              clear k1 hr hr5 hx hv
              go_wp2_with fail
              go_quiet (fail)
              have hx6 : OwnB (g + 1) (w5.drewN nq) u7 (numsB zs ++ textsB (ss.take k)) := hx5
              have hv6 : Bytes g (w5.drewN nq) v3 (numsB zs ++ textsB ss) := hv5
              have hr6 : RdAt 73 g g (w5.drewN nq) ⟨textsB (ss.drop (k + 1)), 0⟩ := hr5'
              have hb6 : Below W.heap.size W (w5.drewN nq) := below_draws hb5 nq
              have hgl6 : g < (w5.drewN nq).heap.size := hgl5
              obtain ⟨w6, hw6⟩ : ∃ w6, w6 = w5.drewN nq := ⟨_, rfl⟩
              rw [← hw6] at hx6 hv6 hr6 hb6 hgl6 ⊢
              clear hw6 hx5 hv5 hr5' hb5 hgl5 hcell
              have hx7 := fun o => hx6.alloc o
              have hbo := fun o => Below.alloc (Below.refl w6.heap.size w6) (Nat.le_refl _) o
              clear hx6
              go_wp2_with fail
              refine (text_any _ _ _ [_] _ (hx7 _).bytes (strs_fresh w6 _) hlx hTl).mono ?_
              rintro e w7 ⟨v7, rfl, ho7, hb7⟩
              have hb67 := (hbo _).trans (hb7.mono (hbo _).size)
              have hr7 := hr6.keep hb67 hgl6
              have hv7 := hv6.below (hb67.mono (Nat.le_of_lt hgl6))
              have ho8 : OwnB (g + 1) w7 v7 (numsB zs ++ textsB (ss.take (k + 1))) := by
                rw [HN.out]
                first | rw [← HTB.out, ← textsB_one, ← List.append_assoc] | rw [← textsB_one, ← List.append_assoc]
                exact Own.lower ho7 (Nat.le_trans hgl6 (hbo _).size)
              have hb8 := hb6.trans (hb67.mono hb6.size)
              clear ho7 hb7 hb67 hx7 hbo hr6 hv6 hb6
              go_wp2_with fail
              go_roundw
              case rel => exact ⟨k + 1, by omega, by go_num, hr7, ho8, hv7, hb8⟩
              case measure => simp [intOf]; omega
          · have hke : k = ss.length := by omega
            subst hke
            rw [List.take_length] at hx
            rw [show textsB (ss.drop ss.length) = [] by rw [List.drop_length]; rfl] at hr
            clear hcells2
            have k1 := rdone_any _ _ _ _ hr
            have hd : (RS.mk [] 0).doneE = 0 := rfl
            rw [hd] at k1
            have hgl := hr.lt
            clear hr hd
            go_wp2_with fail
            refine k1.mono ?_
            rintro e w5 ⟨rfl, hr5⟩
            have hv5 := hv.below (below_of_only hr5.2 (Nat.le_refl g) (Nat.le_of_lt hgl))
            have hx5 := (hx.far hr5.2 (Nat.lt_succ_self g)).bytes
            have hb5 := hb.trans (below_of_only hr5.2 hgs hb.size)
            clear k1 hx hv hr5
            go_wp2_with fail
            refine (same_any _ _ _ _ _ _ _ hx5 hv5).mono ?_
            rintro e w7 ⟨rfl, rfl⟩
            go_wp2_with fail
            go_ret
            exact ⟨ret_bool (by simp), hb5⟩
  · have h3 : (100 < zs.length) ∨ (zs.length ≤ 100 ∧ 20 < ss.length) := by omega
    clear hcells1 hcells2 hg
    rcases h3 with h | ⟨h0, h⟩
    · have t1 : decide (100 < (zs.length : Int)) = true := by simp; omega
      go_enter Try.func4, Try.ntmps4
      go_wp2_with fail
      refine (packAlive_any _).mono ?_
      rintro e w1 ⟨rfl, hb1⟩
      go_wp2_with fail
      go_ret
      exact ⟨rfl, hb1⟩
    · have t1 : decide (100 < (zs.length : Int)) = false := by simp; omega
      have t2 : decide (20 < (ss.length : Int)) = true := by simp; omega
      go_enter Try.func4, Try.ntmps4
      go_wp2_with fail
      refine (packAlive_any _).mono ?_
      rintro e w1 ⟨rfl, hb1⟩
      go_wp2_with fail
      go_ret
      exact ⟨rfl, hb1⟩
end Go.Proofs.Ytccjjlefpdlegaa
