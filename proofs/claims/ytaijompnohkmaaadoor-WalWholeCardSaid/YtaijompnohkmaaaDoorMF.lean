/- Layer 5 (wal), plainly: the deeds of a half that is laid, record by record. -/
import Derived.Test.YtaijompnohkmaaaDoorME
import Derived.Recover
namespace Go.Proofs.YtaijompnohkmaaaDoor
namespace WalP
/-- How many sectors records take. -/
def posN (l : List (List UInt8)) : Nat := (l.map fun b => takes b.length).sum
theorem posN_cons (b : List UInt8) (l : List (List UInt8)) : posN (b :: l) = takes b.length + posN l := by simp [posN]
theorem posN_append (l m : List (List UInt8)) : posN (l ++ m) = posN l + posN m := by simp [posN]
theorem posN_le : ∀ l : List (List UInt8), posN l ≤ 95 * l.length
  | [] => by simp [posN]
  | b :: l => by have := posN_le l; have := takes_le b.length; rw [posN_cons, List.length_cons]; omega
theorem recsD_append (gen : Int) : ∀ (l m : List (List UInt8)) (at_ : Int) (k : Nat), recsD gen at_ k (l ++ m) = recsD gen at_ k l ++ recsD gen (at_ + posN l) (k + l.length) m
  | [], m, at_, k => by simp [recsD, posN]
  | b :: l, m, at_, k => by
    rw [List.cons_append]
    simp only [recsD]
    rw [recsD_append gen l m, posN_cons, List.append_assoc]
    congr 3
    · rw [Int.natCast_add, Int.add_assoc]
    · rw [List.length_cons]; omega
/-- A half, laid but for its last steps, with the first k records. -/
def layA (F : Int) (H : Nat) (gen : Int) (list : List (List UInt8)) (k : Nat) : List Deed := zerosD F H ++ ([.flush] ++ recsD gen F 0 (list.take k))
theorem layD_eq (H : Nat) (which gen : Int) (list : List (List UInt8)) : layD H which gen list = layA (which * H) H gen list list.length ++ [.flush, .put (which * H) (markOf gen 0 (list.headD [])), .flush] := by
  unfold layD layA
  rw [List.take_length]
  simp only [List.append_assoc]
theorem layA_succ (F : Int) (H : Nat) (gen : Int) (list : List (List UInt8)) (k : Nat) (hk : k < list.length) : layA F H gen list (k + 1) = layA F H gen list k ++ recD (F + posN (list.take k)) gen k list[k] := by
  unfold layA
  have e : list.take (k + 1) = list.take k ++ [list[k]] := by rw [List.take_add_one, List.getElem?_eq_getElem hk]; rfl
  rw [e, recsD_append]
  have e2 : 0 + (list.take k).length = k := by rw [List.length_take]; omega
  rw [e2]
  simp only [recsD, List.append_nil, List.append_assoc]
theorem layA_zero (F : Int) (H : Nat) (gen : Int) (list : List (List UInt8)) : layA F H gen list 0 = zerosD F H ++ [.flush] := by simp [layA, recsD]
/-- What is ahead of a point of a laying goes on. -/
theorem layA_pre (H : Nat) (which gen : Int) (list : List (List UInt8)) (k : Nat) : ∃ r, layD H which gen list = layA (which * H) H gen list k ++ r := by
  rw [layD_eq]
  unfold layA
  rw [List.take_length]
  refine ⟨recsD gen (which * H + posN (list.take k)) (0 + (list.take k).length) (list.drop k) ++ [.flush, .put (which * H) (markOf gen 0 (list.headD [])), .flush], ?_⟩
  have e := recsD_append gen (list.take k) (list.drop k) (which * H) 0
  rw [List.take_append_drop] at e
  rw [e]
  simp only [List.append_assoc]
theorem zerosD_succ (F : Int) (H k : Nat) (hk : k < H) : (zerosD F H).take (k + 1) = (zerosD F H).take k ++ [.put (F + k) zeroS] := by
  unfold zerosD
  rw [List.take_add_one, List.getElem?_map, List.getElem?_range hk]
  rfl
theorem zerosD_all (F : Int) (H k : Nat) (hk : H ≤ k) : (zerosD F H).take k = zerosD F H := List.take_of_length_le (by unfold zerosD; simpa using hk)
/-- A part that fails is the whole's end. -/
theorem run_split {d d' : DiskP} {xs ys zs r : List Deed} (hz : zs = xs ++ (ys ++ r)) (h : run d xs = (d', 0)) (hb : (run d' ys).2 ≠ 0) : run d zs = run d' ys := by
  have h1 : run d (xs ++ ys) = run d' ys := by rw [WalP.run_append, h]; simp
  rw [hz, ← List.append_assoc, WalP.run_append, if_neg (by rw [h1]; exact hb), h1]
theorem run_good2 {d d' : DiskP} {xs ys : List Deed} (h : run d xs = (d', 0)) : run d (xs ++ ys) = run d' ys := by rw [WalP.run_append, h]; simp
theorem run_ok {d : DiskP} {xs : List Deed} (h : (run d xs).2 = 0) : run d xs = ((run d xs).1, 0) := by rw [← h]
end WalP
end Go.Proofs.YtaijompnohkmaaaDoor
/- Layer 5 (wal): a half is laid. -/
namespace Go.Proofs.YtaijompnohkmaaaDoor
open Go.RowKit WalP PackP
theorem run_build0 (w : World) : (Instr.build 73 #[]).run Tryd.prog w = .ok (.agg (u8s zeroS).toArray) w := by
  obtain ⟨z, hz, hzr⟩ := zero44
  obtain ⟨i1, hi1, hs1⟩ := Option.map_eq_some_iff.1 (show (Tryd.prog.info? 5).map (fun i => i.size) = some 1 by kernel_rfl)
  have e4 : z.cells ≠ #[] := by rw [hz]; simp [u8s, zeroS]
  simp [Instr.build, hzr, run_underlying Tryd.underlying73, sizeOf, typeInfo, hi1, hs1, Instr.fill, e4]
  rw [hz]
/-- A piece, loaded. -/
theorem Pieces.at_ {B : Nat} {w : World} {v : Value} {ls : List (List UInt8)} (h : Pieces B w v ls) : ∃ a c, v = .slice a ls.length c ∧ ls.length ≤ c ∧ c ≤ 2 ^ 63 - 1 ∧ ∀ (k : Nat) (hk : k < ls.length), ∃ b off a2 c2, a = some ⟨b, off, none⟩ ∧ b < B ∧ ∀ w', Below B w w' → w'.cell? ⟨b, off + k, none⟩ = some (.slice a2 ls[k].length c2) ∧ Bytes B w' (.slice a2 ls[k].length c2) ls[k] := by
  obtain ⟨vs, ⟨h0, a, c, rfl, h1, h2, h3⟩, h4⟩ := h
  refine ⟨a, c, rfl, h1, h2, fun k hk => ?_⟩
  obtain ⟨b, off, rfl, hb, hc⟩ := h3 (by omega)
  obtain ⟨u, hu, hB⟩ := h4 k hk
  obtain ⟨a2, c2, rfl⟩ := hB.form
  exact ⟨b, off, a2, c2, rfl, hb, fun w' hb' => ⟨(hb'.cell (p := ⟨b, off + k, none⟩) hb).trans (hc k _ hu), hB.below hb'⟩⟩
theorem below_only {g : Nat} {w w' : World} (h : w.grownBy w' (some g)) (hg : g < w.heap.size) : Below g w w' := below_hand h hg
set_option maxRecDepth 100000 in
set_option maxHeartbeats 4000000 in
theorem hlay_any {g : Nat} (d : DiskP) (which gen : Int) (v : Value) (list : List (List UInt8)) (w : World) (hh : HandAt g w d) (hv : Pieces g w v list) (ht : TabAt w) (hT : 0 < g)
    (hw0 : 0 ≤ which * (half d : Nat)) (hw1 : which * (half d : Nat) ≤ 2 ^ 20) (hl1 : ∀ b ∈ list, b.length ≤ 2 ^ 20) (hl2 : list.length ≤ 2 ^ 20) (hl3 : list ≠ []) :
    Calls Tryd.prog 51 #[.pointer (some ⟨g, 0, none⟩), .int .i64 which, .int .i64 gen, v] w fun x w' => x = hEnd (run d (layD (half d) which gen list)).2 ∧ HandAt g w' (run d (layD (half d) which gen list)).1 ∧ w.grownBy w' (some g) := by
  obtain ⟨H, hH⟩ : ∃ H, H = half d := ⟨_, rfl⟩
  obtain ⟨p1, q1, p2, q2, hg, hd, hs⟩ := hh.parts
  have hH2 : H ≤ 2 ^ 62 := by
    obtain ⟨sv, lv, hv', h1, _⟩ := hd
    cases hv'
    obtain ⟨_, a', c', hv', hn, hc, _⟩ := h1.2
    cases hv'
    unfold maxLen at hc
    rw [hH]; unfold half; omega
  obtain ⟨a, c, rfl, hnc, hc63, hat⟩ := hv.at_
  have hlt := hh.lt
  have k1 := walHalf_any _ d w hd
  rw [← hH] at k1 hw0 hw1 ⊢
  have C0 := cell_of_row w _ 0 _ _ _ hg
  have C1 := cell_of_row w _ 1 _ _ _ hg
  have C2 := cell_of_row w _ 2 _ _ _ hg
  have C3 := cell_of_row w _ 3 _ _ _ hg
  have HH := Lib.hid hh
  have HAT := Lib.hid hat
  have HT := Lib.hid ht
  have HL1 := Lib.hid hl1
  have HL3 := Lib.hid hl3
  have HHH := Lib.hid hH
  have HB0 := fun w => Lib.hid (run_build0 w)
  obtain ⟨Z, hZ⟩ : ∃ Z, Z = (u8s zeroS).toArray := ⟨_, rfl⟩
  simp only [← hZ] at HB0
  have HZ := Lib.hid hZ
  obtain ⟨n, hn⟩ : ∃ n, n = list.length := ⟨_, rfl⟩
  rw [← hn] at hnc hl2 ⊢
  have HN := Lib.hid hn
  clear hh hv hat ht hl1 hl3 hg hd hs hH hZ hn
  go_enter Tryd.func51, Tryd.ntmps51
  go_wp2_with fail
  refine k1.mono ?_
  rintro e w1 ⟨rfl, hb1⟩
  have hh1 := HH.out.below hb1
  obtain ⟨p1, q1, p2, q2, hg, hd, hs⟩ := hh1.parts
  clear k1 C0 C1 C2 C3
  have k1 := walHalf_any _ d w1 hd
  rw [← HHH.out] at k1
  have C0 := cell_of_row w1 _ 0 _ _ _ hg
  have C1 := cell_of_row w1 _ 1 _ _ _ hg
  have C2 := cell_of_row w1 _ 2 _ _ _ hg
  have C3 := cell_of_row w1 _ 3 _ _ _ hg
  have HH1 := Lib.hid hh1
  have HB1 := Lib.hid hb1
  clear hh1 hg hd hs hb1
  go_wp2_with fail
  refine k1.mono ?_
  rintro e w2 ⟨rfl, hb2⟩
  have hh2 := HH1.out.below hb2
  have ho2 : w.grownBy w2 (some g) := only_trans (only_of_below HB1.out) (only_of_below hb2)
  have HH2 := Lib.hid hh2
  have HO2 := Lib.hid ho2
  clear k1 C0 C1 C2 C3 hb2 hh2 ho2
  obtain ⟨F, hF⟩ : ∃ F, F = which * (H : Int) := ⟨_, rfl⟩
  go_wp2_with fail
  rw [← hF] at hw0 hw1 ⊢
  have HF := Lib.hid hF
  clear hF
  go_loopw [25] (fun z wr => ∃ (k : Nat) (dk : DiskP), k ≤ H ∧ z = .int .i64 k ∧ HandAt g wr dk ∧ run d ((zerosD F H).take k) = (dk, 0) ∧ w.grownBy wr (some g)) (fun z _ => H - (intOf z).toNat)
  case atStart => exact ⟨0, d, Nat.zero_le _, rfl, HH2.out, rfl, HO2.out⟩
  case round =>
    obtain ⟨k, dk, hk, rfl, hh, hr, ho⟩ := hrel
    have HRN := Lib.hid hr
    have HO := Lib.hid ho
    have HHK := Lib.hid hh
    clear hh hr ho HH2 HO2
    by_cases hkH : k < H
    · have hsum : IntKind.i64.wrap (F + (k : Int)) = F + (k : Int) := by
        simp only [IntKind.wrap, IntKind.bits, IntKind.signed]
        simp
        omega
      have kp := hput_any dk (F + (k : Int)) zeroS wr HHK.out rfl
      rw [← HZ.out] at kp
      have hb0 := (HB0 wr).out
      go_wp2_with (refine wp_build_l 73 [] rfl rfl rfl hb0 ?_; refine Halt.in ?_)
      refine Halt.out ?_
      clear hb0
      go_wp2_with fail
      refine kp.mono ?_
      rintro e w3 ⟨rfl, hh3, ho3⟩
      have hz := zerosD_succ F H k hkH
      have HZS := Lib.hid hz
      have HO3 := Lib.hid (only_trans HO.out ho3)
      clear hz
      by_cases he : (deed dk (.put (F + (k : Int)) zeroS)).2 = 0
      · have e0 := hEnd0 he
        rw [e0]
        have HH3 := Lib.hid hh3
        have HE := Lib.hid he
        clear kp he e0 hh3 ho3
        go_wp2_with fail
        go_roundw
        case rel =>
          refine ⟨k + 1, (deed dk (.put (F + (k : Int)) zeroS)).1, by omega, by go_num, HH3.out, ?_, HO3.out⟩
          rw [HZS.out, run_good2 HRN.out, run_one, ← HE.out]
        case measure => simp [intOf]; omega
      · have e0 := hEnd1 he
        rw [e0]
        have hall : run d (layD H which gen list) = deed dk (.put (F + (k : Int)) zeroS) := by
          rw [← run_one] at he ⊢
          obtain ⟨r, hr⟩ := layA_pre H which gen list 0
          rw [layA_zero, ← HF.out] at hr
          refine run_split (xs := (zerosD F H).take k) (r := (zerosD F H).drop (k + 1) ++ ([.flush] ++ r)) ?_ HRN.out he
          rw [hr, ← List.append_assoc ((zerosD F H).take k), ← HZS.out, ← List.append_assoc, List.take_append_drop, List.append_assoc]
        refine ⟨rfl, ?_⟩
        show _ = hEnd (run d (layD H which gen list)).2 ∧ HandAt g w3 (run d (layD H which gen list)).1 ∧ w.grownBy w3 (some g)
        rw [hall]
        exact ⟨e0.symm, hh3, HO3.out⟩
    · obtain rfl : k = H := by omega
      have kf := hflush_any dk wr HHK.out
      go_wp2_with fail
      refine kf.mono ?_
      rintro e w3 ⟨rfl, hh3, ho3⟩
      have HO3 := Lib.hid (only_trans HO.out ho3)
      have hz : run d (zerosD F k) = (dk, 0) := by
        have := HRN.out
        rwa [zerosD_all F k k (Nat.le_refl _)] at this
      have HZD := Lib.hid hz
      clear hz
      by_cases he : (deed dk .flush).2 = 0
      · have e0 := hEnd0 he
        rw [e0]
        have HH3 := Lib.hid hh3
        have HE := Lib.hid he
        clear kf he e0 hh3 ho3
        go_wp2_with fail
        go_loopw [40, 10] (fun z y wr => ∃ (i : Nat) (di : DiskP), i ≤ n ∧ z = .int .i64 i ∧ y = .int .i64 (F + posN (list.take i)) ∧ HandAt g wr di ∧ run d (layA F k gen list i) = (di, 0) ∧ w.grownBy wr (some g)) (fun z _ _ => n - (intOf z).toNat)
        case atStart =>
          refine ⟨0, (deed dk .flush).1, Nat.zero_le _, rfl, by simp [posN], HH3.out, ?_, HO3.out⟩
          rw [layA_zero, run_good2 HZD.out, run_one, ← HE.out]
        case round =>
          obtain ⟨i, di, hi, rfl, rfl, hh, hr, ho⟩ := hrel
          have HRI := Lib.hid hr
          have HOI := Lib.hid ho
          have HHI := Lib.hid hh
          have hbg := below_hand ho hlt
          have hpl := posN_le (list.take i)
          have hpl2 : (list.take i).length ≤ i := List.length_take_le _ _
          obtain ⟨ps, hps⟩ : ∃ ps, ps = posN (list.take i) := ⟨_, rfl⟩
          rw [← hps] at hpl ⊢
          have HPS := Lib.hid hps
          clear hh hr ho HH3 HO3 HHK HO hps
          by_cases hin : i < n
          · have hil : i < list.length := HN.out ▸ hin
            obtain ⟨b, off, a2, c2, rfl, hbg2, hcell⟩ := HAT.out i hil
            obtain ⟨hE, hBy⟩ := hcell wr hbg
            have hbl := HL1.out _ (List.getElem_mem hil)
            obtain ⟨bl, hbe⟩ : ∃ bl, bl = list[i] := ⟨_, rfl⟩
            rw [← hbe] at hE hBy hbl
            have HBE := Lib.hid hbe
            obtain ⟨at_, hate⟩ : ∃ z, z = F + (ps : Int) := ⟨_, rfl⟩
            have hat0 : 0 ≤ at_ := by omega
            have hat1 : at_ ≤ 2 ^ 30 := by omega
            rw [← hate]
            have HATE := Lib.hid hate
            have kb := hbytes_any di at_ _ bl wr HHI.out hBy hbl hat0 (by omega)
            have HBY := Lib.hid hBy
            have hstep : layA F k gen list (i + 1) = layA F k gen list i ++ recD at_ gen i bl := by
              rw [layA_succ F k gen list i hil, HATE.out, HPS.out, HBE.out]
            have HSTEP := Lib.hid hstep
            have hpos : (F + (posN (list.take (i + 1)) : Nat) : Int) = at_ + (takes bl.length : Nat) := by
              have e : list.take (i + 1) = list.take i ++ [list[i]] := by rw [List.take_add_one, List.getElem?_eq_getElem hil]; rfl
              rw [e, posN_append, HATE.out, HPS.out, HBE.out]
              simp [posN]
              omega
            have HPOS := Lib.hid hpos
            have hi0 : (0 : Int) ≤ (i : Int) := by omega
            have hi1 : (i : Int) < (n : Int) := by omega
            have htk := takes_le bl.length
            clear hcell hBy hbe hate hstep hpos
            go_wp2_with fail
            refine kb.mono ?_
            rintro e w3 ⟨rfl, hh3, ho3⟩
            have HO3 := Lib.hid (only_trans HOI.out ho3)
            have hbg3 := below_hand ho3 HHI.out.lt
            by_cases he : (run di (bytesD at_ bl)).2 = 0
            · have e0 := hEnd0 he
              rw [e0]
              have HH3 := Lib.hid hh3
              have HR3 := Lib.hid (run_ok he)
              have HB3 := Lib.hid (HBY.out.below hbg3)
              have HT3 := Lib.hid (HT.out.below (below_hand HO3.out hlt) hT)
              have kt := fun w => takes_any (bl.length : Int) w
              simp only [takesZ_nat] at kt
              clear kb he e0 hh3 ho3 hbg3
              by_cases hi0' : i = 0
              · subst hi0'
                obtain ⟨dn, hdn⟩ : ∃ dn, dn = (run di (bytesD at_ bl)).1 := ⟨_, rfl⟩
                have HRNN := Lib.hid (show run d (layA F k gen list (0 + 1)) = (dn, 0) by
                  rw [HSTEP.out, run_good2 HRI.out, recD, if_neg (Nat.lt_irrefl 0), List.append_nil, HR3.out, ← hdn])
                have HHN := Lib.hid (show HandAt g w3 dn by rw [hdn]; exact HH3.out)
                have HON := HO3
                have kt := kt w3
                clear hdn
                go_wp2_with fail
                refine kt.mono ?_
                rintro e w9 ⟨rfl, rfl⟩
                clear kt
                go_wp2_with fail
                go_roundw
                case rel => exact ⟨0 + 1, dn, by omega, by go_num, by rw [HPOS.out], HHN.out, HRNN.out, HON.out⟩
                case measure => simp [intOf]; omega
              · have hi2 : decide ((0 : Int) < (i : Int)) = true := by simp; omega
                have hw3 := HH3.out.lt
                have ko := of_any gen (i : Int) _ bl w3 HT3.out (by omega) HB3.out
                go_wp2_with fail
                refine ko.mono ?_
                rintro e w4 ⟨rfl, hb4⟩
                have ks := sector_any gen (i : Int) (bl.length : Int) (SumP.toI (SumP.sum bl)) w4 (SumP.toI_lo _) (SumP.toI_hi _)
                clear ko
                go_wp2_with fail
                refine ks.mono ?_
                rintro e w5 ⟨rfl, hb5⟩
                have hb35 : Below w3.heap.size w3 w5 := hb4.trans (hb5.mono hb4.size)
                have hh5 := HH3.out.below hb35
                have kp := hput_any (run di (bytesD at_ bl)).1 at_ (markS gen (i : Int) (bl.length : Int) (SumP.toI (SumP.sum bl))) w5 hh5 (length_markS _ _ _ _)
                have HO5 := Lib.hid (only_trans HO3.out (only_of_below hb35))
                clear ks hb4 hb5 hb35 hh5
                go_wp2_with fail
                refine kp.mono ?_
                rintro e w6 ⟨rfl, hh6, ho6⟩
                have HO6 := Lib.hid (only_trans HO5.out ho6)
                have hrec : recD at_ gen i bl = bytesD at_ bl ++ [.put at_ (markS gen (i : Int) (bl.length : Int) (SumP.toI (SumP.sum bl)))] := by
                  rw [recD, if_pos (by omega)]; rfl
                have HREC := Lib.hid hrec
                clear hrec
                by_cases he : (deed (run di (bytesD at_ bl)).1 (.put at_ (markS gen (i : Int) (bl.length : Int) (SumP.toI (SumP.sum bl))))).2 = 0
                · have e0 := hEnd0 he
                  rw [e0]
                  obtain ⟨dn, hdn⟩ : ∃ dn, dn = (deed (run di (bytesD at_ bl)).1 (.put at_ (markS gen (i : Int) (bl.length : Int) (SumP.toI (SumP.sum bl))))).1 := ⟨_, rfl⟩
                  have HRNN := Lib.hid (show run d (layA F k gen list (i + 1)) = (dn, 0) by
                    rw [HSTEP.out, run_good2 HRI.out, HREC.out, run_good2 HR3.out, run_one, hdn, ← he])
                  have HHN := Lib.hid (show HandAt g w6 dn by rw [hdn]; exact hh6)
                  have HON := HO6
                  have kt := kt w6
                  clear kp he e0 hh6 ho6 hdn
                  go_wp2_with fail
                  refine kt.mono ?_
                  rintro e w9 ⟨rfl, rfl⟩
                  clear kt
                  go_wp2_with fail
                  go_roundw
                  case rel => exact ⟨i + 1, dn, by omega, by go_num, by rw [HPOS.out], HHN.out, HRNN.out, HON.out⟩
                  case measure => simp [intOf]; omega
                · have e0 := hEnd1 he
                  rw [e0]
                  have hall : run d (layD k which gen list) = deed (run di (bytesD at_ bl)).1 (.put at_ (markS gen (i : Int) (bl.length : Int) (SumP.toI (SumP.sum bl)))) := by
                    rw [← run_one] at he ⊢
                    obtain ⟨r, hr⟩ := layA_pre k which gen list (i + 1)
                    rw [← HF.out, HSTEP.out, HREC.out] at hr
                    refine run_split (xs := layA F k gen list i ++ bytesD at_ bl) (r := r) (by rw [hr]; simp only [List.append_assoc]) ?_ he
                    rw [run_good2 HRI.out]; exact HR3.out
                  refine ⟨rfl, ?_⟩
                  show _ = hEnd (run d (layD k which gen list)).2 ∧ HandAt g w6 (run d (layD k which gen list)).1 ∧ w.grownBy w6 (some g)
                  rw [hall]
                  exact ⟨e0.symm, hh6, HO6.out⟩
            · have e0 := hEnd1 he
              rw [e0]
              have hall : run d (layD k which gen list) = run di (bytesD at_ bl) := by
                obtain ⟨r, hr⟩ := layA_pre k which gen list (i + 1)
                rw [← HF.out, HSTEP.out, recD] at hr
                exact run_split (ys := bytesD at_ bl) (by rw [hr]; simp only [List.append_assoc]; rfl) HRI.out he
              refine ⟨rfl, ?_⟩
              show _ = hEnd (run d (layD k which gen list)).2 ∧ HandAt g w3 (run d (layD k which gen list)).1 ∧ w.grownBy w3 (some g)
              rw [hall]
              exact ⟨e0.symm, hh3, HO3.out⟩
          · obtain rfl : i = n := by omega
            have hr : run d (layA F k gen list list.length) = (di, 0) := by rw [← HN.out]; exact HRI.out
            have HRA := Lib.hid hr
            have kf := hflush_any di wr HHI.out
            have hn0 : 0 < i := by
              rw [HN.out]
              exact List.length_pos_iff.2 HL3.out
            have hil : 0 < list.length := HN.out ▸ hn0
            obtain ⟨b, off, a2, c2, rfl, hbg2, hcell⟩ := HAT.out 0 hil
            have HCELL := Lib.hid hcell
            have hhead : list.headD [] = list[0] := by cases list with | nil => simp at hil | cons x l => rfl
            have heq := layD_eq k which gen list
            rw [← HF.out, hhead] at heq
            obtain ⟨bl, hbe⟩ : ∃ bl, bl = list[0] := ⟨_, rfl⟩
            rw [← hbe] at heq
            have HBE := Lib.hid hbe
            have HEQ := Lib.hid heq
            have hi1 : (0 : Int) < (i : Int) := by omega
            clear hr hcell hhead heq hbe
            go_wp2_with fail
            refine kf.mono ?_
            rintro e w3 ⟨rfl, hh3, ho3⟩
            have HO3 := Lib.hid (only_trans HOI.out ho3)
            by_cases he : (deed di .flush).2 = 0
            · have e0 := hEnd0 he
              rw [e0]
              have HH3 := Lib.hid hh3
              have HE3 := Lib.hid he
              have hbg3 := below_hand HO3.out hlt
              obtain ⟨hE, hBy⟩ := HCELL.out w3 hbg3
              rw [Nat.add_zero] at hE
              rw [← HBE.out] at hE hBy
              have HT3 := HT.out.below hbg3 hT
              have hw3 := HH3.out.lt
              have ko := of_any gen 0 _ bl w3 HT3 (by omega) hBy
              clear kf he e0 hh3 ho3 hbg3 hBy HT3
              go_wp2_with fail
              refine ko.mono ?_
              rintro e w4 ⟨rfl, hb4⟩
              have ks := sector_any gen 0 (bl.length : Int) (SumP.toI (SumP.sum bl)) w4 (SumP.toI_lo _) (SumP.toI_hi _)
              clear ko hE
              go_wp2_with fail
              refine ks.mono ?_
              rintro e w5 ⟨rfl, hb5⟩
              have hb35 : Below w3.heap.size w3 w5 := hb4.trans (hb5.mono hb4.size)
              have hh5 := HH3.out.below hb35
              obtain ⟨d3, hd3⟩ : ∃ d3, d3 = (deed di .flush).1 := ⟨_, rfl⟩
              rw [← hd3] at hh5
              have HR3 := Lib.hid (show run d (layA F k gen list list.length ++ [.flush]) = (d3, 0) by rw [run_good2 HRA.out, run_one, hd3, ← HE3.out])
              have kp := hput_any d3 F (markS gen 0 (bl.length : Int) (SumP.toI (SumP.sum bl))) w5 hh5 (length_markS _ _ _ _)
              have HO5 := Lib.hid (only_trans HO3.out (only_of_below hb35))
              clear ks hb4 hb5 hb35 hh5 hd3
              go_wp2_with fail
              refine kp.mono ?_
              rintro e w6 ⟨rfl, hh6, ho6⟩
              have HO6 := Lib.hid (only_trans HO5.out ho6)
              by_cases he : (deed d3 (.put F (markS gen 0 (bl.length : Int) (SumP.toI (SumP.sum bl))))).2 = 0
              · have e0 := hEnd0 he
                rw [e0]
                obtain ⟨d6, hd6⟩ : ∃ d6, d6 = (deed d3 (.put F (markS gen 0 (bl.length : Int) (SumP.toI (SumP.sum bl))))).1 := ⟨_, rfl⟩
                rw [← hd6] at hh6
                have HH6 := Lib.hid hh6
                have HR6 := Lib.hid (show run d ((layA F k gen list list.length ++ [.flush]) ++ [.put F (markOf gen 0 bl)]) = (d6, 0) by
                  rw [run_good2 HR3.out, run_one, hd6]; exact Prod.ext rfl he)
                have kf := hflush_any d6 w6 hh6
                clear kp he e0 hh6 ho6 hd6
                go_wp2_with fail
                refine kf.mono ?_
                rintro e w7 ⟨rfl, hh7, ho7⟩
                have HO7 := Lib.hid (only_trans HO6.out ho7)
                have hall : run d (layD k which gen list) = deed d6 .flush := by
                  rw [HEQ.out, ← run_one, ← run_good2 HR6.out]
                  simp only [List.append_assoc]
                  rfl
                have HALL := Lib.hid hall
                clear hall
                by_cases he : (deed d6 .flush).2 = 0
                · have e0 := hEnd0 he
                  rw [e0]
                  have HH7 := Lib.hid hh7
                  have HE0 := Lib.hid e0
                  clear kf he e0 hh7 ho7
                  go_wp2_with fail
                  go_end0
                  rw [HALL.out]
                  exact ⟨HE0.out.symm, HH7.out, HO7.out⟩
                · have e0 := hEnd1 he
                  rw [e0]
                  refine ⟨rfl, ?_⟩
                  show _ = hEnd (run d (layD k which gen list)).2 ∧ HandAt g w7 (run d (layD k which gen list)).1 ∧ w.grownBy w7 (some g)
                  rw [HALL.out]
                  exact ⟨e0.symm, hh7, HO7.out⟩
              · have e0 := hEnd1 he
                rw [e0]
                have hall : run d (layD k which gen list) = deed d3 (.put F (markS gen 0 (bl.length : Int) (SumP.toI (SumP.sum bl)))) := by
                  rw [← run_one] at he ⊢
                  exact run_split (ys := [.put F (markOf gen 0 bl)]) (r := [.flush]) (by rw [HEQ.out]; simp only [List.append_assoc]; rfl) HR3.out he
                refine ⟨rfl, ?_⟩
                show _ = hEnd (run d (layD k which gen list)).2 ∧ HandAt g w6 (run d (layD k which gen list)).1 ∧ w.grownBy w6 (some g)
                rw [hall]
                exact ⟨e0.symm, hh6, HO6.out⟩
            · have e0 := hEnd1 he
              rw [e0]
              have hall : run d (layD k which gen list) = deed di .flush := by
                rw [← run_one] at he ⊢
                exact run_split (ys := [.flush]) (r := [.put F (markOf gen 0 bl), .flush]) (by rw [HEQ.out]; rfl) HRA.out he
              refine ⟨rfl, ?_⟩
              show _ = hEnd (run d (layD k which gen list)).2 ∧ HandAt g w3 (run d (layD k which gen list)).1 ∧ w.grownBy w3 (some g)
              rw [hall]
              exact ⟨e0.symm, hh3, HO3.out⟩
      · have e0 := hEnd1 he
        rw [e0]
        have hall : run d (layD k which gen list) = deed dk .flush := by
          rw [← run_one] at he ⊢
          obtain ⟨r, hr⟩ := layA_pre k which gen list 0
          rw [layA_zero, ← HF.out] at hr
          exact run_split (r := r) (by rw [hr, List.append_assoc]) HZD.out he
        refine ⟨rfl, ?_⟩
        show _ = hEnd (run d (layD k which gen list)).2 ∧ HandAt g w3 (run d (layD k which gen list)).1 ∧ w.grownBy w3 (some g)
        rw [hall]
        exact ⟨e0.symm, hh3, HO3.out⟩
end Go.Proofs.YtaijompnohkmaaaDoor
/- Layer 5 (wal): what a hand does, and how far it came. -/
namespace Go.Proofs.YtaijompnohkmaaaDoor
open Go.RowKit WalP PackP
theorem assert_errno (e : Int) (w : World) : (Instr.typeAssert (.iface 32 (.int .i64 e)) 20 32 true).run Tryd.prog w = .ok (.tuple #[.int .i64 e, .bool true]) w := by kernel_rfl
set_option maxRecDepth 100000 in
set_option maxHeartbeats 1000000 in
theorem caught_panicking (p : Addr) (e x : Int) (older : List PanicEntry) (w : World) (hc : w.cell? p = some (.int .i64 x)) (hz : w.frozen? p = false) :
    CallsD Tryd.prog 68 #[.pointer (some p)] (.panicking ({ v := .iface 32 (.int .i64 e), recovered := false } :: older)) w fun x u' w' =>
      x = .returned (.tuple #[]) ∧ u' = .panicking ({ v := .iface 32 (.int .i64 e), recovered := true } :: older) ∧ w' = w.setCell p (.int .i64 e) := by
  refine callsD_of_wpS Tryd.func68 rfl fun c₀ cs hu => ?_
  apply wpS_seq
  apply wpS_region
  simp [wpOpsS, go_sem, recoverD, hu, Tryd.ntmps68, Exit.thenS]
  refine wpS_of_wp ?_
  have hta := assert_errno
  go_wp2_with fail
  exact ⟨rfl, _, rfl, .tuple #[], by simp [results, Tryd.results68], rfl, rfl, rfl⟩
theorem caught_idle (p : Addr) (w : World) :
    CallsD Tryd.prog 68 #[.pointer (some p)] .returning w fun e u' w' => e = .returned (.tuple #[]) ∧ u' = .returning ∧ w' = w := by
  refine callsD_of_wpS Tryd.func68 rfl fun c₀ cs hu => ?_
  apply wpS_seq
  apply wpS_region
  simp [wpOpsS, go_sem, recoverD, hu, Tryd.ntmps68, Exit.thenS]
  refine wpS_of_wp ?_
  go_wp2_with fail
  cases c₀
  simp_all [bodyPostS, results, Tryd.results68]
/-- What a hand has done, and the error's variable behind it. -/
def Wrote (g : Nat) (pe : Addr) (r : DiskP × Int) (w w' : World) : Prop := ∃ w'', w.grownBy w'' (some g) ∧ HandAt g w'' r.1 ∧ w' = if r.2 = 0 then w'' else w''.setCell pe (.int .i64 r.2)
set_option maxRecDepth 100000 in
set_option maxHeartbeats 1000000 in
theorem write1_any {g N : Nat} (caps : Array Value) (pe pd ph : Addr) (r : DiskP × Int) (w : World) (he : w.cell? pe = some (.int .i64 0)) (hz : w.frozen? pe = false) (hpe : pe.block ≠ g) (hpl : pe.block < w.heap.size)
    (hd : w.cell? pd = some (.func (.func N) #[] caps)) (hp : w.cell? ph = some (.pointer (some ⟨g, 0, none⟩)))
    (hcf : ∀ args w, (callFunc N args).run Tryd.prog w = .ok (.enter N args) w)
    (hdo : Calls Tryd.prog N (#[.pointer (some ⟨g, 0, none⟩)] ++ caps) w fun x w' => x = hEnd r.2 ∧ HandAt g w' r.1 ∧ w.grownBy w' (some g)) :
    Calls Tryd.prog 67 #[.pointer (some pe), .pointer (some pd), .pointer (some ph)] w fun x w' => x = .returned (.tuple #[]) ∧ Wrote g pe r w w' := by
  go_enter_defers Tryd.func67, Tryd.ntmps67
  go_wp2_with fail
  refine hdo.mono ?_
  rintro x w2 ⟨rfl, hh, ho⟩
  have hpb := ho.block pe.block hpl (fun e => hpe (Option.some.inj e))
  have he2 : w2.cell? pe = some (.int .i64 0) := by
    rw [← he]; unfold World.cell?; rw [hpb]
  have hz2 : w2.frozen? pe = false := by
    rw [← hz]; unfold World.frozen?; rw [hpb]
  by_cases h0 : r.2 = 0
  · have e0 := hEnd0 h0
    rw [e0]
    have H0 := Lib.hid h0
    clear hdo he hz hd hp e0 h0 he2 hz2 hpb
    go_wp2_with fail
    refine leaves_cons (f := 68) (args := #[.pointer (some pe)]) (by simp) (by simp [go_sem]) ?_
    refine (caught_idle pe _).mono ?_
    rintro e u' w3 ⟨rfl, rfl, rfl⟩
    simp [Leaves, settle, results, Tryd.results67]
    exact ⟨_, ho, hh, by rw [if_pos H0.out]⟩
  · have e0 := hEnd1 h0
    rw [e0]
    refine leaves_cons (f := 68) (args := #[.pointer (some pe)]) (by simp) (by simp [go_sem]) ?_
    refine (caught_panicking pe r.2 0 [] _ he2 hz2).mono ?_
    rintro e u' w3 ⟨rfl, rfl, rfl⟩
    simp [Leaves, settle, results, Tryd.results67]
    exact ⟨_, ho, hh, by rw [if_neg h0]⟩
end Go.Proofs.YtaijompnohkmaaaDoor
/- Layer 5 (wal): write. -/
namespace Go.Proofs.YtaijompnohkmaaaDoor
open Go.RowKit WalP PackP
/-- A disk's slices lie in no block of fewer than 64 cells. -/
theorem DiskV.slFar {B T : Nat} {w : World} {v : Value} {d : DiskP} {C : Array Value} {e : TypeId} {fz : Nat × Nat} (h : DiskV B w v d) (hT : w.heap[T]? = some (.cells C e fz)) (hC : C.size < 64) : DSl (· ≠ T) v := by
  have one : ∀ {sz n : Nat} {cs : List Value} {u : Value}, 64 ≤ sz → Row B w u sz n cs → Sl (· ≠ T) u := fun {sz n cs u} hsz h => by
    obtain ⟨hl, a, cap, rfl, _, _, h3⟩ := h
    intro a' n' c' hv hp
    cases hv
    obtain ⟨b, off, hb, _, hc⟩ := h3 hp
    cases hb
    intro hbT
    have hbT : b = T := hbT
    subst hbT
    have h1 : 63 < cs.length := by
      rw [hl]
      calc 63 < 1 * 64 := by decide
        _ ≤ n * sz := Nat.mul_le_mul hp hsz
    have h2 := hc 63 _ (List.getElem?_eq_getElem h1)
    rw [cell_of_row w b (off + 63) _ _ _ hT] at h2
    have := (Array.getElem?_eq_some_iff.1 h2).1
    omega
  obtain ⟨sv, lv, rfl, h1, h2⟩ := h
  exact DSl.mk (one (by omega) h1.2) (one (by omega) h2.2)
theorem makeFunc_run (fn : Fn) (first caps : Array Value) (w : World) : (Instr.makeFunc fn first caps).run Tryd.prog w = .ok (.func fn first caps) w := rfl
theorem alloc_heap (w : World) (o : Obj) (i : Nat) : (w.alloc o).heap[i]? = if i = w.heap.size then some o else w.heap[i]? := by
  show (w.heap.push o)[i]? = _
  rw [Array.getElem?_push]
theorem alloc_size (w : World) (o : Obj) : (w.alloc o).heap.size = w.heap.size + 1 := by simp
/-- Six blocks, one behind the other. -/
theorem six (w : World) (o0 o1 o2 o3 o4 o5 : Obj) : ∃ w6, w6 = (((((w.alloc o0).alloc o1).alloc o2).alloc o3).alloc o4).alloc o5 ∧ Below w.heap.size w w6 ∧ w6.heap.size = w.heap.size + 6 ∧ w6.heap[w.heap.size + 1]? = some o1 ∧ w6.heap[w.heap.size + 1 + 1]? = some o2 ∧ w6.heap[w.heap.size + 1 + 1 + 1]? = some o3 ∧ w6.heap[w.heap.size + 1 + 1 + 1 + 1]? = some o4 ∧ w6.heap[w.heap.size + 1 + 1 + 1 + 1 + 1]? = some o5 := by
  refine ⟨_, rfl, Below.alloc (Below.alloc (Below.alloc (Below.alloc (Below.alloc (Below.alloc (Below.refl _ _) (Nat.le_refl _) _) (by simp) _) (by simp; omega) _) (by simp; omega) _) (by simp; omega) _) (by simp; omega) _, by simp, ?_, ?_, ?_, ?_, ?_⟩
  all_goals
    simp only [alloc_heap, alloc_size]
    repeat (first | rw [if_pos trivial] | rw [if_neg (by omega)])
/-- Three blocks hold what they hold. -/
def Rows3 (a b c : Nat) (x y z : Obj) (w : World) : Prop := w.heap[a]? = some x ∧ w.heap[b]? = some y ∧ w.heap[c]? = some z
set_option maxRecDepth 100000 in
set_option maxHeartbeats 2000000 in
theorem write_any {B N : Nat} (v : Value) (caps : Array Value) (d : DiskP) (r : DiskP × Int) (w : World) (hd : DiskV B w v d)
    (hcf : ∀ args w, (callFunc N args).run Tryd.prog w = .ok (.enter N args) w)
    (hdo : ∀ (g : Nat) (w' : World), Below w.heap.size w w' → HandAt g w' d → w.heap.size ≤ g → Calls Tryd.prog N (#[.pointer (some ⟨g, 0, none⟩)] ++ caps) w' fun x w'' => x = hEnd r.2 ∧ HandAt g w'' r.1 ∧ w'.grownBy w'' (some g)) :
    Calls Tryd.prog 38 #[v, .func (.func N) #[] caps] w fun e w' => (∃ v', e = .returned (.tuple #[v', .int .i64 r.2]) ∧ DiskV w'.heap.size w' v' r.1) ∧ Below w.heap.size w w' := by
  have hd := hd.tight
  obtain ⟨p1, q1, p2, q2, rfl, _, _⟩ := hd.parts
  have HD := Lib.hid hd
  have HDO := Lib.hid hdo
  have hmf := makeFunc_run
  clear hd hdo
  go_enter Tryd.func38, Tryd.ntmps38
  go_upto_region 2 with (fail)
  obtain ⟨w6, hw6, hb6, hs6, R1, R2, R3, R4, R5⟩ := six w (.cells #[.slice p1 d.secs.length q1, .slice p2 d.loose.length q2, .int .i64 d.fuse, .bool d.down] 25) (.cells #[.func (.func N) #[] caps] 86) (.cells #[.slice none 0 0, .slice none 0 0, .int .i64 0, .bool false] 25) (.cells #[.int .i64 0] 32) (.cells #[.slice p1 d.secs.length q1, .slice p2 d.loose.length q2, .int .i64 d.fuse, .bool d.down] 110) (.cells #[.pointer (some ⟨w.heap.size + 1 + 1 + 1 + 1, 0, none⟩)] 78)
  rw [← hw6]
  clear hw6
  have hd6 := (HD.out.below hb6).tight
  have hh6 : HandAt (w.heap.size + 1 + 1 + 1 + 1) w6 d := ⟨_, R4, hd6, hd6.slFar R4 (by simp)⟩
  have k1 := write1_any (g := w.heap.size + 1 + 1 + 1 + 1) (N := N) caps ⟨w.heap.size + 1 + 1 + 1, 0, none⟩ ⟨w.heap.size + 1, 0, none⟩ ⟨w.heap.size + 1 + 1 + 1 + 1 + 1, 0, none⟩ r w6
    (cell_of_row w6 _ 0 _ _ _ R3) (frozen_row R3 0) (by show w.heap.size + 1 + 1 + 1 ≠ _; omega) (by show w.heap.size + 1 + 1 + 1 < _; omega) (cell_of_row w6 _ 0 _ _ _ R1) (cell_of_row w6 _ 0 _ _ _ R5) hcf (HDO.out _ _ hb6 hh6 (by omega))
  have HR2 := Lib.hid R2
  have HR3 := Lib.hid R3
  have HR5 := Lib.hid R5
  have HS6 := Lib.hid hs6
  have HB6 := Lib.hid hb6
  clear hd6 hh6 R1 R2 R3 R4 R5 hs6 hb6
  go_wp2_with fail
  refine k1.mono ?_
  rintro e w7 ⟨rfl, w8, ho8, hh8, hw7⟩
  clear k1
  obtain ⟨x1, y1, x2, y2, G8, hd8, hs8⟩ := hh8.parts
  have hsz := HS6.out
  have hsz8 := ho8.size
  have E3 := (ho8.block (w.heap.size + 1 + 1 + 1) (by omega) (fun h => by have := Option.some.inj h; omega)).trans HR3.out
  have E2 := (ho8.block (w.heap.size + 1 + 1) (by omega) (fun h => by have := Option.some.inj h; omega)).trans HR2.out
  have E5 := (ho8.block (w.heap.size + 1 + 1 + 1 + 1 + 1) (by omega) (fun h => by have := Option.some.inj h; omega)).trans HR5.out
  have hb8 : Below w.heap.size w w8 := HB6.out.trans ⟨ho8.os, ho8.tape, ho8.output, ho8.size, fun k hk => ho8.block k (by omega) (fun h => by have := Option.some.inj h; omega)⟩
  have H7 : w7.heap[w.heap.size + 1 + 1 + 1 + 1]? = w8.heap[w.heap.size + 1 + 1 + 1 + 1]? ∧ w7.heap[w.heap.size + 1 + 1]? = w8.heap[w.heap.size + 1 + 1]? ∧ w7.heap[w.heap.size + 1 + 1 + 1 + 1 + 1]? = w8.heap[w.heap.size + 1 + 1 + 1 + 1 + 1]? ∧ w7.heap[w.heap.size + 1 + 1 + 1]? = some (.cells #[.int .i64 r.2] 32 (0, 0)) ∧ Below w.heap.size w8 w7 ∧ DiskV w7.heap.size w7 (.agg #[.slice x1 r.1.secs.length y1, .slice x2 r.1.loose.length y2, .int .i64 r.1.fuse, .bool r.1.down]) r.1 := by
    rw [hw7]
    split
    · rename_i h0
      exact ⟨rfl, rfl, rfl, by rw [h0]; exact E3, Below.refl _ _, hd8⟩
    · have hf := hd8.slFar E3 (by simp)
      refine ⟨setFar (by omega) _ _, setFar (by omega) _ _, setFar (by omega) _ _, ?_, (Below.refl _ _).setCell (by show w.heap.size ≤ w.heap.size + 1 + 1 + 1; omega) _, ?_⟩
      · simp [World.setCell, Array.getElem?_modify, E3]
      · have := hd8.setFar (p := ⟨w.heap.size + 1 + 1 + 1, 0, none⟩) hf (.int .i64 r.2)
        simpa [World.setCell] using this
  obtain ⟨q1', q2', q3', q4', q5', q6'⟩ := H7
  have G7 := q1'.trans G8
  have F2 := q2'.trans E2
  have F5 := q3'.trans E5
  have HB7 := Lib.hid (hb8.trans q5')
  have HD7 := Lib.hid q6'
  clear q1' q2' q3' q5' q6' E2 E3 E5 hd8 hs8 hb8 ho8 hw7 hh8 HR2 HR3 HR5 HB6 G8
  have hsz7 : w.heap.size + 6 ≤ w7.heap.size := by have := block_lt F5; omega
  have O0 := cell_of_row w7 _ 0 _ _ _ F2
  have O1 := cell_of_row w7 _ 1 _ _ _ F2
  have O2 := cell_of_row w7 _ 2 _ _ _ F2
  have O3 := cell_of_row w7 _ 3 _ _ _ F2
  have Z2 := frozen_row F2
  have Z3 := frozen_row q4'
  go_wp2_with fail
  have hC : ∀ w' : World, (w'.heap[w.heap.size + 1 + 1 + 1 + 1]? = some (.cells #[.slice x1 r.1.secs.length y1, .slice x2 r.1.loose.length y2, .int .i64 r.1.fuse, .bool r.1.down] 110 (0, 0)) ∧ w'.heap[w.heap.size + 1 + 1 + 1 + 1 + 1]? = some (.cells #[.pointer (some ⟨w.heap.size + 1 + 1 + 1 + 1, 0, none⟩)] 78 (0, 0)) ∧ w'.heap[w.heap.size + 1 + 1 + 1]? = some (.cells #[.int .i64 r.2] 32 (0, 0))) →
      w'.cell? ⟨w.heap.size + 1 + 1 + 1 + 1, 0, none⟩ = some (.slice x1 r.1.secs.length y1) ∧ w'.cell? ⟨w.heap.size + 1 + 1 + 1 + 1, 1, none⟩ = some (.slice x2 r.1.loose.length y2) ∧ w'.cell? ⟨w.heap.size + 1 + 1 + 1 + 1, 2, none⟩ = some (.int .i64 r.1.fuse) ∧ w'.cell? ⟨w.heap.size + 1 + 1 + 1 + 1, 3, none⟩ = some (.bool r.1.down) ∧ w'.cell? ⟨w.heap.size + 1 + 1 + 1 + 1 + 1, 0, none⟩ = some (.pointer (some ⟨w.heap.size + 1 + 1 + 1 + 1, 0, none⟩)) ∧ w'.cell? ⟨w.heap.size + 1 + 1 + 1, 0, none⟩ = some (.int .i64 r.2) :=
    fun w' h => ⟨cell_of_row w' _ 0 _ _ _ h.1, cell_of_row w' _ 1 _ _ _ h.1, cell_of_row w' _ 2 _ _ _ h.1, cell_of_row w' _ 3 _ _ _ h.1, cell_of_row w' _ 0 _ _ _ h.2.1, cell_of_row w' _ 0 _ _ _ h.2.2⟩
  obtain ⟨hnd, hhnd⟩ : ∃ o : Obj, o = (.cells #[.slice x1 r.1.secs.length y1, .slice x2 r.1.loose.length y2, .int .i64 r.1.fuse, .bool r.1.down] 110 (0, 0)) := ⟨_, rfl⟩
  obtain ⟨ptr, hptr⟩ : ∃ o : Obj, o = (.cells #[.pointer (some ⟨w.heap.size + 1 + 1 + 1 + 1, 0, none⟩)] 78 (0, 0)) := ⟨_, rfl⟩
  obtain ⟨err, herr⟩ : ∃ o : Obj, o = (.cells #[.int .i64 r.2] 32 (0, 0)) := ⟨_, rfl⟩
  have L0 : ∀ w', Rows3 (w.heap.size + 1 + 1 + 1 + 1) (w.heap.size + 1 + 1 + 1 + 1 + 1) (w.heap.size + 1 + 1 + 1) hnd ptr err w' → w'.cell? ⟨w.heap.size + 1 + 1 + 1 + 1, 0, none⟩ = some (.slice x1 r.1.secs.length y1) := fun w' h => (hC w' (by rw [hhnd, hptr, herr] at h; exact h)).1
  have L1 : ∀ w', Rows3 (w.heap.size + 1 + 1 + 1 + 1) (w.heap.size + 1 + 1 + 1 + 1 + 1) (w.heap.size + 1 + 1 + 1) hnd ptr err w' → w'.cell? ⟨w.heap.size + 1 + 1 + 1 + 1, 1, none⟩ = some (.slice x2 r.1.loose.length y2) := fun w' h => (hC w' (by rw [hhnd, hptr, herr] at h; exact h)).2.1
  have L2 : ∀ w', Rows3 (w.heap.size + 1 + 1 + 1 + 1) (w.heap.size + 1 + 1 + 1 + 1 + 1) (w.heap.size + 1 + 1 + 1) hnd ptr err w' → w'.cell? ⟨w.heap.size + 1 + 1 + 1 + 1, 2, none⟩ = some (.int .i64 r.1.fuse) := fun w' h => (hC w' (by rw [hhnd, hptr, herr] at h; exact h)).2.2.1
  have L3 : ∀ w', Rows3 (w.heap.size + 1 + 1 + 1 + 1) (w.heap.size + 1 + 1 + 1 + 1 + 1) (w.heap.size + 1 + 1 + 1) hnd ptr err w' → w'.cell? ⟨w.heap.size + 1 + 1 + 1 + 1, 3, none⟩ = some (.bool r.1.down) := fun w' h => (hC w' (by rw [hhnd, hptr, herr] at h; exact h)).2.2.2.1
  have L4 : ∀ w', Rows3 (w.heap.size + 1 + 1 + 1 + 1) (w.heap.size + 1 + 1 + 1 + 1 + 1) (w.heap.size + 1 + 1 + 1) hnd ptr err w' → w'.cell? ⟨w.heap.size + 1 + 1 + 1 + 1 + 1, 0, none⟩ = some (.pointer (some ⟨w.heap.size + 1 + 1 + 1 + 1, 0, none⟩)) := fun w' h => (hC w' (by rw [hhnd, hptr, herr] at h; exact h)).2.2.2.2.1
  have L5 : ∀ w', Rows3 (w.heap.size + 1 + 1 + 1 + 1) (w.heap.size + 1 + 1 + 1 + 1 + 1) (w.heap.size + 1 + 1 + 1) hnd ptr err w' → w'.cell? ⟨w.heap.size + 1 + 1 + 1, 0, none⟩ = some (.int .i64 r.2) := fun w' h => (hC w' (by rw [hhnd, hptr, herr] at h; exact h)).2.2.2.2.2
  have s0 : Rows3 (w.heap.size + 1 + 1 + 1 + 1) (w.heap.size + 1 + 1 + 1 + 1 + 1) (w.heap.size + 1 + 1 + 1) hnd ptr err w7.drew := by rw [hhnd, hptr, herr]; exact ⟨G7, F5, q4'⟩
  have n1 : w.heap.size + 1 + 1 ≠ w.heap.size + 1 + 1 + 1 + 1 := by omega
  have n2 : w.heap.size + 1 + 1 ≠ w.heap.size + 1 + 1 + 1 + 1 + 1 := by omega
  have n3 : w.heap.size + 1 + 1 ≠ w.heap.size + 1 + 1 + 1 := by omega
  have n4 : w.heap.size + 1 + 1 + 1 ≠ w.heap.size + 1 + 1 + 1 + 1 := by omega
  have n5 : w.heap.size + 1 + 1 + 1 ≠ w.heap.size + 1 + 1 + 1 + 1 + 1 := by omega
  obtain ⟨w8, hw8⟩ : ∃ w8, w8 = put4 w7.drew (w.heap.size + 1 + 1) (.slice x1 r.1.secs.length y1) (.slice x2 r.1.loose.length y2) (.int .i64 r.1.fuse) (.bool r.1.down) := ⟨_, rfl⟩
  have F2' : w7.drew.heap[w.heap.size + 1 + 1]? = some (.cells #[.slice none 0 0, .slice none 0 0, .int .i64 0, .bool false] 25 (0, 0)) := F2
  have G8 : w8.heap[w.heap.size + 1 + 1 + 1 + 1]? = some (.cells #[.slice x1 r.1.secs.length y1, .slice x2 r.1.loose.length y2, .int .i64 r.1.fuse, .bool r.1.down] 110 (0, 0)) := by rw [hw8]; exact put4_far (show w7.drew.heap[w.heap.size + 1 + 1 + 1 + 1]? = some (.cells #[.slice x1 r.1.secs.length y1, .slice x2 r.1.loose.length y2, .int .i64 r.1.fuse, .bool r.1.down] 110 (0, 0)) from G7) n1 _ _ _ _
  have F58 : w8.heap[w.heap.size + 1 + 1 + 1 + 1 + 1]? = some (.cells #[.pointer (some ⟨w.heap.size + 1 + 1 + 1 + 1, 0, none⟩)] 78 (0, 0)) := by rw [hw8]; exact put4_far (show w7.drew.heap[w.heap.size + 1 + 1 + 1 + 1 + 1]? = some (.cells #[.pointer (some ⟨w.heap.size + 1 + 1 + 1 + 1, 0, none⟩)] 78 (0, 0)) from F5) n2 _ _ _ _
  have q48 : w8.heap[w.heap.size + 1 + 1 + 1]? = some (.cells #[.int .i64 r.2] 32 (0, 0)) := by rw [hw8]; exact put4_far (show w7.drew.heap[w.heap.size + 1 + 1 + 1]? = some (.cells #[.int .i64 r.2] 32 (0, 0)) from q4') n3 _ _ _ _
  have F28 : w8.heap[w.heap.size + 1 + 1]? = some (.cells #[.slice x1 r.1.secs.length y1, .slice x2 r.1.loose.length y2, .int .i64 r.1.fuse, .bool r.1.down] 25 (0, 0)) := by rw [hw8]; exact put4_heap F2' _ _ _ _
  have s8 : Rows3 (w.heap.size + 1 + 1 + 1 + 1) (w.heap.size + 1 + 1 + 1 + 1 + 1) (w.heap.size + 1 + 1 + 1) hnd ptr err w8 := by rw [hhnd, hptr, herr]; exact ⟨G8, F58, q48⟩
  have hd7 : DiskV w7.drew.heap.size w7.drew (.agg #[.slice x1 r.1.secs.length y1, .slice x2 r.1.loose.length y2, .int .i64 r.1.fuse, .bool r.1.down]) r.1 := HD7.out
  have hd8 : DiskV w8.heap.size w8 (.agg #[.slice x1 r.1.secs.length y1, .slice x2 r.1.loose.length y2, .int .i64 r.1.fuse, .bool r.1.down]) r.1 := by
    have h1 := put4_diskV hd7 (hd7.slFar F2' (by simp)) (.slice x1 r.1.secs.length y1) (.slice x2 r.1.loose.length y2) (.int .i64 r.1.fuse) (.bool r.1.down)
    rw [← hw8] at h1
    have hz : w8.heap.size = w7.drew.heap.size := by rw [hw8]; simp [put4, World.setCell]
    rw [hz]
    exact h1
  have hb8 : Below w.heap.size w w8 := by rw [hw8]; exact put4_below (below_draws HB7.out 1) (by omega) _ _ _ _
  obtain ⟨w9, hw9⟩ : ∃ w9, w9 = w8.setCell ⟨w.heap.size + 1 + 1 + 1, 0, none⟩ (.int .i64 r.2) := ⟨_, rfl⟩
  have G9 : w9.heap[w.heap.size + 1 + 1 + 1 + 1]? = some (.cells #[.slice x1 r.1.secs.length y1, .slice x2 r.1.loose.length y2, .int .i64 r.1.fuse, .bool r.1.down] 110 (0, 0)) := by rw [hw9]; exact (setFar n4 0 _).trans G8
  have F59 : w9.heap[w.heap.size + 1 + 1 + 1 + 1 + 1]? = some (.cells #[.pointer (some ⟨w.heap.size + 1 + 1 + 1 + 1, 0, none⟩)] 78 (0, 0)) := by rw [hw9]; exact (setFar n5 0 _).trans F58
  have q49 : w9.heap[w.heap.size + 1 + 1 + 1]? = some (.cells #[.int .i64 r.2] 32 (0, 0)) := by rw [hw9]; simp [World.setCell, Array.getElem?_modify, q48]
  have F29 : w9.heap[w.heap.size + 1 + 1]? = some (.cells #[.slice x1 r.1.secs.length y1, .slice x2 r.1.loose.length y2, .int .i64 r.1.fuse, .bool r.1.down] 25 (0, 0)) := by rw [hw9]; exact (setFar (Ne.symm n3) 0 _).trans F28
  have s9 : Rows3 (w.heap.size + 1 + 1 + 1 + 1) (w.heap.size + 1 + 1 + 1 + 1 + 1) (w.heap.size + 1 + 1 + 1) hnd ptr err w9 := by rw [hhnd, hptr, herr]; exact ⟨G9, F59, q49⟩
  have hd9 : DiskV w9.heap.size w9 (.agg #[.slice x1 r.1.secs.length y1, .slice x2 r.1.loose.length y2, .int .i64 r.1.fuse, .bool r.1.down]) r.1 := by
    have h1 := hd8.setFar (p := ⟨w.heap.size + 1 + 1 + 1, 0, none⟩) (hd8.slFar q48 (by simp)) (.int .i64 r.2)
    rw [← hw9] at h1
    have hz : w9.heap.size = w8.heap.size := by rw [hw9]; simp [World.setCell]
    rw [hz]
    exact h1
  have hb9 : Below w.heap.size w w9 := by rw [hw9]; exact hb8.setCell (by show w.heap.size ≤ w.heap.size + 1 + 1 + 1; omega) _
  have HD9 := Lib.hid hd9
  have HB9 := Lib.hid hb9
  have HF29 := Lib.hid F29
  have HQ49 := Lib.hid q49
  have C38 := cell_of_row w8 _ 0 _ _ _ q48
  have Z38 := frozen_row q48
  clear hC hhnd hptr herr G7 F5 q4' F2 F2' G8 F58 q48 F28 G9 F59 q49 F29 hd7 hd8 hd9 hb8 hb9 n1 n2 n3 n4 n5
  replace hw8 : w8 = (put4 w7 (w.heap.size + 1 + 1) (.slice x1 r.1.secs.length y1) (.slice x2 r.1.loose.length y2) (.int .i64 r.1.fuse) (.bool r.1.down)).drew := hw8
  dsimp only [put4] at hw8
  have HW8 := Lib.hid hw8
  have HW9 := Lib.hid hw9
  clear hw8 hw9
  refine wp_region_I [(false, 0), (false, 1), (false, 2), (false, 3), (false, 4), (true, 5), (true, 6)] (Rows3 (w.heap.size + 1 + 1 + 1 + 1) (w.heap.size + 1 + 1 + 1 + 1 + 1) (w.heap.size + 1 + 1 + 1) hnd ptr err) (by kernel_rfl) (by kernel_rfl) s0 ?_
  repeat (first | (refine heldI_skip rfl rfl ?_; simp only [Act.put, List.setIfInBounds_toArray, List.set_cons_zero, List.set_cons_succ]) | (refine heldI_take rfl ?_ rfl (fun w' hw' => ?_) ?_; rotate_left; (go_simp; first | done | with_reducible rfl); (try simp only [Act.put, List.setIfInBounds_toArray, List.set_cons_zero, List.set_cons_succ])))
  refine heldI_act rfl rfl fun K hK => ?_
  go_simp
  rw [← HW8.out]
  refine hK.out _ _ s8 ?_
  clear hK K O0 O1 O2 O3 Z2 Z3
  refine heldI_act rfl rfl fun K hK => ?_
  go_simp
  rw [← HW9.out]
  refine hK.out _ _ s9 ?_
  clear hK K C38 Z38
  refine heldI_nil ?_
  go_wp2_with fail
  have c0 := cell_of_row w9 _ 0 _ _ _ HF29.out
  have c1 := cell_of_row w9 _ 1 _ _ _ HF29.out
  have c2 := cell_of_row w9 _ 2 _ _ _ HF29.out
  have c3 := cell_of_row w9 _ 3 _ _ _ HF29.out
  have c4 := cell_of_row w9 _ 0 _ _ _ HQ49.out
  refine bodyPost_ret (v := .tuple #[.agg #[.slice x1 r.1.secs.length y1, .slice x2 r.1.loose.length y2, .int .i64 r.1.fuse, .bool r.1.down], .int .i64 r.2]) ?_ rfl ⟨⟨_, rfl, HD9.out⟩, HB9.out⟩
  simp [results, Tryd.results38, go_sem, c0, c1, c2, c3, c4]
end Go.Proofs.YtaijompnohkmaaaDoor
/- Layer 5 (wal): total, Room, and what is handed to write. -/
namespace Go.Proofs.YtaijompnohkmaaaDoor
open Go.RowKit WalP PackP
theorem totalN_all : ∀ l : List (List UInt8), (∀ b ∈ l, takes b.length ≠ 0) → totalN l = some (posN l)
  | [], _ => rfl
  | b :: l, h => by
    have := totalN_all l (fun x hx => h x (List.mem_cons_of_mem _ hx))
    simp [totalN, h b (List.mem_cons_self ..), this, posN]
theorem totalN_bad : ∀ l : List (List UInt8), (∃ b ∈ l, takes b.length = 0) → totalN l = none
  | [], h => by obtain ⟨b, hb, _⟩ := h; cases hb
  | b :: l, h => by
    obtain ⟨x, hx, hx2⟩ := h
    rcases List.mem_cons.1 hx with rfl | hx
    · simp [totalN, hx2]
    · by_cases hb : takes b.length = 0
      · simp [totalN, hb]
      · simp [totalN, hb, totalN_bad l ⟨x, hx, hx2⟩]
/-- What total hands back. -/
def totV (l : List (List UInt8)) : Value := match total l with | some n => .tuple #[.int .i64 n, .bool true] | none => .tuple #[.int .i64 0, .bool false]
set_option maxRecDepth 100000 in
set_option maxHeartbeats 1000000 in
theorem total_any {B : Nat} (v : Value) (ls : List (List UInt8)) (w : World) (hv : Pieces B w v ls) (hn : ls.length ≤ 2 ^ 46) (hl : ∀ b ∈ ls, b.length ≤ 2 ^ 62) :
    Calls Tryd.prog 49 #[v] w fun e w' => e = .returned (totV ls) ∧ w = w' := by
  obtain ⟨a, c, rfl, hnc, hc, hat⟩ := hv.at_
  obtain ⟨n, hnn⟩ : ∃ n, n = ls.length := ⟨_, rfl⟩
  rw [← hnn] at hnc hn ⊢
  have HN := Lib.hid hnn
  have HAT := Lib.hid hat
  have HL := Lib.hid hl
  clear hat hnn hv hl
  go_enter Tryd.func49, Tryd.ntmps49
  go_wp2_with fail
  go_loop [2, 9] (fun s z => ∃ k : Nat, k ≤ n ∧ z = .int .i64 k ∧ s = .int .i64 (posN (ls.take k)) ∧ ∀ b ∈ ls.take k, takes b.length ≠ 0) (fun _ z => n - (intOf z).toNat)
  case atStart => exact ⟨0, Nat.zero_le _, rfl, rfl, fun b hb => by simp at hb⟩
  case round =>
    obtain ⟨k, hk, rfl, rfl, hne⟩ := hrel
    have HNE := Lib.hid hne
    have hpl := posN_le (ls.take k)
    have hpl2 : (ls.take k).length ≤ k := List.length_take_le _ _
    obtain ⟨ps, hps⟩ : ∃ ps, ps = posN (ls.take k) := ⟨_, rfl⟩
    rw [← hps] at hpl ⊢
    have HPS := Lib.hid hps
    clear hne hps
    by_cases hkn : k < n
    · have hkl : k < ls.length := HN.out ▸ hkn
      obtain ⟨b, off, a2, c2, rfl, hbB, hcell⟩ := HAT.out k hkl
      have hE := (hcell w (Below.refl _ _)).1
      have hbl := HL.out _ (List.getElem_mem hkl)
      have hk0 : (0 : Int) ≤ (k : Int) := by omega
      have hk1 : (k : Int) < (n : Int) := by omega
      obtain ⟨L, hL⟩ : ∃ L, L = ls[k].length := ⟨_, rfl⟩
      rw [← hL] at hE hbl
      have kt := takes_any (L : Int) w
      rw [takesZ_nat] at kt
      have htl := takes_le L
      have hsnoc : ls.take (k + 1) = ls.take k ++ [ls[k]] := by rw [List.take_add_one, List.getElem?_eq_getElem hkl]; rfl
      have HSN := Lib.hid hsnoc
      have HLL := Lib.hid hL
      have HIN := Lib.hid (List.getElem_mem hkl)
      clear hcell hsnoc hL
      by_cases h0 : takes L = 0
      · rw [h0] at kt
        have hbad : totV ls = .tuple #[.int .i64 0, .bool false] := by
          have : total ls = none := by
            unfold total
            split
            · rfl
            · exact totalN_bad ls ⟨_, HIN.out, by rw [← HLL.out]; exact h0⟩
          unfold totV; rw [this]
        have HB := Lib.hid hbad
        clear hbad h0
        go_wp2_with fail
        refine kt.mono ?_
        rintro e w' ⟨rfl, rfl⟩
        go_wp2_with fail
        go_ret2
        exact ⟨by rw [HB.out]; rfl, rfl⟩
      · have hne : ((takes L : Int) == 0) = false := by rw [beq_eq_false_iff_ne]; omega
        have H0 := Lib.hid h0
        clear h0
        go_wp2_with fail
        refine kt.mono ?_
        rintro e w' ⟨rfl, rfl⟩
        go_wp2_with fail
        go_round
        case rel =>
          refine ⟨k + 1, by omega, by go_num, ?_, fun x hx => ?_⟩
          · rw [HSN.out, posN_append, ← HPS.out]
            simp [posN, ← HLL.out]
          · rw [HSN.out] at hx
            rcases List.mem_append.1 hx with hx | hx
            · exact HNE.out x hx
            · rw [List.mem_singleton.1 hx, ← HLL.out]; exact H0.out
        case measure => simp [intOf]; omega
    · obtain rfl : k = n := by omega
      have hall : totV ls = .tuple #[.int .i64 ps, .bool (decide (0 < k))] := by
        have ht : ls.take k = ls := by rw [HN.out]; exact List.take_length
        have h1 := HNE.out
        rw [ht] at h1
        have h2 := HPS.out
        rw [ht] at h2
        cases ls with
        | nil =>
          have := HN.out
          simp at this
          subst this
          rw [h2]; rfl
        | cons x l =>
          have h3 : total (x :: l) = some (posN (x :: l)) := by unfold total; rw [if_neg (by simp), totalN_all _ h1]
          unfold totV
          rw [h3, h2]
          have : 0 < k := by rw [HN.out]; simp
          simp [this]
      have HA := Lib.hid hall
      clear hall
      go_wp2_with fail
      go_ret2
      exact ⟨by rw [HA.out]; simp, rfl⟩
set_option maxRecDepth 100000 in
set_option maxHeartbeats 1000000 in
theorem room_any {B : Nat} (v : Value) (d : DiskP) (l : LogP) (w : World) (h : DiskV B w v d) (hl0 : -9223372036854775808 ≤ l.half ∧ l.half ≤ 9223372036854775807) :
    Calls Tryd.prog 16 #[v, logV l] w fun e w' => e = .returned (.int .i64 (roomP d l)) ∧ Below w.heap.size w w' := by
  obtain ⟨a1, n1, a2, n2, rfl, hs, hl⟩ := h.tight.parts
  obtain ⟨w2, hw2⟩ : ∃ w2, w2 = boxes w #[.slice a1 d.secs.length n1, .slice a2 d.loose.length n2, .int .i64 d.fuse, .bool d.down] l := ⟨_, rfl⟩
  have hdv : DiskV w.heap.size w (.agg #[.slice a1 d.secs.length n1, .slice a2 d.loose.length n2, .int .i64 d.fuse, .bool d.down]) d := ⟨_, _, rfl, hs, hl⟩
  have hb2 : Below w.heap.size w w2 := by rw [hw2]; exact boxes_below w _ l
  have hD : ∀ w', Below w2.heap.size w2 w' → DiskV w2.heap.size w' (.agg #[.slice a1 d.secs.length n1, .slice a2 d.loose.length n2, .int .i64 d.fuse, .bool d.down]) d := fun w' hb => (hdv.below hb2).tight.below hb
  have hC : ∀ w', Below w2.heap.size w2 w' → _ := fun w' hb => boxes_cells (w := w) (w' := w') (l := l) (by rw [← hw2]; exact hb)
  have hA0 : ∀ w', Below w2.heap.size w2 w' → _ := fun w' hb => cell_of_row w' _ 0 _ _ _ (hC w' hb).1
  have hA1 : ∀ w', Below w2.heap.size w2 w' → _ := fun w' hb => cell_of_row w' _ 1 _ _ _ (hC w' hb).1
  have hA2 : ∀ w', Below w2.heap.size w2 w' → _ := fun w' hb => cell_of_row w' _ 2 _ _ _ (hC w' hb).1
  have hA3 : ∀ w', Below w2.heap.size w2 w' → _ := fun w' hb => cell_of_row w' _ 3 _ _ _ (hC w' hb).1
  have hB0 : ∀ w', Below w2.heap.size w2 w' → _ := fun w' hb => cell_of_row w' _ 0 _ _ _ (hC w' hb).2
  have hB1 : ∀ w', Below w2.heap.size w2 w' → _ := fun w' hb => cell_of_row w' _ 1 _ _ _ (hC w' hb).2
  have hB2 : ∀ w', Below w2.heap.size w2 w' → _ := fun w' hb => cell_of_row w' _ 2 _ _ _ (hC w' hb).2
  have hB3 : ∀ w', Below w2.heap.size w2 w' → _ := fun w' hb => cell_of_row w' _ 3 _ _ _ (hC w' hb).2
  have hF : ∀ w', Below w2.heap.size w2 w' → Below w.heap.size w w' := fun w' hb => hb2.trans (hb.mono hb2.size)
  have HD := Lib.hid hD
  have HF := Lib.hid hF
  have k1 := (walRight_any _ d l w2 (hD w2 (Below.refl _ _)) hl0)
  unfold logV at k1
  obtain ⟨R, hR⟩ : ∃ R, R = rightL d l := ⟨_, rfl⟩
  rw [← hR] at k1
  have h2 := Below.refl w2.heap.size w2
  have a0 := hA0 w2 h2
  have a1' := hA1 w2 h2
  have a2' := hA2 w2 h2
  have a3 := hA3 w2 h2
  have b0 := hB0 w2 h2
  have b1 := hB1 w2 h2
  have b2 := hB2 w2 h2
  have b3 := hB3 w2 h2
  unfold boxes at hw2
  have HW := Lib.hid hw2
  have HR := Lib.hid hR
  have hu : R = true → 2 ≤ l.used ∧ l.used ≤ (half d : Nat) := fun h => by
    rw [hR] at h
    unfold rightL at h
    simp only [Bool.and_eq_true, decide_eq_true_eq] at h
    omega
  have hh62 : half d ≤ 2 ^ 62 := by
    obtain ⟨_, a', c', hv', hn, hc, _⟩ := hs.2
    cases hv'
    unfold maxLen at hc
    unfold half; omega
  have HU := Lib.hid hu
  unfold logV
  clear hC hD hF hdv hb2 hs hl h hl0 hw2 hR hu
  cases R with
  | false =>
    have hr : roomP d l = 0 := by unfold roomP; rw [← HR.out]; rfl
    have HRR := Lib.hid hr
    clear hr hA0 hA1 hA2 hA3 hB0 hB1 hB2 hB3
    go_enter Tryd.func16, Tryd.ntmps16
    go_upto_region 1 with (fail)
    rw [← HW.out]
    go_wp2_with fail
    refine k1.mono ?_
    rintro e w3 ⟨rfl, hb3⟩
    clear a0 a1' a2' a3 b0 b1 b2 b3
    go_wp2_with fail
    go_ret
    exact ⟨by rw [HRR.out]; rfl, HF.out _ hb3⟩
  | true =>
    have hr : roomP d l = half d - l.used := by unfold roomP; rw [← HR.out]; rfl
    obtain ⟨hu1, hu2⟩ := HU.out rfl
    have HRR := Lib.hid hr
    clear hr
    go_enter Tryd.func16, Tryd.ntmps16
    go_upto_region 1 with (fail)
    rw [← HW.out]
    go_wp2_with fail
    refine k1.mono ?_
    rintro e w3 ⟨rfl, hb3⟩
    have h00 : Below w2.heap.size w2 w3.drew := hb3.drew
    have kH : ∀ w', Below w2.heap.size w2 w' → Calls Tryd.prog 37 #[.agg #[.slice a1 d.secs.length n1, .slice a2 d.loose.length n2, .int .i64 d.fuse, .bool d.down]] w' fun e w'' => e = .returned (.int .i64 (half d : Nat)) ∧ Below w2.heap.size w2 w'' :=
      fun w' hb => (walHalf_any _ d w' (HD.out w' hb)).mono fun e w'' hx => ⟨hx.1, hb.trans (hx.2.mono hb.size)⟩
    have KH := Lib.hid kH
    have hz1 : IntKind.i64.wrap ((half d : Nat) - l.used) = (half d : Nat) - l.used := by
      simp only [IntKind.wrap, IntKind.bits, IntKind.signed]
      simp
      omega
    clear a0 a1' a2' a3 b0 b1 b2 b3 hb3 kH k1
    go_wp2_with fail
    refine wp_region_I [(false, 0), (false, 2), (false, 3), (true, 1), (false, 4), (false, 5)] (fun w' => Below w2.heap.size w2 w') (by kernel_rfl) (by kernel_rfl) h00 ?_
    repeat (first | (refine heldI_skip rfl rfl ?_; simp only [Act.put, List.setIfInBounds_toArray, List.set_cons_zero, List.set_cons_succ]) | (refine heldI_take rfl ?_ rfl (fun w' hw' => ?_) ?_; rotate_left; (go_simp; first | done | with_reducible rfl); (try simp only [Act.put, List.setIfInBounds_toArray, List.set_cons_zero, List.set_cons_succ])))
    refine heldI_act rfl rfl fun K hK => ?_
    go_simp
    refine (KH.out _ h00).mono ?_
    rintro e w6 ⟨rfl, hb6⟩
    refine hK.out _ _ hb6 ?_
    clear hK K h00
    repeat (first | (refine heldI_skip rfl rfl ?_; simp only [Act.put, List.setIfInBounds_toArray, List.set_cons_zero, List.set_cons_succ]) | (refine heldI_take rfl ?_ rfl (fun w' hw' => ?_) ?_; rotate_left; (go_simp; first | done | with_reducible rfl); (try simp only [Act.put, List.setIfInBounds_toArray, List.set_cons_zero, List.set_cons_succ])))
    refine heldI_nil ?_
    go_wp2_with fail
    go_ret
    exact ⟨by rw [HRR.out]; rfl, HF.out _ hb6⟩
end Go.Proofs.YtaijompnohkmaaaDoor
/- Layer 5 (wal): what is handed to write. -/
namespace Go.Proofs.YtaijompnohkmaaaDoor
open Go.RowKit WalP PackP
theorem secs_deed (d : DiskP) (x : Deed) : (deed d x).1.secs.length = d.secs.length := by
  cases x with
  | put a s =>
    show (putP d a s).1.secs.length = _
    unfold putP
    split
    · split <;> rfl
    · rfl
  | flush =>
    show (flushP d).1.secs.length = _
    unfold flushP
    split
    · split
      · rfl
      · exact length_settleN _ _ _ _
    · rfl
theorem half_deed (d : DiskP) (x : Deed) : half (deed d x).1 = half d := by unfold half; rw [secs_deed]
theorem secs_run : ∀ (xs : List Deed) (d : DiskP), (run d xs).1.secs.length = d.secs.length
  | [], _ => rfl
  | x :: xs, d => by
    unfold run
    split
    · rw [secs_run xs, secs_deed]
    · exact secs_deed d x
theorem half_run (xs : List Deed) (d : DiskP) : half (run d xs).1 = half d := by unfold half; rw [secs_run]
/-- A disk in a variable of its own. -/
def BoxD (b : Nat) (w : World) (d : DiskP) : Prop := ∃ A, w.heap[b]? = some (.cells A 25 (0, 0)) ∧ DiskV w.heap.size w (.agg A) d
theorem BoxD.parts {b : Nat} {w : World} {d : DiskP} (h : BoxD b w d) : ∃ p1 q1 p2 q2, w.heap[b]? = some (.cells #[.slice p1 d.secs.length q1, .slice p2 d.loose.length q2, .int .i64 d.fuse, .bool d.down] 25 (0, 0)) ∧ DiskV w.heap.size w (.agg #[.slice p1 d.secs.length q1, .slice p2 d.loose.length q2, .int .i64 d.fuse, .bool d.down]) d := by
  obtain ⟨A, hg, hd⟩ := h
  obtain ⟨p1, q1, p2, q2, hA, _, _⟩ := hd.parts
  cases hA
  exact ⟨p1, q1, p2, q2, hg, hd⟩
theorem BoxD.below {b : Nat} {w w' : World} {d : DiskP} (h : BoxD b w d) (hb : Below w.heap.size w w') : BoxD b w' d := by
  obtain ⟨A, h1, h2⟩ := h
  exact ⟨A, (hb.block _ (block_lt h1)).trans h1, (h2.below hb).tight⟩
/-- Where a step has failed. -/
theorem hEnd_ne {e : Int} {v : Value} (h : e ≠ 0) : hEnd e = .returned v → False := fun h2 => by rw [hEnd1 h] at h2; cases h2
set_option maxRecDepth 100000 in
set_option maxHeartbeats 2000000 in
theorem format1_any {g bd bl : Nat} (d : DiskP) (lv : Value) (list : List (List UInt8)) (w : World) (hh : HandAt g w d) (hd : BoxD bd w d) (hl : w.heap[bl]? = some (.cells #[lv] 31 (0, 0))) (hv : Pieces g w lv list) (hbl : bl < g) (ht : TabAt w) (hT : 0 < g)
    (hw1 : half d ≤ 2 ^ 20) (hl1 : ∀ b ∈ list, b.length ≤ 2 ^ 20) (hl2 : list.length ≤ 2 ^ 20) (hl3 : list ≠ []) :
    Calls Tryd.prog 54 (#[.pointer (some ⟨g, 0, none⟩)] ++ #[.pointer (some ⟨bd, 0, none⟩), .pointer (some ⟨bl, 0, none⟩)]) w fun x w' => x = hEnd (run d (.put (half d) zeroS :: layD (half d) 0 1 list)).2 ∧ HandAt g w' (run d (.put (half d) zeroS :: layD (half d) 0 1 list)).1 ∧ w.grownBy w' (some g) := by
  obtain ⟨p1, q1, p2, q2, hg, hdv⟩ := hd.parts
  have C0 := cell_of_row w _ 0 _ _ _ hg
  have C1 := cell_of_row w _ 1 _ _ _ hg
  have C2 := cell_of_row w _ 2 _ _ _ hg
  have C3 := cell_of_row w _ 3 _ _ _ hg
  have k1 := walHalf_any _ d w hdv
  obtain ⟨H, hH⟩ : ∃ H, H = half d := ⟨_, rfl⟩
  rw [← hH] at k1 hw1 ⊢
  have HH := Lib.hid hh
  have HL := Lib.hid hl
  have HV := Lib.hid hv
  have HT := Lib.hid ht
  have HL1 := Lib.hid hl1
  have HL3 := Lib.hid hl3
  have HHH := Lib.hid hH
  have HB0 := fun w => Lib.hid (run_build0 w)
  obtain ⟨Z, hZ⟩ : ∃ Z, Z = (u8s zeroS).toArray := ⟨_, rfl⟩
  simp only [← hZ] at HB0
  have HZ := Lib.hid hZ
  obtain ⟨D, hD⟩ : ∃ D, D = Deed.put (H : Int) zeroS :: layD H 0 1 list := ⟨_, rfl⟩
  rw [← hD]
  have HD := Lib.hid hD
  clear hh hd hl hv ht hl1 hl3 hg hdv hH hZ hD
  go_enter Tryd.func54, Tryd.ntmps54
  go_wp2_with fail
  refine k1.mono ?_
  rintro e w1 ⟨rfl, hb1⟩
  have kp := hput_any d (H : Int) zeroS w1 (HH.out.below hb1) rfl
  rw [← HZ.out] at kp
  have hb0 := (HB0 w1).out
  have HB1 := Lib.hid hb1
  clear k1 C0 C1 C2 C3 hb1
  go_wp2_with (refine wp_build_l 73 [] rfl rfl rfl hb0 ?_; refine Halt.in ?_)
  refine Halt.out ?_
  clear hb0
  go_wp2_with fail
  refine kp.mono ?_
  rintro e w2 ⟨rfl, hh2, ho2⟩
  have HO2 := Lib.hid (only_trans (only_of_below HB1.out) ho2)
  have hrun : run d D = if (deed d (.put (H : Int) zeroS)).2 = 0 then run (deed d (.put (H : Int) zeroS)).1 (layD H 0 1 list) else deed d (.put (H : Int) zeroS) := by rw [HD.out]; rfl
  by_cases he : (deed d (.put (H : Int) zeroS)).2 = 0
  · have e0 := hEnd0 he
    rw [e0]
    rw [if_pos he] at hrun
    have hb2 := below_hand HO2.out HH.out.lt
    have hhd : H = half (deed d (.put (H : Int) zeroS)).1 := by rw [half_deed, HHH.out]
    obtain ⟨d2, hd2⟩ : ∃ d2, d2 = (deed d (.put (H : Int) zeroS)).1 := ⟨_, rfl⟩
    rw [← hd2] at hh2 hhd hrun
    have kl := hlay_any d2 0 1 lv list w2 hh2 (HV.out.below hb2) (HT.out.below hb2 hT) hT (by omega) (by omega) HL1.out hl2 HL3.out
    rw [← hhd] at kl
    have hE := cell_of_row w2 _ 0 _ _ _ ((hb2.block bl hbl).trans HL.out)
    have HRUN := Lib.hid hrun
    clear kp he e0 hh2 ho2 hhd hd2 hrun hb2
    go_wp2_with fail
    refine kl.mono ?_
    rintro e w3 ⟨rfl, hh3, ho3⟩
    have HO3 := Lib.hid (only_trans HO2.out ho3)
    by_cases he : (run d2 (layD H 0 1 list)).2 = 0
    · have e0 := hEnd0 he
      rw [e0]
      have HE0 := Lib.hid e0
      have HH3 := Lib.hid hh3
      clear kl he e0 hh3 ho3
      go_wp2_with fail
      go_end0
      rw [HRUN.out]
      exact ⟨HE0.out.symm, HH3.out, HO3.out⟩
    · have e0 := hEnd1 he
      rw [e0]
      refine ⟨rfl, ?_⟩
      show _ = hEnd (run d D).2 ∧ HandAt g w3 (run d D).1 ∧ w.grownBy w3 (some g)
      rw [HRUN.out]
      exact ⟨e0.symm, hh3, HO3.out⟩
  · have e0 := hEnd1 he
    rw [e0]
    rw [if_neg he] at hrun
    refine ⟨rfl, ?_⟩
    show _ = hEnd (run d D).2 ∧ HandAt g w2 (run d D).1 ∧ w.grownBy w2 (some g)
    rw [hrun]
    exact ⟨e0.symm, hh2, HO2.out⟩
set_option maxRecDepth 100000 in
set_option maxHeartbeats 2000000 in
theorem compact1_any {g bn bl : Nat} (d : DiskP) (l : LogP) (lv : Value) (list : List (List UInt8)) (w : World) (hh : HandAt g w d) (hn : w.heap[bn]? = some (.cells #[.int .i64 l.half, .int .i64 l.gen, .int .i64 l.used, .int .i64 l.count] 27 (0, 0))) (hl : w.heap[bl]? = some (.cells #[lv] 31 (0, 0))) (hv : Pieces g w lv list) (ht : TabAt w) (hT : 0 < g)
    (hw0 : l.half = 0 ∨ l.half = 1) (hw1 : half d ≤ 2 ^ 20) (hl1 : ∀ b ∈ list, b.length ≤ 2 ^ 20) (hl2 : list.length ≤ 2 ^ 20) (hl3 : list ≠ []) :
    Calls Tryd.prog 50 (#[.pointer (some ⟨g, 0, none⟩)] ++ #[.pointer (some ⟨bn, 0, none⟩), .pointer (some ⟨bl, 0, none⟩)]) w fun x w' => x = hEnd (run d (layD (half d) l.half l.gen list)).2 ∧ HandAt g w' (run d (layD (half d) l.half l.gen list)).1 ∧ w.grownBy w' (some g) := by
  have C0 := cell_of_row w _ 0 _ _ _ hn
  have C1 := cell_of_row w _ 1 _ _ _ hn
  have hE := cell_of_row w _ 0 _ _ _ hl
  have kl := hlay_any d l.half l.gen lv list w hh hv ht hT (by rcases hw0 with h | h <;> rw [h] <;> omega) (by rcases hw0 with h | h <;> rw [h] <;> omega) hl1 hl2 hl3
  obtain ⟨D, hD⟩ : ∃ D, D = layD (half d) l.half l.gen list := ⟨_, rfl⟩
  rw [← hD] at kl ⊢
  clear hh hn hl hv ht hw0 hw1 hl1 hl2 hl3 hD
  go_enter Tryd.func50, Tryd.ntmps50
  go_wp2_with fail
  refine kl.mono ?_
  rintro e w3 ⟨rfl, hh3, ho3⟩
  by_cases he : (run d D).2 = 0
  · have e0 := hEnd0 he
    rw [e0]
    have HE0 := Lib.hid e0
    have HH3 := Lib.hid hh3
    clear kl he e0 hh3
    go_wp2_with fail
    go_end0
    exact ⟨HE0.out.symm, HH3.out, ho3⟩
  · have e0 := hEnd1 he
    rw [e0]
    exact ⟨rfl, e0.symm, hh3, ho3⟩
end Go.Proofs.YtaijompnohkmaaaDoor
