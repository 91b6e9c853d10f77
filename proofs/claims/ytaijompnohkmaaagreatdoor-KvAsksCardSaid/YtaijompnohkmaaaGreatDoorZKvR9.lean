/- Layer 6 (kv), the document's answer: Get, Begins, Prefix. -/
import Derived.Test.YtaijompnohkmaaaGreatDoorZKvN
import Derived.Test.YtaijompnohkmaaaGreatDoorZKvR1
set_option linter.unusedSimpArgs false
set_option linter.unusedVariables false
namespace Go.Proofs.YtaijompnohkmaaaGreatDoor
open Go.RowKit KvP PackP WalP
theorem getP_first : ∀ (l : List PairP) (k : Nat) (h : k < l.length) (key : List UInt8),(∀ i (hi : i < l.length),i < k → l[i].key ≠ key) → l[k].key = key → getP l key = some l[k].val
 | [],k,h,_,_,_=>by simp at h
 | p :: l,0,h,key,_,he=>by
  rw [getP_cons,if_pos (show p.key = key from he)]
  rfl
 | p :: l,k + 1,h,key,hn,he=>by
  rw [getP_cons,if_neg (show ¬ p.key = key from hn 0 (by simp) (Nat.succ_pos _))]
  exact getP_first l k (by simpa using h) key (fun i hi hik=>hn (i + 1) (by simpa using hi) (by omega)) he
set_option maxRecDepth 100000 in
set_option maxHeartbeats 4000000 in
theorem refget_any {B : Nat} (v : Value) (s : StoreP) (key : List UInt8) (w : World) (hv : StoreV B w v s) (hl : s.pairs.length ≤ 2 ^ 20) :
  Calls Tryz.prog 38 #[v,str key] w fun e w'=>e = .returned (.tuple #[str ((getP s.pairs key).getD []),.bool (getP s.pairs key).isSome]) ∧ Below w.heap.size w w':=by
 obtain ⟨pv,rfl,hp⟩:=hv
 have hp:=hp.tight
 obtain ⟨l,hll⟩ : ∃ l,l = s.pairs:=⟨_,rfl⟩
 rw [← hll] at hp hl ⊢
 obtain ⟨lg,hlg⟩ : ∃ l,l = s.log:=⟨_,rfl⟩
 rw [← hlg]
 clear hll hlg
 obtain ⟨a,c,rfl,hlc⟩:=pairs_len hp
 obtain ⟨N,hN⟩ : ∃ N,N = l.length:=⟨_,rfl⟩
 rw [← hN] at hp hlc ⊢
 obtain ⟨w1,g,HW1,HG,hb1,hbox⟩:=store_box w lg (.slice a N c)
 obtain ⟨sk,hsk⟩ : ∃ s,s = ByteArray.mk key.toArray:=⟨_,rfl⟩
 have hsk2 : str key = .string sk:=by rw [hsk];rfl
 rw [hsk2]
 have HN:=Lib.hid hN
 have HV:=Lib.hid hp
 have HSK:=Lib.hid hsk
 have HBX:=Lib.hid hbox
 have HB1:=Lib.hid hb1
 clear hN hp hsk hsk2 hbox hb1
 unfold storeV
 go_enter Tryz.func38,Tryz.ntmps38
 go_upto_region 1 with (fail)
 rw [← HW1.out,← HG.out]
 go_wp2_with fail
 go_loopw [6] (fun i wr=>∃ k : Nat,k ≤ N ∧ i = .int .i64 k ∧ Below w1.heap.size w1 wr ∧ Hid (∀ i (hi : i < l.length),i < k → l[i].key ≠ key)) (fun i _=>N - (intOf i).toNat)
 case atStart=>exact ⟨0,Nat.zero_le _,rfl,Below.refl _ _,Lib.hid (fun i hi h=>absurd h (Nat.not_lt_zero _))⟩
 case round =>
  obtain ⟨k,hk,rfl,hb,HNO⟩:=hrel
  have C4:=cell_of_row wr _ 4 _ _ _ ((hb.block _ (block_lt HBX.out)).trans HBX.out)
  have hb0:=HB1.out.trans (hb.mono HB1.out.size)
  by_cases hkN : k < N
  ·have k0 : decide ((k : Int) < (N : Int)) = true:=by simp;omega
   have k1 : (0 : Int) ≤ (k : Int):=by omega
   have k2 : (k : Int) < (N : Int):=by omega
   have hkl : k < l.length:=HN.out ▸ hkN
   obtain ⟨b,off,rfl,hbb,hc⟩:=load_pair HV.out hkl
   obtain ⟨S0,S1⟩:=hc wr hb0
   obtain ⟨sq,hsq⟩ : ∃ s,s = ByteArray.mk l[k].key.toArray:=⟨_,rfl⟩
   have e1 : str l[k].key = .string sq:=by rw [hsq];rfl
   obtain ⟨x,hx⟩ : ∃ x,x = str l[k].val:=⟨_,rfl⟩
   rw [e1] at S0
   rw [← hx] at S1
   have t1 : sq.toList = l[k].key:=by rw [hsq,Lib.toList_data]
   have t2 : sk.toList = key:=by rw [HSK.out,Lib.toList_data]
   have HX:=Lib.hid hx
   have HB0:=Lib.hid hb0
   have HB:=Lib.hid hb
   by_cases he : l[k].key = key
   ·have kE : (sq.toList == sk.toList) = true:=by rw [t1,t2,he];exact beq_self_eq_true _
    have HFIN:=Lib.hid (getP_first l k hkl key HNO.out he)
    clear hc hsq e1 hx t1 t2 he hb hb0
    go_wp2_with fail
    go_ret2
    exact ⟨by rw [HFIN.out,HX.out];rfl,HB0.out⟩
   ·have kE : (sq.toList == sk.toList) = false:=by rw [t1,t2];exact beq_eq_false_iff_ne.2 he
    have HNO2:=Lib.hid he
    clear hc hsq e1 hx t1 t2 he hb hb0
    go_wp2_with fail
    go_roundw
    case rel =>
     refine ⟨k + 1,by omega,by go_num,HB.out,Lib.hid (fun i hi h=>?_)⟩
     by_cases hik : i < k
     ·exact HNO.out i hi hik
     ·obtain rfl : i = k:=by omega
      exact HNO2.out
    case measure=>simp [intOf];omega
  ·obtain rfl : k = N:=by omega
   have k0 : decide ((k : Int) < (k : Int)) = false:=by simp
   have HFIN:=Lib.hid (getP_none_of (l:=l) (k:=key) (fun q hq=>by
    obtain ⟨i,hi,rfl⟩:=List.getElem_of_mem hq
    exact HNO.out i hi (by have:=HN.out;omega)))
   have HB0:=Lib.hid hb0
   clear hb hb0
   go_wp2_with fail
   go_ret2
   exact ⟨by rw [HFIN.out];rfl,HB0.out⟩
set_option maxRecDepth 100000 in
set_option maxHeartbeats 1000000 in
theorem refbegins_any (a b : ByteArray) (w : World) : Calls Tryz.prog 77 #[.string a,.string b] w fun e w'=>e = .returned (.bool (b.toList.isPrefixOf a.toList)) ∧ w = w':=by
 have sa : a.toList.length = a.size:=by rw [Lib.toList_data];exact Array.length_toList
 have sb : b.toList.length = b.size:=by rw [Lib.toList_data];exact Array.length_toList
 by_cases hle : b.size ≤ a.size
 ·have k0 : decide ((b.size : Int) ≤ (a.size : Int)) = true:=by simp;omega
  have k1 : (0 : Int) ≤ (b.size : Int):=by omega
  have k3 : decide (b.size ≤ a.size) = true:=decide_eq_true hle
  have k2 : (b.size : Int) ≤ (a.size : Int):=by omega
  obtain ⟨x,hx⟩ : ∃ x,x = ((a.extract 0 b.size).toList == b.toList):=⟨_,rfl⟩
  have hfin : b.toList.isPrefixOf a.toList = x:=by
   have e : (a.extract 0 b.size).toList = a.toList.take b.size:=by
    rw [Lib.toList_data,Lib.toList_data,ByteArray.data_extract,Array.toList_extract]
    simp
   rw [hx,e]
   cases hpp : b.toList.isPrefixOf a.toList with
   | true =>
    have h:=List.prefix_iff_eq_take.1 (List.isPrefixOf_iff_prefix.1 hpp)
    rw [sb] at h
    rw [← h]
    exact (beq_self_eq_true _).symm
   | false =>
    refine (beq_eq_false_iff_ne.2 (fun h=>?_)).symm
    have h2 : b.toList <+: a.toList:=by rw [← h];exact List.take_prefix _ _
    rw [List.isPrefixOf_iff_prefix.2 h2] at hpp
    cases hpp
  have HFIN:=Lib.hid hfin
  have HX:=Lib.hid hx
  clear hfin hx sa sb hle
  go_enter Tryz.func77,Tryz.ntmps77
  go_wp2_with fail
  try rw [← HX.out]
  cases x <;> (go_ret;exact ⟨by rw [HFIN.out];rfl,rfl⟩)
 ·have k0 : decide ((b.size : Int) ≤ (a.size : Int)) = false:=by simp;omega
  have k3 : decide (b.size ≤ a.size) = false:=decide_eq_false hle
  have hfin : b.toList.isPrefixOf a.toList = false:=by
   cases hpp : b.toList.isPrefixOf a.toList with
   | false=>rfl
   | true =>
    have h:=List.IsPrefix.length_le (List.isPrefixOf_iff_prefix.1 hpp)
    omega
  have HFIN:=Lib.hid hfin
  clear hfin sa sb
  go_enter Tryz.func77,Tryz.ntmps77
  go_wp2_with fail
  go_ret
  exact ⟨by rw [HFIN.out];rfl,rfl⟩
set_option maxRecDepth 100000 in
set_option maxHeartbeats 4000000 in
theorem refprefix_any {B : Nat} (v : Value) (s : StoreP) (key : List UInt8) (w : World) (hv : StoreV B w v s) (hl : s.pairs.length ≤ 2 ^ 20) :
  Calls Tryz.prog 40 #[v,str key] w fun e w'=>∃ x,e = .returned x ∧ PairsV w'.heap.size w' x (s.pairs.filter (begB key)) ∧ Below w.heap.size w w':=by
 obtain ⟨pv,rfl,hp⟩:=hv
 have hp:=hp.tight
 obtain ⟨l,hll⟩ : ∃ l,l = s.pairs:=⟨_,rfl⟩
 rw [← hll] at hp hl ⊢
 obtain ⟨lg,hlg⟩ : ∃ l,l = s.log:=⟨_,rfl⟩
 rw [← hlg]
 clear hll hlg
 obtain ⟨a,c,rfl,hlc⟩:=pairs_len hp
 obtain ⟨N,hN⟩ : ∃ N,N = l.length:=⟨_,rfl⟩
 rw [← hN] at hp hlc ⊢
 obtain ⟨w1,g,HW1,HG,hb1,hbox⟩:=store_box w lg (.slice a N c)
 obtain ⟨sk,hsk⟩ : ∃ s,s = ByteArray.mk key.toArray:=⟨_,rfl⟩
 have hsk2 : str key = .string sk:=by rw [hsk];rfl
 rw [hsk2]
 have t2 : sk.toList = key:=by rw [hsk,Lib.toList_data]
 have hl20 : N ≤ 2 ^ 20:=by omega
 have HN:=Lib.hid hN
 have HV:=Lib.hid hp
 have HSK:=Lib.hid t2
 have HBX:=Lib.hid hbox
 have HB1:=Lib.hid hb1
 clear hN hp hsk hsk2 hbox hb1 t2 hl
 unfold storeV
 go_enter Tryz.func40,Tryz.ntmps40
 go_upto_region 1 with (fail)
 rw [← HW1.out,← HG.out]
 go_wp2_with fail
 go_loopw [5,6] (fun s5 i wr=>∃ k : Nat,k ≤ N ∧ i = .int .i64 k ∧ PairsO w1.heap.size wr s5 ((l.take k).filter (begB key)) ∧ Below w1.heap.size w1 wr) (fun _ i _=>N - (intOf i).toNat)
 case atStart=>exact ⟨0,Nat.zero_le _,rfl,PairsO.none _ _ _,Below.refl _ _⟩
 case round =>
  obtain ⟨k,hk,rfl,hP,hb⟩:=hrel
  have bx:=(hb.block _ (block_lt HBX.out)).trans HBX.out
  have C4:=cell_of_row wr _ 4 _ _ _ bx
  have hb0:=HB1.out.trans (hb.mono HB1.out.size)
  by_cases hkN : k < N
  ·have k0 : decide ((k : Int) < (N : Int)) = true:=by simp;omega
   have k1 : (0 : Int) ≤ (k : Int):=by omega
   have k2 : (k : Int) < (N : Int):=by omega
   have hkl : k < l.length:=HN.out ▸ hkN
   obtain ⟨b,off,rfl,hbb,hc⟩:=load_pair HV.out hkl
   obtain ⟨S0,S1⟩:=hc wr hb0
   obtain ⟨sq,hsq⟩ : ∃ s,s = ByteArray.mk l[k].key.toArray:=⟨_,rfl⟩
   obtain ⟨sv,hsv⟩ : ∃ s,s = ByteArray.mk l[k].val.toArray:=⟨_,rfl⟩
   have e1 : str l[k].key = .string sq:=by rw [hsq];rfl
   have e2 : str l[k].val = .string sv:=by rw [hsv];rfl
   rw [e1] at S0
   rw [e2] at S1
   have kb:=refbegins_any sq sk wr
   have hbe : sk.toList.isPrefixOf sq.toList = begB key l[k]:=by rw [HSK.out,hsq,Lib.toList_data];rfl
   have htk : (l.take (k + 1)).filter (begB key) = (l.take k).filter (begB key) ++ (if begB key l[k] then [l[k]] else []):=by
    rw [List.take_succ_eq_append_getElem hkl,List.filter_append]
    congr 1
    cases hbg : begB key l[k] <;> simp [hbg]
   have hlen : ((l.take k).filter (begB key)).length ≤ k:=Nat.le_trans (List.length_filter_le _ _) (by rw [List.length_take];exact Nat.min_le_left _ _)
   obtain ⟨x,hx⟩ : ∃ x,x = begB key l[k]:=⟨_,rfl⟩
   rw [hbe,← hx] at kb
   rw [← hx] at htk
   have hnw : ∀ w' : World,Row (w'.heap.size + 1) (w'.alloc (.cells #[.string sq,.string sv] 76)) (.slice (some ⟨w'.heap.size,0,none⟩) 1 1) 2 1 (pairCells l[k]):=fun w'=>by
    refine Row.fresh (by simp [pairCells]) (Nat.le_refl _) (by decide) (fun j u hj=>?_)
    simp only [pairCells] at hj
    rw [e1,e2] at hj
    simpa using hj
   have HTK:=Lib.hid htk
   have HNW:=Lib.hid hnw
   clear hc hsq hsv e1 e2 hx htk hnw hbe hb0
   go_upto_region 5 with (fail)
   go_wp2_with fail
   refine kb.mono ?_
   rintro e w6 ⟨rfl,h6⟩
   cases h6
   clear kb
   cases x with
   | false =>
    have HP2:=Lib.hid hP
    have HB:=Lib.hid hb
    clear hP hb C4 S0 S1 bx
    go_wp2_with fail
    go_roundw
    case rel=>exact ⟨k + 1,by omega,by go_num,by rw [HTK.out];simpa using HP2.out,HB.out⟩
    case measure=>simp [intOf];omega
   | true =>
    obtain ⟨w7,hw7⟩ : ∃ x,x = wr.alloc (.cells #[.string sq,.string sv] 76):=⟨_,rfl⟩
    obtain ⟨g7,hg7⟩ : ∃ x,x = wr.heap.size:=⟨_,rfl⟩
    have hbs:=run_bsP sq sv wr
    have hb7 : Below wr.heap.size wr w7:=by rw [hw7];exact Below.alloc (Below.refl _ _) (Nat.le_refl _) _
    have hnw:=HNW.out wr
    rw [← hw7,← hg7] at hbs hnw
    obtain ⟨i0,z0,hi,hz0,hz1,hz2,hz3⟩:=zero_parts infoz_pair
    obtain ⟨lf,hlf⟩ : ∃ x,x = (l.take k).filter (begB key):=⟨_,rfl⟩
    rw [← hlf] at hP hlen HTK
    clear hlf
    obtain ⟨_,a5,c5,rfl,_⟩:=id hP
    obtain ⟨K,hK⟩ : ∃ n,n = lf.length:=⟨_,rfl⟩
    have hO:=Own.below hP hb7 (Nat.le_refl _)
    unfold PairsO at hP
    rw [← hK] at hO hlen ⊢
    have hs7:=Nat.le_trans hb.size hb7.size
    have R1 : K + 1 ≤ maxLen:=by unfold maxLen;omega
    have R2 : (K + 1) * 32 ≤ 140737488355328:=by omega
    have HK:=Lib.hid hK
    have HB7:=Lib.hid (hb.trans (hb7.mono hb.size))
    clear hw7 hg7 hb7 hP hK hb bx
    go_upto_region 6 with (fail)
    go_wp2_with (with_reducible refine wp_buildSlice_r 42 1 [(0,.tmp 27)] hbs rfl ?_;refine Halt.in ?_)
    refine Halt.out ?_
    clear hbs C4 S0 S1
    go_wp2_with (at_builtin;refine wp_append2 rfl (.tmp 22) (.tmp 28) 42 42 76 rfl i0 z0 2 32 Tryz.underlying42 (.inl ⟨_,Tryz.underlying42⟩) hi hz0 hz1 hz2 hz3 rfl rfl hO (Row.src hnw) (ones_pair l[k]) R1 R2 hs7 ?_;intro v8 w8 hown8 hb8 _;refine Halt.in ?_)
    refine Halt.out ?_
    have hX:=PairsO.snoc (by rw [← HK.out];exact hown8)
    have HX:=Lib.hid hX
    have HB8:=Lib.hid (HB7.out.trans hb8)
    clear hown8 hb8 hX hO hnw R1 R2 hs7 hi hz0 hz1 hz2 hz3
    go_wp2_with fail
    go_roundw
    case rel=>exact ⟨k + 1,by omega,by go_num,by rw [HTK.out];exact HX.out,HB8.out⟩
    case measure=>simp [intOf];omega
  ·obtain rfl : k = N:=by omega
   have k0 : decide ((k : Int) < (k : Int)) = false:=by simp
   rw [List.take_of_length_le (by have:=HN.out;omega)] at hP
   have HP2:=Lib.hid hP.v
   have HB0:=Lib.hid hb0
   clear hb hb0 hP bx
   go_wp2_with fail
   go_ret
   exact ⟨_,rfl,HP2.out,HB0.out⟩
end Go.Proofs.YtaijompnohkmaaaGreatDoor
