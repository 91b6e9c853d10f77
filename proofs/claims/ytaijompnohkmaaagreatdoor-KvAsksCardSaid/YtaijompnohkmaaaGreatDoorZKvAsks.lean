/- Layer 6 (kv): any pairs are changed, asked, and laid as a snapshot, as the document says, and what was handed in stays: the law's walk. -/
import Derived.Test.YtaijompnohkmaaaGreatDoorMT
import Derived.Test.YtaijompnohkmaaaGreatDoorZKvR1
import Derived.Test.YtaijompnohkmaaaGreatDoorZKvR2
import Derived.Test.YtaijompnohkmaaaGreatDoorZKvR7
import Derived.Test.YtaijompnohkmaaaGreatDoorZKvR9
set_option linter.unusedSimpArgs false
set_option linter.unusedVariables false
namespace Go.Proofs.YtaijompnohkmaaaGreatDoor
open Go.RowKit KvP PackP WalP
set_option maxRecDepth 100000 in
set_option maxHeartbeats 8000000 in
theorem KvAsks_walk (v u : Value) (l : List PairP) (c : List ChangeP) (key : List UInt8) (w : World) (ht : TabAt w) (hT : 1 < w.heap.size) (hp : PairsV w.heap.size w v l) (hc : ChangesV w.heap.size w u c) :
  Calls Tryz.prog 9 #[v,u,str key] w fun e w'=>e = .returned (.bool true) ∧ Below w.heap.size w w':=by
 obtain ⟨a,ca,rfl,hlc⟩:=pairs_len hp
 obtain ⟨N,hN⟩ : ∃ n,n = l.length:=⟨_,rfl⟩
 rw [← hN] at hp hlc ⊢
 obtain ⟨_,b,cb,rfl,hbc,_⟩:=id hc
 obtain ⟨M,hM⟩ : ∃ n,n = c.length:=⟨_,rfl⟩
 rw [← hM] at hc hbc ⊢
 obtain ⟨ks,hks⟩ : ∃ s,s = ByteArray.mk key.toArray:=⟨_,rfl⟩
 have e3 : str key = .string ks:=by rw [hks];rfl
 rw [e3]
 have ka:=kvAlive_any w ht hT
 have HP:=Lib.hid hp
 have HC:=Lib.hid hc
 have HN:=Lib.hid hN
 have HM:=Lib.hid hM
 have E3:=Lib.hid e3
 clear hp ht hT hN hlc hc hM hbc hks e3
 go_enter Tryz.func9,Tryz.ntmps9
 go_wp2_with fail
 refine ka.mono ?_
 rintro e w1 ⟨rfl,hb1⟩
 clear ka
 have HB1:=Lib.hid hb1
 clear hb1
 have kg:=kvGreat_any _ _ l c w1 (HP.out.below HB1.out) (HC.out.below HB1.out)
 go_wp2_with fail
 refine kg.mono ?_
 rintro e w3 ⟨⟨gr,rfl⟩,hb3⟩
 clear kg
 have HB3:=Lib.hid (HB1.out.trans (hb3.mono HB1.out.size))
 clear hb3
 cases gr with
 | true =>
  go_wp2_with fail
  go_ret
  exact ⟨rfl,HB3.out⟩
 | false =>
  by_cases hks : 200 < ks.size
  ·have k0 : decide ((200 : Int) < (ks.size : Int)) = true:=by simp;omega
   go_wp2_with fail
   go_ret
   exact ⟨rfl,HB3.out⟩
  have k0 : decide ((200 : Int) < (ks.size : Int)) = false:=by simp;omega
  have kp:=refpairs_any _ l w3 (HP.out.below HB3.out)
  obtain ⟨pb,hpb⟩ : ∃ x,x = pairsB l:=⟨_,rfl⟩
  rw [← hpb] at kp
  have HPB:=Lib.hid hpb
  clear hpb
  go_wp2_with fail
  refine kp.mono ?_
  rintro e w4 ⟨rfl,hb4⟩
  clear kp
  have HB4:=Lib.hid (HB3.out.trans (hb4.mono HB3.out.size))
  clear hb4
  cases pb with
  | false =>
   go_wp2_with fail
   go_ret
   exact ⟨rfl,HB4.out⟩
  | true =>
   obtain ⟨p1,p2,p3⟩:=pairsB_parts HPB.out.symm
   have HP1:=Lib.hid p1
   have HP2:=Lib.hid p2
   have HP3:=Lib.hid p3
   clear p1 p2 p3
   have kr:=refchanges_any _ c w4 (HC.out.below HB4.out)
   obtain ⟨cb2,hcb⟩ : ∃ x,x = changesB c:=⟨_,rfl⟩
   rw [← hcb] at kr
   have HCB:=Lib.hid hcb
   clear hcb
   go_wp2_with fail
   refine kr.mono ?_
   rintro e w6 ⟨rfl,hb6⟩
   clear kr
   have HB6:=Lib.hid (HB4.out.trans (hb6.mono HB4.out.size))
   clear hb6
   cases cb2 with
   | false =>
    go_wp2_with fail
    go_ret
    exact ⟨rfl,HB6.out⟩
   | true =>
   obtain ⟨cl1,cl2⟩:=changesB_len HCB.out.symm
   have HCL1:=Lib.hid cl1
   have HCL2:=Lib.hid cl2
   clear cl1 cl2
   go_upto_region 5 with (fail)
   obtain ⟨wc,hwc⟩ : ∃ x,x = w6.alloc (.cells #[] 76):=⟨_,rfl⟩
   obtain ⟨gc,hgc⟩ : ∃ x,x = w6.heap.size:=⟨_,rfl⟩
   have hbs:=run_bs0P w6
   have hbc : Below w6.heap.size w6 wc:=by rw [hwc];exact Below.alloc (Below.refl _ _) (Nat.le_refl _) _
   rw [← hwc,← hgc] at hbs
   obtain ⟨i0,z0,hi,hz0,hz1,hz2,hz3⟩:=zero_parts infoz_pair
   have HB7:=Lib.hid (HB6.out.trans (hbc.mono HB6.out.size))
   have hsrc : Src Tryz.prog wc (.slice a N ca) 2 N (l.map pairCells).flatten:=Row.src (by have:=HP.out.below HB7.out;unfold PairsV at this;rw [← HN.out] at this;exact this)
   have R1 : 0 + N ≤ maxLen:=by have:=HP1.out;have:=HN.out;unfold maxLen;omega
   have R2 : (0 + N) * 32 ≤ 140737488355328:=by have:=HP1.out;have:=HN.out;omega
   clear hwc hgc hbc
   go_wp2_with (with_reducible refine wp_buildSlice_r 42 0 [] hbs rfl ?_;refine Halt.in ?_)
   refine Halt.out ?_
   clear hbs
   go_wp2_with (at_builtin;refine wp_append2 rfl (.tmp 33) (.tmp 34) 42 42 76 rfl i0 z0 2 32 Tryz.underlying42 (.inl ⟨_,Tryz.underlying42⟩) hi hz0 hz1 hz2 hz3 rfl rfl (Own.none wc.heap.size wc 76 (some ⟨gc,0,none⟩) 2) hsrc (ones_pairs l) R1 R2 (Nat.le_refl _) ?_;intro v8 w8 hown8 hb8 _;refine Halt.in ?_)
   refine Halt.out ?_
   rw [Nat.zero_add,List.nil_append,HN.out] at hown8
   have HB8:=Lib.hid (HB7.out.trans (hb8.mono HB7.out.size))
   have HP8 : PairsV w8.heap.size w8 v8 l:=PairsO.v (B:=wc.heap.size) hown8
   clear hown8 hb8 hsrc R1 R2 hi hz0 hz1 hz2 hz3
   obtain ⟨a8,c8,rfl,_⟩:=pairs_len HP8
   rw [← HN.out] at HP8 ⊢
   go_upto_region 6 with (fail)
   obtain ⟨w9,S,HWa,HGa,hS9,hb9,lt9,le9⟩:=fresh_store w8
   obtain ⟨sa,sc,TS,_⟩:=id hS9
   obtain ⟨w10,hst,T10,hb10,hz10,hk10,_⟩:=storeBig info_store TS rfl #[.int .i64 0,.int .i64 0,.int .i64 0,.int .i64 0,.slice a8 N c8] rfl (ones5 rfl rfl rfl rfl rfl)
   have HB10:=Lib.hid ((HB8.out.trans (hb9.mono HB8.out.size)).trans (hb10.mono (Nat.le_trans HB8.out.size le9)))
   have hP10:=(HP8.below (hb9.trans (hb10.mono le9))).tight
   have HV10:=Lib.hid hP10
   have HSV:=Lib.hid (show StoreV w10.heap.size w10 (storeV log0 (.slice a8 N c8)) ⟨log0,l⟩ from ⟨_,rfl,hP10⟩)
   clear hS9 hb9 lt9 le9 TS hb10 hz10 hk10 HP8 hP10
   go_wp2_with (with_reducible refine wp_alloc_to (w':=w9) 44 rfl rfl (zero_store _) HWa.out ?_;refine Halt.in ?_)
   refine Halt.out ?_
   rw [← HGa.out]
   go_wp2_with (with_reducible refine wp_store_r (.tmp 8) (.tmp 37) 44 hst rfl rfl ?_;refine Halt.in ?_)
   refine Halt.out ?_
   clear hst
   go_upto_region 7 with (fail)
   have HT10:=Lib.hid T10
   have F0:=cell_of_row w10 _ 0 _ _ _ T10
   have F1:=cell_of_row w10 _ 1 _ _ _ T10
   have F2:=cell_of_row w10 _ 2 _ _ _ T10
   have F3:=cell_of_row w10 _ 3 _ _ _ T10
   have F4:=cell_of_row w10 _ 4 _ _ _ T10
   clear T10
   have kget:=get_any _ ⟨log0,l⟩ key w10 HSV.out HP3.out (by have:=HP1.out;dsimp only;omega)
   obtain ⟨rs,hrs⟩ : ∃ s : ByteArray,str ((getP l key).getD []) = .string s:=⟨_,rfl⟩
   obtain ⟨ro,hro⟩ : ∃ b : Bool,(getP l key).isSome = b:=⟨_,rfl⟩
   have HRS:=Lib.hid hrs
   have HRO:=Lib.hid hro
   clear hrs hro
   dsimp only at kget
   rw [E3.out,HRS.out,HRO.out] at kget
   unfold storeV log0 at kget
   dsimp only at kget
   go_wp2_with fail
   refine kget.mono ?_
   rintro e w11 ⟨rfl,hb11⟩
   clear kget F0 F1 F2 F3 F4
   have T11:=(hb11.block _ (block_lt HT10.out)).trans HT10.out
   have F0:=cell_of_row w11 _ 0 _ _ _ T11
   have F1:=cell_of_row w11 _ 1 _ _ _ T11
   have F2:=cell_of_row w11 _ 2 _ _ _ T11
   have F3:=cell_of_row w11 _ 3 _ _ _ T11
   have F4:=cell_of_row w11 _ 4 _ _ _ T11
   clear T11
   have kget:=refget_any _ ⟨log0,l⟩ key w11 (HSV.out.below hb11) (by have:=HP1.out;dsimp only;omega)
   dsimp only at kget
   rw [E3.out,HRS.out,HRO.out] at kget
   unfold storeV log0 at kget
   dsimp only at kget
   have HB11:=Lib.hid hb11
   clear hb11
   go_wp2_with fail
   refine kget.mono ?_
   rintro e w12 ⟨rfl,hb12⟩
   clear kget F0 F1 F2 F3 F4
   have HB12:=Lib.hid (HB11.out.trans (hb12.mono HB11.out.size))
   have s0 : Below w10.heap.size w10 w12.drew:=below_draws HB12.out 1
   clear hb12
   have L : ∀ w',Below w10.heap.size w10 w' → w'.heap[S]? = some (.cells #[.int .i64 0,.int .i64 0,.int .i64 0,.int .i64 0,.slice a8 N c8] 44 (0,0)):=fun w' h=>(h.block _ (block_lt HT10.out)).trans HT10.out
   have L0:=fun w' (h : Below w10.heap.size w10 w')=>cell_of_row w' _ 0 _ _ _ (L w' h)
   have L1:=fun w' (h : Below w10.heap.size w10 w')=>cell_of_row w' _ 1 _ _ _ (L w' h)
   have L2:=fun w' (h : Below w10.heap.size w10 w')=>cell_of_row w' _ 2 _ _ _ (L w' h)
   have L3:=fun w' (h : Below w10.heap.size w10 w')=>cell_of_row w' _ 3 _ _ _ (L w' h)
   have L4:=fun w' (h : Below w10.heap.size w10 w')=>cell_of_row w' _ 4 _ _ _ (L w' h)
   clear L
   go_upto_region 9 with (fail)
   cases ro
   all_goals
    refine wp_region_I [(false,0),(false,1),(false,2),(false,3),(false,4),(false,5),(false,6),(false,7),(false,8),(false,9),(false,10),(false,12),(false,13),(true,11),(true,14),(true,15),(false,16),(false,17),(false,18),(false,19),(false,21),(false,22),(true,20),(true,23),(true,24),(false,25),(false,26),(false,27),(false,29),(true,28),(true,30),(true,31),(false,32),(false,33),(false,34),(false,35),(true,36),(false,37),(false,38)] (fun w'=>Below w10.heap.size w10 w') (by kernel_rfl) (by kernel_rfl) s0 ?_
    repeat (first | (refine heldI_skip rfl rfl ?_;simp only [Act.put,List.setIfInBounds_toArray,List.set_cons_zero,List.set_cons_succ]) | (refine heldI_take rfl ?_ rfl (fun w' hw'=>?_) ?_;rotate_left;(go_simp;first | done | with_reducible rfl);(try simp only [Act.put,List.setIfInBounds_toArray,List.set_cons_zero,List.set_cons_succ])))
    refine heldI_act rfl rfl fun K hK=>?_
    have kk:=prefix_any _ ⟨log0,l⟩ key (w12.drew) (HSV.out.below s0) HP3.out (by have:=HP1.out;dsimp only;omega)
    dsimp only at kk
    rw [E3.out] at kk
    unfold storeV log0 at kk
    dsimp only at kk
    go_simp
    refine kk.mono ?_
    rintro e wt1 ⟨x1,rfl,hx1,hb⟩
    clear kk
    have st1:=s0.trans (hb.mono s0.size)
    refine hK.out _ _ st1 ?_
    clear hK K hb
    repeat (first | (refine heldI_skip rfl rfl ?_;simp only [Act.put,List.setIfInBounds_toArray,List.set_cons_zero,List.set_cons_succ]) | (refine heldI_take rfl ?_ rfl (fun w' hw'=>?_) ?_;rotate_left;(go_simp;first | done | with_reducible rfl);(try simp only [Act.put,List.setIfInBounds_toArray,List.set_cons_zero,List.set_cons_succ])))
    refine heldI_act rfl rfl fun K hK=>?_
    have kk:=refprefix_any _ ⟨log0,l⟩ key (wt1) (HSV.out.below st1) (by have:=HP1.out;dsimp only;omega)
    dsimp only at kk
    rw [E3.out] at kk
    unfold storeV log0 at kk
    dsimp only at kk
    go_simp
    refine kk.mono ?_
    rintro e wt2 ⟨x2,rfl,hx2,hb⟩
    clear kk
    have st2:=st1.trans (hb.mono st1.size)
    have hx1:=(hx1.below hb).tight
    refine hK.out _ _ st2 ?_
    clear hK K hb
    repeat (first | (refine heldI_skip rfl rfl ?_;simp only [Act.put,List.setIfInBounds_toArray,List.set_cons_zero,List.set_cons_succ]) | (refine heldI_take rfl ?_ rfl (fun w' hw'=>?_) ?_;rotate_left;(go_simp;first | done | with_reducible rfl);(try simp only [Act.put,List.setIfInBounds_toArray,List.set_cons_zero,List.set_cons_succ])))
    refine heldI_act rfl rfl fun K hK=>?_
    have kk:=samePairs_any x1 x2 _ _ (wt2) hx1 hx2
    rw [decide_eq_true rfl] at kk
    go_simp
    refine kk.mono ?_
    rintro e wt3 ⟨rfl,hb⟩
    clear kk
    have st3:=st2.trans (hb.mono st2.size)
    clear hx1 hx2
    refine hK.out _ _ st3 ?_
    clear hK K hb
    repeat (first | (refine heldI_skip rfl rfl ?_;simp only [Act.put,List.setIfInBounds_toArray,List.set_cons_zero,List.set_cons_succ]) | (refine heldI_take rfl ?_ rfl (fun w' hw'=>?_) ?_;rotate_left;(go_simp;first | done | with_reducible rfl);(try simp only [Act.put,List.setIfInBounds_toArray,List.set_cons_zero,List.set_cons_succ])))
    refine heldI_act rfl rfl fun K hK=>?_
    have kk:=do_any _ _ l c (wt3) (HV10.out.below st3) (HC.out.below (HB10.out.trans (st3.mono HB10.out.size))) HP3.out (by have:=HP1.out;omega) (by have:=HCL1.out;omega) (fun q hq=>by have h:=HP2.out q hq;unfold mayP at h;simp only [Bool.and_eq_true,decide_eq_true_eq] at h;omega) (fun x hx=>by have:=HCL2.out x hx;omega)
    go_simp
    refine kk.mono ?_
    rintro e wt4 ⟨x1,rfl,hx1',hb⟩
    clear kk
    have st4:=st3.trans (hb.mono st3.size)
    have hx1:=PairsO.v hx1'
    clear hx1'
    refine hK.out _ _ st4 ?_
    clear hK K hb
    repeat (first | (refine heldI_skip rfl rfl ?_;simp only [Act.put,List.setIfInBounds_toArray,List.set_cons_zero,List.set_cons_succ]) | (refine heldI_take rfl ?_ rfl (fun w' hw'=>?_) ?_;rotate_left;(go_simp;first | done | with_reducible rfl);(try simp only [Act.put,List.setIfInBounds_toArray,List.set_cons_zero,List.set_cons_succ])))
    refine heldI_act rfl rfl fun K hK=>?_
    have kk:=refdo_any _ _ l c (wt4) (HP.out.below (HB10.out.trans (st4.mono HB10.out.size))) (HC.out.below (HB10.out.trans (st4.mono HB10.out.size))) HP3.out (by have:=HP1.out;omega) (by have:=HCL1.out;omega)
    go_simp
    refine kk.mono ?_
    rintro e wt5 ⟨x2,rfl,hx2',hb⟩
    clear kk
    have st5:=st4.trans (hb.mono st4.size)
    have hx1:=(hx1.below hb).tight
    have hx2:=PairsO.v hx2'
    clear hx2'
    refine hK.out _ _ st5 ?_
    clear hK K hb
    repeat (first | (refine heldI_skip rfl rfl ?_;simp only [Act.put,List.setIfInBounds_toArray,List.set_cons_zero,List.set_cons_succ]) | (refine heldI_take rfl ?_ rfl (fun w' hw'=>?_) ?_;rotate_left;(go_simp;first | done | with_reducible rfl);(try simp only [Act.put,List.setIfInBounds_toArray,List.set_cons_zero,List.set_cons_succ])))
    refine heldI_act rfl rfl fun K hK=>?_
    have kk:=samePairs_any x1 x2 _ _ (wt5) hx1 hx2
    rw [decide_eq_true rfl] at kk
    go_simp
    refine kk.mono ?_
    rintro e wt6 ⟨rfl,hb⟩
    clear kk
    have st6:=st5.trans (hb.mono st5.size)
    clear hx1 hx2
    refine hK.out _ _ st6 ?_
    clear hK K hb
    repeat (first | (refine heldI_skip rfl rfl ?_;simp only [Act.put,List.setIfInBounds_toArray,List.set_cons_zero,List.set_cons_succ]) | (refine heldI_take rfl ?_ rfl (fun w' hw'=>?_) ?_;rotate_left;(go_simp;first | done | with_reducible rfl);(try simp only [Act.put,List.setIfInBounds_toArray,List.set_cons_zero,List.set_cons_succ])))
    refine heldI_act rfl rfl fun K hK=>?_
    have kk:=snapshot_any _ l (wt6) (HV10.out.below st6) HP2.out HP1.out
    go_simp
    refine kk.mono ?_
    rintro e wt7 ⟨x1,rfl,hx1',hb⟩
    clear kk
    have st7:=st6.trans (hb.mono st6.size)
    have hx1:=hx1'.pieces
    clear hx1'
    refine hK.out _ _ st7 ?_
    clear hK K hb
    repeat (first | (refine heldI_skip rfl rfl ?_;simp only [Act.put,List.setIfInBounds_toArray,List.set_cons_zero,List.set_cons_succ]) | (refine heldI_take rfl ?_ rfl (fun w' hw'=>?_) ?_;rotate_left;(go_simp;first | done | with_reducible rfl);(try simp only [Act.put,List.setIfInBounds_toArray,List.set_cons_zero,List.set_cons_succ])))
    refine heldI_act rfl rfl fun K hK=>?_
    have kk:=refsnapshot_any _ l (wt7) (HP.out.below (HB10.out.trans (st7.mono HB10.out.size))) HP2.out HP1.out
    go_simp
    refine kk.mono ?_
    rintro e wt8 ⟨x2,rfl,hx2',hb⟩
    clear kk
    have st8:=st7.trans (hb.mono st7.size)
    have hx1:=(hx1.below hb).tight
    have hx2:=hx2'.pieces
    clear hx2'
    refine hK.out _ _ st8 ?_
    clear hK K hb
    repeat (first | (refine heldI_skip rfl rfl ?_;simp only [Act.put,List.setIfInBounds_toArray,List.set_cons_zero,List.set_cons_succ]) | (refine heldI_take rfl ?_ rfl (fun w' hw'=>?_) ?_;rotate_left;(go_simp;first | done | with_reducible rfl);(try simp only [Act.put,List.setIfInBounds_toArray,List.set_cons_zero,List.set_cons_succ])))
    refine heldI_act rfl rfl fun K hK=>?_
    have kk:=same5_any x1 x2 _ _ (wt8) hx1 hx2
    rw [decide_eq_true rfl] at kk
    go_simp
    refine kk.mono ?_
    rintro e wt9 ⟨rfl,hb⟩
    clear kk
    have st9:=st8.trans (hb.mono st8.size)
    clear hx1 hx2
    refine hK.out _ _ st9 ?_
    clear hK K hb
    repeat (first | (refine heldI_skip rfl rfl ?_;simp only [Act.put,List.setIfInBounds_toArray,List.set_cons_zero,List.set_cons_succ]) | (refine heldI_take rfl ?_ rfl (fun w' hw'=>?_) ?_;rotate_left;(go_simp;first | done | with_reducible rfl);(try simp only [Act.put,List.setIfInBounds_toArray,List.set_cons_zero,List.set_cons_succ])))
    refine heldI_act rfl rfl fun K hK=>?_
    have kk:=samePairs_any _ _ l l (wt9) (HV10.out.below st9) (HP.out.below (HB10.out.trans (st9.mono HB10.out.size)))
    rw [decide_eq_true rfl] at kk
    go_simp
    refine kk.mono ?_
    rintro e wt10 ⟨rfl,hb⟩
    clear kk
    have st10:=st9.trans (hb.mono st9.size)
    refine hK.out _ _ st10 ?_
    clear hK K hb
    repeat (first | (refine heldI_skip rfl rfl ?_;simp only [Act.put,List.setIfInBounds_toArray,List.set_cons_zero,List.set_cons_succ]) | (refine heldI_take rfl ?_ rfl (fun w' hw'=>?_) ?_;rotate_left;(go_simp;first | done | with_reducible rfl);(try simp only [Act.put,List.setIfInBounds_toArray,List.set_cons_zero,List.set_cons_succ])))
    have HFIN:=Lib.hid (HB10.out.trans (st10.mono HB10.out.size))
    refine heldI_nil ?_
    clear L0 L1 L2 L3 L4
    go_wp2_with fail
    go_ret
    exact ⟨rfl,HFIN.out⟩
end Go.Proofs.YtaijompnohkmaaaGreatDoor
