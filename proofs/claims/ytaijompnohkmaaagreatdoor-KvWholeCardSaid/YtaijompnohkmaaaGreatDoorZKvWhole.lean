/- Layer 6 (kv): whenever a fall comes, the pairs are as they were behind the last transaction that was answered, or behind the one that was under way: the law's walk. -/
import Derived.Test.YtaijompnohkmaaaGreatDoorZKvWLib
import Derived.Test.YtaijompnohkmaaaGreatDoorZKvU
import Derived.Test.YtaijompnohkmaaaGreatDoorMT
import Derived.Test.YtaijompnohkmaaaGreatDoorZKvR8
import Derived.Test.YtaijompnohkmaaaGreatDoorZKvR7
import Derived.Test.YtaijompnohkmaaaGreatDoorZKvR14
import Derived.Test.YtaijompnohkmaaaGreatDoorZRefArmW
import Derived.Test.YtaijompnohkmaaaGreatDoorZRefStartW
import Derived.Deep.CutRange
set_option linter.unusedSimpArgs false
set_option linter.unusedVariables false
namespace Go.Proofs.YtaijompnohkmaaaGreatDoor
open Go.RowKit WalP PackP KvP
set_option maxRecDepth 100000 in
set_option maxHeartbeats 16000000 in
theorem KvWhole_walk (v : Value) (ts : List TurnP) (W : World) (ht : TabAt W) (hT : 1 < W.heap.size) (hv : TurnsV W.heap.size W v ts) (hw : ∀ t ∈ ts,t.wf) :
  Calls Tryz.prog 6 #[v] W fun e w'=>e = .returned (.bool true) ∧ Below W.heap.size W w':=by
 obtain ⟨_,⟨_,la,lc,rfl,hn1,hn2,_⟩,_⟩:=id hv
 unfold maxLen at hn2
 obtain ⟨N,hN⟩ : ∃ N,N = ts.length:=⟨_,rfl⟩
 rw [← hN] at hv hn1 ⊢
 have HN:=Lib.hid hN
 have HV:=Lib.hid hv
 have HWF:=Lib.hid hw
 have HT:=Lib.hid ht
 have ka:=kvAlive_any W ht hT
 have hcn:=calm_new (n:=90) (by decide)
 have kn:=fun w : World=>refnew_any 90 w
 obtain ⟨d0,hd0⟩ : ∃ d,d = (newP 90).1:=⟨_,rfl⟩
 have hcn : WalP.Calm 90 0 d0:=by rw [hd0];exact hcn
 have kn : ∀ w,Calls Tryz.prog 28 #[.int .i64 90] w fun e w'=>(∃ v',e = .returned (.tuple #[v',.int .i64 0]) ∧ DiskV w'.heap.size w' v' d0) ∧ Below w.heap.size w w':=fun w=>by rw [hd0];exact kn w
 obtain ⟨d1,s1,hf1,hh1,hfu1⟩:=formatK_holds hcn
 have KN:=Lib.hid kn
 have HF1:=Lib.hid hf1
 have HH1:=Lib.hid hh1
 have HFU1:=Lib.hid hfu1
 clear hd0 kn hcn ht hv hw hN hf1 hh1 hfu1
 go_enter Tryz.func6,Tryz.ntmps6
 go_wp2_with fail
 refine ka.mono ?_
 rintro e w0 ⟨rfl,hb0⟩
 clear ka
 by_cases h20 : 20 < N
 ·have q0 : decide ((20 : Int) < (N : Int)) = true:=by simp;omega
  go_wp2_with fail
  go_ret
  exact ⟨rfl,hb0⟩
 have q0 : decide ((20 : Int) < (N : Int)) = false:=by simp;omega
 go_wp2_with fail
 refine (KN.out w0).mono ?_
 rintro e w1 ⟨⟨v1,rfl,hd1⟩,hb1⟩
 clear q0
 obtain ⟨p1,q1,p2,q2,rfl,_,_⟩:=hd1.parts
 obtain ⟨w3,hw3⟩ : ∃ x,x = w1.alloc (.cells #[.slice p1 d0.secs.length q1,.slice p2 d0.loose.length q2,.int .i64 d0.fuse,.bool d0.down] 38):=⟨_,rfl⟩
 have hb3 : Below w1.heap.size w1 w3:=by rw [hw3];exact Below.alloc (Below.refl _ _) (Nat.le_refl _) _
 obtain ⟨D,hD⟩ : ∃ D,D = w1.heap.size:=⟨_,rfl⟩
 have hD3 : DAt w3 D d0:=⟨p1,q1,p2,q2,by rw [hw3,hD];exact heap_alloc_new w1 _,(hd1.below hb3).tight⟩
 have hb01:=hb0.trans (hb1.mono hb0.size)
 have hb03:=hb01.trans (hb3.mono hb01.size)
 have hDw : W.heap.size ≤ D:=by rw [hD];exact hb01.size
 have HW3:=Lib.hid hw3
 have HD:=Lib.hid hD
 obtain ⟨da,na,db,nb,TD,hv⟩:=id hD3
 obtain ⟨C0,C1,C2,C3,_⟩:=Four.of TD
 clear TD
 have kf:=kformat_any _ d0 w3 hv (HT.out.below hb03 hT) (Nat.lt_of_lt_of_le hT hb03.size)
 rw [HF1.out] at kf
 unfold KE at kf
 clear hv hw3 hD
 go_upto_region 6 with (fail)
 rw [← HW3.out,← HD.out]
 go_wp2_with fail
 refine kf.mono ?_
 rintro e w6 ⟨⟨v6,sv6,rfl,hd6,hs6⟩,hb6⟩
 clear kf C0 C1 C2 C3
 obtain ⟨p3,q3,p4,q4,rfl,_,_⟩:=hd6.parts
 obtain ⟨w7,SS,HW7,HG7,hS7,hb7,lt7,le7⟩:=fresh_store w6
 have hb37:=hb6.trans (hb7.mono hb6.size)
 have hD7:=hD3.below hb37
 have hDS : D ≠ SS:=by have:=hD3.lt;have:=hb6.size;omega
 have hSw : W.heap.size ≤ SS:=Nat.le_trans (Nat.le_trans hb03.size hb6.size) le7
 obtain ⟨w8,w9,st1,st2,HX⟩:=pack_DS hD7 hS7 hDS (hd6.below hb7).tight (hs6.below hb7).tight
 have ST2:=Lib.hid st2
 have hb09:=HX.out.2.2.2.2 W.heap.size W (hb03.trans (hb37.mono hb03.size)) hDw hSw
 clear st2
 go_wp2_with (with_reducible refine wp_alloc_to (w':=w7) 44 rfl rfl (zero_store _) HW7.out ?_;refine Halt.in ?_)
 refine Halt.out ?_
 rw [← HG7.out]
 go_wp2_with (with_reducible refine wp_store_r (.tmp 3) (.tmp 28) 38 st1 rfl rfl ?_;refine Halt.in ?_)
 refine Halt.out ?_
 have st2:=ST2.out
 clear st1
 go_wp2_with (with_reducible refine wp_store_r (.tmp 5) (.tmp 29) 44 st2 rfl rfl ?_;refine Halt.in ?_)
 refine Halt.out ?_
 clear st2 ST2
 have HI:=Lib.hid (show KWInv W D SS 0 w9 (.slice none 0 0) from ⟨d1,s1,[],⟨HX.out.1,HX.out.2.1,hb09,Row.nil _ _ _⟩,HH1.out,HFU1.out⟩)
 clear HX hb03 hb37 hb6 hb7 lt7 le7 hb09 hb0 hb1 hb01 hb3 HH1 HF1 HFU1 hd1 hd6 hs6 hD3 hD7 hS7
 go_wp2_with fail
 go_loopw [7,8] (fun s7 i wr=>∃ k : Nat,k ≤ N ∧ i = .int .i64 k ∧ KWInv W D SS k wr s7) (fun _ i _=>N - (intOf i).toNat)
 case atStart=>exact ⟨0,Nat.zero_le _,rfl,HI.out⟩
 case round =>
  obtain ⟨k,hk,rfl,d,s,want,hcore,hho,hfu⟩:=hrel
  clear HI
  obtain ⟨wa,wk,rfl,_⟩:=pairs_len hcore.v
  have HC:=Lib.hid hcore
  have HH:=Lib.hid hho
  have HFU:=Lib.hid hfu
  clear hho hfu hcore
  by_cases hkN : k < N
  ·skip
   have hkl : k < ts.length:=HN.out ▸ hkN
   have k0 : decide ((k : Int) < (N : Int)) = true:=by simp;omega
   have k1 : (0 : Int) ≤ (k : Int):=by omega
   have k2 : (k : Int) < (N : Int):=by omega
   obtain ⟨bb,off,ra,rc,rfl,hbb,hcells,hcv⟩:=load_turn HV.out hkl
   have hwf:=HWF.out ts[k] (List.getElem_mem hkl)
   obtain ⟨t,htk⟩ : ∃ t,t = ts[k]:=⟨_,rfl⟩
   rw [← htk] at hcells hcv hwf
   obtain ⟨ch,fuse,mask⟩:=t
   obtain ⟨f1,f2,m1,m2⟩:=hwf
   dsimp only at hcells hcv f1 f2 m1 m2
   obtain ⟨R,hR⟩ : ∃ R,R = ch.length:=⟨_,rfl⟩
   rw [← hR] at hcells hcv
   have HR:=Lib.hid hR
   have HCV:=Lib.hid hcv
   have HCELL:=Lib.hid hcells
   have hbD : bb ≠ D:=by omega
   have kg:=kvGreat_any (.slice none 0 0) _ [] ch wr (show PairsV 0 wr (.slice none 0 0) [] from Row.nil _ _ _) (HCV.out.below HC.out.b)
   obtain ⟨S0,_,_⟩:=hcells wr (HC.out.b.block bb hbb)
   clear hcells htk hR hcv
   go_wp2_with fail
   refine kg.mono ?_
   rintro e w2 ⟨⟨gr,rfl⟩,hb2⟩
   clear kg S0
   have HC2:=Lib.hid (HC.out.below hb2)
   clear hb2 HC
   cases gr with
   | true =>
    go_wp2_with fail
    go_ret
    exact ⟨rfl,HC2.out.b⟩
   | false =>
    obtain ⟨wo,hwo⟩ : ∃ x,x = w2:=⟨_,rfl⟩
    subst hwo
    have hwf2 : IntKind.i64.wrap fuse = fuse:=by
     simp only [IntKind.wrap,IntKind.bits,IntKind.signed]
     simp
     omega
    obtain ⟨ff,hff,g1,g2⟩ : ∃ ff : Int,ff = max (-1) fuse ∧ -1 ≤ ff ∧ ff ≤ 1000:=⟨_,rfl,by omega,by omega⟩
    obtain ⟨ea,hha⟩:=HH.out.arm (f:=ff) g1 g2
    obtain ⟨a0,n0,a1,n1,hlD,hvD⟩:=load_D (w:=wo.drew) (HC2.out.d.below (below_draws (Below.refl _ _) 1))
    have s0 : BelowBut D wo wo.drew:=BelowBut.drew wo
    have L1 : ∀ w',BelowBut D wo w' → w'.cell? ⟨bb,off + k * 3 + 1,none⟩ = some (.int .i8 fuse):=fun w' h=>(HCELL.out w' ((h bb (Nat.lt_of_lt_of_le hbb HC2.out.b.size) hbD).trans (HC2.out.b.block bb hbb))).2.1
    have kc:=refarm_any _ d ff wo.drew hvD
    rw [ea] at kc
    have HHA:=Lib.hid hha
    have HFF:=Lib.hid hff
    clear ea hha hff
    go_upto_region 15 with (fail)
    refine wp_region_I [(false,1),(false,2),(false,3),(false,4),(false,5),(false,6),(false,7),(true,0),(true,8),(false,9),(false,10),(false,11),(true,12)] (BelowBut D wo) (by kernel_rfl) (by kernel_rfl) s0 ?_
    repeat (first | (refine heldI_skip rfl rfl ?_;simp only [Act.put,List.setIfInBounds_toArray,List.set_cons_zero,List.set_cons_succ]) | (refine heldI_take rfl ?_ rfl (fun w' hw'=>?_) ?_;rotate_left;(go_simp;first | done | with_reducible rfl);(try simp only [Act.put,List.setIfInBounds_toArray,List.set_cons_zero,List.set_cons_succ])))
    refine heldI_act rfl rfl fun K hK=>?_
    refine op_load (.tmp 3) 38 rfl rfl hlD ?_
    refine hK.out _ _ s0 ?_
    clear hK K hlD
    simp only [Act.put,List.setIfInBounds_toArray,List.set_cons_zero,List.set_cons_succ]
    refine heldI_act rfl rfl fun K hK=>?_
    go_simp
    rw [← HFF.out]
    refine kc.mono ?_
    rintro e wt1 ⟨⟨va,rfl,hda⟩,hb⟩
    clear kc
    have st1 : BelowBut D wo wt1:=s0.further (Nat.le_refl _) hb
    obtain ⟨y1,z1,y2,z2,rfl,_,_⟩:=hda.parts
    have hct:=(HC2.out.below (below_draws (Below.refl _ _) 1)).below hb
    obtain ⟨wx,st,hkx,HX⟩:=laid_D hct.d hda
    refine hK.out _ _ st1 ?_
    clear hK K hb
    repeat (first | (refine heldI_skip rfl rfl ?_;simp only [Act.put,List.setIfInBounds_toArray,List.set_cons_zero,List.set_cons_succ]) | (refine heldI_take rfl ?_ rfl (fun w' hw'=>?_) ?_;rotate_left;(go_simp;first | done | with_reducible rfl);(try simp only [Act.put,List.setIfInBounds_toArray,List.set_cons_zero,List.set_cons_succ])))
    refine heldI_act rfl rfl fun K hK=>?_
    refine op_store (.tmp 3) (.tmp 55) 38 rfl rfl rfl st ?_
    refine hK.out _ _ (st1.stored hkx) ?_
    clear hK K st
    simp only [Act.put,List.setIfInBounds_toArray,List.set_cons_zero,List.set_cons_succ]
    have HC3:=Lib.hid (hct.storedD hDw hDS HX.out)
    clear hct HX hkx st1 s0 L1 hda hvD
    refine heldI_nil ?_
    obtain ⟨d2,hd2⟩ : ∃ x : DiskP,x = { d with fuse:=ff }:=⟨_,rfl⟩
    rw [← hd2] at HC3 HHA
    clear hd2 HC2 HH HFU HFF hwf2
    obtain ⟨r,hr⟩ : ∃ r,r = commitK d2 s ch:=⟨_,rfl⟩
    have hout:=commit_outcome HHA.out (by omega) ch
    rw [← hr] at hout
    have HRR:=Lib.hid hr
    have HOUT:=Lib.hid hout
    have hl0 : -9223372036854775808 ≤ s.log.half ∧ s.log.half ≤ 9223372036854775807:=by
     obtain ⟨recs,h,_⟩:=HHA.out
     have:=h.kept.hw
     omega
    have HL0:=Lib.hid hl0
    obtain ⟨wq,hwq⟩ : ∃ x,x = wx:=⟨_,rfl⟩
    subst hwq
    clear hr hout hl0
    go_upto_region 16 with (fail)
    go_cut [9,10,11] from 57 to 57 (fun s9 s10 s11 wx=>KWStep wq r s9 s10 s11 wx)
    case first =>
     obtain ⟨xa,xn,xb,xm,TX,hvX⟩:=id HC3.out.d
     obtain ⟨ya,yc,TS,hpS⟩:=id HC3.out.s
     have s0' : Below wq.heap.size wq wq.drew:=below_draws (Below.refl _ _) 1
     have L0:=fun w' (h : Below wq.heap.size wq w')=>cell_of_row w' _ 0 _ _ _ ((h.block _ (block_lt TX)).trans TX)
     have L1:=fun w' (h : Below wq.heap.size wq w')=>cell_of_row w' _ 1 _ _ _ ((h.block _ (block_lt TX)).trans TX)
     have L2:=fun w' (h : Below wq.heap.size wq w')=>cell_of_row w' _ 2 _ _ _ ((h.block _ (block_lt TX)).trans TX)
     have L3:=fun w' (h : Below wq.heap.size wq w')=>cell_of_row w' _ 3 _ _ _ ((h.block _ (block_lt TX)).trans TX)
     have N0:=fun w' (h : Below wq.heap.size wq w')=>cell_of_row w' _ 0 _ _ _ ((h.block _ (block_lt TS)).trans TS)
     have N1:=fun w' (h : Below wq.heap.size wq w')=>cell_of_row w' _ 1 _ _ _ ((h.block _ (block_lt TS)).trans TS)
     have N2:=fun w' (h : Below wq.heap.size wq w')=>cell_of_row w' _ 2 _ _ _ ((h.block _ (block_lt TS)).trans TS)
     have N3:=fun w' (h : Below wq.heap.size wq w')=>cell_of_row w' _ 3 _ _ _ ((h.block _ (block_lt TS)).trans TS)
     have N4:=fun w' (h : Below wq.heap.size wq w')=>cell_of_row w' _ 4 _ _ _ ((h.block _ (block_lt TS)).trans TS)
     have M0 : ∀ w',Below wq.heap.size wq w' → w'.cell? ⟨bb,off + k * 3,none⟩ = some (.slice ra R rc):=fun w' h=>(HCELL.out w' ((h.block bb (Nat.lt_of_lt_of_le hbb HC3.out.b.size)).trans (HC3.out.b.block bb hbb))).1
     have HVX:=Lib.hid hvX
     have HSV:=Lib.hid (show StoreV wq.heap.size wq (storeV s.log (.slice ya s.pairs.length yc)) s from ⟨_,rfl,hpS⟩)
     have HCQ:=Lib.hid (HCV.out.below HC3.out.b).tight
     have hTq : 1 < wq.heap.size:=Nat.lt_of_lt_of_le hT HC3.out.b.size
     have HTQ:=Lib.hid (HT.out.below HC3.out.b hT)
     clear TX TS hvX hpS
     refine wp_region_start (fun w'=>Below wq.heap.size wq w') (by kernel_rfl) s0' ?_
     refine wpAnyH_part [(false,0),(false,1),(false,2),(false,3),(false,4),(false,5),(false,6)] (by kernel_rfl) s0' ?_
     repeat (first | (refine heldI_skip rfl rfl ?_;simp only [Act.put,List.setIfInBounds_toArray,List.set_cons_zero,List.set_cons_succ]) | (refine heldI_take rfl ?_ rfl (fun w' hw'=>?_) ?_;rotate_left;(go_simp;first | done | with_reducible rfl);(try simp only [Act.put,List.setIfInBounds_toArray,List.set_cons_zero,List.set_cons_succ])))
     refine heldI_nil ?_
     refine wpAnyH_ready (rs:=[7,12,13]) (by kernel_rfl) (by simp) ?_
     refine ready_cons rfl rfl (fun K hK=>?_) (ready_cons rfl rfl (fun K hK=>?_) (ready_cons rfl rfl (fun K hK=>?_) AllReadyH.nil))
     ·skip
      have kc:=kcommit_any _ _ _ d2 s ch wq.drew (HVX.out.below s0') (HSV.out.below s0') (HCQ.out.below s0') HL0.out (HTQ.out.below s0' hTq) (Nat.lt_of_lt_of_le hTq s0'.size)
      rw [← HRR.out] at kc
      unfold KE storeV at kc
      go_simp
      refine kc.mono ?_
      rintro e wt1 ⟨⟨vr,sr,rfl,hdr,hsr⟩,hb⟩
      clear kc
      obtain ⟨r1,r2,r3,r4,rfl,_,_⟩:=hdr.parts
      have st1:=s0'.trans (hb.mono s0'.size)
      refine hK.out _ _ st1 ?_
      clear hK K hb
      refine wpAnyH_part [(false,8),(false,9),(false,10),(false,11)] (by kernel_rfl) st1 ?_
      repeat (first | (refine heldI_skip rfl rfl ?_;simp only [Act.put,List.setIfInBounds_toArray,List.set_cons_zero,List.set_cons_succ]) | (refine heldI_take rfl ?_ rfl (fun w' hw'=>?_) ?_;rotate_left;(go_simp;first | done | with_reducible rfl);(try simp only [Act.put,List.setIfInBounds_toArray,List.set_cons_zero,List.set_cons_succ])))
      refine heldI_nil ?_
      refine wpAnyH_ready (rs:=[12,13]) (by kernel_rfl) (by simp) ?_
      refine ready_cons rfl rfl (fun K hK=>?_) (ready_cons rfl rfl (fun K hK=>?_) AllReadyH.nil)
      ·skip
       obtain ⟨wt2,GA,hw,hg,hA,hb,hlt,hle⟩:=fresh_disk wt1
       have st2:=st1.trans (hb.mono st1.size)
       have lGA : wq.heap.size ≤ GA:=Nat.le_trans st1.size hle
       have hdr:=(hdr.below hb).tight
       have hsr:=(hsr.below hb).tight
       refine op_alloc 38 rfl (zero_disk _) hw.out ?_
       rw [← hg.out]
       refine hK.out _ _ st2 ?_
       clear hK K hw hg hb hlt hle
       simp only [Act.put,List.setIfInBounds_toArray,List.set_cons_zero,List.set_cons_succ]
       refine wpAnyH_ready (rs:=[13]) (by kernel_rfl) (by simp) ?_
       refine ready_cons rfl rfl (fun K hK=>?_) AllReadyH.nil
       ·skip
        obtain ⟨wt3,GS,hw,hg,hS,hb,hlt,hle⟩:=fresh_store wt2
        have st3:=st2.trans (hb.mono st2.size)
        have lGS : wq.heap.size ≤ GS:=Nat.le_trans st2.size hle
        have hne : GA ≠ GS:=by have:=hA.lt;omega
        have hdr:=(hdr.below hb).tight
        have hsr:=(hsr.below hb).tight
        have hA:=hA.below hb
        refine op_alloc 44 rfl (zero_store _) hw.out ?_
        rw [← hg.out]
        refine hK.out _ _ st3 ?_
        clear hK K hw hg hb hlt hle
        simp only [Act.put,List.setIfInBounds_toArray,List.set_cons_zero,List.set_cons_succ]
        obtain ⟨wx,wy,st1,st2,HX⟩:=pack_DS3 hA hS hne hdr hsr
        have sx:=HX.out.2.2.1 wq.heap.size wq st3 lGA
        have sy:=HX.out.2.2.2 wq.heap.size wq st3 lGA lGS
        have HMID:=Lib.hid (show KWStep wq r (.pointer (some ⟨GA,0,none⟩)) (.pointer (some ⟨GS,0,none⟩)) (.int .i64 r.2.2) wy from ⟨GA,GS,rfl,rfl,rfl,hne,lGA,lGS,HX.out.1,HX.out.2.1,sy⟩)
        refine wpAnyH_end [(true,14),(true,15),(false,16)] (by kernel_rfl) st3 ?_
        refine heldI_act rfl rfl fun K hK=>?_
        refine op_store (.tmp 9) (.tmp 66) 38 rfl rfl rfl st1 ?_
        refine hK.out _ _ sx ?_
        clear hK K st1
        simp only [Act.put,List.setIfInBounds_toArray,List.set_cons_zero,List.set_cons_succ]
        refine heldI_act rfl rfl fun K hK=>?_
        refine op_store (.tmp 10) (.tmp 67) 44 rfl rfl rfl st2 ?_
        refine hK.out _ _ sy ?_
        clear hK K st2
        simp only [Act.put,List.setIfInBounds_toArray,List.set_cons_zero,List.set_cons_succ]
        repeat (first | (refine heldI_skip rfl rfl ?_;simp only [Act.put,List.setIfInBounds_toArray,List.set_cons_zero,List.set_cons_succ]) | (refine heldI_take rfl ?_ rfl (fun w' hw'=>?_) ?_;rotate_left;(go_simp;first | done | with_reducible rfl);(try simp only [Act.put,List.setIfInBounds_toArray,List.set_cons_zero,List.set_cons_succ])))
        refine heldI_nil ?_
        clear HX hA hS hdr hsr sx sy L0 L1 L2 L3 N0 N1 N2 N3 N4 M0
        go_wp2_with fail
        go_meet
        case rel=>exact HMID.out
      ·skip
       obtain ⟨wt4,GS,hw,hg,hS,hb,hlt,hle⟩:=fresh_store wt1
       have st4:=st1.trans (hb.mono st1.size)
       have lGS : wq.heap.size ≤ GS:=Nat.le_trans st1.size hle
       have hdr:=(hdr.below hb).tight
       have hsr:=(hsr.below hb).tight
       refine op_alloc 44 rfl (zero_store _) hw.out ?_
       rw [← hg.out]
       refine hK.out _ _ st4 ?_
       clear hK K hw hg hb hlt hle
       simp only [Act.put,List.setIfInBounds_toArray,List.set_cons_zero,List.set_cons_succ]
       refine wpAnyH_ready (rs:=[12]) (by kernel_rfl) (by simp) ?_
       refine ready_cons rfl rfl (fun K hK=>?_) AllReadyH.nil
       ·skip
        obtain ⟨wt5,GA,hw,hg,hA,hb,hlt,hle⟩:=fresh_disk wt4
        have st5:=st4.trans (hb.mono st4.size)
        have lGA : wq.heap.size ≤ GA:=Nat.le_trans st4.size hle
        have hne : GA ≠ GS:=by have:=hS.lt;omega
        have hdr:=(hdr.below hb).tight
        have hsr:=(hsr.below hb).tight
        have hS:=hS.below hb
        refine op_alloc 38 rfl (zero_disk _) hw.out ?_
        rw [← hg.out]
        refine hK.out _ _ st5 ?_
        clear hK K hw hg hb hlt hle
        simp only [Act.put,List.setIfInBounds_toArray,List.set_cons_zero,List.set_cons_succ]
        obtain ⟨wx,wy,st1,st2,HX⟩:=pack_DS3 hA hS hne hdr hsr
        have sx:=HX.out.2.2.1 wq.heap.size wq st5 lGA
        have sy:=HX.out.2.2.2 wq.heap.size wq st5 lGA lGS
        have HMID:=Lib.hid (show KWStep wq r (.pointer (some ⟨GA,0,none⟩)) (.pointer (some ⟨GS,0,none⟩)) (.int .i64 r.2.2) wy from ⟨GA,GS,rfl,rfl,rfl,hne,lGA,lGS,HX.out.1,HX.out.2.1,sy⟩)
        refine wpAnyH_end [(true,14),(true,15),(false,16)] (by kernel_rfl) st5 ?_
        refine heldI_act rfl rfl fun K hK=>?_
        refine op_store (.tmp 9) (.tmp 66) 38 rfl rfl rfl st1 ?_
        refine hK.out _ _ sx ?_
        clear hK K st1
        simp only [Act.put,List.setIfInBounds_toArray,List.set_cons_zero,List.set_cons_succ]
        refine heldI_act rfl rfl fun K hK=>?_
        refine op_store (.tmp 10) (.tmp 67) 44 rfl rfl rfl st2 ?_
        refine hK.out _ _ sy ?_
        clear hK K st2
        simp only [Act.put,List.setIfInBounds_toArray,List.set_cons_zero,List.set_cons_succ]
        repeat (first | (refine heldI_skip rfl rfl ?_;simp only [Act.put,List.setIfInBounds_toArray,List.set_cons_zero,List.set_cons_succ]) | (refine heldI_take rfl ?_ rfl (fun w' hw'=>?_) ?_;rotate_left;(go_simp;first | done | with_reducible rfl);(try simp only [Act.put,List.setIfInBounds_toArray,List.set_cons_zero,List.set_cons_succ])))
        refine heldI_nil ?_
        clear HX hA hS hdr hsr sx sy L0 L1 L2 L3 N0 N1 N2 N3 N4 M0
        go_wp2_with fail
        go_meet
        case rel=>exact HMID.out
     ·skip
      obtain ⟨wt6,GA,hw,hg,hA,hb,hlt,hle⟩:=fresh_disk wq.drew
      have st6:=s0'.trans (hb.mono s0'.size)
      have lGA : wq.heap.size ≤ GA:=Nat.le_trans s0'.size hle
      refine op_alloc 38 rfl (zero_disk _) hw.out ?_
      rw [← hg.out]
      refine hK.out _ _ st6 ?_
      clear hK K hw hg hb hlt hle
      simp only [Act.put,List.setIfInBounds_toArray,List.set_cons_zero,List.set_cons_succ]
      refine wpAnyH_ready (rs:=[7,13]) (by kernel_rfl) (by simp) ?_
      refine ready_cons rfl rfl (fun K hK=>?_) (ready_cons rfl rfl (fun K hK=>?_) AllReadyH.nil)
      ·skip
       have kc:=kcommit_any _ _ _ d2 s ch wt6 (HVX.out.below st6) (HSV.out.below st6) (HCQ.out.below st6) HL0.out (HTQ.out.below st6 hTq) (Nat.lt_of_lt_of_le hTq st6.size)
       rw [← HRR.out] at kc
       unfold KE storeV at kc
       go_simp
       refine kc.mono ?_
       rintro e wt7 ⟨⟨vr,sr,rfl,hdr,hsr⟩,hb⟩
       clear kc
       obtain ⟨r1,r2,r3,r4,rfl,_,_⟩:=hdr.parts
       have st7:=st6.trans (hb.mono st6.size)
       have hA:=hA.below hb
       refine hK.out _ _ st7 ?_
       clear hK K hb
       refine wpAnyH_part [(false,8),(false,9),(false,10),(false,11)] (by kernel_rfl) st7 ?_
       repeat (first | (refine heldI_skip rfl rfl ?_;simp only [Act.put,List.setIfInBounds_toArray,List.set_cons_zero,List.set_cons_succ]) | (refine heldI_take rfl ?_ rfl (fun w' hw'=>?_) ?_;rotate_left;(go_simp;first | done | with_reducible rfl);(try simp only [Act.put,List.setIfInBounds_toArray,List.set_cons_zero,List.set_cons_succ])))
       refine heldI_nil ?_
       refine wpAnyH_ready (rs:=[13]) (by kernel_rfl) (by simp) ?_
       refine ready_cons rfl rfl (fun K hK=>?_) AllReadyH.nil
       ·skip
        obtain ⟨wt8,GS,hw,hg,hS,hb,hlt,hle⟩:=fresh_store wt7
        have st8:=st7.trans (hb.mono st7.size)
        have lGS : wq.heap.size ≤ GS:=Nat.le_trans st7.size hle
        have hne : GA ≠ GS:=by have:=hA.lt;omega
        have hA:=hA.below hb
        have hdr:=(hdr.below hb).tight
        have hsr:=(hsr.below hb).tight
        refine op_alloc 44 rfl (zero_store _) hw.out ?_
        rw [← hg.out]
        refine hK.out _ _ st8 ?_
        clear hK K hw hg hb hlt hle
        simp only [Act.put,List.setIfInBounds_toArray,List.set_cons_zero,List.set_cons_succ]
        obtain ⟨wx,wy,st1,st2,HX⟩:=pack_DS3 hA hS hne hdr hsr
        have sx:=HX.out.2.2.1 wq.heap.size wq st8 lGA
        have sy:=HX.out.2.2.2 wq.heap.size wq st8 lGA lGS
        have HMID:=Lib.hid (show KWStep wq r (.pointer (some ⟨GA,0,none⟩)) (.pointer (some ⟨GS,0,none⟩)) (.int .i64 r.2.2) wy from ⟨GA,GS,rfl,rfl,rfl,hne,lGA,lGS,HX.out.1,HX.out.2.1,sy⟩)
        refine wpAnyH_end [(true,14),(true,15),(false,16)] (by kernel_rfl) st8 ?_
        refine heldI_act rfl rfl fun K hK=>?_
        refine op_store (.tmp 9) (.tmp 66) 38 rfl rfl rfl st1 ?_
        refine hK.out _ _ sx ?_
        clear hK K st1
        simp only [Act.put,List.setIfInBounds_toArray,List.set_cons_zero,List.set_cons_succ]
        refine heldI_act rfl rfl fun K hK=>?_
        refine op_store (.tmp 10) (.tmp 67) 44 rfl rfl rfl st2 ?_
        refine hK.out _ _ sy ?_
        clear hK K st2
        simp only [Act.put,List.setIfInBounds_toArray,List.set_cons_zero,List.set_cons_succ]
        repeat (first | (refine heldI_skip rfl rfl ?_;simp only [Act.put,List.setIfInBounds_toArray,List.set_cons_zero,List.set_cons_succ]) | (refine heldI_take rfl ?_ rfl (fun w' hw'=>?_) ?_;rotate_left;(go_simp;first | done | with_reducible rfl);(try simp only [Act.put,List.setIfInBounds_toArray,List.set_cons_zero,List.set_cons_succ])))
        refine heldI_nil ?_
        clear HX hA hS hdr hsr sx sy L0 L1 L2 L3 N0 N1 N2 N3 N4 M0
        go_wp2_with fail
        go_meet
        case rel=>exact HMID.out
      ·skip
       obtain ⟨wt9,GS,hw,hg,hS,hb,hlt,hle⟩:=fresh_store wt6
       have st9:=st6.trans (hb.mono st6.size)
       have lGS : wq.heap.size ≤ GS:=Nat.le_trans st6.size hle
       have hne : GA ≠ GS:=by have:=hA.lt;omega
       have hA:=hA.below hb
       refine op_alloc 44 rfl (zero_store _) hw.out ?_
       rw [← hg.out]
       refine hK.out _ _ st9 ?_
       clear hK K hw hg hb hlt hle
       simp only [Act.put,List.setIfInBounds_toArray,List.set_cons_zero,List.set_cons_succ]
       refine wpAnyH_ready (rs:=[7]) (by kernel_rfl) (by simp) ?_
       refine ready_cons rfl rfl (fun K hK=>?_) AllReadyH.nil
       ·skip
        have kc:=kcommit_any _ _ _ d2 s ch wt9 (HVX.out.below st9) (HSV.out.below st9) (HCQ.out.below st9) HL0.out (HTQ.out.below st9 hTq) (Nat.lt_of_lt_of_le hTq st9.size)
        rw [← HRR.out] at kc
        unfold KE storeV at kc
        go_simp
        refine kc.mono ?_
        rintro e wt10 ⟨⟨vr,sr,rfl,hdr,hsr⟩,hb⟩
        clear kc
        obtain ⟨r1,r2,r3,r4,rfl,_,_⟩:=hdr.parts
        have st10:=st9.trans (hb.mono st9.size)
        have hA:=hA.below hb
        have hS:=hS.below hb
        refine hK.out _ _ st10 ?_
        clear hK K hb
        refine wpAnyH_part [(false,8),(false,9),(false,10),(false,11)] (by kernel_rfl) st10 ?_
        repeat (first | (refine heldI_skip rfl rfl ?_;simp only [Act.put,List.setIfInBounds_toArray,List.set_cons_zero,List.set_cons_succ]) | (refine heldI_take rfl ?_ rfl (fun w' hw'=>?_) ?_;rotate_left;(go_simp;first | done | with_reducible rfl);(try simp only [Act.put,List.setIfInBounds_toArray,List.set_cons_zero,List.set_cons_succ])))
        refine heldI_nil ?_
        obtain ⟨wx,wy,st1,st2,HX⟩:=pack_DS3 hA hS hne hdr hsr
        have sx:=HX.out.2.2.1 wq.heap.size wq st10 lGA
        have sy:=HX.out.2.2.2 wq.heap.size wq st10 lGA lGS
        have HMID:=Lib.hid (show KWStep wq r (.pointer (some ⟨GA,0,none⟩)) (.pointer (some ⟨GS,0,none⟩)) (.int .i64 r.2.2) wy from ⟨GA,GS,rfl,rfl,rfl,hne,lGA,lGS,HX.out.1,HX.out.2.1,sy⟩)
        refine wpAnyH_end [(true,14),(true,15),(false,16)] (by kernel_rfl) st10 ?_
        refine heldI_act rfl rfl fun K hK=>?_
        refine op_store (.tmp 9) (.tmp 66) 38 rfl rfl rfl st1 ?_
        refine hK.out _ _ sx ?_
        clear hK K st1
        simp only [Act.put,List.setIfInBounds_toArray,List.set_cons_zero,List.set_cons_succ]
        refine heldI_act rfl rfl fun K hK=>?_
        refine op_store (.tmp 10) (.tmp 67) 44 rfl rfl rfl st2 ?_
        refine hK.out _ _ sy ?_
        clear hK K st2
        simp only [Act.put,List.setIfInBounds_toArray,List.set_cons_zero,List.set_cons_succ]
        repeat (first | (refine heldI_skip rfl rfl ?_;simp only [Act.put,List.setIfInBounds_toArray,List.set_cons_zero,List.set_cons_succ]) | (refine heldI_take rfl ?_ rfl (fun w' hw'=>?_) ?_;rotate_left;(go_simp;first | done | with_reducible rfl);(try simp only [Act.put,List.setIfInBounds_toArray,List.set_cons_zero,List.set_cons_succ])))
        refine heldI_nil ?_
        clear HX hA hS hdr hsr sx sy L0 L1 L2 L3 N0 N1 N2 N3 N4 M0
        go_wp2_with fail
        go_meet
        case rel=>exact HMID.out
     ·skip
      obtain ⟨wt11,GS,hw,hg,hS,hb,hlt,hle⟩:=fresh_store wq.drew
      have st11:=s0'.trans (hb.mono s0'.size)
      have lGS : wq.heap.size ≤ GS:=Nat.le_trans s0'.size hle
      refine op_alloc 44 rfl (zero_store _) hw.out ?_
      rw [← hg.out]
      refine hK.out _ _ st11 ?_
      clear hK K hw hg hb hlt hle
      simp only [Act.put,List.setIfInBounds_toArray,List.set_cons_zero,List.set_cons_succ]
      refine wpAnyH_ready (rs:=[7,12]) (by kernel_rfl) (by simp) ?_
      refine ready_cons rfl rfl (fun K hK=>?_) (ready_cons rfl rfl (fun K hK=>?_) AllReadyH.nil)
      ·skip
       have kc:=kcommit_any _ _ _ d2 s ch wt11 (HVX.out.below st11) (HSV.out.below st11) (HCQ.out.below st11) HL0.out (HTQ.out.below st11 hTq) (Nat.lt_of_lt_of_le hTq st11.size)
       rw [← HRR.out] at kc
       unfold KE storeV at kc
       go_simp
       refine kc.mono ?_
       rintro e wt12 ⟨⟨vr,sr,rfl,hdr,hsr⟩,hb⟩
       clear kc
       obtain ⟨r1,r2,r3,r4,rfl,_,_⟩:=hdr.parts
       have st12:=st11.trans (hb.mono st11.size)
       have hS:=hS.below hb
       refine hK.out _ _ st12 ?_
       clear hK K hb
       refine wpAnyH_part [(false,8),(false,9),(false,10),(false,11)] (by kernel_rfl) st12 ?_
       repeat (first | (refine heldI_skip rfl rfl ?_;simp only [Act.put,List.setIfInBounds_toArray,List.set_cons_zero,List.set_cons_succ]) | (refine heldI_take rfl ?_ rfl (fun w' hw'=>?_) ?_;rotate_left;(go_simp;first | done | with_reducible rfl);(try simp only [Act.put,List.setIfInBounds_toArray,List.set_cons_zero,List.set_cons_succ])))
       refine heldI_nil ?_
       refine wpAnyH_ready (rs:=[12]) (by kernel_rfl) (by simp) ?_
       refine ready_cons rfl rfl (fun K hK=>?_) AllReadyH.nil
       ·skip
        obtain ⟨wt13,GA,hw,hg,hA,hb,hlt,hle⟩:=fresh_disk wt12
        have st13:=st12.trans (hb.mono st12.size)
        have lGA : wq.heap.size ≤ GA:=Nat.le_trans st12.size hle
        have hne : GA ≠ GS:=by have:=hS.lt;omega
        have hS:=hS.below hb
        have hdr:=(hdr.below hb).tight
        have hsr:=(hsr.below hb).tight
        refine op_alloc 38 rfl (zero_disk _) hw.out ?_
        rw [← hg.out]
        refine hK.out _ _ st13 ?_
        clear hK K hw hg hb hlt hle
        simp only [Act.put,List.setIfInBounds_toArray,List.set_cons_zero,List.set_cons_succ]
        obtain ⟨wx,wy,st1,st2,HX⟩:=pack_DS3 hA hS hne hdr hsr
        have sx:=HX.out.2.2.1 wq.heap.size wq st13 lGA
        have sy:=HX.out.2.2.2 wq.heap.size wq st13 lGA lGS
        have HMID:=Lib.hid (show KWStep wq r (.pointer (some ⟨GA,0,none⟩)) (.pointer (some ⟨GS,0,none⟩)) (.int .i64 r.2.2) wy from ⟨GA,GS,rfl,rfl,rfl,hne,lGA,lGS,HX.out.1,HX.out.2.1,sy⟩)
        refine wpAnyH_end [(true,14),(true,15),(false,16)] (by kernel_rfl) st13 ?_
        refine heldI_act rfl rfl fun K hK=>?_
        refine op_store (.tmp 9) (.tmp 66) 38 rfl rfl rfl st1 ?_
        refine hK.out _ _ sx ?_
        clear hK K st1
        simp only [Act.put,List.setIfInBounds_toArray,List.set_cons_zero,List.set_cons_succ]
        refine heldI_act rfl rfl fun K hK=>?_
        refine op_store (.tmp 10) (.tmp 67) 44 rfl rfl rfl st2 ?_
        refine hK.out _ _ sy ?_
        clear hK K st2
        simp only [Act.put,List.setIfInBounds_toArray,List.set_cons_zero,List.set_cons_succ]
        repeat (first | (refine heldI_skip rfl rfl ?_;simp only [Act.put,List.setIfInBounds_toArray,List.set_cons_zero,List.set_cons_succ]) | (refine heldI_take rfl ?_ rfl (fun w' hw'=>?_) ?_;rotate_left;(go_simp;first | done | with_reducible rfl);(try simp only [Act.put,List.setIfInBounds_toArray,List.set_cons_zero,List.set_cons_succ])))
        refine heldI_nil ?_
        clear HX hA hS hdr hsr sx sy L0 L1 L2 L3 N0 N1 N2 N3 N4 M0
        go_wp2_with fail
        go_meet
        case rel=>exact HMID.out
      ·skip
       obtain ⟨wt14,GA,hw,hg,hA,hb,hlt,hle⟩:=fresh_disk wt11
       have st14:=st11.trans (hb.mono st11.size)
       have lGA : wq.heap.size ≤ GA:=Nat.le_trans st11.size hle
       have hne : GA ≠ GS:=by have:=hS.lt;omega
       have hS:=hS.below hb
       refine op_alloc 38 rfl (zero_disk _) hw.out ?_
       rw [← hg.out]
       refine hK.out _ _ st14 ?_
       clear hK K hw hg hb hlt hle
       simp only [Act.put,List.setIfInBounds_toArray,List.set_cons_zero,List.set_cons_succ]
       refine wpAnyH_ready (rs:=[7]) (by kernel_rfl) (by simp) ?_
       refine ready_cons rfl rfl (fun K hK=>?_) AllReadyH.nil
       ·skip
        have kc:=kcommit_any _ _ _ d2 s ch wt14 (HVX.out.below st14) (HSV.out.below st14) (HCQ.out.below st14) HL0.out (HTQ.out.below st14 hTq) (Nat.lt_of_lt_of_le hTq st14.size)
        rw [← HRR.out] at kc
        unfold KE storeV at kc
        go_simp
        refine kc.mono ?_
        rintro e wt15 ⟨⟨vr,sr,rfl,hdr,hsr⟩,hb⟩
        clear kc
        obtain ⟨r1,r2,r3,r4,rfl,_,_⟩:=hdr.parts
        have st15:=st14.trans (hb.mono st14.size)
        have hS:=hS.below hb
        have hA:=hA.below hb
        refine hK.out _ _ st15 ?_
        clear hK K hb
        refine wpAnyH_part [(false,8),(false,9),(false,10),(false,11)] (by kernel_rfl) st15 ?_
        repeat (first | (refine heldI_skip rfl rfl ?_;simp only [Act.put,List.setIfInBounds_toArray,List.set_cons_zero,List.set_cons_succ]) | (refine heldI_take rfl ?_ rfl (fun w' hw'=>?_) ?_;rotate_left;(go_simp;first | done | with_reducible rfl);(try simp only [Act.put,List.setIfInBounds_toArray,List.set_cons_zero,List.set_cons_succ])))
        refine heldI_nil ?_
        obtain ⟨wx,wy,st1,st2,HX⟩:=pack_DS3 hA hS hne hdr hsr
        have sx:=HX.out.2.2.1 wq.heap.size wq st15 lGA
        have sy:=HX.out.2.2.2 wq.heap.size wq st15 lGA lGS
        have HMID:=Lib.hid (show KWStep wq r (.pointer (some ⟨GA,0,none⟩)) (.pointer (some ⟨GS,0,none⟩)) (.int .i64 r.2.2) wy from ⟨GA,GS,rfl,rfl,rfl,hne,lGA,lGS,HX.out.1,HX.out.2.1,sy⟩)
        refine wpAnyH_end [(true,14),(true,15),(false,16)] (by kernel_rfl) st15 ?_
        refine heldI_act rfl rfl fun K hK=>?_
        refine op_store (.tmp 9) (.tmp 66) 38 rfl rfl rfl st1 ?_
        refine hK.out _ _ sx ?_
        clear hK K st1
        simp only [Act.put,List.setIfInBounds_toArray,List.set_cons_zero,List.set_cons_succ]
        refine heldI_act rfl rfl fun K hK=>?_
        refine op_store (.tmp 10) (.tmp 67) 44 rfl rfl rfl st2 ?_
        refine hK.out _ _ sy ?_
        clear hK K st2
        simp only [Act.put,List.setIfInBounds_toArray,List.set_cons_zero,List.set_cons_succ]
        repeat (first | (refine heldI_skip rfl rfl ?_;simp only [Act.put,List.setIfInBounds_toArray,List.set_cons_zero,List.set_cons_succ]) | (refine heldI_take rfl ?_ rfl (fun w' hw'=>?_) ?_;rotate_left;(go_simp;first | done | with_reducible rfl);(try simp only [Act.put,List.setIfInBounds_toArray,List.set_cons_zero,List.set_cons_succ])))
        refine heldI_nil ?_
        clear HX hA hS hdr hsr sx sy L0 L1 L2 L3 N0 N1 N2 N3 N4 M0
        go_wp2_with fail
        go_meet
        case rel=>exact HMID.out
    case rest =>
     obtain ⟨X,T,rfl,rfl,rfl,hXT,lX,lT,hA,hB,hbc⟩:=hcut
     have HA:=Lib.hid hA
     have HB:=Lib.hid hB
     have HBQ:=Lib.hid hbc
     have HCc:=Lib.hid (HC3.out.below hbc)
     have hDl:=HC3.out.d.lt
     have hSl:=HC3.out.s.lt
     obtain ⟨wE,hwE⟩ : ∃ x,x = wc:=⟨_,rfl⟩
     subst hwE
     clear hA hB hbc
     go_step
     go_step
     go_cut [7] from 999 to 999 (fun s7 wx=>KWEnd W D SS X T (2 * ((k + 1 : Nat) : Int) + 1) d2 s wx s7)
     case first =>
      have hGk : 2 * ((k + 1 : Nat) : Int) + 1 = 2 * (k : Int) + 1 + 1 + 1:=by omega
      rcases HOUT.out with ⟨e,rfl,he⟩ | ⟨d',s',rfl,hcb,hh⟩ | ⟨d',rfl,hcb,hf⟩
      ·clear HOUT HRR
       have HA:=Lib.hid HA.out
       have HB:=Lib.hid HB.out
       obtain ⟨ax,cx,Tx,hpx⟩:=id (HCc.out.s)
       have F0x:=cell_of_row wE _ 0 _ _ _ Tx
       have F1x:=cell_of_row wE _ 1 _ _ _ Tx
       have F2x:=cell_of_row wE _ 2 _ _ _ Tx
       have F3x:=cell_of_row wE _ 3 _ _ _ Tx
       have F4x:=cell_of_row wE _ 4 _ _ _ Tx
       clear Tx
       obtain ⟨ay,cy,Ty,hpy⟩:=id (HB.out)
       have F0y:=cell_of_row wE _ 0 _ _ _ Ty
       have F1y:=cell_of_row wE _ 1 _ _ _ Ty
       have F2y:=cell_of_row wE _ 2 _ _ _ Ty
       have F3y:=cell_of_row wE _ 3 _ _ _ Ty
       have F4y:=cell_of_row wE _ 4 _ _ _ Ty
       clear Ty
       have kk:=refsame6_any _ _ s wE ⟨_,rfl,hpx⟩ ⟨_,rfl,hpy⟩
       unfold storeV at kk
       clear hpx hpy
       have HFIN:=Lib.hid (fun (w' : World) (hb : Below wE.heap.size wE w')=>show KWEnd W D SS X T (2 * ((k + 1 : Nat) : Int) + 1) d2 s w' (.slice wa want.length wk) from ⟨d2,s,want,HCc.out.below hb,HA.out.below hb,HB.out.below hb,HHA.out.weak (by omega)⟩)
       rcases he with rfl | rfl | rfl
       all_goals
        go_wp2_with fail
        refine kk.mono ?_
        rintro e w' ⟨rfl,hb⟩
        have hfin:=HFIN.out w' hb
        have HZ:=Lib.hid hfin
        clear kk hfin HFIN
        go_wp2_with fail
        go_meet
        case rel=>exact HZ.out
      ·clear HOUT HRR
       have hpr:=pairsB_parts HHA.out.pairs
       have hcl : ch.length ≤ 400:=by
        unfold changesB at hcb
        simp only [Bool.and_eq_true,decide_eq_true_eq] at hcb
        exact hcb.1
       have kd:=refdo_any _ _ want ch wE HCc.out.v (HCV.out.below HCc.out.b) hpr.2.2 (by omega) (by omega)
       have M0:=(HCELL.out wE (HCc.out.b.block bb hbb)).1
       have HHN:=Lib.hid hh
       clear hpr hcl hcb hh
       go_wp2_with fail
       refine kd.mono ?_
       rintro e w' ⟨x,rfl,ho,hb⟩
       obtain ⟨xa,xc,rfl,_⟩:=pairs_len ho.v
       have HZ:=Lib.hid (show KWEnd W D SS X T (2 * ((k + 1 : Nat) : Int) + 1) d2 s w' (.slice xa (doP want ch).length xc) from ⟨d',s',doP want ch,⟨HCc.out.d.below hb,HCc.out.s.below hb,HCc.out.b.trans (hb.mono HCc.out.b.size),ho.v⟩,HA.out.below hb,HB.out.below hb,HHN.out.weak (by omega)⟩)
       clear kd M0 ho hb
       go_wp2_with fail
       go_meet
       case rel=>exact HZ.out
      ·clear HOUT HRR
       have hpr:=pairsB_parts HHA.out.pairs
       have hcl : ch.length ≤ 400:=by
        unfold changesB at hcb
        simp only [Bool.and_eq_true,decide_eq_true_eq] at hcb
        exact hcb.1
       have HPR:=Lib.hid (And.intro hpr.2.2 (And.intro hpr.1 hcl))
       obtain ⟨d4,es,hfu4,Y,hY,hup⟩:=hf.start mask
       obtain ⟨a0,n0,a1,n1,hlD,hvD⟩:=load_D (w:=wE.drew) ((HA.out : DAt wE X d').below (below_draws (Below.refl _ _) 1))
       have s0 : BelowBut X wE wE.drew:=BelowBut.drew wE
       have hbX : bb ≠ X:=by have:=HC3.out.b.size;omega
       have L2 : ∀ w',BelowBut X wE w' → w'.cell? ⟨bb,off + k * 3 + 2,none⟩ = some (.int .u64 mask):=fun w' h=>(HCELL.out w' ((h bb (Nat.lt_of_lt_of_le hbb HCc.out.b.size) hbX).trans (HCc.out.b.block bb hbb))).2.2
       have kc:=refstart_any _ d' mask wE.drew hvD m1 m2
       rw [es] at kc
       have HUP:=Lib.hid hup
       have HFU4:=Lib.hid hfu4
       have HY:=Lib.hid hY
       clear es hup hfu4 hY hf hpr hcl hcb
       go_upto_region 27 with (fail)
       refine wp_region_I [(false,1),(false,2),(false,3),(false,4),(false,5),(true,0),(true,6),(false,7),(false,8),(false,9),(true,10)] (BelowBut X wE) (by kernel_rfl) (by kernel_rfl) s0 ?_
       repeat (first | (refine heldI_skip rfl rfl ?_;simp only [Act.put,List.setIfInBounds_toArray,List.set_cons_zero,List.set_cons_succ]) | (refine heldI_take rfl ?_ rfl (fun w' hw'=>?_) ?_;rotate_left;(go_simp;first | done | with_reducible rfl);(try simp only [Act.put,List.setIfInBounds_toArray,List.set_cons_zero,List.set_cons_succ])))
       refine heldI_act rfl rfl fun K hK=>?_
       refine op_load (.tmp 9) 38 rfl rfl hlD ?_
       refine hK.out _ _ s0 ?_
       clear hK K hlD
       simp only [Act.put,List.setIfInBounds_toArray,List.set_cons_zero,List.set_cons_succ]
       refine heldI_act rfl rfl fun K hK=>?_
       go_simp
       refine kc.mono ?_
       rintro e wt1 ⟨⟨va,rfl,hda⟩,hb⟩
       clear kc
       have st1 : BelowBut X wE wt1:=s0.further (Nat.le_refl _) hb
       obtain ⟨y1,z1,y2,z2,rfl,_,_⟩:=hda.parts
       have hbE:=(below_draws (Below.refl wE.heap.size wE) 1).trans hb
       have hXa:=(HA.out : DAt wE X d').below hbE
       have hTa:=(HB.out : SVAt wE T s).below hbE
       obtain ⟨wx,st,hkx,HX⟩:=laid_D hXa hda
       refine hK.out _ _ st1 ?_
       clear hK K hb
       repeat (first | (refine heldI_skip rfl rfl ?_;simp only [Act.put,List.setIfInBounds_toArray,List.set_cons_zero,List.set_cons_succ]) | (refine heldI_take rfl ?_ rfl (fun w' hw'=>?_) ?_;rotate_left;(go_simp;first | done | with_reducible rfl);(try simp only [Act.put,List.setIfInBounds_toArray,List.set_cons_zero,List.set_cons_succ])))
       refine heldI_act rfl rfl fun K hK=>?_
       refine op_store (.tmp 9) (.tmp 97) 38 rfl rfl rfl st ?_
       refine hK.out _ _ (st1.stored hkx) ?_
       clear hK K st
       simp only [Act.put,List.setIfInBounds_toArray,List.set_cons_zero,List.set_cons_succ]
       have HBx:=Lib.hid (HX.out.2.2.2 wq.heap.size wq (HBQ.out.trans (hbE.mono HBQ.out.size)) lX)
       have HTx:=Lib.hid (hTa.keepD hXa hXT HX.out.2.2.1)
       have HXx:=Lib.hid HX.out.1
       clear hXa hTa HX hkx st1 s0 L2 hda hvD hbE
       refine heldI_nil ?_
       obtain ⟨d5,s5,eo,hh5,hq5⟩:=HUP.out.opened (by omega) HFU4.out
       obtain ⟨da,na,db,nb,TD,hv⟩:=id HXx.out
       obtain ⟨C0,C1,C2,C3,_⟩:=Four.of TD
       clear TD
       have hcx:=HC3.out.below HBx.out
       have ko:=kopen_any _ d4 wx hv (HT.out.below hcx.b hT) (Nat.lt_of_lt_of_le hT hcx.b.size)
       rw [eo] at ko
       unfold KE at ko
       have HH5:=Lib.hid hh5
       clear hv eo hcx hh5 hq5
       go_wp2_with fail
       refine ko.mono ?_
       rintro e w6 ⟨⟨v6,sv6,rfl,hd6,hs6⟩,hb6⟩
       clear ko C0 C1 C2 C3
       obtain ⟨p3,q3,p4,q4,rfl,_,_⟩:=hd6.parts
       obtain ⟨w8,w9,st1,st2,HX⟩:=pack_DS (HXx.out.below hb6) (HTx.out.below hb6) hXT hd6 hs6
       have ST2:=Lib.hid st2
       have HB9:=Lib.hid (HX.out.2.2.2.2 wq.heap.size wq (HBx.out.trans (hb6.mono HBx.out.size)) lX lT)
       have HXT:=Lib.hid (And.intro HX.out.1 HX.out.2.1)
       clear st2 hd6 hs6 hb6 HX
       go_wp2_with (with_reducible refine wp_store_r (.tmp 9) (.tmp 102) 38 st1 rfl rfl ?_;refine Halt.in ?_)
       refine Halt.out ?_
       have st2:=ST2.out
       clear st1
       go_wp2_with (with_reducible refine wp_store_r (.tmp 10) (.tmp 103) 44 st2 rfl rfl ?_;refine Halt.in ?_)
       refine Halt.out ?_
       clear st2 ST2
       have HC9:=Lib.hid (HC3.out.below HB9.out)
       have kd:=refdo_any _ _ want ch w9 HC9.out.v (HCV.out.below HC9.out.b) HPR.out.1 (by have:=HPR.out.2.1;omega) (by have:=HPR.out.2.2;omega)
       have M0:=(HCELL.out w9 (HC9.out.b.block bb hbb)).1
       go_wp2_with fail
       refine kd.mono ?_
       rintro e wa' ⟨x,rfl,ho,hb⟩
       obtain ⟨xa,xc,rfl,_⟩:=pairs_len ho.v
       have HO:=Lib.hid ho.v
       have HCa:=Lib.hid (HC9.out.below hb)
       have HXa:=Lib.hid (HXT.out.1.below hb)
       have HTa:=Lib.hid (HXT.out.2.below hb)
       clear kd M0 ho hb
       obtain ⟨ta,tc,TS,hpT⟩:=id HTa.out
       rw [HH5.out.pairs_eq] at TS hpT
       have F4:=cell_of_row wa' _ 4 _ _ _ TS
       clear TS
       have kp:=samePairs_any _ _ Y want wa' hpT HCa.out.v
       have HPT:=Lib.hid hpT
       clear hpT
       by_cases hw : Y = want
       ·rw [decide_eq_true hw] at kp
        subst hw
        go_wp2_with fail
        refine kp.mono ?_
        rintro e wb ⟨rfl,hb⟩
        have F4':=(hb.cell (p:=⟨T,4,none⟩) (HTa.out.lt)).trans F4
        have HZ:=Lib.hid (show KWEnd W D SS X T (2 * ((k + 1 : Nat) : Int) + 1) d2 s wb (.slice ta Y.length tc) from ⟨d5,s5,Y,⟨HCa.out.d.below hb,HCa.out.s.below hb,HCa.out.b.trans (hb.mono HCa.out.b.size),(HPT.out.below hb).tight⟩,HXa.out.below hb,HTa.out.below hb,HH5.out.weak (by omega)⟩)
        clear kp F4 hb
        go_wp2_with fail
        go_meet
        case rel=>exact HZ.out
       ·rw [decide_eq_false hw] at kp
        obtain rfl : Y = doP want ch:=HY.out.resolve_left hw
        clear hw
        go_wp2_with fail
        refine kp.mono ?_
        rintro e wb ⟨rfl,hb⟩
        have F4':=(hb.cell (p:=⟨T,4,none⟩) (HTa.out.lt)).trans F4
        have kq:=samePairs_any _ _ (doP want ch) (doP want ch) wb (HPT.out.below hb) (HO.out.below hb)
        rw [decide_eq_true rfl] at kq
        have HCb:=Lib.hid (HCa.out.below hb)
        have HXb:=Lib.hid (HXa.out.below hb)
        have HTb:=Lib.hid (HTa.out.below hb)
        have HPb:=Lib.hid (HPT.out.below hb).tight
        clear kp F4 hb
        go_wp2_with fail
        refine kq.mono ?_
        rintro e wd ⟨rfl,hb⟩
        have F4:=(hb.cell (p:=⟨T,4,none⟩) (HTb.out.lt)).trans F4'
        have HZ:=Lib.hid (show KWEnd W D SS X T (2 * ((k + 1 : Nat) : Int) + 1) d2 s wd (.slice ta (doP want ch).length tc) from ⟨d5,s5,doP want ch,⟨HCb.out.d.below hb,HCb.out.s.below hb,HCb.out.b.trans (hb.mono HCb.out.b.size),(HPb.out.below hb).tight⟩,HXb.out.below hb,HTb.out.below hb,HH5.out.weak (by omega)⟩)
        clear kq F4' hb
        go_wp2_with fail
        go_meet
        case rel=>exact HZ.out
     case rest =>
      obtain ⟨d6,s6,want6,hc6,hX6,hT6,hh6⟩:=hcut
      obtain ⟨va,vk,rfl,_⟩:=pairs_len hc6.v
      have HH6:=Lib.hid hh6
      have hw6:=hc6.b
      obtain ⟨a0,n0,a1,n1,pa,pc,wx,wy,RX,RT,st1,st2,ka,kb,HX⟩:=move_DS (w:=wc.drew) (hc6.d.below (below_draws (Below.refl _ _) 1)) (hc6.s.below (below_draws (Below.refl _ _) 1)) (hX6.below (below_draws (Below.refl _ _) 1)) (hT6.below (below_draws (Below.refl _ _) 1)) hDS
      have hXD : X ≠ D:=by omega
      have hXS : X ≠ SS:=by omega
      have hTD : T ≠ D:=by omega
      have hTS : T ≠ SS:=by omega
      have L0 : ∀ w',KeptBut D SS wc.drew w' → w'.cell? ⟨X,0,none⟩ = _:=fun w' h=>cell_of_row w' _ 0 _ _ _ ((h X hXD hXS).trans RX)
      have L1 : ∀ w',KeptBut D SS wc.drew w' → w'.cell? ⟨X,1,none⟩ = _:=fun w' h=>cell_of_row w' _ 1 _ _ _ ((h X hXD hXS).trans RX)
      have L2 : ∀ w',KeptBut D SS wc.drew w' → w'.cell? ⟨X,2,none⟩ = _:=fun w' h=>cell_of_row w' _ 2 _ _ _ ((h X hXD hXS).trans RX)
      have L3 : ∀ w',KeptBut D SS wc.drew w' → w'.cell? ⟨X,3,none⟩ = _:=fun w' h=>cell_of_row w' _ 3 _ _ _ ((h X hXD hXS).trans RX)
      have N0 : ∀ w',KeptBut D SS wc.drew w' → w'.cell? ⟨T,0,none⟩ = _:=fun w' h=>cell_of_row w' _ 0 _ _ _ ((h T hTD hTS).trans RT)
      have N1 : ∀ w',KeptBut D SS wc.drew w' → w'.cell? ⟨T,1,none⟩ = _:=fun w' h=>cell_of_row w' _ 1 _ _ _ ((h T hTD hTS).trans RT)
      have N2 : ∀ w',KeptBut D SS wc.drew w' → w'.cell? ⟨T,2,none⟩ = _:=fun w' h=>cell_of_row w' _ 2 _ _ _ ((h T hTD hTS).trans RT)
      have N3 : ∀ w',KeptBut D SS wc.drew w' → w'.cell? ⟨T,3,none⟩ = _:=fun w' h=>cell_of_row w' _ 3 _ _ _ ((h T hTD hTS).trans RT)
      have N4 : ∀ w',KeptBut D SS wc.drew w' → w'.cell? ⟨T,4,none⟩ = _:=fun w' h=>cell_of_row w' _ 4 _ _ _ ((h T hTD hTS).trans RT)
      have s0:=KeptBut.refl D SS wc.drew
      have hvw:=(hc6.v.below (below_draws (Below.refl wc.heap.size wc) 1))
      have HC7:=Lib.hid (show KCore W D SS wy d6 s6 want6 (.slice va want6.length vk) from ⟨HX.out.1,HX.out.2.1,HX.out.2.2.1 _ _ (hc6.b.trans ((below_draws (Below.refl wc.heap.size wc) 1).mono hc6.b.size)) hDw hSw,HX.out.2.2.2 _ _ hvw⟩)
      clear RX RT HX hc6 hX6 hT6 hh6 hw6 hvw
      go_upto_region 33 with (fail)
      refine wp_region_I [(false,0),(false,1),(true,2),(true,3)] (KeptBut D SS wc.drew) (by kernel_rfl) (by kernel_rfl) s0 ?_
      repeat (first | (refine heldI_skip rfl rfl ?_;simp only [Act.put,List.setIfInBounds_toArray,List.set_cons_zero,List.set_cons_succ]) | (refine heldI_take rfl ?_ rfl (fun w' hw'=>?_) ?_;rotate_left;(go_simp;first | done | with_reducible rfl);(try simp only [Act.put,List.setIfInBounds_toArray,List.set_cons_zero,List.set_cons_succ])))
      refine heldI_act rfl rfl fun K hK=>?_
      refine op_store (.tmp 3) (.tmp 130) 38 rfl rfl rfl st1 ?_
      refine hK.out _ _ ka ?_
      clear hK K st1
      simp only [Act.put,List.setIfInBounds_toArray,List.set_cons_zero,List.set_cons_succ]
      refine heldI_act rfl rfl fun K hK=>?_
      refine op_store (.tmp 5) (.tmp 131) 44 rfl rfl rfl st2 ?_
      refine hK.out _ _ kb ?_
      clear hK K st2
      simp only [Act.put,List.setIfInBounds_toArray,List.set_cons_zero,List.set_cons_succ]
      refine heldI_nil ?_
      clear L0 L1 L2 L3 N0 N1 N2 N3 N4 ka kb s0
      obtain ⟨ta,tc,TS,hpT⟩:=id HC7.out.s
      rw [HH6.out.pairs_eq] at TS hpT
      have F4:=cell_of_row wy _ 4 _ _ _ TS
      clear TS
      have kp:=samePairs_any _ _ want6 want6 wy hpT HC7.out.v
      rw [decide_eq_true rfl] at kp
      clear hpT
      go_wp2_with fail
      refine kp.mono ?_
      rintro e wb ⟨rfl,hb⟩
      have HC8:=Lib.hid (HC7.out.below hb)
      clear kp F4 hb HC7
      obtain ⟨ea,hha⟩:=HH6.out.arm (f:=-1) (Int.le_refl _) (by decide)
      obtain ⟨da,na,db,nb,TD,hv⟩:=id HC8.out.d
      obtain ⟨C0,C1,C2,C3,_⟩:=Four.of TD
      clear TD
      have kc:=refarm_any _ d6 (-1) wb hv
      rw [ea] at kc
      have HHA7:=Lib.hid hha
      clear hv ea hha
      go_wp2_with fail
      refine kc.mono ?_
      rintro e wT ⟨⟨vv,rfl,hda⟩,hbT⟩
      clear kc C0 C1 C2 C3
      obtain ⟨y1,z1,y2,z2,rfl,_,_⟩:=hda.parts
      have hcT:=HC8.out.below hbT
      obtain ⟨wU,st,hkx,HX⟩:=laid_D hcT.d hda
      have HFIN:=Lib.hid (show KWInv W D SS (k + 1) wU (.slice va want6.length vk) from ⟨_,s6,want6,hcT.storedD hDw hDS HX.out,HHA7.out,rfl⟩)
      clear hcT HX hkx hda hbT HC8 HH6 HHA7
      go_wp2_with (with_reducible refine wp_store_r (.tmp 3) (.tmp 140) 38 st rfl rfl ?_;refine Halt.in ?_)
      refine Halt.out ?_
      clear st
      go_wp2_with fail
      go_roundw
      case rel=>exact ⟨k + 1,by omega,by go_num,HFIN.out⟩
      case measure=>simp [intOf];omega
  ·have k0 : decide ((k : Int) < (N : Int)) = false:=by simp;omega
   obtain ⟨d5,s5,eo,hh5,hq5⟩:=HH.out.upP.opened (by omega) HFU.out
   obtain ⟨da,na,db,nb,TD,hv⟩:=id HC.out.d
   obtain ⟨C0,C1,C2,C3,_⟩:=Four.of TD
   clear TD
   have ko:=kopen_any _ d wr hv (HT.out.below HC.out.b hT) (Nat.lt_of_lt_of_le hT HC.out.b.size)
   rw [eo] at ko
   unfold KE at ko
   have HH5:=Lib.hid hh5
   clear hv eo hh5 hq5
   go_wp2_with fail
   refine ko.mono ?_
   rintro e w6 ⟨⟨v6,sv6,rfl,hd6,hs6⟩,hb6⟩
   clear ko C0 C1 C2 C3
   obtain ⟨p3,q3,p4,q4,rfl,_,_⟩:=hd6.parts
   obtain ⟨wb,D2,HWc,HGc,hDD,hbD,ltD,leD⟩:=fresh_disk w6
   obtain ⟨wd,S2,HWd,HGd,hSE,hbE,ltE,leE⟩:=fresh_store wb
   have hb9E:=hbD.trans (hbE.mono hbD.size)
   obtain ⟨we,wf,st1,st2,HX⟩:=pack_DS (hDD.below hbE) hSE (show D2 ≠ S2 by omega) (hd6.below hb9E).tight (hs6.below hb9E).tight
   have ST2:=Lib.hid st2
   have hSn : w6.heap.size ≤ S2:=by omega
   have HBF:=Lib.hid (hb6.trans ((HX.out.2.2.2.2 w6.heap.size w6 hb9E leD hSn).mono hb6.size))
   have HSX:=Lib.hid HX.out.2.1
   clear st2 hd6 hs6 hDD hSE hbD hbE hb9E ltD ltE leE HX hb6
   go_wp2_with (with_reducible refine wp_alloc_to (w':=wb) 38 rfl rfl (zero_disk _) HWc.out ?_;refine Halt.in ?_)
   refine Halt.out ?_
   rw [← HGc.out]
   go_wp2_with (with_reducible refine wp_alloc_to (w':=wd) 44 rfl rfl (zero_store _) HWd.out ?_;refine Halt.in ?_)
   refine Halt.out ?_
   rw [← HGd.out]
   go_wp2_with (with_reducible refine wp_store_r (.tmp 13) (.tmp 145) 38 st1 rfl rfl ?_;refine Halt.in ?_)
   refine Halt.out ?_
   have st2:=ST2.out
   clear st1
   go_wp2_with (with_reducible refine wp_store_r (.tmp 14) (.tmp 146) 44 st2 rfl rfl ?_;refine Halt.in ?_)
   refine Halt.out ?_
   clear st2 ST2
   obtain ⟨ta,tc,TS,hpT⟩:=id HSX.out
   rw [HH5.out.pairs_eq] at TS hpT
   have F4:=cell_of_row wf _ 4 _ _ _ TS
   clear TS
   have HCF:=Lib.hid (HC.out.below HBF.out)
   have kp:=samePairs_any _ _ want want wf hpT HCF.out.v
   rw [decide_eq_true rfl] at kp
   clear hpT
   go_wp2_with fail
   refine kp.mono ?_
   rintro e wz ⟨rfl,hb⟩
   have HFIN:=Lib.hid (HCF.out.below hb).b
   clear kp F4 hb
   go_wp2_with fail
   go_ret
   exact ⟨rfl,HFIN.out⟩
end Go.Proofs.YtaijompnohkmaaaGreatDoor
