/- Layer 6 (kv): Open (the code's). -/
import Derived.Test.YtaijompnohkmaaaGreatDoorON
set_option linter.unusedSimpArgs false
set_option linter.unusedVariables false
namespace Go.Proofs.YtaijompnohkmaaaGreatDoor
section
open Go.RowKit KvP PackP WalP
theorem Own.kept {B:Nat} {w w':World} {e:TypeId} {v:Value} {sz n:Nat} {cs:List Value} (h:Own B w e v sz n cs) (hk:∀ k,B≤k→w'.heap[k]?=w.heap[k]?):Own B w' e v sz n cs:=by
 obtain⟨h1,a,cap,rfl,h2,h3,h4⟩:=h
 refine⟨h1,a,cap,rfl,h2,h3,?_⟩
 rcases h4 with h4 | ⟨g,cur,rfl,hg,hh,hs,ht⟩
 ·exact .inl h4
 ·exact .inr ⟨g,cur,rfl,hg,(hk g hg).trans hh,hs,ht⟩
theorem played_step {recs:List (List UInt8)} {j:Nat} {P:List PairP} (hj:j<recs.length):playedP (recs.drop j) P=if (decodeP recs[j]).2=0 then (if pairsB (doP P (decodeP recs[j]).1) then playedP (recs.drop (j+1)) (doP P (decodeP recs[j]).1) else ([],3)) else ([],3):=by
 rw [List.drop_eq_getElem_cons hj,playedP]
theorem decodeP_changes {b:List UInt8} (h:(decodeP b).2=0):changesB (decodeP b).1=true:=by
 obtain⟨M,hM,_⟩:=count_nat (RS.mk b 0)
 by_cases h1:(decN M ((RS.mk b 0).count 400).1).1.doneE=0
 ·cases hc:changesB (decN M ((RS.mk b 0).count 400).1).2 with
  | true =>
   rw [decodeP_good b M hM h1 hc]
   exact hc
  | false =>
   rw [decodeP_form b M hM h1 hc] at h
   cases h
 ·rw [decodeP_bad b M hM h1] at h
  exact absurd h h1
theorem pairs_lens {l:List PairP} (h:pairsB l=true):l.length≤400∧Rising l∧∀ p∈l,p.key.length≤64∧p.val.length≤4096:=by
 obtain⟨h1,h2,h3⟩:=pairsB_parts h
 refine⟨h1,h3,fun p hp=>?_⟩
 have h:=h2 p hp
 unfold mayP at h
 simp only [Bool.and_eq_true,decide_eq_true_eq] at h
 exact⟨h.1.2,h.2⟩
set_option maxRecDepth 100000 in
set_option maxHeartbeats 8000000 in
theorem kopen_any {B:Nat} (v:Value) (d:DiskP) (w:World) (hd:DiskV B w v d) (ht:TabAt w) (hT:1<w.heap.size) :
  Calls Tryz.prog 18 #[v] w (KE w (openK d)):=by
 have hd:=hd.tight
 obtain⟨p1,q1,p2,q2,rfl,_,_⟩:=hd.parts
 obtain⟨w1,hw1,hb1,hs1,R0,R1,R2⟩:=three w (.cells #[.slice p1 d.secs.length q1,.slice p2 d.loose.length q2,.int .i64 d.fuse,.bool d.down] 38) (.cells #[.slice none 0 0,.slice none 0 0,.int .i64 0,.bool false] 38) (.cells #[.int .i64 0,.int .i64 0,.int .i64 0,.int .i64 0,.slice none 0 0] 44)
 have hd1:=(hd.below hb1).tight
 obtain⟨r,hr⟩:∃ r,r=openP d:=⟨_,rfl⟩
 obtain⟨K0,hK0⟩:∃ x,x=openK d:=⟨_,rfl⟩
 have hKo:K0=if r.2.2.2=0 then (if (playedP r.2.2.1 []).2=0 then (r.1,⟨r.2.1,(playedP r.2.2.1 []).1⟩,0) else (r.1,store0,3)) else (r.1,store0,r.2.2.2):=by rw [hK0,hr];rfl
 rw [← hK0]
 have HK0:=zh hKo
 have ko:=open_any _ d w1 hd1 (ht.below hb1 hT) (Nat.lt_of_lt_of_le hT hb1.size)
 rw [← hr] at ko
 unfold OpenE logV at ko
 have HW1:=zh hw1
 have HS1:=zh hs1
 have C0:=cR w1 _ 0 _ _ _ R0
 have C1:=cR w1 _ 1 _ _ _ R0
 have C2:=cR w1 _ 2 _ _ _ R0
 have C3:=cR w1 _ 3 _ _ _ R0
 clear hr hK0 hKo hw1 hs1 ht hT
 go_enter Tryz.func18,Tryz.ntmps18
 go_upto_region 1 with (fail)
 rw [← HW1.out]
 go_wp2_with fail
 refine ko.mono ?_
 rintro e w4 ⟨⟨va,lv,rfl,hda,hpa⟩,hb4⟩
 clear ko C0 C1 C2 C3
 obtain⟨y1,z1,y2,z2,rfl,_,_⟩:=hda.parts
 have hD4:DAt w4 w.heap.size d:=⟨p1,q1,p2,q2,(hb4.block _ (zB R0)).trans R0,(hd1.below hb4).tight⟩
 have S1:=(hb4.block _ (zB R1)).trans R1
 have S2:=(hb4.block _ (zB R2)).trans R2
 have hs1:=HS1.out
 have hs4:=hb4.size
 obtain⟨w5,G,HWb,HGb,hL5,hb5,lt5,le5⟩:=fresh_log w4
 have hDg:w.heap.size≠G:=by omega
 obtain⟨w6,x0,x1,x2,x3,hw6,⟨C0,C1,C2,C3,Z⟩,⟨N0,N1,N2,N3,Y⟩,HX6⟩:=pack_store r.2.1 (hD4.below hb5) hL5 (hda.below hb5).tight hDg
 have hw6:=hw6.out
 try dsimp only at hw6
 have HW6:=zh hw6
 clear hw6
 go_wp2_with (with_reducible refine wp_alloc_to (w':=w5) 41 rfl rfl (zero_log _) HWb.out ?_;refine Halt.in ?_)
 refine Halt.out ?_
 rw [← HGb.out]
 go_upto_region 2 with (fail)
 rw [← HW6.out]
 clear C0 C1 C2 C3 Z N0 N1 N2 N3 Y
 obtain⟨hD6,hL6,hz6,hk6,hbb6⟩:=HX6.out
 have hs6:w6.heap.size=w5.heap.size:=hz6
 have hRC:w6.heap[w.heap.size+1]?=_:=(hk6 _ (by omega) (by omega)).trans ((hb5.block _ (by omega)).trans S1)
 have hRS:w6.heap[w.heap.size+1+1]?=_:=(hk6 _ (by omega) (by omega)).trans ((hb5.block _ (by omega)).trans S2)
 have hb06:Below w.heap.size w w6:=hbb6 w.heap.size w ((hb1.trans (hb4.mono hb1.size)).trans (hb5.mono (by omega))) (Nat.le_refl _) (by omega)
 have hlv6:PiecesS (fun b=>w1.heap.size≤b) w4.heap.size w6 lv r.2.2.1:=hpa.keep (fun k h1 h2=>(hk6 k (by omega) (by omega)).trans (hb5.block k h2))
 have hPV:=hlv6.tight.pieces
 obtain⟨la,lc,rfl,hlc,hlm,hat⟩:=hPV.at_
 obtain⟨M,hM⟩:∃ M,M=r.2.2.1.length:=⟨_,rfl⟩
 rw [← hM] at hlc ⊢
 have hs36:w.heap.size+3≤w6.heap.size:=by omega
 have hG6:w.heap.size+3≤G:=by omega
 have HMM:=zh hM
 have HAT:=zh hat
 have HD6:=zh hD6
 have HL6:=zh hL6
 have HRC:=zh hRC
 have HRS:=zh hRS
 have HB06:=zh hb06
 clear hM hat hD6 hL6 hz6 hk6 hbb6 HX6 hlv6 hPV hpa hda hD4 hL5 hb4 hb5 S1 S2 lt5 le5 hDg hRC hRS hb06 R0 R1 R2 hd1 hb1
 by_cases he:r.2.2.2=0
 ·have q0:(r.2.2.2 != 0)=false:=by simp [he]
  have HE:=zh he
  clear he
  go_wp2_with fail
  go_loopw [8,27] (fun s8 i wr=>∃ (j:Nat) (P:List PairP),j≤M∧i = .int .i64 j∧PairsO w6.heap.size wr s8 P∧Below w6.heap.size w6 wr∧Hid (pairsB P=true∧playedP r.2.2.1 []=playedP (r.2.2.1.drop j) P)) (fun _ i _=>M-(intOf i).toNat)
  case atStart=>exact⟨0,[],Nat.zero_le _,rfl,PairsO.none _ _ _,Below.refl _ _,zh ⟨rfl,rfl⟩⟩
  case round =>
   obtain⟨j,P,hj,rfl,hP,hb,HPL⟩:=hrel
   by_cases hjM:j<M
   ·have j0:decide ((j:Int)<(M:Int))=true:=by simp;omega
    have j1:(0:Int)≤(j:Int):=by omega
    have j2:(j:Int)<(M:Int):=by omega
    have hjl:j<r.2.2.1.length:=HMM.out▸hjM
    obtain⟨b,off,a2,c2,rfl,hbB,hcell⟩:=HAT.out j hjl
    obtain⟨S0,hby⟩:=hcell wr hb
    have hst:=played_step (P:=P) hjl
    obtain⟨bs,hbs⟩:∃ x,x=r.2.2.1[j]:=⟨_,rfl⟩
    rw [← hbs] at S0 hby hst
    have kd:=decode_any _ bs wr hby
    obtain⟨dp,hdp⟩:∃ x,x=decodeP bs:=⟨_,rfl⟩
    rw [← hdp] at kd hst
    have HDP:=zh hdp
    have HST:=zh hst
    have HP:=zh hP
    have HB:=zh hb
    clear hst hdp hbs hcell hby hP hb
    go_wp2_with fail
    refine kd.mono ?_
    rintro e w7 ⟨⟨u,rfl,hC7⟩,hb7⟩
    clear kd S0
    have HC7:=zh hC7
    have HB7:=zh (HB.out.trans (hb7.mono HB.out.size))
    have HP7:=zh (Own.below HP.out hb7 (Nat.le_refl _))
    clear hC7 hb7 HP HB
    by_cases hde:dp.2=0
    ·have q7:(dp.2 != 0)=false:=by simp [hde]
     have hch:changesB dp.1=true:=by rw [HDP.out];exact decodeP_changes (by rw [← HDP.out];exact hde)
     obtain⟨cl1,cl2⟩:=changesB_len hch
     obtain⟨pl1,pl2,pl3⟩:=pairs_lens HPL.out.1
     have kk:=do_any _ _ P dp.1 w7 (PairsO.v HP7.out) (ChangesO.v HC7.out) pl2 (by omega) (by omega) (fun p hp=>by have:=pl3 p hp;omega) (fun x hx=>by have:=cl2 x hx;omega)
     obtain⟨P2,hP2⟩:∃ x,x=doP P dp.1:=⟨_,rfl⟩
     rw [← hP2] at kk
     have HP2:=zh hP2
     have HDE:=zh hde
     clear hch cl1 cl2 pl1 pl2 pl3 hP2 hde
     go_wp2_with fail
     refine kk.mono ?_
     rintro e w8 ⟨x8,rfl,hP8,hb8⟩
     clear kk
     have hs7:=HB7.out.size
     have HP8:=zh (Own.lower hP8 hs7)
     have HB8:=zh (HB7.out.trans (hb8.mono hs7))
     have kp:=paired_any _ P2 w8 (PairsO.v HP8.out)
     obtain⟨pb,hpb⟩:∃ x,x=pairsB P2:=⟨_,rfl⟩
     rw [← hpb] at kp
     have HPB:=zh hpb
     clear hP8 hb8 hpb HP7 HC7
     go_wp2_with fail
     refine kp.mono ?_
     rintro e w9 ⟨rfl,hb9⟩
     clear kp
     have hs8:=HB8.out.size
     have HP9:=zh (Own.below HP8.out hb9 (Nat.le_refl _))
     have HB9:=zh (HB8.out.trans (hb9.mono hs8))
     clear hb9 HP8 HB8 HB7
     cases pb with
     | false =>
      have hbx:=HB06.out.trans (HB9.out.mono HB06.out.size)
      have hDx:=HD6.out.below HB9.out
      have hRC:=(HB9.out.block _ (by omega)).trans HRC.out
      have hRS:=(HB9.out.block _ (by omega)).trans HRS.out
      obtain⟨a0,n0,b0,m0,TX,hvX⟩:=id hDx
      obtain⟨wa,wb,st1,st2,ka,kb,HLD⟩:=laid_DS (wx:=w9) (a0:=a0) (a1:=b0) (n0:=n0) (n1:=m0) (d:=r.1) (l:=log0) (pv:=(.slice none 0 0)) (s:=([]:List PairP)) hRC rfl hRS rfl (by omega) hvX ⟨none,0,rfl⟩ (fun w' _ _=>Row.nil _ _ _)
      have HBZ:=zh (HLD.out.2.2.2.2 w.heap.size w hbx (by omega) (by omega))
      have C0:=cR w9 _ 0 _ _ _ TX
      have C1:=cR w9 _ 1 _ _ _ TX
      have C2:=cR w9 _ 2 _ _ _ TX
      have C3:=cR w9 _ 3 _ _ _ TX
      have HKF:=zh (show K0=(r.1,⟨log0,[]⟩,3) from by rw [HK0.out,if_pos HE.out,HPL.out.2,HST.out,if_pos HDE.out,← HP2.out,← HPB.out];rfl)
      have ST2:=zh st2
      clear ka kb TX hvX st2
      go_wp2_with (with_reducible refine wp_store_r (.tmp 2) (.tmp 46) 38 st1 rfl rfl ?_;refine Halt.in ?_)
      refine Halt.out ?_
      have st2:=ST2.out
      clear st1 C0 C1 C2 C3
      go_wp2_with (with_reducible refine wp_store_r (.tmp 3) (.tmp 47) 44 st2 rfl rfl ?_;refine Halt.in ?_)
      refine Halt.out ?_
      clear st2
      go_wp2_with fail
      refine bodyPost_ret (results_cct rfl _ _ (w.heap.size+1) (w.heap.size+1+1) _ _ _ _ _ _ _ _ rfl rfl HLD.out.1 HLD.out.2.1 Tryz.underlying38 rfl zQ Tryz.underlying44 rfl size_store) rfl ?_
      rw [HKF.out]
      exact⟨⟨_,_,rfl,HLD.out.2.2.1,HLD.out.2.2.2.1⟩,HBZ.out⟩
     | true =>
      have hnext:playedP r.2.2.1 []=playedP (r.2.2.1.drop (j+1)) P2:=by rw [HPL.out.2,HST.out,if_pos HDE.out,← HP2.out,← HPB.out,if_pos rfl]
      have HNX:=zh (And.intro HPB.out.symm hnext)
      clear hnext
      go_wp2_with fail
      go_roundw
      case rel=>exact⟨j+1,P2,by omega,by go_num,HP9.out,HB9.out,HNX⟩
      case measure=>simp [intOf];omega
    ·have q7:(dp.2 != 0)=true:=by simp [hde]
     have HDE:=zh hde
     have hbx:=HB06.out.trans (HB7.out.mono HB06.out.size)
     have hDx:=HD6.out.below HB7.out
     have hRC:=(HB7.out.block _ (by omega)).trans HRC.out
     have hRS:=(HB7.out.block _ (by omega)).trans HRS.out
     clear hde
     obtain⟨a0,n0,b0,m0,TX,hvX⟩:=id hDx
     obtain⟨wa,wb,st1,st2,ka,kb,HLD⟩:=laid_DS (wx:=w7) (a0:=a0) (a1:=b0) (n0:=n0) (n1:=m0) (d:=r.1) (l:=log0) (pv:=(.slice none 0 0)) (s:=([]:List PairP)) hRC rfl hRS rfl (by omega) hvX ⟨none,0,rfl⟩ (fun w' _ _=>Row.nil _ _ _)
     have HBZ:=zh (HLD.out.2.2.2.2 w.heap.size w hbx (by omega) (by omega))
     have C0:=cR w7 _ 0 _ _ _ TX
     have C1:=cR w7 _ 1 _ _ _ TX
     have C2:=cR w7 _ 2 _ _ _ TX
     have C3:=cR w7 _ 3 _ _ _ TX
     have HKF:=zh (show K0=(r.1,⟨log0,[]⟩,3) from by rw [HK0.out,if_pos HE.out,HPL.out.2,HST.out,if_neg HDE.out];rfl)
     have ST2:=zh st2
     clear ka kb TX hvX st2
     go_wp2_with (with_reducible refine wp_store_r (.tmp 2) (.tmp 38) 38 st1 rfl rfl ?_;refine Halt.in ?_)
     refine Halt.out ?_
     have st2:=ST2.out
     clear st1 C0 C1 C2 C3
     go_wp2_with (with_reducible refine wp_store_r (.tmp 3) (.tmp 39) 44 st2 rfl rfl ?_;refine Halt.in ?_)
     refine Halt.out ?_
     clear st2
     go_wp2_with fail
     refine bodyPost_ret (results_cct rfl _ _ (w.heap.size+1) (w.heap.size+1+1) _ _ _ _ _ _ _ _ rfl rfl HLD.out.1 HLD.out.2.1 Tryz.underlying38 rfl zQ Tryz.underlying44 rfl size_store) rfl ?_
     rw [HKF.out]
     exact⟨⟨_,_,rfl,HLD.out.2.2.1,HLD.out.2.2.2.1⟩,HBZ.out⟩
   ·have j0:decide ((j:Int)<(M:Int))=false:=by simp;omega
    obtain rfl:j=M:=by omega
    have hend:playedP r.2.2.1 []=(P,0):=by
     rw [HPL.out.2,List.drop_eq_nil_of_le (by have:=HMM.out;omega)]
     rfl
    have hKF:K0=(r.1,⟨r.2.1,P⟩,0):=by rw [HK0.out,if_pos HE.out,hend,if_pos rfl]
    have HKF:=zh hKF
    have HPX:=zh hP
    have hbx:=HB06.out.trans (hb.mono HB06.out.size)
    have hDx:=HD6.out.below hb
    have hLx:=HL6.out.below hb
    have hRC:=(hb.block _ (by omega)).trans HRC.out
    have hRS:=(hb.block _ (by omega)).trans HRS.out
    obtain⟨pa,pc,hpv,_⟩:=pairs_len (PairsO.v hP)
    subst hpv
    clear hend hKF hP
    obtain⟨a0,n0,b0,m0,TX,hvX⟩:=id hDx
    have s0:zK (w.heap.size+1) (w.heap.size+1+1) wr wr.drew:=zK.drew (zK.refl _ _ _)
    obtain⟨wa,wb,st1,st2,ka,kb,HLD⟩:=laid_DS (wx:=wr.drew) (a0:=a0) (a1:=b0) (n0:=n0) (n1:=m0) (d:=r.1) (l:=r.2.1) (pv:=(.slice pa P.length pc)) (s:=P) hRC rfl hRS rfl (by omega) ((hvX.below (zD (Below.refl _ _) 1)).tight) ⟨pa,pc,rfl⟩ (fun w' hk hz=>by have:=Own.kept HPX.out (w':=w') (fun k hk1=>hk k (by omega) (by omega));exact Own.row this)
    have sa:zK (w.heap.size+1) (w.heap.size+1+1) wr wa:=zK.trans_ s0 (fun k h1 _=>ka k h1)
    have sb:zK (w.heap.size+1) (w.heap.size+1+1) wr wb:=zK.trans_ s0 kb
    have X0:∀ w':World,zK (w.heap.size+1) (w.heap.size+1+1) wr w'→w'.cell? ⟨w.heap.size,0,none⟩=some (.slice a0 r.1.secs.length n0):=fun w' h=>cR w' _ 0 _ _ _ ((h w.heap.size (by omega) (by omega)).trans TX)
    have X1:∀ w':World,zK (w.heap.size+1) (w.heap.size+1+1) wr w'→w'.cell? ⟨w.heap.size,1,none⟩=some (.slice b0 r.1.loose.length m0):=fun w' h=>cR w' _ 1 _ _ _ ((h w.heap.size (by omega) (by omega)).trans TX)
    have X2:∀ w':World,zK (w.heap.size+1) (w.heap.size+1+1) wr w'→w'.cell? ⟨w.heap.size,2,none⟩=some (.int .i64 r.1.fuse):=fun w' h=>cR w' _ 2 _ _ _ ((h w.heap.size (by omega) (by omega)).trans TX)
    have X3:∀ w':World,zK (w.heap.size+1) (w.heap.size+1+1) wr w'→w'.cell? ⟨w.heap.size,3,none⟩=some (.bool r.1.down):=fun w' h=>cR w' _ 3 _ _ _ ((h w.heap.size (by omega) (by omega)).trans TX)
    have N0:∀ w':World,zK (w.heap.size+1) (w.heap.size+1+1) wr w'→w'.cell? ⟨G,0,none⟩=some (.int .i64 r.2.1.half):=fun w' h=>cR w' _ 0 _ _ _ ((h G (by omega) (by omega)).trans hLx)
    have N1:∀ w':World,zK (w.heap.size+1) (w.heap.size+1+1) wr w'→w'.cell? ⟨G,1,none⟩=some (.int .i64 r.2.1.gen):=fun w' h=>cR w' _ 1 _ _ _ ((h G (by omega) (by omega)).trans hLx)
    have N2:∀ w':World,zK (w.heap.size+1) (w.heap.size+1+1) wr w'→w'.cell? ⟨G,2,none⟩=some (.int .i64 r.2.1.used):=fun w' h=>cR w' _ 2 _ _ _ ((h G (by omega) (by omega)).trans hLx)
    have N3:∀ w':World,zK (w.heap.size+1) (w.heap.size+1+1) wr w'→w'.cell? ⟨G,3,none⟩=some (.int .i64 r.2.1.count):=fun w' h=>cR w' _ 3 _ _ _ ((h G (by omega) (by omega)).trans hLx)
    have HBZ:=zh (HLD.out.2.2.2.2 w.heap.size w ((hbx).trans (zD (Below.refl _ _) 1)) (by omega) (by omega))
    clear ka kb TX hvX
    go_wp2_with fail
    refine zI [(false,0),(false,1),(false,2),(false,3),(true,4),(true,5),(false,6)] (zK (w.heap.size+1) (w.heap.size+1+1) wr) (by kernel_rfl) (by kernel_rfl) s0 ?_
    repeat (first | (refine zS rfl rfl ?_;simp only [Act.put,zq1,zq2,zq3]) | (refine zT rfl ?_ rfl (fun w' hw'=>?_) ?_;rotate_left;(go_simp;first | done | with_reducible rfl);(try simp only [Act.put,zq1,zq2,zq3])))
    refine zA rfl rfl fun K hK=>?_
    refine op_store (.tmp 2) (.tmp 49) 38 rfl rfl rfl st1 ?_
    refine hK.out _ _ sa ?_
    clear hK K st1
    simp only [Act.put,zq1,zq2,zq3]
    refine zA rfl rfl fun K hK=>?_
    refine op_store (.tmp 3) (.tmp 52) 44 rfl rfl rfl st2 ?_
    refine hK.out _ _ sb ?_
    clear hK K st2
    simp only [Act.put,zq1,zq2,zq3]
    repeat (first | (refine zS rfl rfl ?_;simp only [Act.put,zq1,zq2,zq3]) | (refine zT rfl ?_ rfl (fun w' hw'=>?_) ?_;rotate_left;(go_simp;first | done | with_reducible rfl);(try simp only [Act.put,zq1,zq2,zq3])))
    refine zN ?_
    go_wp2_with fail
    refine bodyPost_ret (results_cct rfl _ _ (w.heap.size+1) (w.heap.size+1+1) _ _ _ _ _ _ _ _ rfl rfl HLD.out.1 HLD.out.2.1 Tryz.underlying38 rfl zQ Tryz.underlying44 rfl size_store) rfl ?_
    rw [HKF.out]
    exact⟨⟨_,_,rfl,HLD.out.2.2.1,HLD.out.2.2.2.1⟩,HBZ.out⟩
 ·have q0:(r.2.2.2 != 0)=true:=by simp [he]
  have hDx:=HD6.out
  have hRC:=HRC.out
  have hRS:=HRS.out
  have hbx:=HB06.out
  have HE:=zh he
  clear he
  obtain⟨a0,n0,b0,m0,TX,hvX⟩:=id hDx
  obtain⟨wa,wb,st1,st2,ka,kb,HLD⟩:=laid_DS (wx:=w6) (a0:=a0) (a1:=b0) (n0:=n0) (n1:=m0) (d:=r.1) (l:=log0) (pv:=(.slice none 0 0)) (s:=([]:List PairP)) hRC rfl hRS rfl (by omega) hvX ⟨none,0,rfl⟩ (fun w' _ _=>Row.nil _ _ _)
  have HBZ:=zh (HLD.out.2.2.2.2 w.heap.size w hbx (by omega) (by omega))
  have C0:=cR w6 _ 0 _ _ _ TX
  have C1:=cR w6 _ 1 _ _ _ TX
  have C2:=cR w6 _ 2 _ _ _ TX
  have C3:=cR w6 _ 3 _ _ _ TX
  have HKF:=zh (show K0=(r.1,⟨log0,[]⟩,r.2.2.2) from by rw [HK0.out,if_neg HE.out];rfl)
  have ST2:=zh st2
  clear ka kb TX hvX st2
  go_wp2_with (with_reducible refine wp_store_r (.tmp 2) (.tmp 22) 38 st1 rfl rfl ?_;refine Halt.in ?_)
  refine Halt.out ?_
  have st2:=ST2.out
  clear st1 C0 C1 C2 C3
  go_wp2_with (with_reducible refine wp_store_r (.tmp 3) (.tmp 23) 44 st2 rfl rfl ?_;refine Halt.in ?_)
  refine Halt.out ?_
  clear st2
  go_wp2_with fail
  refine bodyPost_ret (results_cct rfl _ _ (w.heap.size+1) (w.heap.size+1+1) _ _ _ _ _ _ _ _ rfl rfl HLD.out.1 HLD.out.2.1 Tryz.underlying38 rfl zQ Tryz.underlying44 rfl size_store) rfl ?_
  rw [HKF.out]
  exact⟨⟨_,_,rfl,HLD.out.2.2.1,HLD.out.2.2.2.1⟩,HBZ.out⟩
end
section
open Go.RowKit KvP PackP WalP
theorem fourB (w:World) (o0 o1 o2 o3:Obj):∃ w4,w4=(((w.alloc o0).alloc o1).alloc o2).alloc o3∧Below w.heap.size w w4∧w4.heap.size=w.heap.size+4∧w4.heap[w.heap.size]?=some o0∧w4.heap[w.heap.size+1]?=some o1∧w4.heap[w.heap.size+1+1]?=some o2∧w4.heap[w.heap.size+1+1+1]?=some o3:=by
 refine⟨_,rfl,Below.alloc (Below.alloc (Below.alloc (Below.alloc (Below.refl _ _) (Nat.le_refl _) _) (by simp) _) (by simp;omega) _) (by simp;omega) _,by simp,?_,?_,?_,?_⟩
 all_goals
  simp only [alloc_heap,alloc_size]
  repeat (first | rw [if_pos trivial] | rw [if_neg (by omega)])
theorem len_snapF:∀ (l:List PairP) (c:List ChangeP),(snapF l c).length≤l.length+1
 | [],c=>Nat.le_refl _
 | p :: l,c=>by
  rw [snapF]
  split
  ·have:=len_snapF l [chg p]
   simp only [List.length_cons]
   omega
  ·have:=len_snapF l (c++[chg p])
   simp only [List.length_cons]
   omega
theorem snapP_small {l:List PairP} (h:pairsB l=true):(∀ b∈snapP l,b.length≤2^20)∧(snapP l).length≤2^20:=by
 obtain⟨h1,h2,h3⟩:=pairsB_parts h
 refine⟨fun b hb=>?_,?_⟩
 ·obtain⟨c,hc,rfl⟩:=List.mem_map.1 hb
  have:=(snap_ok h2 c hc).2.1
  omega
 ·unfold snapP
  rw [List.length_map]
  have:=len_snapF l []
  omega
def KeptLow (B C E:Nat) (w w':World):Prop:=∀ k,k<B→k≠C→k≠E→w'.heap[k]?=w.heap[k]?
theorem PairsV.keptBut {B C E:Nat} {w w':World} {v:Value} {l:List PairP} (h:PairsV B w v l) (hk:zK C E w w') (h1:B≤C) (h2:B≤E):PairsV w'.heap.size w' v l:=by
 refine Row.tight (B:=B) ?_ (by decide)
 obtain⟨g1,a,cap,rfl,g2,g3,g4⟩:=h
 refine⟨g1,a,cap,rfl,g2,g3,fun hn=>?_⟩
 obtain⟨b,off,rfl,g5,g6⟩:=g4 hn
 exact⟨b,off,rfl,g5,fun k u hu=>by rw [World.cell?_of_block (hk b (by omega) (by omega))];exact g6 k u hu⟩
theorem Own.keptLow {B C E:Nat} {w w':World} {e tC tE:TypeId} {v:Value} {sz n:Nat} {cs:List Value} {cC cE:Array Value} {fC fE:Nat×Nat} (h:Own B w e v sz n cs) (hk:KeptLow w.heap.size C E w w') (hC:w.heap[C]?=some (.cells cC tC fC)) (hC2:tC≠e)
  (hE:w.heap[E]?=some (.cells cE tE fE)) (hE2:tE≠e):Own B w' e v sz n cs:=by
 obtain⟨h1,a,cap,rfl,h2,h3,h4⟩:=h
 refine⟨h1,a,cap,rfl,h2,h3,?_⟩
 rcases h4 with h4 | ⟨g,cur,rfl,hg,hh,hs,ht⟩
 ·exact .inl h4
 ·refine .inr ⟨g,cur,rfl,hg,(hk g (zB hh) (fun e'=>?_) (fun e'=>?_)).trans hh,hs,ht⟩
  ·subst e'
   rw [hh] at hC
   cases hC
   exact hC2 rfl
  ·subst e'
   rw [hh] at hE
   cases hE
   exact hE2 rfl
theorem PairsV.of_n {B:Nat} {w:World} {a:Option Addr} {n c:Nat} {l:List PairP} (hn:n=l.length) (h:Row B w (.slice a n c) 2 l.length (l.map pairCells).flatten):PairsV B w (.slice a n c) l:=h
def CommitMid (w:World) (y:DiskP×LogP×Int) (N L:Nat) (wp wx:World) (s10:Value):Prop :=
 s10 = .int .i64 y.2.2∧DAt wx N y.1∧LAt wx L y.2.1∧KeptLow wp.heap.size N L wp wx∧Below w.heap.size w wx∧wp.heap.size≤wx.heap.size
set_option maxRecDepth 100000 in
set_option maxHeartbeats 16000000 in
theorem kcommit_any {B B' B2:Nat} (v sv cv:Value) (d:DiskP) (s:StoreP) (c:List ChangeP) (w:World) (hd:DiskV B w v d) (hs:StoreV B' w sv s) (hc:ChangesV B2 w cv c) (hl0:-9223372036854775808≤s.log.half∧s.log.half≤9223372036854775807) (ht:TabAt w) (hT:1<w.heap.size) :
  Calls Tryz.prog 24 #[v,sv,cv] w (KE w (commitK d s c)):=by
 have hd:=hd.tight
 have hc:=hc.tight
 obtain⟨pv,rfl,hp⟩:=hs
 have hp:=hp.tight
 obtain⟨p1,q1,p2,q2,rfl,_,_⟩:=hd.parts
 obtain⟨pa,pc,rfl,hpc⟩:=pairs_len hp
 obtain⟨_,ca,cc,rfl,hcc,hcm,_⟩:=id hc
 obtain⟨n,hn⟩:∃ n,n=s.pairs.length:=⟨_,rfl⟩
 rw [← hn] at hp hpc ⊢
 obtain⟨nc,hnc⟩:∃ n,n=c.length:=⟨_,rfl⟩
 rw [← hnc] at hc hcc ⊢
 unfold storeV
 obtain⟨w1,hw1,hb1,hs1,R0,R1,R2,R3⟩:=fourB w (.cells #[.slice p1 d.secs.length q1,.slice p2 d.loose.length q2,.int .i64 d.fuse,.bool d.down] 38) (.cells #[.int .i64 s.log.half,.int .i64 s.log.gen,.int .i64 s.log.used,.int .i64 s.log.count,.slice pa n pc] 44) (.cells #[.slice none 0 0,.slice none 0 0,.int .i64 0,.bool false] 38) (.cells #[.int .i64 0,.int .i64 0,.int .i64 0,.int .i64 0,.slice none 0 0] 44)
 obtain⟨K0,hK0⟩:∃ x,x=commitK d s c:=⟨_,rfl⟩
 rw [← hK0]
 have hD1:DAt w1 w.heap.size d:=⟨p1,q1,p2,q2,R0,(hd.below hb1).tight⟩
 have hT1:1<w1.heap.size:=Nat.lt_of_lt_of_le hT hb1.size
 have HT:=zh (ht.below hb1 hT)
 have HK0:=zh hK0
 have HW1:=zh hw1
 have HS1:=zh hs1
 have HD:=zh hD1
 have HSB:=zh R1
 have HRC:=zh R2
 have HRS:=zh R3
 have HPV:=zh hp
 have HCV:=zh hc
 have HB1:=zh hb1
 have HN:=zh hn
 have HNC:=zh hnc
 have kc:=changed_any _ c w1 (hc.below hb1)
 obtain⟨cb,hcb⟩:∃ x,x=changesB c:=⟨_,rfl⟩
 rw [← hcb] at kc
 have HCB:=zh hcb
 clear hw1 hs1 hK0 hcb R0 R1 R2 R3 hp hc hd hD1 hb1 ht hn hnc
 go_enter Tryz.func24,Tryz.ntmps24
 go_upto_region 1 with (fail)
 rw [← HW1.out]
 go_wp2_with fail
 refine kc.mono ?_
 rintro e w2 ⟨rfl,hb2⟩
 clear kc
 have HB2:=zh hb2
 clear hb2
 cases cb with
 | false =>
  have hs1:=HS1.out
  have hDx:=HD.out.below HB2.out
  have hSx:=(HB2.out.block _ (by omega)).trans HSB.out
  have hRC:=(HB2.out.block _ (by omega)).trans HRC.out
  have hRS:=(HB2.out.block _ (by omega)).trans HRS.out
  have hbx:=HB1.out.trans (HB2.out.mono HB1.out.size)
  have HKF:=zh (show K0=(d,s,1) from by rw [HK0.out];unfold commitK;rw [← HCB.out];rfl)
  obtain⟨a0,n0,b0,m0,TX,hvX⟩:=id hDx
  have s0:zK (w.heap.size+1+1) (w.heap.size+1+1+1) w2 w2.drew:=zK.drew (zK.refl _ _ _)
  obtain⟨wa,wb,st1,st2,ka,kb,HLD⟩:=laid_DS (wx:=w2.drew) (a0:=a0) (a1:=b0) (n0:=n0) (n1:=m0) (d:=d) (l:=s.log) (pv:=(.slice pa n pc)) (s:=s.pairs) hRC rfl hRS rfl (by omega) ((hvX.below (zD (Below.refl _ _) 1)).tight) ⟨pa,pc,by rw [← HN.out]⟩ (fun w' hk hz=>PairsV.keptBut (HPV.out.below (show Below w.heap.size w w2.drew from hbx.trans (zD (Below.refl _ _) 1))) hk (by omega) (by omega))
  have sa:zK (w.heap.size+1+1) (w.heap.size+1+1+1) w2 wa:=zK.trans_ s0 (fun k h1 _=>ka k h1)
  have sb:zK (w.heap.size+1+1) (w.heap.size+1+1+1) w2 wb:=zK.trans_ s0 kb
  have X0:∀ w':World,zK (w.heap.size+1+1) (w.heap.size+1+1+1) w2 w'→w'.cell? ⟨w.heap.size,0,none⟩=some (.slice a0 d.secs.length n0):=fun w' h=>cR w' _ 0 _ _ _ ((h w.heap.size (by omega) (by omega)).trans TX)
  have X1:∀ w':World,zK (w.heap.size+1+1) (w.heap.size+1+1+1) w2 w'→w'.cell? ⟨w.heap.size,1,none⟩=some (.slice b0 d.loose.length m0):=fun w' h=>cR w' _ 1 _ _ _ ((h w.heap.size (by omega) (by omega)).trans TX)
  have X2:∀ w':World,zK (w.heap.size+1+1) (w.heap.size+1+1+1) w2 w'→w'.cell? ⟨w.heap.size,2,none⟩=some (.int .i64 d.fuse):=fun w' h=>cR w' _ 2 _ _ _ ((h w.heap.size (by omega) (by omega)).trans TX)
  have X3:∀ w':World,zK (w.heap.size+1+1) (w.heap.size+1+1+1) w2 w'→w'.cell? ⟨w.heap.size,3,none⟩=some (.bool d.down):=fun w' h=>cR w' _ 3 _ _ _ ((h w.heap.size (by omega) (by omega)).trans TX)
  have N0:∀ w':World,zK (w.heap.size+1+1) (w.heap.size+1+1+1) w2 w'→w'.cell? ⟨w.heap.size+1,0,none⟩=some (.int .i64 s.log.half):=fun w' h=>cR w' _ 0 _ _ _ ((h (w.heap.size+1) (by omega) (by omega)).trans hSx)
  have N1:∀ w':World,zK (w.heap.size+1+1) (w.heap.size+1+1+1) w2 w'→w'.cell? ⟨w.heap.size+1,1,none⟩=some (.int .i64 s.log.gen):=fun w' h=>cR w' _ 1 _ _ _ ((h (w.heap.size+1) (by omega) (by omega)).trans hSx)
  have N2:∀ w':World,zK (w.heap.size+1+1) (w.heap.size+1+1+1) w2 w'→w'.cell? ⟨w.heap.size+1,2,none⟩=some (.int .i64 s.log.used):=fun w' h=>cR w' _ 2 _ _ _ ((h (w.heap.size+1) (by omega) (by omega)).trans hSx)
  have N3:∀ w':World,zK (w.heap.size+1+1) (w.heap.size+1+1+1) w2 w'→w'.cell? ⟨w.heap.size+1,3,none⟩=some (.int .i64 s.log.count):=fun w' h=>cR w' _ 3 _ _ _ ((h (w.heap.size+1) (by omega) (by omega)).trans hSx)
  have N4:∀ w':World,zK (w.heap.size+1+1) (w.heap.size+1+1+1) w2 w'→w'.cell? ⟨w.heap.size+1,4,none⟩=some (.slice pa n pc):=fun w' h=>cR w' _ 4 _ _ _ ((h (w.heap.size+1) (by omega) (by omega)).trans hSx)
  have HBZ:=zh (HLD.out.2.2.2.2 w.heap.size w ((hbx).trans (zD (Below.refl _ _) 1)) (by omega) (by omega))
  clear ka kb TX hvX
  go_wp2_with fail
  refine zI [(false,0),(false,1),(true,2),(true,3),(false,4)] (zK (w.heap.size+1+1) (w.heap.size+1+1+1) w2) (by kernel_rfl) (by kernel_rfl) s0 ?_
  repeat (first | (refine zS rfl rfl ?_;simp only [Act.put,zq1,zq2,zq3]) | (refine zT rfl ?_ rfl (fun w' hw'=>?_) ?_;rotate_left;(go_simp;first | done | with_reducible rfl);(try simp only [Act.put,zq1,zq2,zq3])))
  refine zA rfl rfl fun K hK=>?_
  refine op_store (.tmp 6) (.tmp 23) 38 rfl rfl rfl st1 ?_
  refine hK.out _ _ sa ?_
  clear hK K st1
  simp only [Act.put,zq1,zq2,zq3]
  refine zA rfl rfl fun K hK=>?_
  refine op_store (.tmp 7) (.tmp 24) 44 rfl rfl rfl st2 ?_
  refine hK.out _ _ sb ?_
  clear hK K st2
  simp only [Act.put,zq1,zq2,zq3]
  repeat (first | (refine zS rfl rfl ?_;simp only [Act.put,zq1,zq2,zq3]) | (refine zT rfl ?_ rfl (fun w' hw'=>?_) ?_;rotate_left;(go_simp;first | done | with_reducible rfl);(try simp only [Act.put,zq1,zq2,zq3])))
  refine zN ?_
  go_wp2_with fail
  refine bodyPost_ret (results_cct rfl _ _ (w.heap.size+1+1) (w.heap.size+1+1+1) _ _ _ _ _ _ _ _ rfl rfl HLD.out.1 HLD.out.2.1 Tryz.underlying38 rfl zQ Tryz.underlying44 rfl size_store) rfl ?_
  rw [HKF.out]
  exact⟨⟨_,_,rfl,HLD.out.2.2.1,HLD.out.2.2.2.1⟩,HBZ.out⟩
 | true =>
  have hs1:=HS1.out
  have hD2:=HD.out.below HB2.out
  have hS2:=(HB2.out.block _ (by omega)).trans HSB.out
  have hbx2:=HB1.out.trans (HB2.out.mono HB1.out.size)
  obtain⟨da,na,db,nb,TD,hv⟩:=id hD2
  have C0:=cR w2 _ 0 _ _ _ TD
  have C1:=cR w2 _ 1 _ _ _ TD
  have C2:=cR w2 _ 2 _ _ _ TD
  have C3:=cR w2 _ 3 _ _ _ TD
  have F0:=cR w2 _ 0 _ _ _ hS2
  have F1:=cR w2 _ 1 _ _ _ hS2
  have F2:=cR w2 _ 2 _ _ _ hS2
  have F3:=cR w2 _ 3 _ _ _ hS2
  have F4:=cR w2 _ 4 _ _ _ hS2
  have hSV:StoreV w.heap.size w2 (storeV s.log (.slice pa n pc)) s:=⟨_,rfl,HPV.out.below hbx2⟩
  have kr:=kright_any _ _ d s w2 hv hSV hl0
  unfold storeV at kr
  obtain⟨R,hR⟩:∃ x,x=rightS d s:=⟨_,rfl⟩
  rw [← hR] at kr
  have HR:=zh hR
  clear hR hSV hv TD hS2 hD2 hbx2 hs1
  go_wp2_with fail
  refine kr.mono ?_
  rintro e w3 ⟨rfl,hb3⟩
  clear kr C0 C1 C2 C3 F0 F1 F2 F3 F4
  have HB3:=zh (HB2.out.trans (hb3.mono HB2.out.size))
  clear hb3
  cases R with
  | false =>
   have hs1:=HS1.out
   have hDx:=HD.out.below HB3.out
   have hSx:=(HB3.out.block _ (by omega)).trans HSB.out
   have hRC:=(HB3.out.block _ (by omega)).trans HRC.out
   have hRS:=(HB3.out.block _ (by omega)).trans HRS.out
   have hbx:=HB1.out.trans (HB3.out.mono HB1.out.size)
   have HKF:=zh (show K0=(d,s,1) from by rw [HK0.out];unfold commitK;rw [← HCB.out,← HR.out];rfl)
   obtain⟨a0,n0,b0,m0,TX,hvX⟩:=id hDx
   have s0:zK (w.heap.size+1+1) (w.heap.size+1+1+1) w3 w3.drew:=zK.drew (zK.refl _ _ _)
   obtain⟨wa,wb,st1,st2,ka,kb,HLD⟩:=laid_DS (wx:=w3.drew) (a0:=a0) (a1:=b0) (n0:=n0) (n1:=m0) (d:=d) (l:=s.log) (pv:=(.slice pa n pc)) (s:=s.pairs) hRC rfl hRS rfl (by omega) ((hvX.below (zD (Below.refl _ _) 1)).tight) ⟨pa,pc,by rw [← HN.out]⟩ (fun w' hk hz=>PairsV.keptBut (HPV.out.below (show Below w.heap.size w w3.drew from hbx.trans (zD (Below.refl _ _) 1))) hk (by omega) (by omega))
   have sa:zK (w.heap.size+1+1) (w.heap.size+1+1+1) w3 wa:=zK.trans_ s0 (fun k h1 _=>ka k h1)
   have sb:zK (w.heap.size+1+1) (w.heap.size+1+1+1) w3 wb:=zK.trans_ s0 kb
   have X0:∀ w':World,zK (w.heap.size+1+1) (w.heap.size+1+1+1) w3 w'→w'.cell? ⟨w.heap.size,0,none⟩=some (.slice a0 d.secs.length n0):=fun w' h=>cR w' _ 0 _ _ _ ((h w.heap.size (by omega) (by omega)).trans TX)
   have X1:∀ w':World,zK (w.heap.size+1+1) (w.heap.size+1+1+1) w3 w'→w'.cell? ⟨w.heap.size,1,none⟩=some (.slice b0 d.loose.length m0):=fun w' h=>cR w' _ 1 _ _ _ ((h w.heap.size (by omega) (by omega)).trans TX)
   have X2:∀ w':World,zK (w.heap.size+1+1) (w.heap.size+1+1+1) w3 w'→w'.cell? ⟨w.heap.size,2,none⟩=some (.int .i64 d.fuse):=fun w' h=>cR w' _ 2 _ _ _ ((h w.heap.size (by omega) (by omega)).trans TX)
   have X3:∀ w':World,zK (w.heap.size+1+1) (w.heap.size+1+1+1) w3 w'→w'.cell? ⟨w.heap.size,3,none⟩=some (.bool d.down):=fun w' h=>cR w' _ 3 _ _ _ ((h w.heap.size (by omega) (by omega)).trans TX)
   have N0:∀ w':World,zK (w.heap.size+1+1) (w.heap.size+1+1+1) w3 w'→w'.cell? ⟨w.heap.size+1,0,none⟩=some (.int .i64 s.log.half):=fun w' h=>cR w' _ 0 _ _ _ ((h (w.heap.size+1) (by omega) (by omega)).trans hSx)
   have N1:∀ w':World,zK (w.heap.size+1+1) (w.heap.size+1+1+1) w3 w'→w'.cell? ⟨w.heap.size+1,1,none⟩=some (.int .i64 s.log.gen):=fun w' h=>cR w' _ 1 _ _ _ ((h (w.heap.size+1) (by omega) (by omega)).trans hSx)
   have N2:∀ w':World,zK (w.heap.size+1+1) (w.heap.size+1+1+1) w3 w'→w'.cell? ⟨w.heap.size+1,2,none⟩=some (.int .i64 s.log.used):=fun w' h=>cR w' _ 2 _ _ _ ((h (w.heap.size+1) (by omega) (by omega)).trans hSx)
   have N3:∀ w':World,zK (w.heap.size+1+1) (w.heap.size+1+1+1) w3 w'→w'.cell? ⟨w.heap.size+1,3,none⟩=some (.int .i64 s.log.count):=fun w' h=>cR w' _ 3 _ _ _ ((h (w.heap.size+1) (by omega) (by omega)).trans hSx)
   have N4:∀ w':World,zK (w.heap.size+1+1) (w.heap.size+1+1+1) w3 w'→w'.cell? ⟨w.heap.size+1,4,none⟩=some (.slice pa n pc):=fun w' h=>cR w' _ 4 _ _ _ ((h (w.heap.size+1) (by omega) (by omega)).trans hSx)
   have HBZ:=zh (HLD.out.2.2.2.2 w.heap.size w ((hbx).trans (zD (Below.refl _ _) 1)) (by omega) (by omega))
   clear ka kb TX hvX
   go_wp2_with fail
   refine zI [(false,0),(false,1),(true,2),(true,3),(false,4)] (zK (w.heap.size+1+1) (w.heap.size+1+1+1) w3) (by kernel_rfl) (by kernel_rfl) s0 ?_
   repeat (first | (refine zS rfl rfl ?_;simp only [Act.put,zq1,zq2,zq3]) | (refine zT rfl ?_ rfl (fun w' hw'=>?_) ?_;rotate_left;(go_simp;first | done | with_reducible rfl);(try simp only [Act.put,zq1,zq2,zq3])))
   refine zA rfl rfl fun K hK=>?_
   refine op_store (.tmp 6) (.tmp 23) 38 rfl rfl rfl st1 ?_
   refine hK.out _ _ sa ?_
   clear hK K st1
   simp only [Act.put,zq1,zq2,zq3]
   refine zA rfl rfl fun K hK=>?_
   refine op_store (.tmp 7) (.tmp 24) 44 rfl rfl rfl st2 ?_
   refine hK.out _ _ sb ?_
   clear hK K st2
   simp only [Act.put,zq1,zq2,zq3]
   repeat (first | (refine zS rfl rfl ?_;simp only [Act.put,zq1,zq2,zq3]) | (refine zT rfl ?_ rfl (fun w' hw'=>?_) ?_;rotate_left;(go_simp;first | done | with_reducible rfl);(try simp only [Act.put,zq1,zq2,zq3])))
   refine zN ?_
   go_wp2_with fail
   refine bodyPost_ret (results_cct rfl _ _ (w.heap.size+1+1) (w.heap.size+1+1+1) _ _ _ _ _ _ _ _ rfl rfl HLD.out.1 HLD.out.2.1 Tryz.underlying38 rfl zQ Tryz.underlying44 rfl size_store) rfl ?_
   rw [HKF.out]
   exact⟨⟨_,_,rfl,HLD.out.2.2.1,HLD.out.2.2.2.1⟩,HBZ.out⟩
  | true =>
   have hs1:=HS1.out
   have hbx3:=HB1.out.trans (HB3.out.mono HB1.out.size)
   have ke:=encode_any _ c w3 (HCV.out.below hbx3)
   obtain⟨en,hen⟩:∃ x,x=encodeP c:=⟨_,rfl⟩
   rw [← hen] at ke
   have HEN:=zh hen
   clear hen hbx3 hs1
   go_wp2_with fail
   refine ke.mono ?_
   rintro e w4 ⟨⟨bv,rfl,hbv⟩,hb4⟩
   clear ke
   have HB4:=zh (HB3.out.trans (hb4.mono HB3.out.size))
   have HBV:=zh hbv.bytes
   clear hb4 hbv
   by_cases he:en.2=0
   rotate_left
   ·have q0:(en.2 != 0)=true:=by simp [he]
    have HE:=zh he
    clear he
    have hs1:=HS1.out
    have hDx:=HD.out.below HB4.out
    have hSx:=(HB4.out.block _ (by omega)).trans HSB.out
    have hRC:=(HB4.out.block _ (by omega)).trans HRC.out
    have hRS:=(HB4.out.block _ (by omega)).trans HRS.out
    have hbx:=HB1.out.trans (HB4.out.mono HB1.out.size)
    have HKF:=zh (show K0=(d,s,en.2) from by rw [HK0.out];unfold commitK;rw [← HCB.out,← HR.out,← HEN.out];rw [if_neg HE.out];rfl)
    obtain⟨a0,n0,b0,m0,TX,hvX⟩:=id hDx
    have s0:zK (w.heap.size+1+1) (w.heap.size+1+1+1) w4 w4.drew:=zK.drew (zK.refl _ _ _)
    obtain⟨wa,wb,st1,st2,ka,kb,HLD⟩:=laid_DS (wx:=w4.drew) (a0:=a0) (a1:=b0) (n0:=n0) (n1:=m0) (d:=d) (l:=s.log) (pv:=(.slice pa n pc)) (s:=s.pairs) hRC rfl hRS rfl (by omega) ((hvX.below (zD (Below.refl _ _) 1)).tight) ⟨pa,pc,by rw [← HN.out]⟩ (fun w' hk hz=>PairsV.keptBut (HPV.out.below (show Below w.heap.size w w4.drew from hbx.trans (zD (Below.refl _ _) 1))) hk (by omega) (by omega))
    have sa:zK (w.heap.size+1+1) (w.heap.size+1+1+1) w4 wa:=zK.trans_ s0 (fun k h1 _=>ka k h1)
    have sb:zK (w.heap.size+1+1) (w.heap.size+1+1+1) w4 wb:=zK.trans_ s0 kb
    have X0:∀ w':World,zK (w.heap.size+1+1) (w.heap.size+1+1+1) w4 w'→w'.cell? ⟨w.heap.size,0,none⟩=some (.slice a0 d.secs.length n0):=fun w' h=>cR w' _ 0 _ _ _ ((h w.heap.size (by omega) (by omega)).trans TX)
    have X1:∀ w':World,zK (w.heap.size+1+1) (w.heap.size+1+1+1) w4 w'→w'.cell? ⟨w.heap.size,1,none⟩=some (.slice b0 d.loose.length m0):=fun w' h=>cR w' _ 1 _ _ _ ((h w.heap.size (by omega) (by omega)).trans TX)
    have X2:∀ w':World,zK (w.heap.size+1+1) (w.heap.size+1+1+1) w4 w'→w'.cell? ⟨w.heap.size,2,none⟩=some (.int .i64 d.fuse):=fun w' h=>cR w' _ 2 _ _ _ ((h w.heap.size (by omega) (by omega)).trans TX)
    have X3:∀ w':World,zK (w.heap.size+1+1) (w.heap.size+1+1+1) w4 w'→w'.cell? ⟨w.heap.size,3,none⟩=some (.bool d.down):=fun w' h=>cR w' _ 3 _ _ _ ((h w.heap.size (by omega) (by omega)).trans TX)
    have N0:∀ w':World,zK (w.heap.size+1+1) (w.heap.size+1+1+1) w4 w'→w'.cell? ⟨w.heap.size+1,0,none⟩=some (.int .i64 s.log.half):=fun w' h=>cR w' _ 0 _ _ _ ((h (w.heap.size+1) (by omega) (by omega)).trans hSx)
    have N1:∀ w':World,zK (w.heap.size+1+1) (w.heap.size+1+1+1) w4 w'→w'.cell? ⟨w.heap.size+1,1,none⟩=some (.int .i64 s.log.gen):=fun w' h=>cR w' _ 1 _ _ _ ((h (w.heap.size+1) (by omega) (by omega)).trans hSx)
    have N2:∀ w':World,zK (w.heap.size+1+1) (w.heap.size+1+1+1) w4 w'→w'.cell? ⟨w.heap.size+1,2,none⟩=some (.int .i64 s.log.used):=fun w' h=>cR w' _ 2 _ _ _ ((h (w.heap.size+1) (by omega) (by omega)).trans hSx)
    have N3:∀ w':World,zK (w.heap.size+1+1) (w.heap.size+1+1+1) w4 w'→w'.cell? ⟨w.heap.size+1,3,none⟩=some (.int .i64 s.log.count):=fun w' h=>cR w' _ 3 _ _ _ ((h (w.heap.size+1) (by omega) (by omega)).trans hSx)
    have N4:∀ w':World,zK (w.heap.size+1+1) (w.heap.size+1+1+1) w4 w'→w'.cell? ⟨w.heap.size+1,4,none⟩=some (.slice pa n pc):=fun w' h=>cR w' _ 4 _ _ _ ((h (w.heap.size+1) (by omega) (by omega)).trans hSx)
    have HBZ:=zh (HLD.out.2.2.2.2 w.heap.size w ((hbx).trans (zD (Below.refl _ _) 1)) (by omega) (by omega))
    clear ka kb TX hvX
    go_wp2_with fail
    refine zI [(false,0),(false,1),(false,2),(true,3),(true,4),(false,5)] (zK (w.heap.size+1+1) (w.heap.size+1+1+1) w4) (by kernel_rfl) (by kernel_rfl) s0 ?_
    repeat (first | (refine zS rfl rfl ?_;simp only [Act.put,zq1,zq2,zq3]) | (refine zT rfl ?_ rfl (fun w' hw'=>?_) ?_;rotate_left;(go_simp;first | done | with_reducible rfl);(try simp only [Act.put,zq1,zq2,zq3])))
    refine zA rfl rfl fun K hK=>?_
    refine op_store (.tmp 6) (.tmp 32) 38 rfl rfl rfl st1 ?_
    refine hK.out _ _ sa ?_
    clear hK K st1
    simp only [Act.put,zq1,zq2,zq3]
    refine zA rfl rfl fun K hK=>?_
    refine op_store (.tmp 7) (.tmp 33) 44 rfl rfl rfl st2 ?_
    refine hK.out _ _ sb ?_
    clear hK K st2
    simp only [Act.put,zq1,zq2,zq3]
    repeat (first | (refine zS rfl rfl ?_;simp only [Act.put,zq1,zq2,zq3]) | (refine zT rfl ?_ rfl (fun w' hw'=>?_) ?_;rotate_left;(go_simp;first | done | with_reducible rfl);(try simp only [Act.put,zq1,zq2,zq3])))
    refine zN ?_
    go_wp2_with fail
    refine bodyPost_ret (results_cct rfl _ _ (w.heap.size+1+1) (w.heap.size+1+1+1) _ _ _ _ _ _ _ _ rfl rfl HLD.out.1 HLD.out.2.1 Tryz.underlying38 rfl zQ Tryz.underlying44 rfl size_store) rfl ?_
    rw [HKF.out]
    exact⟨⟨_,_,rfl,HLD.out.2.2.1,HLD.out.2.2.2.1⟩,HBZ.out⟩
   ·have q0:(en.2 != 0)=false:=by simp [he]
    have HE:=zh he
    have hs1:=HS1.out
    have hbx4:=HB1.out.trans (HB4.out.mono HB1.out.size)
    have hS4:=(HB4.out.block _ (by omega)).trans HSB.out
    have F4:=cR w4 _ 4 _ _ _ hS4
    have hrs:pairsB s.pairs=true:=by
     have:=HR.out.symm
     unfold rightS at this
     rw [Bool.and_eq_true] at this
     exact this.2
    have hrl:rightL d s.log=true:=by
     have:=HR.out.symm
     unfold rightS at this
     rw [Bool.and_eq_true] at this
     exact this.1
    obtain⟨pl1,pl2,pl3⟩:=pairs_lens hrs
    obtain⟨cl1,cl2⟩:=changesB_len HCB.out.symm
    have kk:=do_any _ _ s.pairs c w4 (HPV.out.below hbx4) (HCV.out.below hbx4) pl2 (by omega) (by omega) (fun p hp=>by have:=pl3 p hp;omega) (fun x hx=>by have:=cl2 x hx;omega)
    obtain⟨P2,hP2⟩:∃ x,x=doP s.pairs c:=⟨_,rfl⟩
    rw [← hP2] at kk
    have HP2:=zh hP2
    clear he hP2 pl1 pl2 pl3 cl1 cl2 hrs hrl hbx4 hS4 hs1
    go_wp2_with fail
    refine kk.mono ?_
    rintro e w5 ⟨x5,rfl,hP5,hb5⟩
    clear kk F4
    have HB5:=zh (HB4.out.trans (hb5.mono HB4.out.size))
    have HP5:=zh (Own.lower hP5 HB4.out.size)
    have HBV5:=zh (HBV.out.below hb5).tight
    have kp:=paired_any _ P2 w5 (PairsO.v hP5)
    obtain⟨pb,hpb⟩:∃ x,x=pairsB P2:=⟨_,rfl⟩
    rw [← hpb] at kp
    have HPB:=zh hpb
    clear hb5 hP5 hpb HBV
    go_wp2_with fail
    refine kp.mono ?_
    rintro e w6 ⟨rfl,hb6⟩
    clear kp
    have HB6:=zh (HB5.out.trans (hb6.mono HB5.out.size))
    have HP6:=zh (Own.below HP5.out hb6 (Nat.le_refl _))
    have HBV6:=zh (HBV5.out.below hb6).tight
    clear hb6 HP5 HBV5 HB5
    cases pb with
    | false =>
     have hs1:=HS1.out
     have hDx:=HD.out.below HB6.out
     have hSx:=(HB6.out.block _ (by omega)).trans HSB.out
     have hRC:=(HB6.out.block _ (by omega)).trans HRC.out
     have hRS:=(HB6.out.block _ (by omega)).trans HRS.out
     have hbx:=HB1.out.trans (HB6.out.mono HB1.out.size)
     have HKF:=zh (show K0=(d,s,8) from by rw [HK0.out];unfold commitK;rw [← HCB.out,← HR.out,← HEN.out,← HP2.out,← HPB.out];rw [if_pos HE.out];rfl)
     obtain⟨a0,n0,b0,m0,TX,hvX⟩:=id hDx
     have s0:zK (w.heap.size+1+1) (w.heap.size+1+1+1) w6 w6.drew:=zK.drew (zK.refl _ _ _)
     obtain⟨wa,wb,st1,st2,ka,kb,HLD⟩:=laid_DS (wx:=w6.drew) (a0:=a0) (a1:=b0) (n0:=n0) (n1:=m0) (d:=d) (l:=s.log) (pv:=(.slice pa n pc)) (s:=s.pairs) hRC rfl hRS rfl (by omega) ((hvX.below (zD (Below.refl _ _) 1)).tight) ⟨pa,pc,by rw [← HN.out]⟩ (fun w' hk hz=>PairsV.keptBut (HPV.out.below (show Below w.heap.size w w6.drew from hbx.trans (zD (Below.refl _ _) 1))) hk (by omega) (by omega))
     have sa:zK (w.heap.size+1+1) (w.heap.size+1+1+1) w6 wa:=zK.trans_ s0 (fun k h1 _=>ka k h1)
     have sb:zK (w.heap.size+1+1) (w.heap.size+1+1+1) w6 wb:=zK.trans_ s0 kb
     have X0:∀ w':World,zK (w.heap.size+1+1) (w.heap.size+1+1+1) w6 w'→w'.cell? ⟨w.heap.size,0,none⟩=some (.slice a0 d.secs.length n0):=fun w' h=>cR w' _ 0 _ _ _ ((h w.heap.size (by omega) (by omega)).trans TX)
     have X1:∀ w':World,zK (w.heap.size+1+1) (w.heap.size+1+1+1) w6 w'→w'.cell? ⟨w.heap.size,1,none⟩=some (.slice b0 d.loose.length m0):=fun w' h=>cR w' _ 1 _ _ _ ((h w.heap.size (by omega) (by omega)).trans TX)
     have X2:∀ w':World,zK (w.heap.size+1+1) (w.heap.size+1+1+1) w6 w'→w'.cell? ⟨w.heap.size,2,none⟩=some (.int .i64 d.fuse):=fun w' h=>cR w' _ 2 _ _ _ ((h w.heap.size (by omega) (by omega)).trans TX)
     have X3:∀ w':World,zK (w.heap.size+1+1) (w.heap.size+1+1+1) w6 w'→w'.cell? ⟨w.heap.size,3,none⟩=some (.bool d.down):=fun w' h=>cR w' _ 3 _ _ _ ((h w.heap.size (by omega) (by omega)).trans TX)
     have N0:∀ w':World,zK (w.heap.size+1+1) (w.heap.size+1+1+1) w6 w'→w'.cell? ⟨w.heap.size+1,0,none⟩=some (.int .i64 s.log.half):=fun w' h=>cR w' _ 0 _ _ _ ((h (w.heap.size+1) (by omega) (by omega)).trans hSx)
     have N1:∀ w':World,zK (w.heap.size+1+1) (w.heap.size+1+1+1) w6 w'→w'.cell? ⟨w.heap.size+1,1,none⟩=some (.int .i64 s.log.gen):=fun w' h=>cR w' _ 1 _ _ _ ((h (w.heap.size+1) (by omega) (by omega)).trans hSx)
     have N2:∀ w':World,zK (w.heap.size+1+1) (w.heap.size+1+1+1) w6 w'→w'.cell? ⟨w.heap.size+1,2,none⟩=some (.int .i64 s.log.used):=fun w' h=>cR w' _ 2 _ _ _ ((h (w.heap.size+1) (by omega) (by omega)).trans hSx)
     have N3:∀ w':World,zK (w.heap.size+1+1) (w.heap.size+1+1+1) w6 w'→w'.cell? ⟨w.heap.size+1,3,none⟩=some (.int .i64 s.log.count):=fun w' h=>cR w' _ 3 _ _ _ ((h (w.heap.size+1) (by omega) (by omega)).trans hSx)
     have N4:∀ w':World,zK (w.heap.size+1+1) (w.heap.size+1+1+1) w6 w'→w'.cell? ⟨w.heap.size+1,4,none⟩=some (.slice pa n pc):=fun w' h=>cR w' _ 4 _ _ _ ((h (w.heap.size+1) (by omega) (by omega)).trans hSx)
     have HBZ:=zh (HLD.out.2.2.2.2 w.heap.size w ((hbx).trans (zD (Below.refl _ _) 1)) (by omega) (by omega))
     clear ka kb TX hvX
     go_wp2_with fail
     refine zI [(false,0),(false,1),(true,2),(true,3),(false,4)] (zK (w.heap.size+1+1) (w.heap.size+1+1+1) w6) (by kernel_rfl) (by kernel_rfl) s0 ?_
     repeat (first | (refine zS rfl rfl ?_;simp only [Act.put,zq1,zq2,zq3]) | (refine zT rfl ?_ rfl (fun w' hw'=>?_) ?_;rotate_left;(go_simp;first | done | with_reducible rfl);(try simp only [Act.put,zq1,zq2,zq3])))
     refine zA rfl rfl fun K hK=>?_
     refine op_store (.tmp 6) (.tmp 42) 38 rfl rfl rfl st1 ?_
     refine hK.out _ _ sa ?_
     clear hK K st1
     simp only [Act.put,zq1,zq2,zq3]
     refine zA rfl rfl fun K hK=>?_
     refine op_store (.tmp 7) (.tmp 43) 44 rfl rfl rfl st2 ?_
     refine hK.out _ _ sb ?_
     clear hK K st2
     simp only [Act.put,zq1,zq2,zq3]
     repeat (first | (refine zS rfl rfl ?_;simp only [Act.put,zq1,zq2,zq3]) | (refine zT rfl ?_ rfl (fun w' hw'=>?_) ?_;rotate_left;(go_simp;first | done | with_reducible rfl);(try simp only [Act.put,zq1,zq2,zq3])))
     refine zN ?_
     go_wp2_with fail
     refine bodyPost_ret (results_cct rfl _ _ (w.heap.size+1+1) (w.heap.size+1+1+1) _ _ _ _ _ _ _ _ rfl rfl HLD.out.1 HLD.out.2.1 Tryz.underlying38 rfl zQ Tryz.underlying44 rfl size_store) rfl ?_
     rw [HKF.out]
     exact⟨⟨_,_,rfl,HLD.out.2.2.1,HLD.out.2.2.2.1⟩,HBZ.out⟩
    | true =>
     have hs1:=HS1.out
     have hD6:=HD.out.below HB6.out
     have hS6:=(HB6.out.block _ (by omega)).trans HSB.out
     obtain⟨da,na,db,nb,TD,hv⟩:=id hD6
     have C0:=cR w6 _ 0 _ _ _ TD
     have C1:=cR w6 _ 1 _ _ _ TD
     have C2:=cR w6 _ 2 _ _ _ TD
     have C3:=cR w6 _ 3 _ _ _ TD
     have F0:=cR w6 _ 0 _ _ _ hS6
     have F1:=cR w6 _ 1 _ _ _ hS6
     have F2:=cR w6 _ 2 _ _ _ hS6
     have F3:=cR w6 _ 3 _ _ _ hS6
     have ka:=append_any _ _ d s.log en.1 w6 hv HBV6.out hl0 (HT.out.below HB6.out hT1) (Nat.lt_of_lt_of_le hT1 HB6.out.size)
     obtain⟨y,hy⟩:∃ x,x=appendP d s.log en.1:=⟨_,rfl⟩
     rw [← hy] at ka
     unfold DLE at ka
     simp only [logV] at ka
     have HY:=zh hy
     clear hy hv TD hD6 hS6 hs1
     go_wp2_with fail
     refine ka.mono ?_
     rintro e w7 ⟨⟨va,rfl,hda⟩,hb7⟩
     clear ka C0 C1 C2 C3 F0 F1 F2 F3
     obtain⟨y1,z1,y2,z2,rfl,_,_⟩:=hda.parts
     have HB7:=zh (HB6.out.trans (hb7.mono HB6.out.size))
     have HP7:=zh (Own.below HP6.out hb7 (Nat.le_refl _))
     obtain⟨w8,NB,HWc,HGc,hA8,hb8,lt8,le8⟩:=fresh_disk w7
     obtain⟨w9,LB,HWd,HGd,hB9,hb9,lt9,le9⟩:=fresh_log w8
     have hb79:=hb8.trans (hb9.mono hb8.size)
     have hne:NB≠LB:=by omega
     obtain⟨wF,x0,x1,x2,x3,hwF,⟨C0,C1,C2,C3,Z⟩,⟨N0,N1,N2,N3,Y⟩,HXF⟩:=pack_store y.2.1 (hA8.below hb9) hB9 (hda.below hb79).tight hne
     have hwF:=hwF.out
     try dsimp only at hwF
     have HWF:=zh hwF
     clear hwF
     go_wp2_with (with_reducible refine wp_alloc_to (w':=w8) 38 rfl rfl (zero_disk _) HWc.out ?_;refine Halt.in ?_)
     refine Halt.out ?_
     rw [← HGc.out]
     go_wp2_with (with_reducible refine wp_alloc_to (w':=w9) 41 rfl rfl (zero_log _) HWd.out ?_;refine Halt.in ?_)
     refine Halt.out ?_
     rw [← HGd.out]
     go_upto_region 10 with (fail)
     rw [← HWF.out]
     clear C0 C1 C2 C3 Z N0 N1 N2 N3 Y
     obtain⟨hDN,hLN,hzF,hkF,hbbF⟩:=HXF.out
     have hs7:=HB7.out.size
     have hb7F:Below w7.heap.size w7 wF:=hbbF w7.heap.size w7 hb79 le8 (by omega)
     have hBF:Below w1.heap.size w1 wF:=HB7.out.trans (hb7F.mono hs7)
     have hPF:PairsO w1.heap.size wF x5 P2:=Own.below HP7.out hb7F (Nat.le_refl _)
     have hs1:=HS1.out
     have hlN:w7.heap.size≤NB:=le8
     have hlL:w7.heap.size≤LB:=by omega
     have hltN:NB<wF.heap.size:=hDN.lt
     have hltL:LB<wF.heap.size:=hLN.lt
     obtain⟨pa2,pc2,hx5,_⟩:=pairs_len (PairsO.v hPF)
     subst hx5
     obtain⟨n2,hn2⟩:∃ n,n=P2.length:=⟨_,rfl⟩
     rw [← hn2] at hPF ⊢
     have HN2:=zh hn2
     have HPF:=zh hPF
     have HDN:=zh hDN
     have HLN:=zh hLN
     have HBF:=zh hBF
     obtain⟨y2v,hy2⟩:∃ x,x=if y.2.2=8 then compactP d s.log (snapP P2) else y:=⟨_,rfl⟩
     have HY2:=zh hy2
     have HLT:=zh (And.intro (And.intro hlN hlL) (And.intro (And.intro hltN hltL) (And.intro hne hs7)))
     clear hn2 hPF hDN hLN hBF hy2 hzF hkF hbbF HXF hb79 hb8 hb9 lt8 le8 lt9 le9 hA8 hB9 hda hb7 hs7 hs1 HBV6 hb7F hne hlN hlL hltN hltL
     go_upto_if 54 with (fail)
     go_cut [10] from 54 to 54 (fun s10 wx=>CommitMid w y2v NB LB wF wx s10)
     case first =>
      by_cases h8:y.2.2=8
      ·have q8:(y.2.2 == 8)=true:=by rw [h8];rfl
       have hcy:y2v=compactP d s.log (snapP P2):=by rw [HY2.out,if_pos h8]
       have hs1:=HS1.out
       obtain⟨⟨hlN,hlL⟩,⟨hltN,hltL⟩,hne,hs7⟩:=HLT.out
       obtain⟨da,na,db,nb,TD,hv⟩:=id (HD.out.below HBF.out)
       have hSF:=(HBF.out.block _ (by omega)).trans HSB.out
       have s0:KeptLow wF.heap.size NB LB wF wF.drew:=fun _ _ _ _=>rfl
       have X0:∀ w':World,KeptLow wF.heap.size NB LB wF w'→w'.cell? ⟨w.heap.size,0,none⟩=some (.slice da d.secs.length na):=fun w' h=>cR w' _ 0 _ _ _ ((h w.heap.size (by omega) (by omega) (by omega)).trans TD)
       have X1:∀ w':World,KeptLow wF.heap.size NB LB wF w'→w'.cell? ⟨w.heap.size,1,none⟩=some (.slice db d.loose.length nb):=fun w' h=>cR w' _ 1 _ _ _ ((h w.heap.size (by omega) (by omega) (by omega)).trans TD)
       have X2:∀ w':World,KeptLow wF.heap.size NB LB wF w'→w'.cell? ⟨w.heap.size,2,none⟩=some (.int .i64 d.fuse):=fun w' h=>cR w' _ 2 _ _ _ ((h w.heap.size (by omega) (by omega) (by omega)).trans TD)
       have X3:∀ w':World,KeptLow wF.heap.size NB LB wF w'→w'.cell? ⟨w.heap.size,3,none⟩=some (.bool d.down):=fun w' h=>cR w' _ 3 _ _ _ ((h w.heap.size (by omega) (by omega) (by omega)).trans TD)
       have N0:∀ w':World,KeptLow wF.heap.size NB LB wF w'→w'.cell? ⟨w.heap.size+1,0,none⟩=some (.int .i64 s.log.half):=fun w' h=>cR w' _ 0 _ _ _ ((h (w.heap.size+1) (by omega) (by omega) (by omega)).trans hSF)
       have N1:∀ w':World,KeptLow wF.heap.size NB LB wF w'→w'.cell? ⟨w.heap.size+1,1,none⟩=some (.int .i64 s.log.gen):=fun w' h=>cR w' _ 1 _ _ _ ((h (w.heap.size+1) (by omega) (by omega) (by omega)).trans hSF)
       have N2:∀ w':World,KeptLow wF.heap.size NB LB wF w'→w'.cell? ⟨w.heap.size+1,2,none⟩=some (.int .i64 s.log.used):=fun w' h=>cR w' _ 2 _ _ _ ((h (w.heap.size+1) (by omega) (by omega) (by omega)).trans hSF)
       have N3:∀ w':World,KeptLow wF.heap.size NB LB wF w'→w'.cell? ⟨w.heap.size+1,3,none⟩=some (.int .i64 s.log.count):=fun w' h=>cR w' _ 3 _ _ _ ((h (w.heap.size+1) (by omega) (by omega) (by omega)).trans hSF)
       have hpb:=pairsB_parts HPB.out.symm
       have hsm:=snapP_small HPB.out.symm
       have hPd:=Own.below HPF.out (zD (Below.refl wF.heap.size wF) 1) (Nat.le_refl _)
       have ks:=snapshot_any _ P2 wF.drew (PairsV.of_n HN2.out (Own.row hPd)) hpb.2.1 hpb.1
       have KS:=zh ks
       have HV:=zh hv
       have HCY:=zh hcy
       have HSM:=zh hsm
       clear ks hv hcy hsm hpb hPd h8 TD hSF hs1 hlN hlL hltN hltL hne hs7
       go_upto_region 11 with (fail)
       refine zI [(false,0),(false,1),(false,2),(false,3),(true,4),(true,5),(false,6),(false,7),(false,8),(false,9),(true,10),(true,11),(false,12)] (KeptLow wF.heap.size NB LB wF) (by kernel_rfl) (by kernel_rfl) s0 ?_
       repeat (first | (refine zS rfl rfl ?_;simp only [Act.put,zq1,zq2,zq3]) | (refine zT rfl ?_ rfl (fun w' hw'=>?_) ?_;rotate_left;(go_simp;first | done | with_reducible rfl);(try simp only [Act.put,zq1,zq2,zq3])))
       refine zA rfl rfl fun K hK=>?_
       go_simp
       refine KS.out.mono ?_
       rintro e wt1 ⟨u1,rfl,hu1,hbt1⟩
       have sb1:Below wF.heap.size wF wt1:=(zD (Below.refl _ _) 1).trans hbt1
       have s1:KeptLow wF.heap.size NB LB wF wt1:=fun k h1 _ _=>sb1.block k h1
       refine hK.out _ _ s1 ?_
       clear hK K hbt1
       repeat (first | (refine zS rfl rfl ?_;simp only [Act.put,zq1,zq2,zq3]) | (refine zT rfl ?_ rfl (fun w' hw'=>?_) ?_;rotate_left;(go_simp;first | done | with_reducible rfl);(try simp only [Act.put,zq1,zq2,zq3])))
       have hT2:=HT.out.below (HBF.out.trans (sb1.mono HBF.out.size)) hT1
       have kq:=compact_any _ _ d s.log (snapP P2) wt1 (HV.out.below sb1).tight hu1.pieces hl0 hT2 (Nat.lt_of_lt_of_le hT1 (Nat.le_trans HBF.out.size sb1.size)) HSM.out.1 HSM.out.2
       rw [← HCY.out] at kq
       unfold DLE at kq
       simp only [logV] at kq
       refine zA rfl rfl fun K hK=>?_
       go_simp
       refine kq.mono ?_
       rintro e wt2 ⟨⟨vr,rfl,hdr⟩,hbt2⟩
       clear kq
       obtain⟨r1,r2,r3,r4,rfl,_,_⟩:=hdr.parts
       have sb2:Below wF.heap.size wF wt2:=sb1.trans (hbt2.mono sb1.size)
       have s2:KeptLow wF.heap.size NB LB wF wt2:=fun k h1 _ _=>sb2.block k h1
       refine hK.out _ _ s2 ?_
       clear hK K hbt2 hu1 hT2
       repeat (first | (refine zS rfl rfl ?_;simp only [Act.put,zq1,zq2,zq3]) | (refine zT rfl ?_ rfl (fun w' hw'=>?_) ?_;rotate_left;(go_simp;first | done | with_reducible rfl);(try simp only [Act.put,zq1,zq2,zq3])))
       obtain⟨⟨hlN,hlL⟩,⟨hltN,hltL⟩,hne,hs7⟩:=HLT.out
       obtain⟨_,_,_,_,hrN⟩:=HDN.out.row
       have hrN2:=(sb2.block _ hltN).trans hrN
       have hrL:wF.heap[LB]?=_:=HLN.out
       have hrL2:=(sb2.block _ hltL).trans hrL
       obtain⟨wx,hst,hnA,hbx,hzx,hkx,_⟩:=storeBig info_disk hrN2 rfl #[.slice r1 y2v.1.secs.length r2,.slice r3 y2v.1.loose.length r4,.int .i64 y2v.1.fuse,.bool y2v.1.down] rfl (ones4 rfl rfl rfl rfl)
       have hLx:wx.heap[LB]?=_:=(hkx LB (Ne.symm hne)).trans hrL2
       obtain⟨wy,hst2,hnB,hby,hzy,hky,_⟩:=storeBig info_log hLx rfl #[.int .i64 y2v.2.1.half,.int .i64 y2v.2.1.gen,.int .i64 y2v.2.1.used,.int .i64 y2v.2.1.count] rfl (ones4 rfl rfl rfl rfl)
       have hdx:=hdr.kept hrN2 (by simp) hkx
       have hdy:=hdx.kept hLx (by simp) hky
       have sx:KeptLow wF.heap.size NB LB wF wx:=fun k h1 h2 h3=>(hkx k h2).trans (s2 k h1 h2 h3)
       have sy:KeptLow wF.heap.size NB LB wF wy:=fun k h1 h2 h3=>(hky k h3).trans (sx k h1 h2 h3)
       have hs1:=HS1.out
       have hmid:CommitMid w y2v NB LB wF wy (.int .i64 y2v.2.2):=by
        refine⟨rfl,⟨r1,r2,r3,r4,(hky NB hne).trans hnA,by rw [hzy,hzx];exact hdy⟩,hnB,sy,?_,by rw [hzy,hzx];exact sb2.size⟩
        have b0:Below w.heap.size w wt2:=(HB1.out.trans (HBF.out.mono HB1.out.size)).trans (sb2.mono (Nat.le_trans HB1.out.size HBF.out.size))
        exact (b0.trans (hbx.mono (by omega))).trans (hby.mono (by omega))
       have HMID:=zh hmid
       refine zA rfl rfl fun K hK=>?_
       refine op_store (.tmp 12) (.tmp 62) 38 rfl rfl rfl hst ?_
       refine hK.out _ _ sx ?_
       clear hK K hst
       simp only [Act.put,zq1,zq2,zq3]
       refine zA rfl rfl fun K hK=>?_
       refine op_store (.tmp 13) (.tmp 63) 41 rfl rfl rfl hst2 ?_
       refine hK.out _ _ sy ?_
       clear hK K hst2
       simp only [Act.put,zq1,zq2,zq3]
       repeat (first | (refine zS rfl rfl ?_;simp only [Act.put,zq1,zq2,zq3]) | (refine zT rfl ?_ rfl (fun w' hw'=>?_) ?_;rotate_left;(go_simp;first | done | with_reducible rfl);(try simp only [Act.put,zq1,zq2,zq3])))
       refine zN ?_
       clear hmid hdx hdy hkx hky hnA hnB hrN hrN2 hrL hrL2 hLx hdr s0 s1 s2 sx sy X0 X1 X2 X3 N0 N1 N2 N3 sb1 sb2
       go_wp2_with fail
       go_meet
       case rel=>exact HMID.out
      ·have q8:(y.2.2 == 8)=false:=by rw [beq_eq_false_iff_ne];exact h8
       have hcy:y2v=y:=by rw [HY2.out,if_neg h8]
       subst hcy
       have HMID:=zh (show CommitMid w y2v NB LB wF wF (.int .i64 y2v.2.2) from ⟨rfl,HDN.out,HLN.out,fun _ _ _ _=>rfl,HB1.out.trans (HBF.out.mono HB1.out.size),Nat.le_refl _⟩)
       clear h8
       go_wp2_with fail
       go_meet
       case rel=>exact HMID.out
     case rest =>
      obtain⟨rfl,hDx,hLx,hkl,hbx,hsz⟩:=hcut
      obtain⟨⟨hlN,hlL⟩,⟨hltN,hltL⟩,hne,hs7⟩:=HLT.out
      have hs1:=HS1.out
      have hsF:=HBF.out.size
      have hSx:=(hkl (w.heap.size+1) (by omega) (by omega) (by omega)).trans ((HBF.out.block _ (by omega)).trans HSB.out)
      have hRC:=(hkl (w.heap.size+1+1) (by omega) (by omega) (by omega)).trans ((HBF.out.block _ (by omega)).trans HRC.out)
      have hRS:=(hkl (w.heap.size+1+1+1) (by omega) (by omega) (by omega)).trans ((HBF.out.block _ (by omega)).trans HRS.out)
      have hcm:commitK d s c=if y2v.2.2=0 then (y2v.1,⟨y2v.2.1,P2⟩,0) else (y2v.1,s,y2v.2.2):=by
       unfold commitK
       dsimp only
       rw [← HCB.out,← HR.out,← HEN.out,← HP2.out,← HPB.out,← HY.out,← HY2.out]
       rw [if_pos HE.out]
       rfl
      have HCM:=zh hcm
      obtain⟨_,_,_,_,hrN⟩:=HDN.out.row
      have hrL:wF.heap[LB]?=_:=HLN.out
      have hPX:PairsO w1.heap.size wc (.slice pa2 n2 pc2) P2:=Own.keptLow HPF.out hkl hrN (by decide) hrL (by decide)
      have HPX:=zh hPX
      clear hcm hrN hrL hPX
      by_cases he2:y2v.2.2=0
      rotate_left
      ·have q9:(y2v.2.2 != 0)=true:=by simp [he2]
       have HE2:=zh he2
       clear he2
       have HKF:=zh (show K0=(y2v.1,s,y2v.2.2) from by rw [HK0.out,HCM.out,if_neg HE2.out])
       obtain⟨a0,n0,b0,m0,TX,hvX⟩:=id hDx
       have s0:zK (w.heap.size+1+1) (w.heap.size+1+1+1) wc wc.drew:=zK.drew (zK.refl _ _ _)
       obtain⟨wa,wb,st1,st2,ka,kb,HLD⟩:=laid_DS (wx:=wc.drew) (a0:=a0) (a1:=b0) (n0:=n0) (n1:=m0) (d:=y2v.1) (l:=s.log) (pv:=(.slice pa n pc)) (s:=s.pairs) hRC rfl hRS rfl (by omega) ((hvX.below (zD (Below.refl _ _) 1)).tight) ⟨pa,pc,by rw [← HN.out]⟩ (fun w' hk hz=>PairsV.keptBut (HPV.out.below (show Below w.heap.size w wc.drew from hbx.trans (zD (Below.refl _ _) 1))) hk (by omega) (by omega))
       have sa:zK (w.heap.size+1+1) (w.heap.size+1+1+1) wc wa:=zK.trans_ s0 (fun k h1 _=>ka k h1)
       have sb:zK (w.heap.size+1+1) (w.heap.size+1+1+1) wc wb:=zK.trans_ s0 kb
       have X0:∀ w':World,zK (w.heap.size+1+1) (w.heap.size+1+1+1) wc w'→w'.cell? ⟨NB,0,none⟩=some (.slice a0 y2v.1.secs.length n0):=fun w' h=>cR w' _ 0 _ _ _ ((h NB (by omega) (by omega)).trans TX)
       have X1:∀ w':World,zK (w.heap.size+1+1) (w.heap.size+1+1+1) wc w'→w'.cell? ⟨NB,1,none⟩=some (.slice b0 y2v.1.loose.length m0):=fun w' h=>cR w' _ 1 _ _ _ ((h NB (by omega) (by omega)).trans TX)
       have X2:∀ w':World,zK (w.heap.size+1+1) (w.heap.size+1+1+1) wc w'→w'.cell? ⟨NB,2,none⟩=some (.int .i64 y2v.1.fuse):=fun w' h=>cR w' _ 2 _ _ _ ((h NB (by omega) (by omega)).trans TX)
       have X3:∀ w':World,zK (w.heap.size+1+1) (w.heap.size+1+1+1) wc w'→w'.cell? ⟨NB,3,none⟩=some (.bool y2v.1.down):=fun w' h=>cR w' _ 3 _ _ _ ((h NB (by omega) (by omega)).trans TX)
       have N0:∀ w':World,zK (w.heap.size+1+1) (w.heap.size+1+1+1) wc w'→w'.cell? ⟨w.heap.size+1,0,none⟩=some (.int .i64 s.log.half):=fun w' h=>cR w' _ 0 _ _ _ ((h (w.heap.size+1) (by omega) (by omega)).trans hSx)
       have N1:∀ w':World,zK (w.heap.size+1+1) (w.heap.size+1+1+1) wc w'→w'.cell? ⟨w.heap.size+1,1,none⟩=some (.int .i64 s.log.gen):=fun w' h=>cR w' _ 1 _ _ _ ((h (w.heap.size+1) (by omega) (by omega)).trans hSx)
       have N2:∀ w':World,zK (w.heap.size+1+1) (w.heap.size+1+1+1) wc w'→w'.cell? ⟨w.heap.size+1,2,none⟩=some (.int .i64 s.log.used):=fun w' h=>cR w' _ 2 _ _ _ ((h (w.heap.size+1) (by omega) (by omega)).trans hSx)
       have N3:∀ w':World,zK (w.heap.size+1+1) (w.heap.size+1+1+1) wc w'→w'.cell? ⟨w.heap.size+1,3,none⟩=some (.int .i64 s.log.count):=fun w' h=>cR w' _ 3 _ _ _ ((h (w.heap.size+1) (by omega) (by omega)).trans hSx)
       have N4:∀ w':World,zK (w.heap.size+1+1) (w.heap.size+1+1+1) wc w'→w'.cell? ⟨w.heap.size+1,4,none⟩=some (.slice pa n pc):=fun w' h=>cR w' _ 4 _ _ _ ((h (w.heap.size+1) (by omega) (by omega)).trans hSx)
       have HBZ:=zh (HLD.out.2.2.2.2 w.heap.size w ((hbx).trans (zD (Below.refl _ _) 1)) (by omega) (by omega))
       clear ka kb TX hvX
       go_wp2_with fail
       refine zI [(false,0),(false,1),(false,2),(true,3),(true,4),(false,5)] (zK (w.heap.size+1+1) (w.heap.size+1+1+1) wc) (by kernel_rfl) (by kernel_rfl) s0 ?_
       repeat (first | (refine zS rfl rfl ?_;simp only [Act.put,zq1,zq2,zq3]) | (refine zT rfl ?_ rfl (fun w' hw'=>?_) ?_;rotate_left;(go_simp;first | done | with_reducible rfl);(try simp only [Act.put,zq1,zq2,zq3])))
       refine zA rfl rfl fun K hK=>?_
       refine op_store (.tmp 6) (.tmp 67) 38 rfl rfl rfl st1 ?_
       refine hK.out _ _ sa ?_
       clear hK K st1
       simp only [Act.put,zq1,zq2,zq3]
       refine zA rfl rfl fun K hK=>?_
       refine op_store (.tmp 7) (.tmp 68) 44 rfl rfl rfl st2 ?_
       refine hK.out _ _ sb ?_
       clear hK K st2
       simp only [Act.put,zq1,zq2,zq3]
       repeat (first | (refine zS rfl rfl ?_;simp only [Act.put,zq1,zq2,zq3]) | (refine zT rfl ?_ rfl (fun w' hw'=>?_) ?_;rotate_left;(go_simp;first | done | with_reducible rfl);(try simp only [Act.put,zq1,zq2,zq3])))
       refine zN ?_
       go_wp2_with fail
       refine bodyPost_ret (results_cct rfl _ _ (w.heap.size+1+1) (w.heap.size+1+1+1) _ _ _ _ _ _ _ _ rfl rfl HLD.out.1 HLD.out.2.1 Tryz.underlying38 rfl zQ Tryz.underlying44 rfl size_store) rfl ?_
       rw [HKF.out]
       exact⟨⟨_,_,rfl,HLD.out.2.2.1,HLD.out.2.2.2.1⟩,HBZ.out⟩
      ·have q9:(y2v.2.2 != 0)=false:=by simp [he2]
       have HKF:=zh (show K0=(y2v.1,⟨y2v.2.1,P2⟩,0) by rw [HK0.out,HCM.out,if_pos he2])
       clear he2
       obtain⟨a0,n0,b0,m0,TX,hvX⟩:=id hDx
       have s0:zK (w.heap.size+1+1) (w.heap.size+1+1+1) wc wc.drew:=zK.drew (zK.refl _ _ _)
       obtain⟨wa,wb,st1,st2,ka,kb,HLD⟩:=laid_DS (wx:=wc.drew) (a0:=a0) (a1:=b0) (n0:=n0) (n1:=m0) (d:=y2v.1) (l:=y2v.2.1) (pv:=(.slice pa2 n2 pc2)) (s:=P2) hRC rfl hRS rfl (by omega) ((hvX.below (zD (Below.refl _ _) 1)).tight) ⟨pa2,pc2,by rw [← HN2.out]⟩ (fun w' hk hz=>by have:=Own.kept HPX.out (w':=w') (fun k hk1=>hk k (by omega) (by omega));exact Own.row this)
       have sa:zK (w.heap.size+1+1) (w.heap.size+1+1+1) wc wa:=zK.trans_ s0 (fun k h1 _=>ka k h1)
       have sb:zK (w.heap.size+1+1) (w.heap.size+1+1+1) wc wb:=zK.trans_ s0 kb
       have X0:∀ w':World,zK (w.heap.size+1+1) (w.heap.size+1+1+1) wc w'→w'.cell? ⟨NB,0,none⟩=some (.slice a0 y2v.1.secs.length n0):=fun w' h=>cR w' _ 0 _ _ _ ((h NB (by omega) (by omega)).trans TX)
       have X1:∀ w':World,zK (w.heap.size+1+1) (w.heap.size+1+1+1) wc w'→w'.cell? ⟨NB,1,none⟩=some (.slice b0 y2v.1.loose.length m0):=fun w' h=>cR w' _ 1 _ _ _ ((h NB (by omega) (by omega)).trans TX)
       have X2:∀ w':World,zK (w.heap.size+1+1) (w.heap.size+1+1+1) wc w'→w'.cell? ⟨NB,2,none⟩=some (.int .i64 y2v.1.fuse):=fun w' h=>cR w' _ 2 _ _ _ ((h NB (by omega) (by omega)).trans TX)
       have X3:∀ w':World,zK (w.heap.size+1+1) (w.heap.size+1+1+1) wc w'→w'.cell? ⟨NB,3,none⟩=some (.bool y2v.1.down):=fun w' h=>cR w' _ 3 _ _ _ ((h NB (by omega) (by omega)).trans TX)
       have N0:∀ w':World,zK (w.heap.size+1+1) (w.heap.size+1+1+1) wc w'→w'.cell? ⟨LB,0,none⟩=some (.int .i64 y2v.2.1.half):=fun w' h=>cR w' _ 0 _ _ _ ((h LB (by omega) (by omega)).trans hLx)
       have N1:∀ w':World,zK (w.heap.size+1+1) (w.heap.size+1+1+1) wc w'→w'.cell? ⟨LB,1,none⟩=some (.int .i64 y2v.2.1.gen):=fun w' h=>cR w' _ 1 _ _ _ ((h LB (by omega) (by omega)).trans hLx)
       have N2:∀ w':World,zK (w.heap.size+1+1) (w.heap.size+1+1+1) wc w'→w'.cell? ⟨LB,2,none⟩=some (.int .i64 y2v.2.1.used):=fun w' h=>cR w' _ 2 _ _ _ ((h LB (by omega) (by omega)).trans hLx)
       have N3:∀ w':World,zK (w.heap.size+1+1) (w.heap.size+1+1+1) wc w'→w'.cell? ⟨LB,3,none⟩=some (.int .i64 y2v.2.1.count):=fun w' h=>cR w' _ 3 _ _ _ ((h LB (by omega) (by omega)).trans hLx)
       have HBZ:=zh (HLD.out.2.2.2.2 w.heap.size w ((hbx).trans (zD (Below.refl _ _) 1)) (by omega) (by omega))
       clear ka kb TX hvX
       go_wp2_with fail
       refine zI [(false,0),(false,1),(false,2),(false,3),(true,4),(true,5),(false,6)] (zK (w.heap.size+1+1) (w.heap.size+1+1+1) wc) (by kernel_rfl) (by kernel_rfl) s0 ?_
       repeat (first | (refine zS rfl rfl ?_;simp only [Act.put,zq1,zq2,zq3]) | (refine zT rfl ?_ rfl (fun w' hw'=>?_) ?_;rotate_left;(go_simp;first | done | with_reducible rfl);(try simp only [Act.put,zq1,zq2,zq3])))
       refine zA rfl rfl fun K hK=>?_
       refine op_store (.tmp 6) (.tmp 70) 38 rfl rfl rfl st1 ?_
       refine hK.out _ _ sa ?_
       clear hK K st1
       simp only [Act.put,zq1,zq2,zq3]
       refine zA rfl rfl fun K hK=>?_
       refine op_store (.tmp 7) (.tmp 73) 44 rfl rfl rfl st2 ?_
       refine hK.out _ _ sb ?_
       clear hK K st2
       simp only [Act.put,zq1,zq2,zq3]
       repeat (first | (refine zS rfl rfl ?_;simp only [Act.put,zq1,zq2,zq3]) | (refine zT rfl ?_ rfl (fun w' hw'=>?_) ?_;rotate_left;(go_simp;first | done | with_reducible rfl);(try simp only [Act.put,zq1,zq2,zq3])))
       refine zN ?_
       go_wp2_with fail
       refine bodyPost_ret (results_cct rfl _ _ (w.heap.size+1+1) (w.heap.size+1+1+1) _ _ _ _ _ _ _ _ rfl rfl HLD.out.1 HLD.out.2.1 Tryz.underlying38 rfl zQ Tryz.underlying44 rfl size_store) rfl ?_
       rw [HKF.out]
       exact⟨⟨_,_,rfl,HLD.out.2.2.1,HLD.out.2.2.2.1⟩,HBZ.out⟩
end
section
open Go.RowKit KvP PackP WalP
def SVAt (w:World) (S:Nat) (s:StoreP):Prop:=∃ a c,w.heap[S]?=some (.cells #[.int .i64 s.log.half,.int .i64 s.log.gen,.int .i64 s.log.used,.int .i64 s.log.count,.slice a s.pairs.length c] 44 (0,0))∧PairsV w.heap.size w (.slice a s.pairs.length c) s.pairs
theorem SVAt.below {w w':World} {S:Nat} {s:StoreP} (h:SVAt w S s) (hb:Below w.heap.size w w'):SVAt w' S s:=by
 obtain⟨a,c,h1,h2⟩:=h
 exact⟨a,c,(hb.block _ (zB h1)).trans h1,(h2.below hb).tight⟩
theorem SVAt.lt {w:World} {S:Nat} {s:StoreP} (h:SVAt w S s):S<w.heap.size:=by
 obtain⟨a,c,h1,_⟩:=h
 exact zB h1
theorem SVAt.v {w:World} {S:Nat} {s:StoreP} (h:SVAt w S s):∃ a c,StoreV w.heap.size w (storeV s.log (.slice a s.pairs.length c)) s:=by
 obtain⟨a,c,_,h2⟩:=h
 exact⟨a,c,_,rfl,h2⟩
theorem pairs_off {B C:Nat} {w:World} {a:Option Addr} {n c:Nat} {l:List PairP} {cs:Array Value} {t:TypeId} {fr:Nat×Nat} (h:PairsV B w (.slice a n c) l) (hC:w.heap[C]?=some (.cells cs t fr)) (hn:∀ (k:Nat) (s:ByteArray),cs[k]?≠some (.string s)):∀ b off,a=some ⟨b,off,none⟩→0<l.length→b≠C:=by
 intro b off ha hl e
 subst e
 obtain⟨b',off',ha',_,hc⟩:=load_pair h hl
 rw [ha] at ha'
 cases ha'
 have h1:=(hc w (Below.refl _ _)).1
 rw [cR w _ _ _ _ _ hC] at h1
 exact hn _ _ h1
theorem PairsV.keptC {B C E:Nat} {w w':World} {v:Value} {l:List PairP} {cc ce:Array Value} {tc te:TypeId} {fc fe:Nat×Nat} (h:PairsV B w v l) (hC:w.heap[C]?=some (.cells cc tc fc)) (hE:w.heap[E]?=some (.cells ce te fe))
  (h1:∀ (k:Nat) (s:ByteArray),cc[k]?≠some (.string s)) (h2:∀ (k:Nat) (s:ByteArray),ce[k]?≠some (.string s)) (hk:zK C E w w'):PairsV w'.heap.size w' v l:=by
 obtain⟨a,c,rfl,_⟩:=pairs_len h
 have o1:=pairs_off h hC h1
 have o2:=pairs_off h hE h2
 refine Row.tight (B:=B) ?_ (by decide)
 obtain⟨g1,a',cap,hv,g2,g3,g4⟩:=h
 cases hv
 refine⟨g1,a,c,rfl,g2,g3,fun hn=>?_⟩
 obtain⟨b,off,rfl,g5,g6⟩:=g4 hn
 exact⟨b,off,rfl,g5,fun k u hu=>by rw [World.cell?_of_block (hk b (o1 b off rfl hn) (o2 b off rfl hn))];exact g6 k u hu⟩
theorem no_str4 {a0 a1:Option Addr} {n0 m0 n1 m1:Nat} {z:Int} {b:Bool}:∀ (k:Nat) (s:ByteArray),(#[Value.slice a0 n0 m0,.slice a1 n1 m1,.int .i64 z,.bool b]:Array Value)[k]?≠some (.string s)
 | 0,_=>by simp
 | 1,_=>by simp
 | 2,_=>by simp
 | 3,_=>by simp
 | k+4,_=>by simp
theorem no_str5 {a:Option Addr} {n c:Nat} {z0 z1 z2 z3:Int}:∀ (k:Nat) (s:ByteArray),(#[Value.int .i64 z0,.int .i64 z1,.int .i64 z2,.int .i64 z3,.slice a n c]:Array Value)[k]?≠some (.string s)
 | 0,_=>by simp
 | 1,_=>by simp
 | 2,_=>by simp
 | 3,_=>by simp
 | 4,_=>by simp
 | k+5,_=>by simp
theorem pack_DS {w:World} {D S:Nat} {d0 d:DiskP} {s0 s:StoreP} {a0 a1:Option Addr} {n0 n1:Nat} {sv:Value} (hD:DAt w D d0) (hS:SVAt w S s0) (hne:D≠S) (hd:DiskV w.heap.size w (.agg #[.slice a0 d.secs.length n0,.slice a1 d.loose.length n1,.int .i64 d.fuse,.bool d.down]) d) (hs:StoreV w.heap.size w sv s) :
  ∃ wa wb,(storeVar 38 ⟨D,0,none⟩ (.agg #[.slice a0 d.secs.length n0,.slice a1 d.loose.length n1,.int .i64 d.fuse,.bool d.down])).run Tryz.prog w = .ok () wa∧(storeVar 44 ⟨S,0,none⟩ sv).run Tryz.prog wa = .ok () wb ∧
   Hid (DAt wb D d∧SVAt wb S s∧wb.heap.size=w.heap.size∧(∀ k,k≠D→k≠S→wb.heap[k]?=w.heap[k]?)∧(∀ B w0,Below B w0 w→B≤D→B≤S→Below B w0 wb)):=by
 obtain⟨pv,rfl,hp⟩:=hs
 obtain⟨pa,pc,rfl,hpc⟩:=pairs_len hp
 obtain⟨x0,y0,x1,y1,TD,_⟩:=id hD
 obtain⟨sa,sc,TS,_⟩:=id hS
 obtain⟨wa,r1,r2,r3,r4,r5,_⟩:=storeBig info_disk TD rfl #[.slice a0 d.secs.length n0,.slice a1 d.loose.length n1,.int .i64 d.fuse,.bool d.down] rfl (ones4 rfl rfl rfl rfl)
 have hE2:=(r5 S (Ne.symm hne)).trans TS
 obtain⟨wb,t1,t2,t3,t4,t5,_⟩:=storeBig info_store hE2 rfl #[.int .i64 s.log.half,.int .i64 s.log.gen,.int .i64 s.log.used,.int .i64 s.log.count,.slice pa s.pairs.length pc] rfl (ones5 rfl rfl rfl rfl rfl)
 have hk:∀ k,k≠D→k≠S→wb.heap[k]?=w.heap[k]?:=fun k h1 h2=>(t5 k h2).trans (r5 k h1)
 have hd1:=hd.kept TD (by simp) r5
 have hd2:=hd1.kept hE2 (by simp) t5
 refine⟨wa,wb,r1,t1,zh ⟨⟨a0,n0,a1,n1,(t5 D hne).trans r2,by rw [t4,r4];exact hd2⟩,⟨pa,pc,t2,PairsV.keptC hp TD TS no_str4 no_str5 hk⟩,t4.trans r4,hk,fun B w0 hb h1 h2=>(hb.trans (r3.mono h1)).trans (t3.mono h2)⟩⟩
theorem fresh_store (w:World):∃ w' g,Hid (w'=w.alloc (.cells (Value.agg #[.int .i64 0,.int .i64 0,.int .i64 0,.int .i64 0,.slice none 0 0]).cells 44))∧Hid (g=w.heap.size)∧SVAt w' g store0∧Below w.heap.size w w'∧g<w'.heap.size∧w.heap.size≤g :=
 ⟨_,_,zh rfl,zh rfl,⟨none,0,heap_alloc_new w _,Row.nil _ _ _⟩,Below.alloc (Below.refl _ _) (Nat.le_refl _) _,by simp,Nat.le_refl _⟩
theorem run_bsC2 (a b c d:ByteArray) (x y:Bool) (w:World):(Instr.buildSlice 22 2 #[(0,.agg #[.string a,.string b,.bool x]),(1,.agg #[.string c,.string d,.bool y])]).run Tryz.prog w = .ok (.slice (some ⟨w.heap.size,0,none⟩) 2 2) (w.alloc (.cells #[.string a,.string b,.bool x,.string c,.string d,.bool y] 33)):=by kernel_rfl
theorem changesA (w:World):ChangesV (w.heap.size+1) (w.alloc (.cells #[.string ⟨#[98]⟩,.string ⟨#[50]⟩,.bool false,.string ⟨#[97]⟩,.string ⟨#[49]⟩,.bool false] 33)) (.slice (some ⟨w.heap.size,0,none⟩) 2 2) cA :=
 row_of_heap (sz:=3) (n:=2) (heap_alloc_new w _) (Nat.lt_succ_self _) rfl (Nat.le_refl _) (by decide) (fun k u hk=>by
  rw [show (cA.map changeCells).flatten=[.string ⟨#[98]⟩,.string ⟨#[50]⟩,.bool false,.string ⟨#[97]⟩,.string ⟨#[49]⟩,.bool false] from rfl] at hk
  simpa using hk)
theorem changesB1 (w:World):ChangesV (w.heap.size+1) (w.alloc (.cells #[.string ⟨#[97]⟩,.string ⟨#[]⟩,.bool true] 33)) (.slice (some ⟨w.heap.size,0,none⟩) 1 1) cB :=
 row_of_heap (sz:=3) (n:=1) (heap_alloc_new w _) (Nat.lt_succ_self _) rfl (Nat.le_refl _) (by decide) (fun k u hk=>by
  rw [show (cB.map changeCells).flatten=[.string ⟨#[97]⟩,.string ⟨#[]⟩,.bool true] from rfl] at hk
  simpa using hk)
set_option maxRecDepth 100000 in
set_option maxHeartbeats 8000000 in
theorem kvAlive_any (w:World) (ht:TabAt w) (hT:1<w.heap.size):Calls Tryz.prog 10 #[] w fun e w'=>e = .returned (.bool true)∧Below w.heap.size w w':=by
 obtain⟨d1,d2,d3,d4,l4,e1,e2,e3,e4⟩:=kalive_plain
 have HP1:=zh e1
 have HP2:=zh e2
 have HP3:=zh e3
 have HP4:=zh e4
 have HT:=zh ht
 obtain⟨d0,hd0⟩:∃ x,x=(newP 40).1:=⟨_,rfl⟩
 obtain⟨z0,hz0⟩:∃ x,x=(newP 40).2:=⟨_,rfl⟩
 have kn:=refnew_any 40 w
 rw [← hd0,← hz0] at kn
 rw [← hd0] at HP1
 clear e1 e2 e3 e4 ht hd0 hz0
 go_enter Tryz.func10,Tryz.ntmps10
 go_wp2_with fail
 refine kn.mono ?_
 rintro e w1 ⟨⟨v1,rfl,hd1⟩,hb1⟩
 clear kn
 obtain⟨p1,q1,p2,q2,rfl,_,_⟩:=hd1.parts
 obtain⟨w2,D,HWa,HGa,hD2,hb2,lt2,le2⟩:=fresh_disk w1
 obtain⟨_,_,_,_,hrD⟩:=hD2.row
 obtain⟨w3,hst,hnD,hbx,hzx,hkx,_⟩:=storeBig info_disk hrD rfl #[.slice p1 d0.secs.length q1,.slice p2 d0.loose.length q2,.int .i64 d0.fuse,.bool d0.down] rfl (ones4 rfl rfl rfl rfl)
 have hD3:DAt w3 D d0:=⟨p1,q1,p2,q2,hnD,by rw [hzx];exact (hd1.below hb2).tight.kept hrD (by simp) hkx⟩
 have hDw:w.heap.size≤D:=Nat.le_trans hb1.size le2
 have hb03:Below w.heap.size w w3:=(hb1.trans (hb2.mono hb1.size)).trans (hbx.mono hDw)
 clear hd1 hD2 hnD hbx hzx hkx hrD
 go_wp2_with (with_reducible refine wp_alloc_to (w':=w2) 38 rfl rfl (zero_disk _) HWa.out ?_;refine Halt.in ?_)
 refine Halt.out ?_
 rw [← HGa.out]
 go_wp2_with (with_reducible refine wp_store_r (.tmp 1) (.tmp 14) 38 hst rfl rfl ?_;refine Halt.in ?_)
 refine Halt.out ?_
 clear hst hb2 lt2 le2 hb1
 go_upto_region 2 with (fail)
 obtain⟨da,na,db,nb,TD,hv⟩:=id hD3
 obtain⟨C0,C1,C2,C3,_⟩:=Four.of TD
 clear TD
 have kf:=kformat_any _ d0 w3 hv (HT.out.below hb03 hT) (Nat.lt_of_lt_of_le hT hb03.size)
 rw [HP1.out] at kf
 unfold KE at kf
 dsimp only at kf
 clear hv
 go_wp2_with fail
 refine kf.mono ?_
 rintro e w4 ⟨⟨v4,sv4,rfl,hd4,hs4⟩,hb4⟩
 clear kf C0 C1 C2 C3
 obtain⟨p3,q3,p4,q4,rfl,_,_⟩:=hd4.parts
 obtain⟨w5,S,HWb,HGb,hS5,hb5,lt5,le5⟩:=fresh_store w4
 have hb35:=hb4.trans (hb5.mono hb4.size)
 have hDS:D≠S:=by have:=hD3.lt;have:=hb4.size;omega
 have hSw:w.heap.size≤S:=Nat.le_trans (Nat.le_trans hb03.size hb4.size) le5
 have hD5:=hD3.below hb35
 go_wp2_with (with_reducible refine wp_alloc_to (w':=w5) 44 rfl rfl (zero_store _) HWb.out ?_;refine Halt.in ?_)
 refine Halt.out ?_
 rw [← HGb.out]
 obtain⟨wa,wb,st1,st2,HX⟩:=pack_DS hD5 hS5 hDS (hd4.below hb5).tight (hs4.below hb5).tight
 have ST2:=zh st2
 clear st2
 go_wp2_with (with_reducible refine wp_store_r (.tmp 1) (.tmp 19) 38 st1 rfl rfl ?_;refine Halt.in ?_)
 refine Halt.out ?_
 have st2:=ST2.out
 clear st1
 go_wp2_with (with_reducible refine wp_store_r (.tmp 3) (.tmp 20) 44 st2 rfl rfl ?_;refine Halt.in ?_)
 refine Halt.out ?_
 clear st2 ST2
 go_upto_region 3 with (fail)
 obtain⟨hD6,hS6,hz6,hk6,hbb6⟩:=HX.out
 have hb06:=hbb6 w.heap.size w (hb03.trans (hb35.mono hb03.size)) hDw hSw
 clear hz6 hk6 hbb6 HX hD3 hD5 hS5 hb03 hb35 hb4 hb5 lt5 le5 hd4 hs4
 obtain⟨wA,hwA⟩:∃ x,x=wb:=⟨_,rfl⟩
 subst hwA
 obtain⟨da,na,db,nb,TD,hv⟩:=id hD6
 obtain⟨C0,C1,C2,C3,_⟩:=Four.of TD
 clear TD
 obtain⟨sa,sc,TS,hsp⟩:=id hS6
 have F0:=cR wA _ 0 _ _ _ TS
 have F1:=cR wA _ 1 _ _ _ TS
 have F2:=cR wA _ 2 _ _ _ TS
 have F3:=cR wA _ 3 _ _ _ TS
 have F4:=cR wA _ 4 _ _ _ TS
 clear TS
 have hsv:StoreV wA.heap.size wA (storeV (⟨⟨0,1,2,1⟩,[]⟩:StoreP).log (.slice sa (⟨⟨0,1,2,1⟩,[]⟩:StoreP).pairs.length sc)) (⟨⟨0,1,2,1⟩,[]⟩:StoreP):=⟨_,rfl,hsp⟩
 obtain⟨wc,hwc⟩:∃ x,x=wA.alloc (.cells #[.string ⟨#[98]⟩,.string ⟨#[50]⟩,.bool false,.string ⟨#[97]⟩,.string ⟨#[49]⟩,.bool false] 33):=⟨_,rfl⟩
 obtain⟨gc,hgc⟩:∃ x,x=wA.heap.size:=⟨_,rfl⟩
 have hcv:=changesA wA
 have hbc:Below wA.heap.size wA wc:=by rw [hwc];exact Below.alloc (Below.refl _ _) (Nat.le_refl _) _
 have hbs:=run_bsC2 ⟨#[98]⟩ ⟨#[50]⟩ ⟨#[97]⟩ ⟨#[49]⟩ false false wA
 rw [← hwc,← hgc] at hbs hcv
 have hb0c:=hb06.trans (hbc.mono hb06.size)
 have kc:=kcommit_any _ _ _ d1 (⟨⟨0,1,2,1⟩,[]⟩:StoreP) cA wc (hv.below hbc) (hsv.below hbc) hcv (by decide) (HT.out.below hb0c hT) (Nat.lt_of_lt_of_le hT hb0c.size)
 rw [HP2.out] at kc
 unfold KE storeV at kc
 dsimp only at kc
 have hDc:=hD6.below hbc
 have hSc:=hS6.below hbc
 have HWC:=zh hwc
 clear hv hsv hsp hcv hwc hgc hbc
 go_wp2_with (with_reducible refine wp_buildSlice_r 22 2 [(0,.tmp 25),(1,.tmp 26)] hbs rfl ?_;refine Halt.in ?_)
 refine Halt.out ?_
 clear hbs
 go_wp2_with fail
 refine kc.mono ?_
 rintro e w7a ⟨⟨v7,sv7,rfl,hd7,hs7⟩,hb7⟩
 clear kc C0 C1 C2 C3 F0 F1 F2 F3 F4
 obtain⟨p3,q3,p4,q4,rfl,_,_⟩:=hd7.parts
 have hb07:=hb0c.trans (hb7.mono hb0c.size)
 obtain⟨wa,wb,st1,st2,HX⟩:=pack_DS (hDc.below hb7) (hSc.below hb7) hDS hd7 hs7
 have ST2:=zh st2
 clear st2
 go_wp2_with (with_reducible refine wp_store_r (.tmp 1) (.tmp 29) 38 st1 rfl rfl ?_;refine Halt.in ?_)
 refine Halt.out ?_
 have st2:=ST2.out
 clear st1
 go_wp2_with (with_reducible refine wp_store_r (.tmp 3) (.tmp 30) 44 st2 rfl rfl ?_;refine Halt.in ?_)
 refine Halt.out ?_
 clear st2 ST2
 go_upto_region 4 with (fail)
 obtain⟨hD8a,hS8a,hz8,hk8,hbb8⟩:=HX.out
 have hb08a:=hbb8 w.heap.size w hb07 hDw hSw
 clear hz8 hk8 hbb8 HX hDc hSc hd7 hs7 hb7 hb07 hb0c hD6 hS6 hb06 HWC
 obtain⟨wB,hwB⟩:∃ x,x=wb:=⟨_,rfl⟩
 subst hwB
 obtain⟨da,na,db,nb,TD,hv⟩:=id hD8a
 obtain⟨C0,C1,C2,C3,_⟩:=Four.of TD
 clear TD
 obtain⟨sa,sc,TS,hsp⟩:=id hS8a
 have F0:=cR wB _ 0 _ _ _ TS
 have F1:=cR wB _ 1 _ _ _ TS
 have F2:=cR wB _ 2 _ _ _ TS
 have F3:=cR wB _ 3 _ _ _ TS
 have F4:=cR wB _ 4 _ _ _ TS
 clear TS
 have hsv:StoreV wB.heap.size wB (storeV (⟨⟨0,1,4,2⟩,prA⟩:StoreP).log (.slice sa (⟨⟨0,1,4,2⟩,prA⟩:StoreP).pairs.length sc)) (⟨⟨0,1,4,2⟩,prA⟩:StoreP):=⟨_,rfl,hsp⟩
 obtain⟨wc,hwc⟩:∃ x,x=wB.alloc (.cells #[.string ⟨#[97]⟩,.string ⟨#[]⟩,.bool true] 33):=⟨_,rfl⟩
 obtain⟨gc,hgc⟩:∃ x,x=wB.heap.size:=⟨_,rfl⟩
 have hcv:=changesB1 wB
 have hbc:Below wB.heap.size wB wc:=by rw [hwc];exact Below.alloc (Below.refl _ _) (Nat.le_refl _) _
 have hbs:=run_bsC ⟨#[97]⟩ ⟨#[]⟩ true wB
 rw [← hwc,← hgc] at hbs hcv
 have hb0c:=hb08a.trans (hbc.mono hb08a.size)
 have kc:=kcommit_any _ _ _ d2 (⟨⟨0,1,4,2⟩,prA⟩:StoreP) cB wc (hv.below hbc) (hsv.below hbc) hcv (by decide) (HT.out.below hb0c hT) (Nat.lt_of_lt_of_le hT hb0c.size)
 rw [HP3.out] at kc
 unfold KE storeV at kc
 dsimp only at kc
 have hDc:=hD8a.below hbc
 have hSc:=hS8a.below hbc
 have HWC:=zh hwc
 clear hv hsv hsp hcv hwc hgc hbc
 go_wp2_with (with_reducible refine wp_buildSlice_r 22 1 [(0,.tmp 35)] hbs rfl ?_;refine Halt.in ?_)
 refine Halt.out ?_
 clear hbs
 go_wp2_with fail
 refine kc.mono ?_
 rintro e w7b ⟨⟨v7,sv7,rfl,hd7,hs7⟩,hb7⟩
 clear kc C0 C1 C2 C3 F0 F1 F2 F3 F4
 obtain⟨p3,q3,p4,q4,rfl,_,_⟩:=hd7.parts
 have hb07:=hb0c.trans (hb7.mono hb0c.size)
 obtain⟨wa,wb,st1,st2,HX⟩:=pack_DS (hDc.below hb7) (hSc.below hb7) hDS hd7 hs7
 have ST2:=zh st2
 clear st2
 go_wp2_with (with_reducible refine wp_store_r (.tmp 1) (.tmp 38) 38 st1 rfl rfl ?_;refine Halt.in ?_)
 refine Halt.out ?_
 have st2:=ST2.out
 clear st1
 go_wp2_with (with_reducible refine wp_store_r (.tmp 3) (.tmp 39) 44 st2 rfl rfl ?_;refine Halt.in ?_)
 refine Halt.out ?_
 clear st2 ST2
 go_upto_region 5 with (fail)
 obtain⟨hD8b,hS8b,hz8,hk8,hbb8⟩:=HX.out
 have hb08b:=hbb8 w.heap.size w hb07 hDw hSw
 clear hz8 hk8 hbb8 HX hDc hSc hd7 hs7 hb7 hb07 hb0c hD8a hS8a hb08a HWC
 obtain⟨wC,hwC⟩:∃ x,x=wb:=⟨_,rfl⟩
 subst hwC
 obtain⟨da,na,db,nb,TD,hv⟩:=id hD8b
 obtain⟨C0,C1,C2,C3,_⟩:=Four.of TD
 clear TD
 have ko:=kopen_any _ d3 wC hv (HT.out.below hb08b hT) (Nat.lt_of_lt_of_le hT hb08b.size)
 rw [HP4.out] at ko
 unfold KE at ko
 dsimp only at ko
 clear hv
 go_wp2_with fail
 refine ko.mono ?_
 rintro e w9 ⟨⟨v9,sv9,rfl,hd9,hs9⟩,hb9⟩
 clear ko C0 C1 C2 C3
 obtain⟨p3,q3,p4,q4,rfl,_,_⟩:=hd9.parts
 obtain⟨wD,D2,HWc,HGc,hDD,hbD,ltD,leD⟩:=fresh_disk w9
 obtain⟨wE,S2,HWd,HGd,hSE,hbE,ltE,leE⟩:=fresh_store wD
 have hb9E:=hbD.trans (hbE.mono hbD.size)
 have hS9:=(hS8b.below hb9).below hb9E
 have hb0E:=(hb08b.trans (hb9.mono hb08b.size)).trans (hb9E.mono (Nat.le_trans hb08b.size hb9.size))
 have hs0:=Nat.le_trans hb08b.size hb9.size
 have hSlt:=(hS8b.below hb9).lt
 go_wp2_with (with_reducible refine wp_alloc_to (w':=wD) 38 rfl rfl (zero_disk _) HWc.out ?_;refine Halt.in ?_)
 refine Halt.out ?_
 rw [← HGc.out]
 go_wp2_with (with_reducible refine wp_alloc_to (w':=wE) 44 rfl rfl (zero_store _) HWd.out ?_;refine Halt.in ?_)
 refine Halt.out ?_
 rw [← HGd.out]
 obtain⟨wa,wb,st1,st2,HX⟩:=pack_DS (hDD.below hbE) hSE (show D2≠S2 by omega) (hd9.below hb9E).tight (hs9.below hb9E).tight
 have ST2:=zh st2
 clear st2
 go_wp2_with (with_reducible refine wp_store_r (.tmp 7) (.tmp 44) 38 st1 rfl rfl ?_;refine Halt.in ?_)
 refine Halt.out ?_
 have st2:=ST2.out
 clear st1
 go_wp2_with (with_reducible refine wp_store_r (.tmp 8) (.tmp 45) 44 st2 rfl rfl ?_;refine Halt.in ?_)
 refine Halt.out ?_
 clear st2 ST2
 go_upto_region 6 with (fail)
 obtain⟨wF,hwF⟩:∃ x,x=wb:=⟨_,rfl⟩
 subst hwF
 obtain⟨_,hSF,hzF,hkF,hbbF⟩:=HX.out
 have hb0F:=hbbF w.heap.size w hb0E (by omega) (by omega)
 obtain⟨sa2,sc2,TS2,hsp2⟩:=id hS9
 have TS3:=(hkF S (by omega) (by omega)).trans TS2
 clear TS2 hsp2 HX hzF hkF hbbF hDD hSE hbD hbE hb9E hd9 hs9 hb9 hS9 hS8b hD8b hb08b hb0E
 obtain⟨sa,sc,TS,hsp⟩:=id hSF
 have F0:=cR wF _ 0 _ _ _ TS
 have F1:=cR wF _ 1 _ _ _ TS
 have F2:=cR wF _ 2 _ _ _ TS
 have F3:=cR wF _ 3 _ _ _ TS
 have F4:=cR wF _ 4 _ _ _ TS
 clear TS
 have hsv:StoreV wF.heap.size wF (storeV l4 (.slice sa prB.length sc)) ⟨l4,prB⟩:=⟨_,rfl,hsp⟩
 have kg:=get_any _ ⟨l4,prB⟩ [98] wF hsv (show Rising prB by decide) (show prB.length≤2^20 by decide)
 rw [show getP (⟨l4,prB⟩:StoreP).pairs [98]=some [50] from rfl] at kg
 unfold storeV at kg
 rw [show str [98] = .string ⟨#[98]⟩ from rfl,show str ((some [50]:Option (List UInt8)).getD []) = .string ⟨#[50]⟩ from rfl] at kg
 dsimp only [Option.isSome] at kg
 have HTS3:=zh TS3
 have HSF:=zh hSF
 clear hsv hsp TS3 hSF
 go_wp2_with fail
 refine kg.mono ?_
 rintro e wG ⟨rfl,hbG⟩
 clear kg F0 F1 F2 F3 F4
 have hb0G:=hb0F.trans (hbG.mono hb0F.size)
 have T1:=(hbG.block _ (zB HTS3.out)).trans HTS3.out
 obtain⟨sa,sc,TS,_⟩:=id (HSF.out.below hbG)
 have F4:=cR wG _ 4 _ _ _ TS
 have G4:=cR wG _ 4 _ _ _ T1
 have F4':wG.cell? ⟨S2,4,none⟩=some (.slice sa 1 sc):=F4
 have G4':wG.cell? ⟨S,4,none⟩=some (.slice sa2 1 sc2):=G4
 clear F4 G4 TS T1 hbG
 go_wp2_with fail
 go_ret
 exact⟨rfl,hb0G⟩
end
end Go.Proofs.YtaijompnohkmaaaGreatDoor
