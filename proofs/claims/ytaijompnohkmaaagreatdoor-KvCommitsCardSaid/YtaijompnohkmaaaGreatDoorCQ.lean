/- Layer 6 (kv), the document's answer: Commit. -/
import Derived.Test.YtaijompnohkmaaaGreatDoorCP
import Derived.Test.YtaijompnohkmaaaGreatDoorCards
import Derived.Test.YtaijompnohkmaaaGreatDoorTie
import Derived.Deep.DeepHandedRow
import Derived.Lib.LaidTab
import Derived.ChangeSame
import Derived.OpenShut
set_option linter.unusedSimpArgs false
set_option linter.unusedVariables false
namespace Go.Proofs.YtaijompnohkmaaaGreatDoor
section
open Go.RowKit KvP PackP WalP
set_option maxRecDepth 100000 in
set_option maxHeartbeats 16000000 in
theorem rkcommit_any {B B' B2:Nat} (v sv cv:Value) (d:DiskP) (s:StoreP) (c:List ChangeP) (w:World) (hd:DiskV B w v d) (hs:StoreV B' w sv s) (hc:ChangesV B2 w cv c) :
  Calls Tryz.prog 25 #[v,sv,cv] w (KE w (commitK d s c)):=by
 have hd:=hd.tight
 have hc:=hc.tight
 obtain⟨pv,rfl,hp⟩:=hs
 have hp:=hp.tight
 obtain⟨p1,q1,p2,q2,rfl,_,_⟩:=hd.parts
 obtain⟨pa,pc,rfl,hpc⟩:=pairs_len hp
 obtain⟨_,ca,cc,rfl,hcc,hcm,_⟩:=id hc
 obtain⟨n,hn⟩:∃ n,n=s.pairs.length:=⟨_,rfl⟩
 rw [← hn] at hp hpc ⊢
 obtain⟨nc,hnc⟩:∃ n,n=c.length:=⟨_,rfl⟩
 rw [← hnc] at hc hcc ⊢
 unfold storeV
 obtain⟨w1,hw1,hb1,hs1,R0,R1,R2,R3⟩:=fourB w (.cells #[.slice p1 d.secs.length q1,.slice p2 d.loose.length q2,.int .i64 d.fuse,.bool d.down] 38) (.cells #[.int .i64 s.log.half,.int .i64 s.log.gen,.int .i64 s.log.used,.int .i64 s.log.count,.slice pa n pc] 44) (.cells #[.slice none 0 0,.slice none 0 0,.int .i64 0,.bool false] 38) (.cells #[.int .i64 0,.int .i64 0,.int .i64 0,.int .i64 0,.slice none 0 0] 44)
 obtain⟨K0,hK0⟩:∃ x,x=commitK d s c:=⟨_,rfl⟩
 rw [← hK0]
 have hD1:DAt w1 w.heap.size d:=⟨p1,q1,p2,q2,R0,(hd.below hb1).tight⟩
 have HK0:=zh hK0
 have HW1:=zh hw1
 have HS1:=zh hs1
 have HD:=zh hD1
 have HSB:=zh R1
 have HRC:=zh R2
 have HRS:=zh R3
 have HPV:=zh hp
 have HCV:=zh hc
 have HB1:=zh hb1
 have HN:=zh hn
 have HNC:=zh hnc
 clear hw1 hs1 hK0 R0 R1 R2 R3 hp hc hd hD1 hb1 hn hnc
 go_enter Tryz.func25,Tryz.ntmps25
 go_upto_region 1 with (fail)
 rw [← HW1.out]
 have HB2:=zh (Below.refl w1.heap.size w1)
 have hs1:=HS1.out
 have hS2:=HSB.out
 obtain⟨da,na,db,nb,TD,hv⟩:=id HD.out
 have C0:=cR w1 _ 0 _ _ _ TD
 have C1:=cR w1 _ 1 _ _ _ TD
 have C2:=cR w1 _ 2 _ _ _ TD
 have C3:=cR w1 _ 3 _ _ _ TD
 have F0:=cR w1 _ 0 _ _ _ hS2
 have F1:=cR w1 _ 1 _ _ _ hS2
 have F2:=cR w1 _ 2 _ _ _ hS2
 have F3:=cR w1 _ 3 _ _ _ hS2
 have F4:=cR w1 _ 4 _ _ _ hS2
 have hSV:StoreV w.heap.size w1 (storeV s.log (.slice pa n pc)) s:=⟨_,rfl,HPV.out.below HB1.out⟩
 have kr:=rkright_any _ _ d s w1 hv hSV
 unfold storeV at kr
 obtain⟨R,hR⟩:∃ x,x=rightS d s:=⟨_,rfl⟩
 rw [← hR] at kr
 have HR:=zh hR
 clear hR hSV hv TD hS2 hs1
 go_wp2_with fail
 refine kr.mono ?_
 rintro e w2 ⟨rfl,hb2⟩
 clear kr C0 C1 C2 C3 F0 F1 F2 F3 F4 HB2
 have HB2:=zh hb2
 clear hb2
 cases R with
 | false =>
  have hs1:=HS1.out
  have hDx:=HD.out.below HB2.out
  have hSx:=(HB2.out.block _ (by omega)).trans HSB.out
  have hRC:=(HB2.out.block _ (by omega)).trans HRC.out
  have hRS:=(HB2.out.block _ (by omega)).trans HRS.out
  have hbx:=HB1.out.trans (HB2.out.mono HB1.out.size)
  have HKF:=zh (show K0=(d,s,1) from by rw [HK0.out];unfold commitK;rw [← HR.out,Bool.and_false];rfl)
  obtain⟨a0,n0,b0,m0,TX,hvX⟩:=id hDx
  have s0:zK (w.heap.size+1+1) (w.heap.size+1+1+1) w2 w2.drew:=zK.drew (zK.refl _ _ _)
  obtain⟨wa,wb,st1,st2,ka,kb,HLD⟩:=laid_DS (wx:=w2.drew) (a0:=a0) (a1:=b0) (n0:=n0) (n1:=m0) (d:=d) (l:=s.log) (pv:=(.slice pa n pc)) (s:=s.pairs) hRC rfl hRS rfl (by omega) ((hvX.below (zD (Below.refl _ _) 1)).tight) ⟨pa,pc,by rw [← HN.out]⟩ (fun w' hk hz=>PairsV.keptBut (HPV.out.below (show Below w.heap.size w w2.drew from hbx.trans (zD (Below.refl _ _) 1))) hk (by omega) (by omega))
  have sa:zK (w.heap.size+1+1) (w.heap.size+1+1+1) w2 wa:=zK.trans_ s0 (fun k h1 _=>ka k h1)
  have sb:zK (w.heap.size+1+1) (w.heap.size+1+1+1) w2 wb:=zK.trans_ s0 kb
  have X0:∀ w':World,zK (w.heap.size+1+1) (w.heap.size+1+1+1) w2 w'→w'.cell? ⟨w.heap.size,0,none⟩=some (.slice a0 d.secs.length n0):=fun w' h=>cR w' _ 0 _ _ _ ((h w.heap.size (by omega) (by omega)).trans TX)
  have X1:∀ w':World,zK (w.heap.size+1+1) (w.heap.size+1+1+1) w2 w'→w'.cell? ⟨w.heap.size,1,none⟩=some (.slice b0 d.loose.length m0):=fun w' h=>cR w' _ 1 _ _ _ ((h w.heap.size (by omega) (by omega)).trans TX)
  have X2:∀ w':World,zK (w.heap.size+1+1) (w.heap.size+1+1+1) w2 w'→w'.cell? ⟨w.heap.size,2,none⟩=some (.int .i64 d.fuse):=fun w' h=>cR w' _ 2 _ _ _ ((h w.heap.size (by omega) (by omega)).trans TX)
  have X3:∀ w':World,zK (w.heap.size+1+1) (w.heap.size+1+1+1) w2 w'→w'.cell? ⟨w.heap.size,3,none⟩=some (.bool d.down):=fun w' h=>cR w' _ 3 _ _ _ ((h w.heap.size (by omega) (by omega)).trans TX)
  have N0:∀ w':World,zK (w.heap.size+1+1) (w.heap.size+1+1+1) w2 w'→w'.cell? ⟨w.heap.size+1,0,none⟩=some (.int .i64 s.log.half):=fun w' h=>cR w' _ 0 _ _ _ ((h (w.heap.size+1) (by omega) (by omega)).trans hSx)
  have N1:∀ w':World,zK (w.heap.size+1+1) (w.heap.size+1+1+1) w2 w'→w'.cell? ⟨w.heap.size+1,1,none⟩=some (.int .i64 s.log.gen):=fun w' h=>cR w' _ 1 _ _ _ ((h (w.heap.size+1) (by omega) (by omega)).trans hSx)
  have N2:∀ w':World,zK (w.heap.size+1+1) (w.heap.size+1+1+1) w2 w'→w'.cell? ⟨w.heap.size+1,2,none⟩=some (.int .i64 s.log.used):=fun w' h=>cR w' _ 2 _ _ _ ((h (w.heap.size+1) (by omega) (by omega)).trans hSx)
  have N3:∀ w':World,zK (w.heap.size+1+1) (w.heap.size+1+1+1) w2 w'→w'.cell? ⟨w.heap.size+1,3,none⟩=some (.int .i64 s.log.count):=fun w' h=>cR w' _ 3 _ _ _ ((h (w.heap.size+1) (by omega) (by omega)).trans hSx)
  have N4:∀ w':World,zK (w.heap.size+1+1) (w.heap.size+1+1+1) w2 w'→w'.cell? ⟨w.heap.size+1,4,none⟩=some (.slice pa n pc):=fun w' h=>cR w' _ 4 _ _ _ ((h (w.heap.size+1) (by omega) (by omega)).trans hSx)
  have HBZ:=zh (HLD.out.2.2.2.2 w.heap.size w ((hbx).trans (zD (Below.refl _ _) 1)) (by omega) (by omega))
  clear ka kb TX hvX
  go_wp2_with fail
  refine zI [(false,0),(false,1),(true,2),(true,3),(false,4)] (zK (w.heap.size+1+1) (w.heap.size+1+1+1) w2) (by kernel_rfl) (by kernel_rfl) s0 ?_
  repeat (first | (refine zS rfl rfl ?_;simp only [Act.put,zq1,zq2,zq3]) | (refine zT rfl ?_ rfl (fun w' hw'=>?_) ?_;rotate_left;(go_simp;first | done | with_reducible rfl);(try simp only [Act.put,zq1,zq2,zq3])))
  refine zA rfl rfl fun K hK=>?_
  refine op_store (.tmp 6) (.tmp 23) 38 rfl rfl rfl st1 ?_
  refine hK.out _ _ sa ?_
  clear hK K st1
  simp only [Act.put,zq1,zq2,zq3]
  refine zA rfl rfl fun K hK=>?_
  refine op_store (.tmp 7) (.tmp 24) 44 rfl rfl rfl st2 ?_
  refine hK.out _ _ sb ?_
  clear hK K st2
  simp only [Act.put,zq1,zq2,zq3]
  repeat (first | (refine zS rfl rfl ?_;simp only [Act.put,zq1,zq2,zq3]) | (refine zT rfl ?_ rfl (fun w' hw'=>?_) ?_;rotate_left;(go_simp;first | done | with_reducible rfl);(try simp only [Act.put,zq1,zq2,zq3])))
  refine zN ?_
  go_wp2_with fail
  refine bodyPost_ret (results_cct rfl _ _ (w.heap.size+1+1) (w.heap.size+1+1+1) _ _ _ _ _ _ _ _ rfl rfl HLD.out.1 HLD.out.2.1 Tryz.underlying38 rfl zQ Tryz.underlying44 rfl size_store) rfl ?_
  rw [HKF.out]
  exact⟨⟨_,_,rfl,HLD.out.2.2.1,HLD.out.2.2.2.1⟩,HBZ.out⟩
 | true =>
  have hbx2:=HB1.out.trans (HB2.out.mono HB1.out.size)
  have kc:=refchanges_any _ c w2 (HCV.out.below hbx2)
  obtain⟨cb,hcb⟩:∃ x,x=changesB c:=⟨_,rfl⟩
  rw [← hcb] at kc
  have HCB:=zh hcb
  clear hcb hbx2
  go_wp2_with fail
  refine kc.mono ?_
  rintro e w3 ⟨rfl,hb3⟩
  clear kc
  have HB3:=zh (HB2.out.trans (hb3.mono HB2.out.size))
  clear hb3
  cases cb with
  | false =>
   have hs1:=HS1.out
   have hDx:=HD.out.below HB3.out
   have hSx:=(HB3.out.block _ (by omega)).trans HSB.out
   have hRC:=(HB3.out.block _ (by omega)).trans HRC.out
   have hRS:=(HB3.out.block _ (by omega)).trans HRS.out
   have hbx:=HB1.out.trans (HB3.out.mono HB1.out.size)
   have HKF:=zh (show K0=(d,s,1) from by rw [HK0.out];unfold commitK;rw [← HCB.out,← HR.out];rfl)
   obtain⟨a0,n0,b0,m0,TX,hvX⟩:=id hDx
   have s0:zK (w.heap.size+1+1) (w.heap.size+1+1+1) w3 w3.drew:=zK.drew (zK.refl _ _ _)
   obtain⟨wa,wb,st1,st2,ka,kb,HLD⟩:=laid_DS (wx:=w3.drew) (a0:=a0) (a1:=b0) (n0:=n0) (n1:=m0) (d:=d) (l:=s.log) (pv:=(.slice pa n pc)) (s:=s.pairs) hRC rfl hRS rfl (by omega) ((hvX.below (zD (Below.refl _ _) 1)).tight) ⟨pa,pc,by rw [← HN.out]⟩ (fun w' hk hz=>PairsV.keptBut (HPV.out.below (show Below w.heap.size w w3.drew from hbx.trans (zD (Below.refl _ _) 1))) hk (by omega) (by omega))
   have sa:zK (w.heap.size+1+1) (w.heap.size+1+1+1) w3 wa:=zK.trans_ s0 (fun k h1 _=>ka k h1)
   have sb:zK (w.heap.size+1+1) (w.heap.size+1+1+1) w3 wb:=zK.trans_ s0 kb
   have X0:∀ w':World,zK (w.heap.size+1+1) (w.heap.size+1+1+1) w3 w'→w'.cell? ⟨w.heap.size,0,none⟩=some (.slice a0 d.secs.length n0):=fun w' h=>cR w' _ 0 _ _ _ ((h w.heap.size (by omega) (by omega)).trans TX)
   have X1:∀ w':World,zK (w.heap.size+1+1) (w.heap.size+1+1+1) w3 w'→w'.cell? ⟨w.heap.size,1,none⟩=some (.slice b0 d.loose.length m0):=fun w' h=>cR w' _ 1 _ _ _ ((h w.heap.size (by omega) (by omega)).trans TX)
   have X2:∀ w':World,zK (w.heap.size+1+1) (w.heap.size+1+1+1) w3 w'→w'.cell? ⟨w.heap.size,2,none⟩=some (.int .i64 d.fuse):=fun w' h=>cR w' _ 2 _ _ _ ((h w.heap.size (by omega) (by omega)).trans TX)
   have X3:∀ w':World,zK (w.heap.size+1+1) (w.heap.size+1+1+1) w3 w'→w'.cell? ⟨w.heap.size,3,none⟩=some (.bool d.down):=fun w' h=>cR w' _ 3 _ _ _ ((h w.heap.size (by omega) (by omega)).trans TX)
   have N0:∀ w':World,zK (w.heap.size+1+1) (w.heap.size+1+1+1) w3 w'→w'.cell? ⟨w.heap.size+1,0,none⟩=some (.int .i64 s.log.half):=fun w' h=>cR w' _ 0 _ _ _ ((h (w.heap.size+1) (by omega) (by omega)).trans hSx)
   have N1:∀ w':World,zK (w.heap.size+1+1) (w.heap.size+1+1+1) w3 w'→w'.cell? ⟨w.heap.size+1,1,none⟩=some (.int .i64 s.log.gen):=fun w' h=>cR w' _ 1 _ _ _ ((h (w.heap.size+1) (by omega) (by omega)).trans hSx)
   have N2:∀ w':World,zK (w.heap.size+1+1) (w.heap.size+1+1+1) w3 w'→w'.cell? ⟨w.heap.size+1,2,none⟩=some (.int .i64 s.log.used):=fun w' h=>cR w' _ 2 _ _ _ ((h (w.heap.size+1) (by omega) (by omega)).trans hSx)
   have N3:∀ w':World,zK (w.heap.size+1+1) (w.heap.size+1+1+1) w3 w'→w'.cell? ⟨w.heap.size+1,3,none⟩=some (.int .i64 s.log.count):=fun w' h=>cR w' _ 3 _ _ _ ((h (w.heap.size+1) (by omega) (by omega)).trans hSx)
   have N4:∀ w':World,zK (w.heap.size+1+1) (w.heap.size+1+1+1) w3 w'→w'.cell? ⟨w.heap.size+1,4,none⟩=some (.slice pa n pc):=fun w' h=>cR w' _ 4 _ _ _ ((h (w.heap.size+1) (by omega) (by omega)).trans hSx)
   have HBZ:=zh (HLD.out.2.2.2.2 w.heap.size w ((hbx).trans (zD (Below.refl _ _) 1)) (by omega) (by omega))
   clear ka kb TX hvX
   go_wp2_with fail
   refine zI [(false,0),(false,1),(true,2),(true,3),(false,4)] (zK (w.heap.size+1+1) (w.heap.size+1+1+1) w3) (by kernel_rfl) (by kernel_rfl) s0 ?_
   repeat (first | (refine zS rfl rfl ?_;simp only [Act.put,zq1,zq2,zq3]) | (refine zT rfl ?_ rfl (fun w' hw'=>?_) ?_;rotate_left;(go_simp;first | done | with_reducible rfl);(try simp only [Act.put,zq1,zq2,zq3])))
   refine zA rfl rfl fun K hK=>?_
   refine op_store (.tmp 6) (.tmp 23) 38 rfl rfl rfl st1 ?_
   refine hK.out _ _ sa ?_
   clear hK K st1
   simp only [Act.put,zq1,zq2,zq3]
   refine zA rfl rfl fun K hK=>?_
   refine op_store (.tmp 7) (.tmp 24) 44 rfl rfl rfl st2 ?_
   refine hK.out _ _ sb ?_
   clear hK K st2
   simp only [Act.put,zq1,zq2,zq3]
   repeat (first | (refine zS rfl rfl ?_;simp only [Act.put,zq1,zq2,zq3]) | (refine zT rfl ?_ rfl (fun w' hw'=>?_) ?_;rotate_left;(go_simp;first | done | with_reducible rfl);(try simp only [Act.put,zq1,zq2,zq3])))
   refine zN ?_
   go_wp2_with fail
   refine bodyPost_ret (results_cct rfl _ _ (w.heap.size+1+1) (w.heap.size+1+1+1) _ _ _ _ _ _ _ _ rfl rfl HLD.out.1 HLD.out.2.1 Tryz.underlying38 rfl zQ Tryz.underlying44 rfl size_store) rfl ?_
   rw [HKF.out]
   exact⟨⟨_,_,rfl,HLD.out.2.2.1,HLD.out.2.2.2.1⟩,HBZ.out⟩
  | true =>
   have hs1:=HS1.out
   have hbx3:=HB1.out.trans (HB3.out.mono HB1.out.size)
   have ke:=refencode_any _ c w3 (HCV.out.below hbx3)
   obtain⟨en,hen⟩:∃ x,x=encodeP c:=⟨_,rfl⟩
   rw [← hen] at ke
   have HEN:=zh hen
   clear hen hbx3 hs1
   go_wp2_with fail
   refine ke.mono ?_
   rintro e w4 ⟨⟨bv,rfl,hbv⟩,hb4⟩
   clear ke
   have HB4:=zh (HB3.out.trans (hb4.mono HB3.out.size))
   have HBV:=zh hbv.bytes
   clear hb4 hbv
   by_cases he:en.2=0
   rotate_left
   ·have q0:(en.2 != 0)=true:=by simp [he]
    have HE:=zh he
    clear he
    have hs1:=HS1.out
    have hDx:=HD.out.below HB4.out
    have hSx:=(HB4.out.block _ (by omega)).trans HSB.out
    have hRC:=(HB4.out.block _ (by omega)).trans HRC.out
    have hRS:=(HB4.out.block _ (by omega)).trans HRS.out
    have hbx:=HB1.out.trans (HB4.out.mono HB1.out.size)
    have HKF:=zh (show K0=(d,s,en.2) from by rw [HK0.out];unfold commitK;rw [← HCB.out,← HR.out,← HEN.out];rw [if_neg HE.out];rfl)
    obtain⟨a0,n0,b0,m0,TX,hvX⟩:=id hDx
    have s0:zK (w.heap.size+1+1) (w.heap.size+1+1+1) w4 w4.drew:=zK.drew (zK.refl _ _ _)
    obtain⟨wa,wb,st1,st2,ka,kb,HLD⟩:=laid_DS (wx:=w4.drew) (a0:=a0) (a1:=b0) (n0:=n0) (n1:=m0) (d:=d) (l:=s.log) (pv:=(.slice pa n pc)) (s:=s.pairs) hRC rfl hRS rfl (by omega) ((hvX.below (zD (Below.refl _ _) 1)).tight) ⟨pa,pc,by rw [← HN.out]⟩ (fun w' hk hz=>PairsV.keptBut (HPV.out.below (show Below w.heap.size w w4.drew from hbx.trans (zD (Below.refl _ _) 1))) hk (by omega) (by omega))
    have sa:zK (w.heap.size+1+1) (w.heap.size+1+1+1) w4 wa:=zK.trans_ s0 (fun k h1 _=>ka k h1)
    have sb:zK (w.heap.size+1+1) (w.heap.size+1+1+1) w4 wb:=zK.trans_ s0 kb
    have X0:∀ w':World,zK (w.heap.size+1+1) (w.heap.size+1+1+1) w4 w'→w'.cell? ⟨w.heap.size,0,none⟩=some (.slice a0 d.secs.length n0):=fun w' h=>cR w' _ 0 _ _ _ ((h w.heap.size (by omega) (by omega)).trans TX)
    have X1:∀ w':World,zK (w.heap.size+1+1) (w.heap.size+1+1+1) w4 w'→w'.cell? ⟨w.heap.size,1,none⟩=some (.slice b0 d.loose.length m0):=fun w' h=>cR w' _ 1 _ _ _ ((h w.heap.size (by omega) (by omega)).trans TX)
    have X2:∀ w':World,zK (w.heap.size+1+1) (w.heap.size+1+1+1) w4 w'→w'.cell? ⟨w.heap.size,2,none⟩=some (.int .i64 d.fuse):=fun w' h=>cR w' _ 2 _ _ _ ((h w.heap.size (by omega) (by omega)).trans TX)
    have X3:∀ w':World,zK (w.heap.size+1+1) (w.heap.size+1+1+1) w4 w'→w'.cell? ⟨w.heap.size,3,none⟩=some (.bool d.down):=fun w' h=>cR w' _ 3 _ _ _ ((h w.heap.size (by omega) (by omega)).trans TX)
    have N0:∀ w':World,zK (w.heap.size+1+1) (w.heap.size+1+1+1) w4 w'→w'.cell? ⟨w.heap.size+1,0,none⟩=some (.int .i64 s.log.half):=fun w' h=>cR w' _ 0 _ _ _ ((h (w.heap.size+1) (by omega) (by omega)).trans hSx)
    have N1:∀ w':World,zK (w.heap.size+1+1) (w.heap.size+1+1+1) w4 w'→w'.cell? ⟨w.heap.size+1,1,none⟩=some (.int .i64 s.log.gen):=fun w' h=>cR w' _ 1 _ _ _ ((h (w.heap.size+1) (by omega) (by omega)).trans hSx)
    have N2:∀ w':World,zK (w.heap.size+1+1) (w.heap.size+1+1+1) w4 w'→w'.cell? ⟨w.heap.size+1,2,none⟩=some (.int .i64 s.log.used):=fun w' h=>cR w' _ 2 _ _ _ ((h (w.heap.size+1) (by omega) (by omega)).trans hSx)
    have N3:∀ w':World,zK (w.heap.size+1+1) (w.heap.size+1+1+1) w4 w'→w'.cell? ⟨w.heap.size+1,3,none⟩=some (.int .i64 s.log.count):=fun w' h=>cR w' _ 3 _ _ _ ((h (w.heap.size+1) (by omega) (by omega)).trans hSx)
    have N4:∀ w':World,zK (w.heap.size+1+1) (w.heap.size+1+1+1) w4 w'→w'.cell? ⟨w.heap.size+1,4,none⟩=some (.slice pa n pc):=fun w' h=>cR w' _ 4 _ _ _ ((h (w.heap.size+1) (by omega) (by omega)).trans hSx)
    have HBZ:=zh (HLD.out.2.2.2.2 w.heap.size w ((hbx).trans (zD (Below.refl _ _) 1)) (by omega) (by omega))
    clear ka kb TX hvX
    go_wp2_with fail
    refine zI [(false,0),(false,1),(false,2),(true,3),(true,4),(false,5)] (zK (w.heap.size+1+1) (w.heap.size+1+1+1) w4) (by kernel_rfl) (by kernel_rfl) s0 ?_
    repeat (first | (refine zS rfl rfl ?_;simp only [Act.put,zq1,zq2,zq3]) | (refine zT rfl ?_ rfl (fun w' hw'=>?_) ?_;rotate_left;(go_simp;first | done | with_reducible rfl);(try simp only [Act.put,zq1,zq2,zq3])))
    refine zA rfl rfl fun K hK=>?_
    refine op_store (.tmp 6) (.tmp 32) 38 rfl rfl rfl st1 ?_
    refine hK.out _ _ sa ?_
    clear hK K st1
    simp only [Act.put,zq1,zq2,zq3]
    refine zA rfl rfl fun K hK=>?_
    refine op_store (.tmp 7) (.tmp 33) 44 rfl rfl rfl st2 ?_
    refine hK.out _ _ sb ?_
    clear hK K st2
    simp only [Act.put,zq1,zq2,zq3]
    repeat (first | (refine zS rfl rfl ?_;simp only [Act.put,zq1,zq2,zq3]) | (refine zT rfl ?_ rfl (fun w' hw'=>?_) ?_;rotate_left;(go_simp;first | done | with_reducible rfl);(try simp only [Act.put,zq1,zq2,zq3])))
    refine zN ?_
    go_wp2_with fail
    refine bodyPost_ret (results_cct rfl _ _ (w.heap.size+1+1) (w.heap.size+1+1+1) _ _ _ _ _ _ _ _ rfl rfl HLD.out.1 HLD.out.2.1 Tryz.underlying38 rfl zQ Tryz.underlying44 rfl size_store) rfl ?_
    rw [HKF.out]
    exact⟨⟨_,_,rfl,HLD.out.2.2.1,HLD.out.2.2.2.1⟩,HBZ.out⟩
   ·have q0:(en.2 != 0)=false:=by simp [he]
    have HE:=zh he
    have hs1:=HS1.out
    have hbx4:=HB1.out.trans (HB4.out.mono HB1.out.size)
    have hS4:=(HB4.out.block _ (by omega)).trans HSB.out
    have F4:=cR w4 _ 4 _ _ _ hS4
    have hrs:pairsB s.pairs=true:=by
     have:=HR.out.symm
     unfold rightS at this
     rw [Bool.and_eq_true] at this
     exact this.2
    have hrl:rightL d s.log=true:=by
     have:=HR.out.symm
     unfold rightS at this
     rw [Bool.and_eq_true] at this
     exact this.1
    obtain⟨pl1,pl2,pl3⟩:=pairs_lens hrs
    obtain⟨cl1,cl2⟩:=changesB_len HCB.out.symm
    have kk:=refdo_any _ _ s.pairs c w4 (HPV.out.below hbx4) (HCV.out.below hbx4) pl2 (by omega) (by omega)
    obtain⟨P2,hP2⟩:∃ x,x=doP s.pairs c:=⟨_,rfl⟩
    rw [← hP2] at kk
    have HP2:=zh hP2
    clear he hP2 pl1 pl2 pl3 cl1 cl2 hrs hrl hbx4 hS4 hs1
    go_wp2_with fail
    refine kk.mono ?_
    rintro e w5 ⟨x5,rfl,hP5,hb5⟩
    clear kk F4
    have HB5:=zh (HB4.out.trans (hb5.mono HB4.out.size))
    have HP5:=zh (Own.lower hP5 HB4.out.size)
    have HBV5:=zh (HBV.out.below hb5).tight
    have kp:=refpairs_any _ P2 w5 (PairsO.v hP5)
    obtain⟨pb,hpb⟩:∃ x,x=pairsB P2:=⟨_,rfl⟩
    rw [← hpb] at kp
    have HPB:=zh hpb
    clear hb5 hP5 hpb HBV
    go_wp2_with fail
    refine kp.mono ?_
    rintro e w6 ⟨rfl,hb6⟩
    clear kp
    have HB6:=zh (HB5.out.trans (hb6.mono HB5.out.size))
    have HP6:=zh (Own.below HP5.out hb6 (Nat.le_refl _))
    have HBV6:=zh (HBV5.out.below hb6).tight
    clear hb6 HP5 HBV5 HB5
    cases pb with
    | false =>
     have hs1:=HS1.out
     have hDx:=HD.out.below HB6.out
     have hSx:=(HB6.out.block _ (by omega)).trans HSB.out
     have hRC:=(HB6.out.block _ (by omega)).trans HRC.out
     have hRS:=(HB6.out.block _ (by omega)).trans HRS.out
     have hbx:=HB1.out.trans (HB6.out.mono HB1.out.size)
     have HKF:=zh (show K0=(d,s,8) from by rw [HK0.out];unfold commitK;rw [← HCB.out,← HR.out,← HEN.out,← HP2.out,← HPB.out];rw [if_pos HE.out];rfl)
     obtain⟨a0,n0,b0,m0,TX,hvX⟩:=id hDx
     have s0:zK (w.heap.size+1+1) (w.heap.size+1+1+1) w6 w6.drew:=zK.drew (zK.refl _ _ _)
     obtain⟨wa,wb,st1,st2,ka,kb,HLD⟩:=laid_DS (wx:=w6.drew) (a0:=a0) (a1:=b0) (n0:=n0) (n1:=m0) (d:=d) (l:=s.log) (pv:=(.slice pa n pc)) (s:=s.pairs) hRC rfl hRS rfl (by omega) ((hvX.below (zD (Below.refl _ _) 1)).tight) ⟨pa,pc,by rw [← HN.out]⟩ (fun w' hk hz=>PairsV.keptBut (HPV.out.below (show Below w.heap.size w w6.drew from hbx.trans (zD (Below.refl _ _) 1))) hk (by omega) (by omega))
     have sa:zK (w.heap.size+1+1) (w.heap.size+1+1+1) w6 wa:=zK.trans_ s0 (fun k h1 _=>ka k h1)
     have sb:zK (w.heap.size+1+1) (w.heap.size+1+1+1) w6 wb:=zK.trans_ s0 kb
     have X0:∀ w':World,zK (w.heap.size+1+1) (w.heap.size+1+1+1) w6 w'→w'.cell? ⟨w.heap.size,0,none⟩=some (.slice a0 d.secs.length n0):=fun w' h=>cR w' _ 0 _ _ _ ((h w.heap.size (by omega) (by omega)).trans TX)
     have X1:∀ w':World,zK (w.heap.size+1+1) (w.heap.size+1+1+1) w6 w'→w'.cell? ⟨w.heap.size,1,none⟩=some (.slice b0 d.loose.length m0):=fun w' h=>cR w' _ 1 _ _ _ ((h w.heap.size (by omega) (by omega)).trans TX)
     have X2:∀ w':World,zK (w.heap.size+1+1) (w.heap.size+1+1+1) w6 w'→w'.cell? ⟨w.heap.size,2,none⟩=some (.int .i64 d.fuse):=fun w' h=>cR w' _ 2 _ _ _ ((h w.heap.size (by omega) (by omega)).trans TX)
     have X3:∀ w':World,zK (w.heap.size+1+1) (w.heap.size+1+1+1) w6 w'→w'.cell? ⟨w.heap.size,3,none⟩=some (.bool d.down):=fun w' h=>cR w' _ 3 _ _ _ ((h w.heap.size (by omega) (by omega)).trans TX)
     have N0:∀ w':World,zK (w.heap.size+1+1) (w.heap.size+1+1+1) w6 w'→w'.cell? ⟨w.heap.size+1,0,none⟩=some (.int .i64 s.log.half):=fun w' h=>cR w' _ 0 _ _ _ ((h (w.heap.size+1) (by omega) (by omega)).trans hSx)
     have N1:∀ w':World,zK (w.heap.size+1+1) (w.heap.size+1+1+1) w6 w'→w'.cell? ⟨w.heap.size+1,1,none⟩=some (.int .i64 s.log.gen):=fun w' h=>cR w' _ 1 _ _ _ ((h (w.heap.size+1) (by omega) (by omega)).trans hSx)
     have N2:∀ w':World,zK (w.heap.size+1+1) (w.heap.size+1+1+1) w6 w'→w'.cell? ⟨w.heap.size+1,2,none⟩=some (.int .i64 s.log.used):=fun w' h=>cR w' _ 2 _ _ _ ((h (w.heap.size+1) (by omega) (by omega)).trans hSx)
     have N3:∀ w':World,zK (w.heap.size+1+1) (w.heap.size+1+1+1) w6 w'→w'.cell? ⟨w.heap.size+1,3,none⟩=some (.int .i64 s.log.count):=fun w' h=>cR w' _ 3 _ _ _ ((h (w.heap.size+1) (by omega) (by omega)).trans hSx)
     have N4:∀ w':World,zK (w.heap.size+1+1) (w.heap.size+1+1+1) w6 w'→w'.cell? ⟨w.heap.size+1,4,none⟩=some (.slice pa n pc):=fun w' h=>cR w' _ 4 _ _ _ ((h (w.heap.size+1) (by omega) (by omega)).trans hSx)
     have HBZ:=zh (HLD.out.2.2.2.2 w.heap.size w ((hbx).trans (zD (Below.refl _ _) 1)) (by omega) (by omega))
     clear ka kb TX hvX
     go_wp2_with fail
     refine zI [(false,0),(false,1),(true,2),(true,3),(false,4)] (zK (w.heap.size+1+1) (w.heap.size+1+1+1) w6) (by kernel_rfl) (by kernel_rfl) s0 ?_
     repeat (first | (refine zS rfl rfl ?_;simp only [Act.put,zq1,zq2,zq3]) | (refine zT rfl ?_ rfl (fun w' hw'=>?_) ?_;rotate_left;(go_simp;first | done | with_reducible rfl);(try simp only [Act.put,zq1,zq2,zq3])))
     refine zA rfl rfl fun K hK=>?_
     refine op_store (.tmp 6) (.tmp 42) 38 rfl rfl rfl st1 ?_
     refine hK.out _ _ sa ?_
     clear hK K st1
     simp only [Act.put,zq1,zq2,zq3]
     refine zA rfl rfl fun K hK=>?_
     refine op_store (.tmp 7) (.tmp 43) 44 rfl rfl rfl st2 ?_
     refine hK.out _ _ sb ?_
     clear hK K st2
     simp only [Act.put,zq1,zq2,zq3]
     repeat (first | (refine zS rfl rfl ?_;simp only [Act.put,zq1,zq2,zq3]) | (refine zT rfl ?_ rfl (fun w' hw'=>?_) ?_;rotate_left;(go_simp;first | done | with_reducible rfl);(try simp only [Act.put,zq1,zq2,zq3])))
     refine zN ?_
     go_wp2_with fail
     refine bodyPost_ret (results_cct rfl _ _ (w.heap.size+1+1) (w.heap.size+1+1+1) _ _ _ _ _ _ _ _ rfl rfl HLD.out.1 HLD.out.2.1 Tryz.underlying38 rfl zQ Tryz.underlying44 rfl size_store) rfl ?_
     rw [HKF.out]
     exact⟨⟨_,_,rfl,HLD.out.2.2.1,HLD.out.2.2.2.1⟩,HBZ.out⟩
    | true =>
     have hs1:=HS1.out
     have hD6:=HD.out.below HB6.out
     have hS6:=(HB6.out.block _ (by omega)).trans HSB.out
     obtain⟨da,na,db,nb,TD,hv⟩:=id hD6
     have C0:=cR w6 _ 0 _ _ _ TD
     have C1:=cR w6 _ 1 _ _ _ TD
     have C2:=cR w6 _ 2 _ _ _ TD
     have C3:=cR w6 _ 3 _ _ _ TD
     have F0:=cR w6 _ 0 _ _ _ hS6
     have F1:=cR w6 _ 1 _ _ _ hS6
     have F2:=cR w6 _ 2 _ _ _ hS6
     have F3:=cR w6 _ 3 _ _ _ hS6
     have ka:=refAppend_any _ _ d s.log en.1 w6 hv HBV6.out
     obtain⟨y,hy⟩:∃ x,x=appendP d s.log en.1:=⟨_,rfl⟩
     rw [← hy] at ka
     unfold DLE at ka
     simp only [logV] at ka
     have HY:=zh hy
     clear hy hv TD hD6 hS6 hs1
     go_wp2_with fail
     refine ka.mono ?_
     rintro e w7 ⟨⟨va,rfl,hda⟩,hb7⟩
     clear ka C0 C1 C2 C3 F0 F1 F2 F3
     obtain⟨y1,z1,y2,z2,rfl,_,_⟩:=hda.parts
     have HB7:=zh (HB6.out.trans (hb7.mono HB6.out.size))
     have HP7:=zh (Own.below HP6.out hb7 (Nat.le_refl _))
     obtain⟨w8,NB,HWc,HGc,hA8,hb8,lt8,le8⟩:=fresh_disk w7
     obtain⟨w9,LB,HWd,HGd,hB9,hb9,lt9,le9⟩:=fresh_log w8
     have hb79:=hb8.trans (hb9.mono hb8.size)
     have hne:NB≠LB:=by omega
     obtain⟨wF,x0,x1,x2,x3,hwF,⟨C0,C1,C2,C3,Z⟩,⟨N0,N1,N2,N3,Y⟩,HXF⟩:=pack_store y.2.1 (hA8.below hb9) hB9 (hda.below hb79).tight hne
     have hwF:=hwF.out
     try dsimp only at hwF
     have HWF:=zh hwF
     clear hwF
     go_wp2_with (with_reducible refine wp_alloc_to (w':=w8) 38 rfl rfl (zero_disk _) HWc.out ?_;refine Halt.in ?_)
     refine Halt.out ?_
     rw [← HGc.out]
     go_wp2_with (with_reducible refine wp_alloc_to (w':=w9) 41 rfl rfl (zero_log _) HWd.out ?_;refine Halt.in ?_)
     refine Halt.out ?_
     rw [← HGd.out]
     go_upto_region 10 with (fail)
     rw [← HWF.out]
     clear C0 C1 C2 C3 Z N0 N1 N2 N3 Y
     obtain⟨hDN,hLN,hzF,hkF,hbbF⟩:=HXF.out
     have hs7:=HB7.out.size
     have hb7F:Below w7.heap.size w7 wF:=hbbF w7.heap.size w7 hb79 le8 (by omega)
     have hBF:Below w1.heap.size w1 wF:=HB7.out.trans (hb7F.mono hs7)
     have hPF:PairsO w1.heap.size wF x5 P2:=Own.below HP7.out hb7F (Nat.le_refl _)
     have hs1:=HS1.out
     have hlN:w7.heap.size≤NB:=le8
     have hlL:w7.heap.size≤LB:=by omega
     have hltN:NB<wF.heap.size:=hDN.lt
     have hltL:LB<wF.heap.size:=hLN.lt
     obtain⟨pa2,pc2,hx5,_⟩:=pairs_len (PairsO.v hPF)
     subst hx5
     obtain⟨n2,hn2⟩:∃ n,n=P2.length:=⟨_,rfl⟩
     rw [← hn2] at hPF ⊢
     have HN2:=zh hn2
     have HPF:=zh hPF
     have HDN:=zh hDN
     have HLN:=zh hLN
     have HBF:=zh hBF
     obtain⟨y2v,hy2⟩:∃ x,x=if y.2.2=8 then compactP d s.log (snapP P2) else y:=⟨_,rfl⟩
     have HY2:=zh hy2
     have HLT:=zh (And.intro (And.intro hlN hlL) (And.intro (And.intro hltN hltL) (And.intro hne hs7)))
     clear hn2 hPF hDN hLN hBF hy2 hzF hkF hbbF HXF hb79 hb8 hb9 lt8 le8 lt9 le9 hA8 hB9 hda hb7 hs7 hs1 HBV6 hb7F hne hlN hlL hltN hltL
     go_upto_if 54 with (fail)
     go_cut [10] from 54 to 54 (fun s10 wx=>CommitMid w y2v NB LB wF wx s10)
     case first =>
      by_cases h8:y.2.2=8
      ·have q8:(y.2.2 == 8)=true:=by rw [h8];rfl
       have hcy:y2v=compactP d s.log (snapP P2):=by rw [HY2.out,if_pos h8]
       have hs1:=HS1.out
       obtain⟨⟨hlN,hlL⟩,⟨hltN,hltL⟩,hne,hs7⟩:=HLT.out
       obtain⟨da,na,db,nb,TD,hv⟩:=id (HD.out.below HBF.out)
       have hSF:=(HBF.out.block _ (by omega)).trans HSB.out
       have s0:KeptLow wF.heap.size NB LB wF wF.drew:=fun _ _ _ _=>rfl
       have X0:∀ w':World,KeptLow wF.heap.size NB LB wF w'→w'.cell? ⟨w.heap.size,0,none⟩=some (.slice da d.secs.length na):=fun w' h=>cR w' _ 0 _ _ _ ((h w.heap.size (by omega) (by omega) (by omega)).trans TD)
       have X1:∀ w':World,KeptLow wF.heap.size NB LB wF w'→w'.cell? ⟨w.heap.size,1,none⟩=some (.slice db d.loose.length nb):=fun w' h=>cR w' _ 1 _ _ _ ((h w.heap.size (by omega) (by omega) (by omega)).trans TD)
       have X2:∀ w':World,KeptLow wF.heap.size NB LB wF w'→w'.cell? ⟨w.heap.size,2,none⟩=some (.int .i64 d.fuse):=fun w' h=>cR w' _ 2 _ _ _ ((h w.heap.size (by omega) (by omega) (by omega)).trans TD)
       have X3:∀ w':World,KeptLow wF.heap.size NB LB wF w'→w'.cell? ⟨w.heap.size,3,none⟩=some (.bool d.down):=fun w' h=>cR w' _ 3 _ _ _ ((h w.heap.size (by omega) (by omega) (by omega)).trans TD)
       have N0:∀ w':World,KeptLow wF.heap.size NB LB wF w'→w'.cell? ⟨w.heap.size+1,0,none⟩=some (.int .i64 s.log.half):=fun w' h=>cR w' _ 0 _ _ _ ((h (w.heap.size+1) (by omega) (by omega) (by omega)).trans hSF)
       have N1:∀ w':World,KeptLow wF.heap.size NB LB wF w'→w'.cell? ⟨w.heap.size+1,1,none⟩=some (.int .i64 s.log.gen):=fun w' h=>cR w' _ 1 _ _ _ ((h (w.heap.size+1) (by omega) (by omega) (by omega)).trans hSF)
       have N2:∀ w':World,KeptLow wF.heap.size NB LB wF w'→w'.cell? ⟨w.heap.size+1,2,none⟩=some (.int .i64 s.log.used):=fun w' h=>cR w' _ 2 _ _ _ ((h (w.heap.size+1) (by omega) (by omega) (by omega)).trans hSF)
       have N3:∀ w':World,KeptLow wF.heap.size NB LB wF w'→w'.cell? ⟨w.heap.size+1,3,none⟩=some (.int .i64 s.log.count):=fun w' h=>cR w' _ 3 _ _ _ ((h (w.heap.size+1) (by omega) (by omega) (by omega)).trans hSF)
       have hpb:=pairsB_parts HPB.out.symm
       have hsm:=snapP_small HPB.out.symm
       have hPd:=Own.below HPF.out (zD (Below.refl wF.heap.size wF) 1) (Nat.le_refl _)
       have ks:=refsnapshot_any _ P2 wF.drew (PairsV.of_n HN2.out (Own.row hPd)) hpb.2.1 hpb.1
       have KS:=zh ks
       have HV:=zh hv
       have HCY:=zh hcy
       have HSM:=zh hsm
       clear ks hv hcy hsm hpb hPd h8 TD hSF hs1 hlN hlL hltN hltL hne hs7
       go_upto_region 11 with (fail)
       refine zI [(false,0),(false,1),(false,2),(false,3),(true,4),(true,5),(false,6),(false,7),(false,8),(false,9),(true,10),(true,11),(false,12)] (KeptLow wF.heap.size NB LB wF) (by kernel_rfl) (by kernel_rfl) s0 ?_
       repeat (first | (refine zS rfl rfl ?_;simp only [Act.put,zq1,zq2,zq3]) | (refine zT rfl ?_ rfl (fun w' hw'=>?_) ?_;rotate_left;(go_simp;first | done | with_reducible rfl);(try simp only [Act.put,zq1,zq2,zq3])))
       refine zA rfl rfl fun K hK=>?_
       go_simp
       refine KS.out.mono ?_
       rintro e wt1 ⟨u1,rfl,hu1,hbt1⟩
       have sb1:Below wF.heap.size wF wt1:=(zD (Below.refl _ _) 1).trans hbt1
       have s1:KeptLow wF.heap.size NB LB wF wt1:=fun k h1 _ _=>sb1.block k h1
       refine hK.out _ _ s1 ?_
       clear hK K hbt1
       repeat (first | (refine zS rfl rfl ?_;simp only [Act.put,zq1,zq2,zq3]) | (refine zT rfl ?_ rfl (fun w' hw'=>?_) ?_;rotate_left;(go_simp;first | done | with_reducible rfl);(try simp only [Act.put,zq1,zq2,zq3])))
       have kq:=refCompact_any _ _ d s.log (snapP P2) wt1 (HV.out.below sb1).tight hu1.pieces HSM.out.1 HSM.out.2
       rw [← HCY.out] at kq
       unfold DLE at kq
       simp only [logV] at kq
       refine zA rfl rfl fun K hK=>?_
       go_simp
       refine kq.mono ?_
       rintro e wt2 ⟨⟨vr,rfl,hdr⟩,hbt2⟩
       clear kq
       obtain⟨r1,r2,r3,r4,rfl,_,_⟩:=hdr.parts
       have sb2:Below wF.heap.size wF wt2:=sb1.trans (hbt2.mono sb1.size)
       have s2:KeptLow wF.heap.size NB LB wF wt2:=fun k h1 _ _=>sb2.block k h1
       refine hK.out _ _ s2 ?_
       clear hK K hbt2 hu1
       repeat (first | (refine zS rfl rfl ?_;simp only [Act.put,zq1,zq2,zq3]) | (refine zT rfl ?_ rfl (fun w' hw'=>?_) ?_;rotate_left;(go_simp;first | done | with_reducible rfl);(try simp only [Act.put,zq1,zq2,zq3])))
       obtain⟨⟨hlN,hlL⟩,⟨hltN,hltL⟩,hne,hs7⟩:=HLT.out
       obtain⟨_,_,_,_,hrN⟩:=HDN.out.row
       have hrN2:=(sb2.block _ hltN).trans hrN
       have hrL:wF.heap[LB]?=_:=HLN.out
       have hrL2:=(sb2.block _ hltL).trans hrL
       obtain⟨wx,hst,hnA,hbx,hzx,hkx,_⟩:=storeBig info_disk hrN2 rfl #[.slice r1 y2v.1.secs.length r2,.slice r3 y2v.1.loose.length r4,.int .i64 y2v.1.fuse,.bool y2v.1.down] rfl (ones4 rfl rfl rfl rfl)
       have hLx:wx.heap[LB]?=_:=(hkx LB (Ne.symm hne)).trans hrL2
       obtain⟨wy,hst2,hnB,hby,hzy,hky,_⟩:=storeBig info_log hLx rfl #[.int .i64 y2v.2.1.half,.int .i64 y2v.2.1.gen,.int .i64 y2v.2.1.used,.int .i64 y2v.2.1.count] rfl (ones4 rfl rfl rfl rfl)
       have hdx:=hdr.kept hrN2 (by simp) hkx
       have hdy:=hdx.kept hLx (by simp) hky
       have sx:KeptLow wF.heap.size NB LB wF wx:=fun k h1 h2 h3=>(hkx k h2).trans (s2 k h1 h2 h3)
       have sy:KeptLow wF.heap.size NB LB wF wy:=fun k h1 h2 h3=>(hky k h3).trans (sx k h1 h2 h3)
       have hs1:=HS1.out
       have hmid:CommitMid w y2v NB LB wF wy (.int .i64 y2v.2.2):=by
        refine⟨rfl,⟨r1,r2,r3,r4,(hky NB hne).trans hnA,by rw [hzy,hzx];exact hdy⟩,hnB,sy,?_,by rw [hzy,hzx];exact sb2.size⟩
        have b0:Below w.heap.size w wt2:=(HB1.out.trans (HBF.out.mono HB1.out.size)).trans (sb2.mono (Nat.le_trans HB1.out.size HBF.out.size))
        exact (b0.trans (hbx.mono (by omega))).trans (hby.mono (by omega))
       have HMID:=zh hmid
       refine zA rfl rfl fun K hK=>?_
       refine op_store (.tmp 12) (.tmp 62) 38 rfl rfl rfl hst ?_
       refine hK.out _ _ sx ?_
       clear hK K hst
       simp only [Act.put,zq1,zq2,zq3]
       refine zA rfl rfl fun K hK=>?_
       refine op_store (.tmp 13) (.tmp 63) 41 rfl rfl rfl hst2 ?_
       refine hK.out _ _ sy ?_
       clear hK K hst2
       simp only [Act.put,zq1,zq2,zq3]
       repeat (first | (refine zS rfl rfl ?_;simp only [Act.put,zq1,zq2,zq3]) | (refine zT rfl ?_ rfl (fun w' hw'=>?_) ?_;rotate_left;(go_simp;first | done | with_reducible rfl);(try simp only [Act.put,zq1,zq2,zq3])))
       refine zN ?_
       clear hmid hdx hdy hkx hky hnA hnB hrN hrN2 hrL hrL2 hLx hdr s0 s1 s2 sx sy X0 X1 X2 X3 N0 N1 N2 N3 sb1 sb2
       go_wp2_with fail
       go_meet
       case rel=>exact HMID.out
      ·have q8:(y.2.2 == 8)=false:=by rw [beq_eq_false_iff_ne];exact h8
       have hcy:y2v=y:=by rw [HY2.out,if_neg h8]
       subst hcy
       have HMID:=zh (show CommitMid w y2v NB LB wF wF (.int .i64 y2v.2.2) from ⟨rfl,HDN.out,HLN.out,fun _ _ _ _=>rfl,HB1.out.trans (HBF.out.mono HB1.out.size),Nat.le_refl _⟩)
       clear h8
       go_wp2_with fail
       go_meet
       case rel=>exact HMID.out
     case rest =>
      obtain⟨rfl,hDx,hLx,hkl,hbx,hsz⟩:=hcut
      obtain⟨⟨hlN,hlL⟩,⟨hltN,hltL⟩,hne,hs7⟩:=HLT.out
      have hs1:=HS1.out
      have hsF:=HBF.out.size
      have hSx:=(hkl (w.heap.size+1) (by omega) (by omega) (by omega)).trans ((HBF.out.block _ (by omega)).trans HSB.out)
      have hRC:=(hkl (w.heap.size+1+1) (by omega) (by omega) (by omega)).trans ((HBF.out.block _ (by omega)).trans HRC.out)
      have hRS:=(hkl (w.heap.size+1+1+1) (by omega) (by omega) (by omega)).trans ((HBF.out.block _ (by omega)).trans HRS.out)
      have hcm:commitK d s c=if y2v.2.2=0 then (y2v.1,⟨y2v.2.1,P2⟩,0) else (y2v.1,s,y2v.2.2):=by
       unfold commitK
       dsimp only
       rw [← HCB.out,← HR.out,← HEN.out,← HP2.out,← HPB.out,← HY.out,← HY2.out]
       rw [if_pos HE.out]
       rfl
      have HCM:=zh hcm
      obtain⟨_,_,_,_,hrN⟩:=HDN.out.row
      have hrL:wF.heap[LB]?=_:=HLN.out
      have hPX:PairsO w1.heap.size wc (.slice pa2 n2 pc2) P2:=Own.keptLow HPF.out hkl hrN (by decide) hrL (by decide)
      have HPX:=zh hPX
      clear hcm hrN hrL hPX
      by_cases he2:y2v.2.2=0
      rotate_left
      ·have q9:(y2v.2.2 != 0)=true:=by simp [he2]
       have HE2:=zh he2
       clear he2
       have HKF:=zh (show K0=(y2v.1,s,y2v.2.2) from by rw [HK0.out,HCM.out,if_neg HE2.out])
       obtain⟨a0,n0,b0,m0,TX,hvX⟩:=id hDx
       have s0:zK (w.heap.size+1+1) (w.heap.size+1+1+1) wc wc.drew:=zK.drew (zK.refl _ _ _)
       obtain⟨wa,wb,st1,st2,ka,kb,HLD⟩:=laid_DS (wx:=wc.drew) (a0:=a0) (a1:=b0) (n0:=n0) (n1:=m0) (d:=y2v.1) (l:=s.log) (pv:=(.slice pa n pc)) (s:=s.pairs) hRC rfl hRS rfl (by omega) ((hvX.below (zD (Below.refl _ _) 1)).tight) ⟨pa,pc,by rw [← HN.out]⟩ (fun w' hk hz=>PairsV.keptBut (HPV.out.below (show Below w.heap.size w wc.drew from hbx.trans (zD (Below.refl _ _) 1))) hk (by omega) (by omega))
       have sa:zK (w.heap.size+1+1) (w.heap.size+1+1+1) wc wa:=zK.trans_ s0 (fun k h1 _=>ka k h1)
       have sb:zK (w.heap.size+1+1) (w.heap.size+1+1+1) wc wb:=zK.trans_ s0 kb
       have X0:∀ w':World,zK (w.heap.size+1+1) (w.heap.size+1+1+1) wc w'→w'.cell? ⟨NB,0,none⟩=some (.slice a0 y2v.1.secs.length n0):=fun w' h=>cR w' _ 0 _ _ _ ((h NB (by omega) (by omega)).trans TX)
       have X1:∀ w':World,zK (w.heap.size+1+1) (w.heap.size+1+1+1) wc w'→w'.cell? ⟨NB,1,none⟩=some (.slice b0 y2v.1.loose.length m0):=fun w' h=>cR w' _ 1 _ _ _ ((h NB (by omega) (by omega)).trans TX)
       have X2:∀ w':World,zK (w.heap.size+1+1) (w.heap.size+1+1+1) wc w'→w'.cell? ⟨NB,2,none⟩=some (.int .i64 y2v.1.fuse):=fun w' h=>cR w' _ 2 _ _ _ ((h NB (by omega) (by omega)).trans TX)
       have X3:∀ w':World,zK (w.heap.size+1+1) (w.heap.size+1+1+1) wc w'→w'.cell? ⟨NB,3,none⟩=some (.bool y2v.1.down):=fun w' h=>cR w' _ 3 _ _ _ ((h NB (by omega) (by omega)).trans TX)
       have N0:∀ w':World,zK (w.heap.size+1+1) (w.heap.size+1+1+1) wc w'→w'.cell? ⟨w.heap.size+1,0,none⟩=some (.int .i64 s.log.half):=fun w' h=>cR w' _ 0 _ _ _ ((h (w.heap.size+1) (by omega) (by omega)).trans hSx)
       have N1:∀ w':World,zK (w.heap.size+1+1) (w.heap.size+1+1+1) wc w'→w'.cell? ⟨w.heap.size+1,1,none⟩=some (.int .i64 s.log.gen):=fun w' h=>cR w' _ 1 _ _ _ ((h (w.heap.size+1) (by omega) (by omega)).trans hSx)
       have N2:∀ w':World,zK (w.heap.size+1+1) (w.heap.size+1+1+1) wc w'→w'.cell? ⟨w.heap.size+1,2,none⟩=some (.int .i64 s.log.used):=fun w' h=>cR w' _ 2 _ _ _ ((h (w.heap.size+1) (by omega) (by omega)).trans hSx)
       have N3:∀ w':World,zK (w.heap.size+1+1) (w.heap.size+1+1+1) wc w'→w'.cell? ⟨w.heap.size+1,3,none⟩=some (.int .i64 s.log.count):=fun w' h=>cR w' _ 3 _ _ _ ((h (w.heap.size+1) (by omega) (by omega)).trans hSx)
       have N4:∀ w':World,zK (w.heap.size+1+1) (w.heap.size+1+1+1) wc w'→w'.cell? ⟨w.heap.size+1,4,none⟩=some (.slice pa n pc):=fun w' h=>cR w' _ 4 _ _ _ ((h (w.heap.size+1) (by omega) (by omega)).trans hSx)
       have HBZ:=zh (HLD.out.2.2.2.2 w.heap.size w ((hbx).trans (zD (Below.refl _ _) 1)) (by omega) (by omega))
       clear ka kb TX hvX
       go_wp2_with fail
       refine zI [(false,0),(false,1),(false,2),(true,3),(true,4),(false,5)] (zK (w.heap.size+1+1) (w.heap.size+1+1+1) wc) (by kernel_rfl) (by kernel_rfl) s0 ?_
       repeat (first | (refine zS rfl rfl ?_;simp only [Act.put,zq1,zq2,zq3]) | (refine zT rfl ?_ rfl (fun w' hw'=>?_) ?_;rotate_left;(go_simp;first | done | with_reducible rfl);(try simp only [Act.put,zq1,zq2,zq3])))
       refine zA rfl rfl fun K hK=>?_
       refine op_store (.tmp 6) (.tmp 67) 38 rfl rfl rfl st1 ?_
       refine hK.out _ _ sa ?_
       clear hK K st1
       simp only [Act.put,zq1,zq2,zq3]
       refine zA rfl rfl fun K hK=>?_
       refine op_store (.tmp 7) (.tmp 68) 44 rfl rfl rfl st2 ?_
       refine hK.out _ _ sb ?_
       clear hK K st2
       simp only [Act.put,zq1,zq2,zq3]
       repeat (first | (refine zS rfl rfl ?_;simp only [Act.put,zq1,zq2,zq3]) | (refine zT rfl ?_ rfl (fun w' hw'=>?_) ?_;rotate_left;(go_simp;first | done | with_reducible rfl);(try simp only [Act.put,zq1,zq2,zq3])))
       refine zN ?_
       go_wp2_with fail
       refine bodyPost_ret (results_cct rfl _ _ (w.heap.size+1+1) (w.heap.size+1+1+1) _ _ _ _ _ _ _ _ rfl rfl HLD.out.1 HLD.out.2.1 Tryz.underlying38 rfl zQ Tryz.underlying44 rfl size_store) rfl ?_
       rw [HKF.out]
       exact⟨⟨_,_,rfl,HLD.out.2.2.1,HLD.out.2.2.2.1⟩,HBZ.out⟩
      ·have q9:(y2v.2.2 != 0)=false:=by simp [he2]
       have HKF:=zh (show K0=(y2v.1,⟨y2v.2.1,P2⟩,0) by rw [HK0.out,HCM.out,if_pos he2])
       clear he2
       obtain⟨a0,n0,b0,m0,TX,hvX⟩:=id hDx
       have s0:zK (w.heap.size+1+1) (w.heap.size+1+1+1) wc wc.drew:=zK.drew (zK.refl _ _ _)
       obtain⟨wa,wb,st1,st2,ka,kb,HLD⟩:=laid_DS (wx:=wc.drew) (a0:=a0) (a1:=b0) (n0:=n0) (n1:=m0) (d:=y2v.1) (l:=y2v.2.1) (pv:=(.slice pa2 n2 pc2)) (s:=P2) hRC rfl hRS rfl (by omega) ((hvX.below (zD (Below.refl _ _) 1)).tight) ⟨pa2,pc2,by rw [← HN2.out]⟩ (fun w' hk hz=>by have:=Own.kept HPX.out (w':=w') (fun k hk1=>hk k (by omega) (by omega));exact Own.row this)
       have sa:zK (w.heap.size+1+1) (w.heap.size+1+1+1) wc wa:=zK.trans_ s0 (fun k h1 _=>ka k h1)
       have sb:zK (w.heap.size+1+1) (w.heap.size+1+1+1) wc wb:=zK.trans_ s0 kb
       have X0:∀ w':World,zK (w.heap.size+1+1) (w.heap.size+1+1+1) wc w'→w'.cell? ⟨NB,0,none⟩=some (.slice a0 y2v.1.secs.length n0):=fun w' h=>cR w' _ 0 _ _ _ ((h NB (by omega) (by omega)).trans TX)
       have X1:∀ w':World,zK (w.heap.size+1+1) (w.heap.size+1+1+1) wc w'→w'.cell? ⟨NB,1,none⟩=some (.slice b0 y2v.1.loose.length m0):=fun w' h=>cR w' _ 1 _ _ _ ((h NB (by omega) (by omega)).trans TX)
       have X2:∀ w':World,zK (w.heap.size+1+1) (w.heap.size+1+1+1) wc w'→w'.cell? ⟨NB,2,none⟩=some (.int .i64 y2v.1.fuse):=fun w' h=>cR w' _ 2 _ _ _ ((h NB (by omega) (by omega)).trans TX)
       have X3:∀ w':World,zK (w.heap.size+1+1) (w.heap.size+1+1+1) wc w'→w'.cell? ⟨NB,3,none⟩=some (.bool y2v.1.down):=fun w' h=>cR w' _ 3 _ _ _ ((h NB (by omega) (by omega)).trans TX)
       have N0:∀ w':World,zK (w.heap.size+1+1) (w.heap.size+1+1+1) wc w'→w'.cell? ⟨LB,0,none⟩=some (.int .i64 y2v.2.1.half):=fun w' h=>cR w' _ 0 _ _ _ ((h LB (by omega) (by omega)).trans hLx)
       have N1:∀ w':World,zK (w.heap.size+1+1) (w.heap.size+1+1+1) wc w'→w'.cell? ⟨LB,1,none⟩=some (.int .i64 y2v.2.1.gen):=fun w' h=>cR w' _ 1 _ _ _ ((h LB (by omega) (by omega)).trans hLx)
       have N2:∀ w':World,zK (w.heap.size+1+1) (w.heap.size+1+1+1) wc w'→w'.cell? ⟨LB,2,none⟩=some (.int .i64 y2v.2.1.used):=fun w' h=>cR w' _ 2 _ _ _ ((h LB (by omega) (by omega)).trans hLx)
       have N3:∀ w':World,zK (w.heap.size+1+1) (w.heap.size+1+1+1) wc w'→w'.cell? ⟨LB,3,none⟩=some (.int .i64 y2v.2.1.count):=fun w' h=>cR w' _ 3 _ _ _ ((h LB (by omega) (by omega)).trans hLx)
       have HBZ:=zh (HLD.out.2.2.2.2 w.heap.size w ((hbx).trans (zD (Below.refl _ _) 1)) (by omega) (by omega))
       clear ka kb TX hvX
       go_wp2_with fail
       refine zI [(false,0),(false,1),(false,2),(false,3),(true,4),(true,5),(false,6)] (zK (w.heap.size+1+1) (w.heap.size+1+1+1) wc) (by kernel_rfl) (by kernel_rfl) s0 ?_
       repeat (first | (refine zS rfl rfl ?_;simp only [Act.put,zq1,zq2,zq3]) | (refine zT rfl ?_ rfl (fun w' hw'=>?_) ?_;rotate_left;(go_simp;first | done | with_reducible rfl);(try simp only [Act.put,zq1,zq2,zq3])))
       refine zA rfl rfl fun K hK=>?_
       refine op_store (.tmp 6) (.tmp 70) 38 rfl rfl rfl st1 ?_
       refine hK.out _ _ sa ?_
       clear hK K st1
       simp only [Act.put,zq1,zq2,zq3]
       refine zA rfl rfl fun K hK=>?_
       refine op_store (.tmp 7) (.tmp 73) 44 rfl rfl rfl st2 ?_
       refine hK.out _ _ sb ?_
       clear hK K st2
       simp only [Act.put,zq1,zq2,zq3]
       repeat (first | (refine zS rfl rfl ?_;simp only [Act.put,zq1,zq2,zq3]) | (refine zT rfl ?_ rfl (fun w' hw'=>?_) ?_;rotate_left;(go_simp;first | done | with_reducible rfl);(try simp only [Act.put,zq1,zq2,zq3])))
       refine zN ?_
       go_wp2_with fail
       refine bodyPost_ret (results_cct rfl _ _ (w.heap.size+1+1) (w.heap.size+1+1+1) _ _ _ _ _ _ _ _ rfl rfl HLD.out.1 HLD.out.2.1 Tryz.underlying38 rfl zQ Tryz.underlying44 rfl size_store) rfl ?_
       rw [HKF.out]
       exact⟨⟨_,_,rfl,HLD.out.2.2.1,HLD.out.2.2.2.1⟩,HBZ.out⟩
end
section
open Go.RowKit KvP
instance:DecidableEq PairP:=fun a b=>decidable_of_iff (a.key=b.key∧a.val=b.val) ⟨fun h=>by cases a;cases b;simp at h;rw [h.1,h.2],fun h=>by rw [h];exact⟨rfl,rfl⟩⟩
theorem mk_inj (a b:List UInt8):(ByteArray.mk a.toArray=ByteArray.mk b.toArray)↔a=b:=by
 constructor
 ·intro h
  have:=congrArg (fun x=>x.data.toList) h
  simpa using this
 ·intro h
  rw [h]
theorem pair_same (p q:PairP):(decide (ByteArray.mk p.key.toArray=ByteArray.mk q.key.toArray)&&decide (ByteArray.mk p.val.toArray=ByteArray.mk q.val.toArray))=decide (p=q):=by
 rw [Bool.eq_iff_iff,Bool.and_eq_true,decide_eq_true_eq,decide_eq_true_eq,decide_eq_true_eq,mk_inj,mk_inj]
 constructor
 ·rintro ⟨h1,h2⟩
  cases p
  cases q
  simp at h1 h2
  rw [h1,h2]
 ·rintro rfl
  exact⟨rfl,rfl⟩
theorem list_ne_of {l m:List PairP} {k:Nat} (h1:k<l.length) (h2:k<m.length) (h:l[k]≠m[k]):l≠m:=fun e=>h (by subst e;rfl)
theorem list_eq_of {l m:List PairP} (hl:l.length=m.length) (h:∀ k (h1:k<l.length) (h2:k<m.length),l[k]=m[k]):l=m:=List.ext_getElem hl h
set_option maxRecDepth 100000 in
set_option maxHeartbeats 8000000 in
theorem samePairs_any {B B':Nat} (u v:Value) (l m:List PairP) (w:World) (hu:PairsV B w u l) (hv:PairsV B' w v m) :
  Calls Tryz.prog 32 #[u,v] w fun e w'=>e = .returned (.bool (decide (l=m)))∧Below w.heap.size w w':=by
 have hu:=hu.tight
 have hv:=hv.tight
 obtain⟨_,a,ca,rfl,h1,h2,_⟩:=id hu
 obtain⟨_,b',cb,rfl,h3,h4,_⟩:=id hv
 unfold maxLen at h2 h4
 obtain⟨N,hN⟩:∃ N,N=l.length:=⟨_,rfl⟩
 obtain⟨M,hM⟩:∃ M,M=m.length:=⟨_,rfl⟩
 rw [← hN] at hu h1 ⊢
 rw [← hM] at hv h3 ⊢
 have HN:=zh hN
 have HM:=zh hM
 have HU:=zh hu
 have HV:=zh hv
 clear hN hM hu hv
 by_cases hNM:N=M
 rotate_left
 ·have q0:((N:Int) != (M:Int))=true:=by simp;omega
  have hfin:decide (l=m)=false:=decide_eq_false (fun e=>hNM (by rw [HN.out,HM.out,e]))
  rw [hfin]
  go_enter Tryz.func32,Tryz.ntmps32
  go_wp2_with fail
  go_ret
  exact⟨rfl,Below.refl _ _⟩
 ·have q0:((N:Int) != (M:Int))=false:=by rw [hNM];simp
  obtain⟨D,hD⟩:∃ D,D=decide (l=m):=⟨_,rfl⟩
  rw [← hD]
  have HD:=zh hD
  have HNM:=zh hNM
  clear hD hNM
  go_enter Tryz.func32,Tryz.ntmps32
  go_wp2_with fail
  go_loopw [5] (fun i wr=>∃ k:Nat,k≤N∧i = .int .i64 k∧Below w.heap.size w wr∧Hid (∀ x (h1:x<l.length) (h2:x<m.length),x<k→l[x]=m[x])) (fun i _=>N-(intOf i).toNat)
  case atStart=>exact⟨0,Nat.zero_le _,rfl,Below.refl _ _,zh (fun x _ _ h=>absurd h (Nat.not_lt_zero _))⟩
  case round =>
   obtain⟨k,hk,rfl,hb,HG⟩:=hrel
   by_cases hkN:k<N
   ·have k0:decide ((k:Int)<(N:Int))=true:=by simp;omega
    have k1:(0:Int)≤(k:Int):=by omega
    have k2:(k:Int)<(N:Int):=by omega
    have k3:(k:Int)<(M:Int):=by have:=HNM.out;omega
    have hkl:k<l.length:=HN.out▸hkN
    have hkm:k<m.length:=by have:=HNM.out;have:=HM.out;omega
    obtain⟨b,off,rfl,_,hcA⟩:=load_pair HU.out hkl
    obtain⟨b2,off2,rfl,_,hcB⟩:=load_pair HV.out hkm
    have hps:=pair_same l[k] m[k]
    have hne:=list_ne_of hkl hkm
    have hgd:l[k]=m[k]→∀ x (h1:x<l.length) (h2:x<m.length),x<k+1→l[x]=m[x]:=fun h x h1 h2 h3=>by
     rcases Nat.lt_or_ge x k with h4 | h4
     ·exact HG.out x h1 h2 h4
     ·obtain rfl:x=k:=by omega
      exact h
    obtain⟨c,hc⟩:∃ c,c=decide (l[k]=m[k]):=⟨_,rfl⟩
    rw [← hc] at hps
    obtain⟨sk,hsk⟩:∃ s,s=ByteArray.mk l[k].key.toArray:=⟨_,rfl⟩
    obtain⟨sv,hsv⟩:∃ s,s=ByteArray.mk l[k].val.toArray:=⟨_,rfl⟩
    obtain⟨tk,htk⟩:∃ s,s=ByteArray.mk m[k].key.toArray:=⟨_,rfl⟩
    obtain⟨tv,htv⟩:∃ s,s=ByteArray.mk m[k].val.toArray:=⟨_,rfl⟩
    have L0:∀ w',Below w.heap.size w w'→w'.cell? ⟨b,off+k*2,none⟩=some (.string sk):=fun w' h=>by rw [hsk];exact (hcA w' h).1
    have L1:∀ w',Below w.heap.size w w'→w'.cell? ⟨b,off+k*2+1,none⟩=some (.string sv):=fun w' h=>by rw [hsv];exact (hcA w' h).2
    have N0:∀ w',Below w.heap.size w w'→w'.cell? ⟨b2,off2+k*2,none⟩=some (.string tk):=fun w' h=>by rw [htk];exact (hcB w' h).1
    have N1:∀ w',Below w.heap.size w w'→w'.cell? ⟨b2,off2+k*2+1,none⟩=some (.string tv):=fun w' h=>by rw [htv];exact (hcB w' h).2
    rw [← hsk,← hsv,← htk,← htv] at hps
    have kn:∀ w':World,(binOp .neq 76 (.agg #[.string sk,.string sv]) (.agg #[.string tk,.string tv])).run Tryz.prog w' = .ok (.bool (!c)) w':=fun w'=>by rw [neqPair,hps]
    have s0:Below w.heap.size w wr.drew:=zD hb 1
    have HNE:=zh hne
    have HGD:=zh hgd
    have HC:=zh hc
    clear hsk hsv htk htv hcA hcB hps hne hgd hc
    go_upto_region 6 with (fail)
    refine zI [(false,0),(false,1),(false,2),(false,3),(false,4),(false,5),(false,6),(false,7),(false,8)] (fun w'=>Below w.heap.size w w') (by kernel_rfl) (by kernel_rfl) s0 ?_
    repeat (first | (refine zS rfl rfl ?_;simp only [Act.put,zq1,zq2,zq3]) | (refine zT rfl ?_ rfl (fun w' hw'=>?_) ?_;rotate_left;(go_simp;first | done | with_reducible rfl);(try simp only [Act.put,zq1,zq2,zq3])))
    refine zN ?_
    cases c with
    | true =>
     have HG2:=zh (HGD.out (of_decide_eq_true HC.out.symm))
     go_wp2_with fail
     go_roundw
     case rel=>exact⟨k+1,by omega,by go_num,s0,HG2⟩
     case measure=>simp [intOf];omega
    | false =>
     have hf:D=false:=by rw [HD.out];exact decide_eq_false (HNE.out (of_decide_eq_false HC.out.symm))
     have HF:=zh hf
     clear hf
     go_wp2_with fail
     go_ret
     exact⟨by rw [HF.out];rfl,s0⟩
   ·have k0:decide ((k:Int)<(N:Int))=false:=by simp;omega
    have hf:D=true:=by
     rw [HD.out]
     exact decide_eq_true (list_eq_of (by rw [← HN.out,← HM.out];exact HNM.out) (fun x h1 h2=>HG.out x h1 h2 (by have:=HN.out;omega)))
    have HF:=zh hf
    clear hf
    go_wp2_with fail
    go_ret
    exact⟨by rw [HF.out];rfl,hb⟩
end
section
open Go.RowKit KvP PackP WalP
theorem equal_intK (d:Nat) (a:Int) (w:World):(Op.equalIn (d+1) 3 (.int .i64 a) (.int .i64 a)).run Tryz.prog w = .ok true w:=by
 simp [Op.equalIn,run_underlying Tryz.underlying3]
theorem eqFields_four (d : Nat) (P : Program) (xs : Array Value) (f1 f2 f3 f4 : Field) (w : World) (a1 a2 a3 a4 : Value) (h1 : f1.name ≠ "_") (h2 : f2.name ≠ "_") (h3 : f3.name ≠ "_") (h4 : f4.name ≠ "_")
  (p1:(part f1.type xs f1.offset).run P w = .ok a1 w) (p2:(part f2.type xs f2.offset).run P w = .ok a2 w) (p3:(part f3.type xs f3.offset).run P w = .ok a3 w) (p4:(part f4.type xs f4.offset).run P w = .ok a4 w)
  (q1:(Op.equalIn d f1.type a1 a1).run P w = .ok true w) (q2:(Op.equalIn d f2.type a2 a2).run P w = .ok true w) (q3:(Op.equalIn d f3.type a3 a3).run P w = .ok true w) (q4:(Op.equalIn d f4.type a4 a4).run P w = .ok true w):(Op.eqFields d xs xs [f1,f2,f3,f4]).run P w = .ok true w:=by
 simp only [Op.eqFields,if_pos h1,if_pos h2,if_pos h3,if_pos h4,Sem.run_bind,p1,p2,p3,p4,q1,q2,q3,q4,Result.andThen_ok]
 simp [p2,p3,p4,q2,q3,q4]
theorem fieldsLog : ∃ f1 f2 f3 f4 : Field, (Tryz.prog.fieldsOf 41).toList = [f1, f2, f3, f4] ∧ f1.name ≠ "_" ∧ f2.name ≠ "_" ∧ f3.name ≠ "_" ∧ f4.name ≠ "_" ∧ f1.type = 3 ∧ f1.offset = 0 ∧ f2.type = 3 ∧ f2.offset = 1 ∧ f3.type = 3 ∧ f3.offset = 2 ∧ f4.type = 3 ∧ f4.offset = 3 := by
 simp only [Program.fieldsOf,Tryz.underlying41]
 exact⟨_,_,_,_,rfl,by decide,by decide,by decide,by decide,rfl,rfl,rfl,rfl,rfl,rfl,rfl,rfl⟩
set_option maxRecDepth 100000 in
theorem equalLog (a b c e:Int) (w:World):(Op.equalIn 10000 41 (.agg #[.int .i64 a,.int .i64 b,.int .i64 c,.int .i64 e]) (.agg #[.int .i64 a,.int .i64 b,.int .i64 c,.int .i64 e])).run Tryz.prog w = .ok true w:=by
 rw [run_equalIn_struct w 9999 _ _ _ (by rw [Tryz.underlying41];rfl) (by kernel_rfl)]
 obtain⟨f1,f2,f3,f4,hf,n1,n2,n3,n4,t1,o1,t2,o2,t3,o3,t4,o4⟩:=fieldsLog
 rw [hf]
 have p:∀ (V:Array Value) (k:Nat) (x:Int),V[k]?=some (.int .i64 x)→(part 3 V k).run Tryz.prog w = .ok (.int .i64 x) w:=fun V k x h=>by simp [part,isAgg,run_underlying Tryz.underlying3,h]
 exact eqFields_four 9999 _ _ f1 f2 f3 f4 w _ _ _ _ n1 n2 n3 n4 (by rw [t1,o1];exact p _ _ a rfl) (by rw [t2,o2];exact p _ _ b rfl) (by rw [t3,o3];exact p _ _ c rfl) (by rw [t4,o4];exact p _ _ e rfl)
  (by rw [t1];exact equal_intK _ _ _) (by rw [t2];exact equal_intK _ _ _) (by rw [t3];exact equal_intK _ _ _) (by rw [t4];exact equal_intK _ _ _)
theorem eqlLog (a b c e:Int) (w:World):(binOp .eql 41 (.agg #[.int .i64 a,.int .i64 b,.int .i64 c,.int .i64 e]) (.agg #[.int .i64 a,.int .i64 b,.int .i64 c,.int .i64 e])).run Tryz.prog w = .ok (.bool true) w:=by
 have k:=equalLog a b c e w
 simp only [binOp]
 simp [Op.equal,Op.maxDepth,k]
set_option maxRecDepth 100000 in
set_option maxHeartbeats 4000000 in
theorem refsame6_any {B B':Nat} (u v:Value) (s:StoreP) (w:World) (hu:StoreV B w u s) (hv:StoreV B' w v s) :
  Calls Tryz.prog 23 #[u,v] w fun e w'=>e = .returned (.bool true)∧Below w.heap.size w w':=by
 obtain⟨pu,rfl,hp⟩:=hu
 obtain⟨pv,rfl,hq⟩:=hv
 have hp:=hp.tight
 have hq:=hq.tight
 obtain⟨l,hl⟩:∃ l,l=s.pairs:=⟨_,rfl⟩
 obtain⟨lg,hlg⟩:∃ l,l=s.log:=⟨_,rfl⟩
 rw [← hl] at hp hq
 rw [← hlg]
 clear hl hlg
 obtain⟨a,c,rfl,_⟩:=pairs_len hp
 obtain⟨a',c',rfl,_⟩:=pairs_len hq
 obtain⟨N,hN⟩:∃ N,N=l.length:=⟨_,rfl⟩
 rw [← hN] at hp hq ⊢
 unfold storeV
 obtain⟨w1,hw1⟩:∃ x,x=(w.alloc (.cells #[.int .i64 lg.half,.int .i64 lg.gen,.int .i64 lg.used,.int .i64 lg.count,.slice a N c] 44)).alloc (.cells #[.int .i64 lg.half,.int .i64 lg.gen,.int .i64 lg.used,.int .i64 lg.count,.slice a' N c'] 44):=⟨_,rfl⟩
 have hb1:Below w.heap.size w w1:=by rw [hw1];exact Below.alloc (Below.alloc (Below.refl _ _) (Nat.le_refl _) _) (by simp) _
 have RA:w1.heap[w.heap.size]?=some (.cells #[.int .i64 lg.half,.int .i64 lg.gen,.int .i64 lg.used,.int .i64 lg.count,.slice a N c] 44 (0,0)):=by rw [hw1];exact heap_alloc2_old w _ _
 have RB:w1.heap[w.heap.size+1]?=some (.cells #[.int .i64 lg.half,.int .i64 lg.gen,.int .i64 lg.used,.int .i64 lg.count,.slice a' N c'] 44 (0,0)):=by rw [hw1];exact heap_alloc2_new w _ _
 have A0:=cR w1 _ 0 _ _ _ RA
 have A1:=cR w1 _ 1 _ _ _ RA
 have A2:=cR w1 _ 2 _ _ _ RA
 have A3:=cR w1 _ 3 _ _ _ RA
 have A4:=cR w1 _ 4 _ _ _ RA
 have B0:=cR w1 _ 0 _ _ _ RB
 have B1:=cR w1 _ 1 _ _ _ RB
 have B2:=cR w1 _ 2 _ _ _ RB
 have B3:=cR w1 _ 3 _ _ _ RB
 have B4:=cR w1 _ 4 _ _ _ RB
 have ke:=fun w'=>eqlLog lg.half lg.gen lg.used lg.count w'
 have ks:=samePairs_any _ _ l l w1 (hp.below hb1) (hq.below hb1)
 rw [decide_eq_true rfl] at ks
 have HW1:=zh hw1
 have HB1:=zh hb1
 clear hw1 hb1 hp hq hN RA RB
 go_enter Tryz.func23,Tryz.ntmps23
 go_upto_region 1 with (fail)
 rw [← HW1.out]
 go_wp2_with fail
 refine ks.mono ?_
 rintro e w5 ⟨rfl,hb5⟩
 clear ks A0 A1 A2 A3 A4 B0 B1 B2 B3 B4 ke
 have HB5:=zh (HB1.out.trans (hb5.mono HB1.out.size))
 clear hb5
 go_wp2_with fail
 go_ret
 exact⟨rfl,HB5.out⟩
end
section
open Go.ChangeShapes Go.WideShapes Go.ChangeAt Go.RowKit
theorem ownKnob_none:ownKnob Tryz.prog.godebug=none:=by kernel_rfl
theorem gTab : Tryz.prog.globalNamed "escheat/sum.turned" = some 1 := by kernel_rfl
theorem gTabType:(Tryz.prog.globals[1]?).map (·.type)=some 211:=by kernel_rfl
theorem tabCellsA:Tryz.prog.cellsOf 211=16:=by kernel_rfl
theorem tabCellsE:Tryz.prog.cellsOf 143=1:=by kernel_rfl
def tabInts:List Int:=[0,498536548,997073096,651767980,1994146192,1802195444,1303535960,1342533948,3988292384,4027552580,3604390888,3412177804,2607071920,2262029012,2685067896,3183342108]
theorem tabInts_at:∀ k:Fin 16,tabInts.getD k.val 0=SumP.toI (SumP.tabL.getD k.val 0#32):=by decide
theorem tabAt_of_laid {W : World} (h : laidMetH Tryz.prog [("escheat/sum.turned", Rows.laid_escheat_sum_turned)] W) : TabAt W := by
 have ht : Lib.TabIs Tryz.prog W "escheat/sum.turned" .u32 tabInts :=
  Lib.tabIs_of_head (rest:=[]) gTab gTabType Tryz.underlying211 Tryz.underlying143 tabCellsE tabCellsA h
 intro x hx
 rw [ht.cell gTab x.toNat hx,tabInts_at ⟨x.toNat,hx⟩]
 rfl
theorem tab_block {W:World} (h:TabAt W):1<W.heap.size:=World.block_lt_of_cell? W _ (h 0#32 (by decide))
noncomputable def laidWorld (os:Os):World :=
 { World.holding Tryz.prog os ⟨#[],#[],[]⟩ with heap:=(World.holding Tryz.prog os ⟨#[],#[],[]⟩).heap.modify 1 fun
   | .cells _ t frozen=>.cells (tabInts.map fun z=>Value.int .u32 z).toArray t frozen
   | o=>o }
end
section
open Go.RowKit Go.ChangeShapes Go.WideShapes
theorem flatten_chunks {α:Type} (sz:Nat):∀ (n:Nat) (cs:List α),cs.length=n*sz→((List.range n).map (fun i=>(cs.drop (i*sz)).take sz)).flatten=cs
 | 0,cs,h=>by
  rw [Nat.zero_mul] at h
  simp [List.length_eq_zero_iff.1 h]
 | n+1,cs,h=>by
  rw [List.range_succ_eq_map,List.map_cons,List.flatten_cons,List.map_map]
  have h':(cs.drop sz).length=n*sz:=by rw [List.length_drop,h,Nat.succ_mul];omega
  have ih:=flatten_chunks sz n (cs.drop sz) h'
  have e:((fun i=>(cs.drop (i*sz)).take sz) ∘ Nat.succ)=(fun i=>((cs.drop sz).drop (i*sz)).take sz):=by
   funext i
   simp only [Function.comp,List.drop_drop]
   rw [Nat.succ_mul,Nat.add_comm]
  rw [e,ih]
  simp
theorem flatten_f {α:Type} (f:α→List Value):∀ (css:List (List Value)) (xs:List α),css.length=xs.length→(∀ (i:Nat) (a:α) (c:List Value),xs[i]?=some a→css[i]?=some c→c=f a)→css.flatten=(xs.map f).flatten:=by
 intro css
 induction css with
 | nil=>intro xs h _;cases xs <;> simp_all
 | cons c css ih =>
  intro xs h h2
  cases xs with
  | nil=>simp at h
  | cons x xs =>
   rw [List.flatten_cons,h2 0 x c rfl rfl,ih xs (by simpa using h) (fun i a c ha hc=>h2 (i+1) a c (by simpa using ha) (by simpa using hc))]
   rfl
section
variable {P:Program} {W:World} {t:TypeId}
theorem opens_arr {α:Type} {n:Nat} {e:TypeId} {R:α→List Value→Prop} (ht:P.underlying t=some (.array n e)) (hc:P.cellsOf t=n*P.cellsOf e) (he:Opens P W e R) :
  Opens P W t (fun (xs:List α) cs=>xs.length=n∧∃ css:List (List Value),css.length=n∧cs=css.flatten∧∀ (i:Nat) (a:α) (c:List Value),xs[i]?=some a→css[i]?=some c→R a c):=fun H enc fuel cs x h hwt=>by
 obtain⟨xs,m,_,rfl,hl,hn,hel⟩:=DataW.trod_array ht h
 have hw1:DataW.weights P t (DataW.agg (xs.map (·.1)))=DataW.weightsAll P e (xs.map (·.1)):=by
  rw [DataW.weights];simp [ht]
 simp only [hw1] at hwt
 obtain⟨bs,css,h1,h2,h3⟩:=choose_list n (fun i (b:α) c=>c=(cs.drop (i*P.cellsOf e)).take (P.cellsOf e)∧R b c) (fun i hi=>by
  have h1:=hel i hi
  rw [List.getElem?_eq_getElem (by omega)] at h1
  obtain⟨b,hb⟩:=he H enc m _ _ h1 (fun k hk=>hwt k (mem_weightsAll _ i _ (by rw [List.getElem?_map,List.getElem?_eq_getElem (by omega)];rfl) k hk))
  exact⟨b,_,rfl,hb⟩)
 refine⟨bs,h1,css,h2,?_,fun i a c ha hc=>(h3 i a c ha hc).2⟩
 have e1:css=(List.range n).map (fun i=>(cs.drop (i*P.cellsOf e)).take (P.cellsOf e)):=by
  apply List.ext_getElem
  ·simp [h2]
  ·intro i hi _
   rw [List.getElem_map,List.getElem_range]
   exact (h3 i _ _ (List.getElem?_eq_getElem (by omega)) (List.getElem?_eq_getElem hi)).1
 rw [e1,flatten_chunks _ _ _ (by rw [hl,hc])]
end
set_option maxRecDepth 100000 in
theorem opens_sector (W:World):Opens Tryz.prog W 94 (fun (s:List UInt8) cs=>s.length=64∧cs=u8s s):=fun H enc fuel cs x h hwt=>by
 obtain⟨s,h1,css,h2,h3,h4⟩:=opens_arr Tryz.underlying94 (by kernel_rfl) (opens_u8 Tryz.underlying5) H enc fuel cs x h hwt
 exact⟨s,h1,by rw [h3];exact flatten_u8 css s (by omega) h4⟩
set_option maxRecDepth 100000 in
theorem opens_write (W:World):Opens Tryz.prog W 96 (fun (x:WriteP) cs=>x.data.length=64∧cs=wcells x):=fun H enc fuel cs x h hwt=>by
 obtain⟨y0,y1,n,rfl,hl,h0,h1⟩:=trod_struct2 Tryz.underlying96 h
 have hw1:DataW.weights Tryz.prog 96 (DataW.agg [y0.1,y1.1])=DataW.weightsEach Tryz.prog [3,94] [y0.1,y1.1]:=by
  rw [DataW.weights];simp [Tryz.underlying96]
 simp only [hw1] at hwt
 obtain⟨z,hz,_⟩:=opens_int (W:=W) Tryz.underlying3 H enc n _ _ h0 (fun m hm=>hwt m (mem_weightsEach _ _ 0 _ _ rfl rfl m hm))
 obtain⟨s,hs,hs2⟩:=opens_sector W H enc n _ _ h1 (fun m hm=>hwt m (mem_weightsEach _ _ 1 _ _ rfl rfl m hm))
 have e1:Tryz.prog.cellsOf 3=1:=by kernel_rfl
 have e2:Tryz.prog.cellsOf 94=64:=by kernel_rfl
 have e3:Tryz.prog.cellsOf 96=65:=by kernel_rfl
 rw [e3] at hl
 simp only [e1,e2] at hz hs2
 refine⟨⟨z,s⟩,hs,?_⟩
 match cs,hl,hz,hs2 with
 | c :: cs,hl,hz,hs2 =>
  simp at hz hs2 hl
  rw [List.take_of_length_le (by omega)] at hs2
  rw [hz,hs2]
  rfl
set_option maxRecDepth 100000 in
theorem opens_disk (W:World):Opens Tryz.prog W 38 (fun (d:DiskP) cs=>DiskV W.heap.size W (.agg cs.toArray) d ∧ -9223372036854775808≤d.fuse∧d.fuse≤9223372036854775807):=fun H enc fuel cs x h hwt=>by
 obtain⟨xs,n,_,rfl,hl,hlen,hf⟩:=DataW.trod_struct Tryz.underlying38 h
 match xs,hlen with
 | [y0,y1,y2,y3],_ =>
  have h0:=hf 0 _ rfl
  have h1:=hf 1 _ rfl
  have h2:=hf 2 _ rfl
  have h3:=hf 3 _ rfl
  change _=some y0 at h0
  change _=some y1 at h1
  change _=some y2 at h2
  change _=some y3 at h3
  have hw1:DataW.weights Tryz.prog 38 (DataW.agg [y0.1,y1.1,y2.1,y3.1])=DataW.weightsEach Tryz.prog [35,36,3,4] [y0.1,y1.1,y2.1,y3.1]:=by
   rw [DataW.weights];simp [Tryz.underlying38]
  change ∀ n∈DataW.weights Tryz.prog 38 (DataW.agg [y0.1,y1.1,y2.1,y3.1]),n≤reachBytes at hwt
  rw [hw1] at hwt
  obtain⟨ss,hss⟩:=opens_slice (W:=W) Tryz.underlying35 (of_decide_eq_true (by kernel_rfl)) (opens_sector W) H enc n _ _ h0 (fun m hm=>hwt m (mem_weightsEach _ _ 0 _ _ rfl rfl m hm))
  obtain⟨ls,hls⟩:=opens_slice (W:=W) Tryz.underlying36 (of_decide_eq_true (by kernel_rfl)) (opens_write W) H enc n _ _ h1 (fun m hm=>hwt m (mem_weightsEach _ _ 1 _ _ rfl rfl m hm))
  obtain⟨z,hz,hzw⟩:=opens_int (W:=W) Tryz.underlying3 H enc n _ _ h2 (fun m hm=>hwt m (mem_weightsEach _ _ 2 _ _ rfl rfl m hm))
  obtain⟨b,hb⟩:=opens_bool (W:=W) Tryz.underlying4 H enc n _ _ h3 (fun m hm=>hwt m (mem_weightsEach _ _ 3 _ _ rfl rfl m hm))
  have e0:Tryz.prog.cellsOf 35=1:=by kernel_rfl
  have e1:Tryz.prog.cellsOf 36=1:=by kernel_rfl
  have e2:Tryz.prog.cellsOf 3=1:=by kernel_rfl
  have e3:Tryz.prog.cellsOf 4=1:=by kernel_rfl
  have e4:Tryz.prog.cellsOf 38=4:=by kernel_rfl
  have e5:Tryz.prog.cellsOf 94=64:=by kernel_rfl
  have e6:Tryz.prog.cellsOf 96=65:=by kernel_rfl
  rw [e4] at hl
  rw [e5] at hss
  rw [e6] at hls
  obtain⟨_,v0,css0,hv0,k1,_,k3,k4⟩:=hss
  obtain⟨_,v1,css1,hv1,l1,_,l3,l4⟩:=hls
  change (cs.drop 0).take (Tryz.prog.cellsOf 35)=_ at hv0
  change (cs.drop 1).take (Tryz.prog.cellsOf 36)=_ at hv1
  change (cs.drop 2).take (Tryz.prog.cellsOf 3)=_ at hz
  change (cs.drop 3).take (Tryz.prog.cellsOf 4)=_ at hb
  rw [e0] at hv0
  rw [e1] at hv1
  rw [e2] at hz
  rw [e3] at hb
  have f0:css0.flatten=(ss.map u8s).flatten:=flatten_f u8s css0 ss k1 (fun i a c ha hc=>(k4 i a c ha hc).2)
  have f1:css1.flatten=(ls.map wcells).flatten:=flatten_f wcells css1 ls l1 (fun i a c ha hc=>(l4 i a c ha hc).2)
  rw [f0] at k3
  rw [f1] at l3
  have hsec:Secs W.heap.size W v0 ss:=⟨fun s hs=>by
   obtain⟨i,hi,rfl⟩:=List.getElem_of_mem hs
   exact (k4 i _ _ (List.getElem?_eq_getElem hi) (List.getElem?_eq_getElem (by omega))).1,k3⟩
  have hloo:Loose W.heap.size W v1 ls:=⟨fun s hs=>by
   obtain⟨i,hi,rfl⟩:=List.getElem_of_mem hs
   exact (l4 i _ _ (List.getElem?_eq_getElem hi) (List.getElem?_eq_getElem (by omega))).1,l3⟩
  have hw:=wf_i64 hzw
  match cs,hl,hv0,hv1,hz,hb with
  | [c0,c1,c2,c3],_,hv0,hv1,hz,hb =>
   simp at hv0 hv1 hz hb
   subst hv0;subst hv1;subst hz;subst hb
   exact⟨⟨ss,ls,z,b⟩,⟨_,_,rfl,hsec,hloo⟩,hw⟩
theorem open_struct_val {P:Program} {W:World} {t:TypeId} {α:Type} {fs:Array Field} {R:α→List Value→Prop} {H:Type} {enc:TypeId×Value→H} {base:Nat} {v:Value} {d:DataW H} {ps:List MemPlace} (ht:P.underlying t=some (.struct fs))
  (ho:Opens P W t R) (hval:Value.okWide P W .any base t v) (h:DataW.Trod enc P W 0 (fun _=>true) true t v d ps) (hw:∀ n∈DataW.weights P t d,n≤reachBytes):∃ (x:α) (cs:List Value),v = .agg cs.toArray∧R x cs:=by
 obtain⟨cs,rfl,_⟩:=okWide_struct ht hval
 obtain⟨fuel,hf⟩:=h
 obtain⟨x,hx⟩:=ho H enc fuel _ _ hf hw
 exact⟨x,cs.toList,by simp,hx⟩
end
section
open Go.RowKit Go.ChangeShapes Go.WideShapes KvP
theorem str_len (s:ByteArray):s.data.toList.length=s.size:=by
 rw [Array.length_toList]
 rfl
def PairR (p:PairP) (cs:List Value):Prop:=(p.key.length≤reachBytes∧p.val.length≤reachBytes)∧cs=pairCells p
def ChangeR (c:ChangeP) (cs:List Value):Prop:=(c.key.length≤reachBytes∧c.val.length≤reachBytes)∧cs=changeCells c
set_option maxRecDepth 100000 in
theorem opens_pair (W:World):Opens Tryz.prog W 76 PairR:=fun H enc fuel cs x h hwt=>by
 obtain⟨y0,y1,n,rfl,hl,h0,h1⟩:=trod_struct2 Tryz.underlying76 h
 have hw1:DataW.weights Tryz.prog 76 (DataW.agg [y0.1,y1.1])=DataW.weightsEach Tryz.prog [9,9] [y0.1,y1.1]:=by
  rw [DataW.weights];simp [Tryz.underlying76]
 simp only [hw1] at hwt
 obtain⟨k,hk,hk2⟩:=opens_string (W:=W) Tryz.underlying9 H enc n _ _ h0 (fun m hm=>hwt m (mem_weightsEach _ _ 0 _ _ rfl rfl m hm))
 obtain⟨v,hv,hv2⟩:=opens_string (W:=W) Tryz.underlying9 H enc n _ _ h1 (fun m hm=>hwt m (mem_weightsEach _ _ 1 _ _ rfl rfl m hm))
 have e1:Tryz.prog.cellsOf 9=1:=by kernel_rfl
 have e3:Tryz.prog.cellsOf 76=2:=by kernel_rfl
 rw [e3] at hl
 simp only [e1] at hk hv
 refine⟨⟨k.data.toList,v.data.toList⟩,⟨by rw [str_len];exact hk2,by rw [str_len];exact hv2⟩,?_⟩
 match cs,hl,hk,hv with
 | [c0,c1],_,hk,hv =>
  simp at hk hv
  subst hk;subst hv
  rw [str_of,str_of]
  rfl
set_option maxRecDepth 100000 in
theorem opens_change (W:World):Opens Tryz.prog W 33 ChangeR:=fun H enc fuel cs x h hwt=>by
 obtain⟨xs,n,_,rfl,hl,hlen,hf⟩:=DataW.trod_struct Tryz.underlying33 h
 match xs,hlen with
 | [y0,y1,y2],_ =>
  have h0:=hf 0 _ rfl
  have h1:=hf 1 _ rfl
  have h2:=hf 2 _ rfl
  change _=some y0 at h0
  change _=some y1 at h1
  change _=some y2 at h2
  have hw1:DataW.weights Tryz.prog 33 (DataW.agg [y0.1,y1.1,y2.1])=DataW.weightsEach Tryz.prog [9,9,4] [y0.1,y1.1,y2.1]:=by
   rw [DataW.weights];simp [Tryz.underlying33]
  change ∀ n∈DataW.weights Tryz.prog 33 (DataW.agg [y0.1,y1.1,y2.1]),n≤reachBytes at hwt
  rw [hw1] at hwt
  obtain⟨k,hk,hk2⟩:=opens_string (W:=W) Tryz.underlying9 H enc n _ _ h0 (fun m hm=>hwt m (mem_weightsEach _ _ 0 _ _ rfl rfl m hm))
  obtain⟨v,hv,hv2⟩:=opens_string (W:=W) Tryz.underlying9 H enc n _ _ h1 (fun m hm=>hwt m (mem_weightsEach _ _ 1 _ _ rfl rfl m hm))
  obtain⟨g,hg⟩:=opens_bool (W:=W) Tryz.underlying4 H enc n _ _ h2 (fun m hm=>hwt m (mem_weightsEach _ _ 2 _ _ rfl rfl m hm))
  have e1:Tryz.prog.cellsOf 9=1:=by kernel_rfl
  have e2:Tryz.prog.cellsOf 4=1:=by kernel_rfl
  have e3:Tryz.prog.cellsOf 33=3:=by kernel_rfl
  rw [e3] at hl
  change (cs.drop 0).take (Tryz.prog.cellsOf 9)=_ at hk
  change (cs.drop 1).take (Tryz.prog.cellsOf 9)=_ at hv
  change (cs.drop 2).take (Tryz.prog.cellsOf 4)=_ at hg
  rw [e1] at hk hv
  rw [e2] at hg
  refine⟨⟨k.data.toList,v.data.toList,g⟩,⟨by rw [str_len];exact hk2,by rw [str_len];exact hv2⟩,?_⟩
  match cs,hl,hk,hv,hg with
  | [c0,c1,c2],_,hk,hv,hg =>
   simp at hk hv hg
   subst hk;subst hv;subst hg
   rw [str_of,str_of]
   rfl
def PairsR (W:World) (l:List PairP) (cs:List Value):Prop:=(∀ p∈l,p.key.length≤reachBytes∧p.val.length≤reachBytes)∧∃ v,cs=[v]∧PairsV W.heap.size W v l
def ChangesR (W:World) (l:List ChangeP) (cs:List Value):Prop:=(∀ p∈l,p.key.length≤reachBytes∧p.val.length≤reachBytes)∧∃ v,cs=[v]∧ChangesV W.heap.size W v l
theorem opens_pairs (W:World):Opens Tryz.prog W 42 (PairsR W):=fun H enc fuel cs x h hwt=>by
 obtain⟨l,hls⟩:=opens_slice (W:=W) Tryz.underlying42 (of_decide_eq_true (by kernel_rfl)) (opens_pair W) H enc fuel cs x h hwt
 have e1:Tryz.prog.cellsOf 76=2:=by kernel_rfl
 rw [e1] at hls
 obtain⟨_,v,css,rfl,h1,h2,h3,h4⟩:=hls
 rw [flatten_f pairCells css l h1 (fun i a c ha hc=>(h4 i a c ha hc).2)] at h3
 refine⟨l,fun p hp=>?_,v,rfl,h3⟩
 obtain⟨i,hi,rfl⟩:=List.getElem_of_mem hp
 exact (h4 i _ _ (List.getElem?_eq_getElem hi) (List.getElem?_eq_getElem (by omega))).1
theorem opens_changes (W:World):Opens Tryz.prog W 22 (ChangesR W):=fun H enc fuel cs x h hwt=>by
 obtain⟨l,hls⟩:=opens_slice (W:=W) Tryz.underlying22 (of_decide_eq_true (by kernel_rfl)) (opens_change W) H enc fuel cs x h hwt
 have e1:Tryz.prog.cellsOf 33=3:=by kernel_rfl
 rw [e1] at hls
 obtain⟨_,v,css,rfl,h1,h2,h3,h4⟩:=hls
 rw [flatten_f changeCells css l h1 (fun i a c ha hc=>(h4 i a c ha hc).2)] at h3
 refine⟨l,fun p hp=>?_,v,rfl,h3⟩
 obtain⟨i,hi,rfl⟩:=List.getElem_of_mem hp
 exact (h4 i _ _ (List.getElem?_eq_getElem hi) (List.getElem?_eq_getElem (by omega))).1
end
section
open Go.RowKit Go.ChangeShapes Go.WideShapes KvP
set_option maxRecDepth 100000 in
theorem opens_log6 (W:World):Opens Tryz.prog W 41 (fun (l:WalP.LogP) cs=>cs=[.int .i64 l.half,.int .i64 l.gen,.int .i64 l.used,.int .i64 l.count] ∧ -9223372036854775808≤l.half∧l.half≤9223372036854775807):=fun H enc fuel cs x h hwt=>by
 obtain⟨xs,n,_,rfl,hl,hlen,hf⟩:=DataW.trod_struct Tryz.underlying41 h
 match xs,hlen with
 | [y0,y1,y2,y3],_ =>
  have h0:=hf 0 _ rfl
  have h1:=hf 1 _ rfl
  have h2:=hf 2 _ rfl
  have h3:=hf 3 _ rfl
  change _=some y0 at h0
  change _=some y1 at h1
  change _=some y2 at h2
  change _=some y3 at h3
  have hw1:DataW.weights Tryz.prog 41 (DataW.agg [y0.1,y1.1,y2.1,y3.1])=DataW.weightsEach Tryz.prog [3,3,3,3] [y0.1,y1.1,y2.1,y3.1]:=by
   rw [DataW.weights];simp [Tryz.underlying41]
  change ∀ n∈DataW.weights Tryz.prog 41 (DataW.agg [y0.1,y1.1,y2.1,y3.1]),n≤reachBytes at hwt
  rw [hw1] at hwt
  obtain⟨z0,hz0,hw0⟩:=opens_int (W:=W) Tryz.underlying3 H enc n _ _ h0 (fun m hm=>hwt m (mem_weightsEach _ _ 0 _ _ rfl rfl m hm))
  obtain⟨z1,hz1,_⟩:=opens_int (W:=W) Tryz.underlying3 H enc n _ _ h1 (fun m hm=>hwt m (mem_weightsEach _ _ 1 _ _ rfl rfl m hm))
  obtain⟨z2,hz2,_⟩:=opens_int (W:=W) Tryz.underlying3 H enc n _ _ h2 (fun m hm=>hwt m (mem_weightsEach _ _ 2 _ _ rfl rfl m hm))
  obtain⟨z3,hz3,_⟩:=opens_int (W:=W) Tryz.underlying3 H enc n _ _ h3 (fun m hm=>hwt m (mem_weightsEach _ _ 3 _ _ rfl rfl m hm))
  have e0:Tryz.prog.cellsOf 3=1:=by kernel_rfl
  have e4:Tryz.prog.cellsOf 41=4:=by kernel_rfl
  rw [e4] at hl
  change (cs.drop 0).take (Tryz.prog.cellsOf 3)=_ at hz0
  change (cs.drop 1).take (Tryz.prog.cellsOf 3)=_ at hz1
  change (cs.drop 2).take (Tryz.prog.cellsOf 3)=_ at hz2
  change (cs.drop 3).take (Tryz.prog.cellsOf 3)=_ at hz3
  rw [e0] at hz0 hz1 hz2 hz3
  have hw:=wf_i64 hw0
  match cs,hl,hz0,hz1,hz2,hz3 with
  | [c0,c1,c2,c3],_,hz0,hz1,hz2,hz3 =>
   simp at hz0 hz1 hz2 hz3
   subst hz0;subst hz1;subst hz2;subst hz3
   exact⟨⟨z0,z1,z2,z3⟩,rfl,hw⟩
set_option maxRecDepth 100000 in
theorem opens_store (W:World):Opens Tryz.prog W 44 (fun (s:StoreP) cs=>∃ pv,cs=[.int .i64 s.log.half,.int .i64 s.log.gen,.int .i64 s.log.used,.int .i64 s.log.count,pv]∧PairsV W.heap.size W pv s.pairs ∧ -9223372036854775808≤s.log.half∧s.log.half≤9223372036854775807):=fun H enc fuel cs x h hwt=>by
 obtain⟨y0,y1,n,rfl,hl,h0,h1⟩:=trod_struct2 Tryz.underlying44 h
 have hw1:DataW.weights Tryz.prog 44 (DataW.agg [y0.1,y1.1])=DataW.weightsEach Tryz.prog [41,42] [y0.1,y1.1]:=by
  rw [DataW.weights];simp [Tryz.underlying44]
 simp only [hw1] at hwt
 obtain⟨l,hlg,hb⟩:=opens_log6 W H enc n _ _ h0 (fun m hm=>hwt m (mem_weightsEach _ _ 0 _ _ rfl rfl m hm))
 obtain⟨ps,_,v,hv,hp⟩:=opens_pairs W H enc n _ _ h1 (fun m hm=>hwt m (mem_weightsEach _ _ 1 _ _ rfl rfl m hm))
 have e1:Tryz.prog.cellsOf 41=4:=by kernel_rfl
 have e2:Tryz.prog.cellsOf 42=1:=by kernel_rfl
 have e3:Tryz.prog.cellsOf 44=5:=by kernel_rfl
 rw [e3] at hl
 change (cs.drop 0).take (Tryz.prog.cellsOf 41)=_ at hlg
 change (cs.drop 4).take (Tryz.prog.cellsOf 42)=_ at hv
 rw [e1,List.drop_zero] at hlg
 rw [e2,List.take_of_length_le (by rw [List.length_drop];omega)] at hv
 refine⟨⟨l,ps⟩,v,?_,hp,hb⟩
 have e:=List.take_append_drop 4 cs
 rw [hlg,hv] at e
 exact e.symm
end
end Go.Proofs.YtaijompnohkmaaaGreatDoor
