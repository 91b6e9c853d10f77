/- Layer 5 (wal), the document's answer: Format. -/
import Derived.Test.YtaijompnohkmaaaGreatDoorOO
set_option linter.unusedSimpArgs false
set_option linter.unusedVariables false
namespace Go.Proofs.YtaijompnohkmaaaGreatDoor
section
open Go.RowKit WalP PackP
set_option maxRecDepth 100000 in
set_option maxHeartbeats 8000000 in
theorem refFormat_any {B:Nat} (v lv:Value) (d:DiskP) (list:List (List UInt8)) (w:World) (hd:DiskV B w v d) (hv:Pieces B w lv list) (hl1:∀ b∈list,b.length≤2^20) (hl2:list.length≤2^20) :
  Calls Tryz.prog 62 #[v,lv] w (DLE w (formatP d list)):=by
 have hd:=hd.tight
 have hv:=hv.tight
 obtain⟨la,lc,rfl,_,_,_⟩:=id hv.at_
 obtain⟨p1,q1,p2,q2,rfl,_,_⟩:=hd.parts
 obtain⟨w4,hw4,hb4,hs4,R0,R2,R3⟩:=three w (.cells #[.slice p1 d.secs.length q1,.slice p2 d.loose.length q2,.int .i64 d.fuse,.bool d.down] 38) (.cells #[.slice none 0 0,.slice none 0 0,.int .i64 0,.bool false] 38) (.cells #[.int .i64 0,.int .i64 0,.int .i64 0,.int .i64 0] 41)
 have hd4:=(hd.below hb4).tight
 have hv4:=hv.below hb4
 have HW4:=zh hw4
 have n23:w.heap.size+1≠w.heap.size+1+1:=by omega
 have l2:w.heap.size≤w.heap.size+1:=by omega
 have l3:w.heap.size≤w.heap.size+1+1:=by omega
 clear hw4
 have k1:=refTakesL_any _ list w4 hv4 (by omega)
 have kr:=refright_any _ d w4 hd4
 obtain⟨R,hR⟩:∃ R,R=rightB d:=⟨_,rfl⟩
 rw [← hR] at kr
 have HR:=zh hR
 clear hR
 have C0:=cR w4 _ 0 _ _ _ R0
 have C1:=cR w4 _ 1 _ _ _ R0
 have C2:=cR w4 _ 2 _ _ _ R0
 have C3:=cR w4 _ 3 _ _ _ R0
 obtain⟨H,hH⟩:∃ H,H=half d:=⟨_,rfl⟩
 have hSH:(d.secs.length:Int) / 2=(H:Int):=by rw [hH];unfold half;omega
 have HHH:=zh hH
 have HSH:=zh hSH
 clear hH
 cases htot:total list with
 | none =>
  have hT':takesL list = -1:=by unfold takesL;rw [htot]
  rw [hT'] at k1
  have hF:formatP d list=(d,log0,1):=by unfold formatP;rw [htot]
  rw [hF]
  clear hF hT' htot
  cases R with
  | false =>
   unfold DLE logV log0
   go_enter Tryz.func62,Tryz.ntmps62
   go_upto_region 1 with (fail)
   rw [← HW4.out]
   go_wp2_with fail
   refine k1.mono ?_
   rintro e w5 ⟨rfl,h5⟩
   cases h5
   clear k1
   go_wp2_with fail
   refine kr.mono ?_
   rintro e w6 ⟨rfl,hb6⟩
   clear C0 C1 C2 C3 kr
   have S0:=(hb6.block _ (zB R0)).trans R0
   have S2:=(hb6.block _ (zB R2)).trans R2
   have S3:=(hb6.block _ (zB R3)).trans R3
   have hd6:=(hd4.below hb6).tight
   have hb46:=hb4.trans (hb6.mono hb4.size)
   have C0:=cR w6 _ 0 _ _ _ S0
   have C1:=cR w6 _ 1 _ _ _ S0
   have C2:=cR w6 _ 2 _ _ _ S0
   have C3:=cR w6 _ 3 _ _ _ S0
   have D0:=cR w6 _ 0 _ _ _ S2
   have D1:=cR w6 _ 1 _ _ _ S2
   have D2:=cR w6 _ 2 _ _ _ S2
   have D3:=cR w6 _ 3 _ _ _ S2
   have F0:=cR w6 _ 0 _ _ _ S3
   have F1:=cR w6 _ 1 _ _ _ S3
   have F2:=cR w6 _ 2 _ _ _ S3
   have F3:=cR w6 _ 3 _ _ _ S3
   have Z2:=zF S2
   have Z3:=zF S3
   have HX:=zh (exit_dl (.int .i64 0) (.int .i64 0) (.int .i64 0) (.int .i64 0) S2 S3 hd6 n23 hb46 l2 l3)
   clear S0 S2 S3 R0 R2 R3 hd hv hd4 hv4 hb4 hb6 hd6 hb46
   go_wp2_with fail
   refine bodyPost_ret (results_cct rfl _ _ (w.heap.size+1) (w.heap.size+1+1) _ _ _ _ _ _ _ _ rfl rfl HX.out.1 HX.out.2.1 Tryz.underlying38 rfl zQ Tryz.underlying41 rfl size_log) rfl ?_
   exact⟨⟨_,rfl,HX.out.2.2.1⟩,HX.out.2.2.2⟩
  | true =>
   unfold DLE logV log0
   go_enter Tryz.func62,Tryz.ntmps62
   go_upto_region 1 with (fail)
   rw [← HW4.out]
   go_wp2_with fail
   refine k1.mono ?_
   rintro e w5 ⟨rfl,h5⟩
   cases h5
   clear k1
   go_wp2_with fail
   refine kr.mono ?_
   rintro e w6 ⟨rfl,hb6⟩
   clear C0 C1 C2 C3 kr
   have S0:=(hb6.block _ (zB R0)).trans R0
   have S2:=(hb6.block _ (zB R2)).trans R2
   have S3:=(hb6.block _ (zB R3)).trans R3
   have hd6:=(hd4.below hb6).tight
   have hb46:=hb4.trans (hb6.mono hb4.size)
   have C0:=cR w6 _ 0 _ _ _ S0
   have C1:=cR w6 _ 1 _ _ _ S0
   have C2:=cR w6 _ 2 _ _ _ S0
   have C3:=cR w6 _ 3 _ _ _ S0
   have D0:=cR w6 _ 0 _ _ _ S2
   have D1:=cR w6 _ 1 _ _ _ S2
   have D2:=cR w6 _ 2 _ _ _ S2
   have D3:=cR w6 _ 3 _ _ _ S2
   have F0:=cR w6 _ 0 _ _ _ S3
   have F1:=cR w6 _ 1 _ _ _ S3
   have F2:=cR w6 _ 2 _ _ _ S3
   have F3:=cR w6 _ 3 _ _ _ S3
   have Z2:=zF S2
   have Z3:=zF S3
   have HX:=zh (exit_dl (.int .i64 0) (.int .i64 0) (.int .i64 0) (.int .i64 0) S2 S3 hd6 n23 hb46 l2 l3)
   clear S0 S2 S3 R0 R2 R3 hd hv hd4 hv4 hb4 hb6 hd6 hb46
   go_wp2_with fail
   refine bodyPost_ret (results_cct rfl _ _ (w.heap.size+1) (w.heap.size+1+1) _ _ _ _ _ _ _ _ rfl rfl HX.out.1 HX.out.2.1 Tryz.underlying38 rfl zQ Tryz.underlying41 rfl size_log) rfl ?_
   exact⟨⟨_,rfl,HX.out.2.2.1⟩,HX.out.2.2.2⟩
 | some n =>
  have hT':takesL list=(n:Int):=by unfold takesL;rw [htot]
  rw [hT'] at k1
  have HNE:=zh (total_ne htot)
  have HTOT:=zh htot
  have n0:decide ((n:Int)<0)=false:=by simp
  clear hT' htot
  cases R with
  | false =>
   have hF:formatP d list=(d,log0,1):=by unfold formatP;rw [HTOT.out,← HR.out];rfl
   rw [hF]
   clear hF
   unfold DLE logV log0
   go_enter Tryz.func62,Tryz.ntmps62
   go_upto_region 1 with (fail)
   rw [← HW4.out]
   go_wp2_with fail
   refine k1.mono ?_
   rintro e w5 ⟨rfl,h5⟩
   cases h5
   clear k1
   go_wp2_with fail
   refine kr.mono ?_
   rintro e w6 ⟨rfl,hb6⟩
   clear C0 C1 C2 C3 kr
   have S0:=(hb6.block _ (zB R0)).trans R0
   have S2:=(hb6.block _ (zB R2)).trans R2
   have S3:=(hb6.block _ (zB R3)).trans R3
   have hd6:=(hd4.below hb6).tight
   have hb46:=hb4.trans (hb6.mono hb4.size)
   have C0:=cR w6 _ 0 _ _ _ S0
   have C1:=cR w6 _ 1 _ _ _ S0
   have C2:=cR w6 _ 2 _ _ _ S0
   have C3:=cR w6 _ 3 _ _ _ S0
   have D0:=cR w6 _ 0 _ _ _ S2
   have D1:=cR w6 _ 1 _ _ _ S2
   have D2:=cR w6 _ 2 _ _ _ S2
   have D3:=cR w6 _ 3 _ _ _ S2
   have F0:=cR w6 _ 0 _ _ _ S3
   have F1:=cR w6 _ 1 _ _ _ S3
   have F2:=cR w6 _ 2 _ _ _ S3
   have F3:=cR w6 _ 3 _ _ _ S3
   have Z2:=zF S2
   have Z3:=zF S3
   have HX:=zh (exit_dl (.int .i64 0) (.int .i64 0) (.int .i64 0) (.int .i64 0) S2 S3 hd6 n23 hb46 l2 l3)
   clear S0 S2 S3 R0 R2 R3 hd hv hd4 hv4 hb4 hb6 hd6 hb46
   go_wp2_with fail
   refine bodyPost_ret (results_cct rfl _ _ (w.heap.size+1) (w.heap.size+1+1) _ _ _ _ _ _ _ _ rfl rfl HX.out.1 HX.out.2.1 Tryz.underlying38 rfl zQ Tryz.underlying41 rfl size_log) rfl ?_
   exact⟨⟨_,rfl,HX.out.2.2.1⟩,HX.out.2.2.2⟩
  | true =>
   have hh:=right_half HR.out.symm
   rw [← HHH.out] at hh
   by_cases hgt:H<n
   ·have hgt1:decide ((H:Int)<(n:Int))=true:=by simp;omega
    have hF:formatP d list=(d,log0,8):=by
     unfold formatP;rw [HTOT.out]
     simp only [← HR.out,if_true]
     rw [if_pos (by rw [← HHH.out];exact hgt)]
    rw [hF]
    clear hF
    unfold DLE logV log0
    go_enter Tryz.func62,Tryz.ntmps62
    go_upto_region 1 with (fail)
    rw [← HW4.out]
    go_wp2_with fail
    refine k1.mono ?_
    rintro e w5 ⟨rfl,h5⟩
    cases h5
    clear k1
    go_wp2_with fail
    refine kr.mono ?_
    rintro e w6 ⟨rfl,hb6⟩
    clear C0 C1 C2 C3 kr
    have S0:=(hb6.block _ (zB R0)).trans R0
    have S2:=(hb6.block _ (zB R2)).trans R2
    have S3:=(hb6.block _ (zB R3)).trans R3
    have hd6:=(hd4.below hb6).tight
    have hb46:=hb4.trans (hb6.mono hb4.size)
    have C0:=cR w6 _ 0 _ _ _ S0
    have C1:=cR w6 _ 1 _ _ _ S0
    have C2:=cR w6 _ 2 _ _ _ S0
    have C3:=cR w6 _ 3 _ _ _ S0
    have D0:=cR w6 _ 0 _ _ _ S2
    have D1:=cR w6 _ 1 _ _ _ S2
    have D2:=cR w6 _ 2 _ _ _ S2
    have D3:=cR w6 _ 3 _ _ _ S2
    have F0:=cR w6 _ 0 _ _ _ S3
    have F1:=cR w6 _ 1 _ _ _ S3
    have F2:=cR w6 _ 2 _ _ _ S3
    have F3:=cR w6 _ 3 _ _ _ S3
    have Z2:=zF S2
    have Z3:=zF S3
    have HX:=zh (exit_dl (.int .i64 0) (.int .i64 0) (.int .i64 0) (.int .i64 0) S2 S3 hd6 n23 hb46 l2 l3)
    clear S0 S2 S3 R0 R2 R3 hd hv hd4 hv4 hb4 hb6 hd6 hb46
    go_wp2_with fail
    refine bodyPost_ret (results_cct rfl _ _ (w.heap.size+1) (w.heap.size+1+1) _ _ _ _ _ _ _ _ rfl rfl HX.out.1 HX.out.2.1 Tryz.underlying38 rfl zQ Tryz.underlying41 rfl size_log) rfl ?_
    exact⟨⟨_,rfl,HX.out.2.2.1⟩,HX.out.2.2.2⟩
   ·have hgt1:decide ((H:Int)<(n:Int))=false:=by simp;omega
    obtain⟨r,hr⟩:∃ r,r=run d (.put (half d) zeroS :: layD (half d) 0 1 list):=⟨_,rfl⟩
    have hF:formatP d list=if r.2=0 then (r.1,⟨0,1,n,list.length⟩,0) else (r.1,log0,r.2):=by
     unfold formatP;rw [HTOT.out]
     simp only [← HR.out,if_true]
     rw [if_neg (by rw [← HHH.out];omega),← hr]
    obtain⟨x1,hx1⟩:∃ x,x=stepW (d,0) (.put (half d) zeroS):=⟨_,rfl⟩
    have hhx:half x1.1=half d:=by
     rw [hx1]
     unfold stepW
     rw [if_pos rfl]
     exact half_deed _ _
    have hds2:(layD (half d) 0 1 list).foldl stepW x1=r:=by
     rw [hr,hx1]
     have e:=stepW_run (.put (half d) zeroS :: layD (half d) 0 1 list) (d,0)
     rw [if_pos rfl,List.foldl_cons] at e
     exact e
    have HDS:=zh hds2
    have HHX:=zh hhx
    have HX1:=zh hx1
    have HF:=zh hF
    have HL1:=zh hl1
    clear hF hr hds2 hx1 hhx hl1
    rw [HF.out]
    unfold DLE logV log0
    go_enter Tryz.func62,Tryz.ntmps62
    go_upto_region 1 with (fail)
    rw [← HW4.out]
    go_wp2_with fail
    refine k1.mono ?_
    rintro e w5 ⟨rfl,h5⟩
    cases h5
    clear k1
    go_wp2_with fail
    refine kr.mono ?_
    rintro e w6 ⟨rfl,hb6⟩
    clear C0 C1 C2 C3 kr
    have S0:=(hb6.block _ (zB R0)).trans R0
    have S2:=(hb6.block _ (zB R2)).trans R2
    have S3:=(hb6.block _ (zB R3)).trans R3
    have hd6:=(hd4.below hb6).tight
    have hb46:=hb4.trans (hb6.mono hb4.size)
    have C0:=cR w6 _ 0 _ _ _ S0
    have C1:=cR w6 _ 1 _ _ _ S0
    have C2:=cR w6 _ 2 _ _ _ S0
    have C3:=cR w6 _ 3 _ _ _ S0
    obtain⟨w8,hw8⟩:∃ w8,w8=w6.alloc (.cells #[.slice p1 d.secs.length q1,.slice p2 d.loose.length q2,.int .i64 d.fuse,.bool d.down,.int .i64 0] 140):=⟨_,rfl⟩
    have hb8:Below w6.heap.size w6 w8:=by rw [hw8];exact Below.alloc (Below.refl _ _) (Nat.le_refl _) _
    have hrow8:w8.heap[w6.heap.size]?=some (.cells #[.slice p1 d.secs.length q1,.slice p2 d.loose.length q2,.int .i64 d.fuse,.bool d.down,.int .i64 0] 140 (0,0)):=by rw [hw8];exact heap_alloc_new w6 _
    have HWA8:=zh (work_new hrow8 (hd6.below hb8).tight)
    have HW8:=zh hw8
    have HB4:=zh hb4
    have HB48:=zh (hb6.trans (hb8.mono hb6.size))
    have HV6:=zh (hv4.below (hb6.mono hb4.size))
    have HB68:=zh hb8
    have hs7:=hb6.size
    obtain⟨g,hg⟩:∃ g,g=w6.heap.size:=⟨_,rfl⟩
    rw [← hg] at hrow8 HWA8 hs7
    have HG:=zh hg
    have HSS:=zh (show _∧_ from ⟨(HB48.out.block _ (zB R2)).trans R2,(HB48.out.block _ (zB R3)).trans R3⟩)
    clear R0 R2 R3 S0 S2 S3 hd hv hd4 hv4 hb4 hd6 hb6 hb46 hw8 hb8 hrow8 hg
    go_upto_region 8 with (fail)
    rw [← HW8.out,← HG.out]
    clear C0 C1 C2 C3
    have h8g:Below g w6 w8:=by rw [HG.out];exact HB68.out
    have HVG:=zh (show Pieces g w8 _ list from (HV6.out.below (h8g.mono (by omega))).mono (by omega))
    have hlt:=HWA8.out.lt
    have kp:=wput_any (d,0) (H:Int) zeroS w8 HWA8.out rfl
    rw [show ((H:Nat):Int)=((half d:Nat):Int) by rw [HHH.out],← HX1.out,← HHH.out] at kp
    obtain⟨Z,hZ⟩:∃ Z,Z=(u8s zeroS).toArray:=⟨_,rfl⟩
    have hb0:=run_build0 w8
    rw [← hZ] at kp hb0
    clear h8g hZ
    go_wp2_with (refine wp_build_l 94 [] rfl rfl rfl hb0 ?_;refine Halt.in ?_)
    refine Halt.out ?_
    clear hb0
    go_wp2_with fail
    refine kp.mono ?_
    rintro e w9 ⟨rfl,hw9,ho9⟩
    clear kp
    have hb89:=below_hand ho9 hlt
    have kb:=wlay_any x1 0 1 _ list w9 hw9 (HVG.out.below (hb89.mono (Nat.le_refl _))) (by omega) (by omega) HL1.out hl2 HNE.out
    rw [HHX.out,HDS.out] at kb
    have HO9:=zh ho9
    clear hw9 hb89 ho9
    go_wp2_with fail
    refine kb.mono ?_
    rintro e w13 ⟨rfl,hw13,ho13⟩
    clear kb
    have HO13:=zh (zO HO9.out ho13)
    obtain⟨a0,n0',a1,n1',T5,hd13⟩:=hw13
    have hb13:=below_hand HO13.out hlt
    have S2:=(hb13.block _ (by omega)).trans HSS.out.1
    have S3:=(hb13.block _ (by omega)).trans HSS.out.2
    have hb013:Below w.heap.size w w13:=(HB4.out.trans (HB48.out.mono HB4.out.size)).trans (hb13.mono (by omega))
    have E0:=cR w13 _ 0 _ _ _ T5
    have E1:=cR w13 _ 1 _ _ _ T5
    have E2:=cR w13 _ 2 _ _ _ T5
    have E3:=cR w13 _ 3 _ _ _ T5
    have E4:=cR w13 _ 4 _ _ _ T5
    have hgs:w.heap.size+3≤g:=by omega
    clear hb13 ho13 HO13 HO9
    by_cases he:r.2=0
    ·have hne0:(r.2 != 0)=false:=by simp [he]
     rw [he] at hne0 E4
     have D0:=cR w13 _ 0 _ _ _ S2
     have D1:=cR w13 _ 1 _ _ _ S2
     have D2:=cR w13 _ 2 _ _ _ S2
     have D3:=cR w13 _ 3 _ _ _ S2
     have F0:=cR w13 _ 0 _ _ _ S3
     have F1:=cR w13 _ 1 _ _ _ S3
     have F2:=cR w13 _ 2 _ _ _ S3
     have F3:=cR w13 _ 3 _ _ _ S3
     have Z2:=zF S2
     have Z3:=zF S3
     have HX:=zh (exit_dl (.int .i64 0) (.int .i64 1) (.int .i64 n) (.int .i64 list.length) S2 S3 hd13 n23 hb013 l2 l3)
     have HE:=zh he
     clear S2 S3 hd13 hb013 T5 he
     go_wp2_with fail
     refine bodyPost_ret (results_cct rfl _ _ (w.heap.size+1) (w.heap.size+1+1) _ _ _ _ _ _ _ _ rfl rfl HX.out.1 HX.out.2.1 Tryz.underlying38 rfl zQ Tryz.underlying41 rfl size_log) rfl ?_
     exact⟨⟨_,rfl,HX.out.2.2.1⟩,HX.out.2.2.2⟩
    ·have hne0:(r.2 != 0)=true:=by simp [he]
     have HE:=zh he
     clear he
     obtain⟨wa,st1,RA,ba,za,ka,_⟩:=storeBig (w:=w13.drew) info_disk S2 rfl #[.slice a0 r.1.secs.length n0',.slice a1 r.1.loose.length n1',.int .i64 r.1.fuse,.bool r.1.down] rfl (ones4 rfl rfl rfl rfl)
     have S3a:=(ka _ (Ne.symm n23)).trans S3
     obtain⟨wb,st2,RB,bb,zb,kb,_⟩:=storeBig info_log S3a rfl #[.int .i64 0,.int .i64 0,.int .i64 0,.int .i64 0] rfl (ones4 rfl rfl rfl rfl)
     have hdd:DiskV w13.drew.heap.size w13.drew _ r.1:=hd13.below (zD (Below.refl _ _) 1)
     have hda:=hdd.kept S2 (by simp) ka
     have hdb:=hda.kept S3a (by simp) kb
     have HX:=zh (show _∧_∧_∧Below w.heap.size w wb from ⟨(kb _ n23).trans RA,RB,(show DiskV wb.heap.size wb _ r.1 by rw [zb,za];exact hdb),((zD hb013 1).trans (ba.mono l2)).trans (bb.mono l3)⟩)
     have s0:zK (w.heap.size+1) (w.heap.size+1+1) w13 w13.drew:=zK.drew (zK.refl _ _ _)
     have sa:zK (w.heap.size+1) (w.heap.size+1+1) w13 wa:=zK.trans_ s0 (fun k h1 _=>ka k h1)
     have sb:zK (w.heap.size+1) (w.heap.size+1+1) w13 wb:=zK.trans_ sa (fun k _ h2=>kb k h2)
     have LL:∀ w':World,zK (w.heap.size+1) (w.heap.size+1+1) w13 w'→w'.heap[g]?=_:=fun w' h=>(h g (by omega) (by omega)).trans T5
     have L0:=fun (w':World) (h:zK (w.heap.size+1) (w.heap.size+1+1) w13 w')=>cR w' _ 0 _ _ _ (LL w' h)
     have L1:=fun (w':World) (h:zK (w.heap.size+1) (w.heap.size+1+1) w13 w')=>cR w' _ 1 _ _ _ (LL w' h)
     have L2:=fun (w':World) (h:zK (w.heap.size+1) (w.heap.size+1+1) w13 w')=>cR w' _ 2 _ _ _ (LL w' h)
     have L3:=fun (w':World) (h:zK (w.heap.size+1) (w.heap.size+1+1) w13 w')=>cR w' _ 3 _ _ _ (LL w' h)
     have L4:=fun (w':World) (h:zK (w.heap.size+1) (w.heap.size+1+1) w13 w')=>cR w' _ 4 _ _ _ (LL w' h)
     clear LL S2 S3 S3a RA RB ba bb za zb ka kb hdd hda hdb hd13 hb013 T5
     go_wp2_with fail
     clear E0 E1 E2 E3 E4
     refine zI [(false,0),(false,1),(false,2),(false,3),(false,4),(true,5),(true,6),(false,7)] (zK (w.heap.size+1) (w.heap.size+1+1) w13) (by kernel_rfl) (by kernel_rfl) s0 ?_
     repeat (first | (refine zS rfl rfl ?_;simp only [Act.put,zq1,zq2,zq3]) | (refine zT rfl ?_ rfl (fun w' hw'=>?_) ?_;rotate_left;(go_simp;first | done | with_reducible rfl);(try simp only [Act.put,zq1,zq2,zq3])))
     refine zA rfl rfl fun K hK=>?_
     refine op_store (.tmp 4) (.tmp 43) 38 rfl rfl rfl st1 ?_
     refine hK.out _ _ sa ?_
     clear hK K st1
     simp only [Act.put,zq1,zq2,zq3]
     refine zA rfl rfl fun K hK=>?_
     refine op_store (.tmp 5) (.tmp 44) 41 rfl rfl rfl st2 ?_
     refine hK.out _ _ sb ?_
     clear hK K st2
     simp only [Act.put,zq1,zq2,zq3]
     repeat (first | (refine zS rfl rfl ?_;simp only [Act.put,zq1,zq2,zq3]) | (refine zT rfl ?_ rfl (fun w' hw'=>?_) ?_;rotate_left;(go_simp;first | done | with_reducible rfl);(try simp only [Act.put,zq1,zq2,zq3])))
     refine zN ?_
     go_wp2_with fail
     refine bodyPost_ret (results_cct rfl _ _ (w.heap.size+1) (w.heap.size+1+1) _ _ _ _ _ _ _ _ rfl rfl HX.out.1 HX.out.2.1 Tryz.underlying38 rfl zQ Tryz.underlying41 rfl size_log) rfl ?_
     exact⟨⟨_,rfl,HX.out.2.2.1⟩,HX.out.2.2.2⟩
end
section
open Go.RowKit KvP
def goodR (l:List PairP) (i:Nat) (p:PairP):Bool:=mayP p.key p.val&&(decide (i=0) || match l[i-1]? with | some q=>decide (q.key<p.key) | none=>true)
theorem goodAt_eq (l:List PairP) (i:Nat) (p:PairP):goodAt l i p=(decide (i<400)&&goodR l i p):=by
 unfold goodAt goodR
 rw [Bool.and_assoc]
 rfl
set_option maxRecDepth 100000 in
set_option maxHeartbeats 4000000 in
theorem refpairs_any {B:Nat} (v:Value) (l:List PairP) (w:World) (hv:PairsV B w v l):Calls Tryz.prog 33 #[v] w fun e w'=>e = .returned (.bool (pairsB l))∧Below w.heap.size w w':=by
 have hv:=hv.tight
 obtain⟨_,a,c,rfl,h1,h2,_⟩:=id hv
 unfold maxLen at h2
 obtain⟨N,hN⟩:∃ N,N=l.length:=⟨_,rfl⟩
 rw [← hN] at hv h1 ⊢
 have HN:=zh hN
 have HV:=zh hv
 clear hN hv
 go_enter Tryz.func33,Tryz.ntmps33
 go_wp2_with fail
 go_loopw [3] (fun i wr=>∃ k:Nat,k≤N∧k≤401∧i = .int .i64 k∧Below w.heap.size w wr∧Hid (∀ i (_:i<k) (h':i<l.length),goodR l i l[i]=true)) (fun i _=>N-(intOf i).toNat)
 case atStart=>exact⟨0,Nat.zero_le _,by decide,rfl,Below.refl _ _,zh (fun i h=>absurd h (Nat.not_lt_zero _))⟩
 case round =>
  obtain⟨k,hk,hk401,rfl,hb,HG⟩:=hrel
  by_cases hkN:k<N
  ·have k0:decide ((k:Int)<(N:Int))=true:=by simp;omega
   by_cases hk4:k<401
   ·have q4:decide ((k:Int)<401)=true:=by simp;omega
    have hkl:k<l.length:=HN.out▸hkN
    have k1:(0:Int)≤(k:Int):=by omega
    have k2:(k:Int)<(N:Int):=by omega
    obtain⟨b,off,rfl,hbb,hc⟩:=load_pair HV.out hkl
    obtain⟨sk,hsk⟩:∃ s,s=ByteArray.mk l[k].key.toArray:=⟨_,rfl⟩
    obtain⟨sv,hsv⟩:∃ s,s=ByteArray.mk l[k].val.toArray:=⟨_,rfl⟩
    have L0:∀ w',Below w.heap.size w w'→w'.cell? ⟨b,off+k*2,none⟩=some (.string sk):=fun w' h=>by rw [hsk];exact (hc w' h).1
    have L1:∀ w',Below w.heap.size w w'→w'.cell? ⟨b,off+k*2+1,none⟩=some (.string sv):=fun w' h=>by rw [hsv];exact (hc w' h).2
    have s0:Below w.heap.size w wr.drew:=zD hb 1
    have HSK:=zh hsk
    have HSV:=zh hsv
    have km:∀ w',Calls Tryz.prog 71 #[.string sk,.string sv] w' fun e w''=>e = .returned (.bool (mayP l[k].key l[k].val))∧w'=w'':=fun w'=>by
     rw [HSK.out,HSV.out]
     exact refmay_any _ _ w'
    obtain⟨cm,hcm⟩:∃ x,x=mayP l[k].key l[k].val:=⟨_,rfl⟩
    rw [← hcm] at km
    have HCM:=zh hcm
    have KM:=zh km
    clear hcm km hsk hsv hc
    go_upto_region 4 with (fail)
    cases cm with
    | false =>
     have hfin:pairsB l=false:=by
      rw [Bool.eq_false_iff]
      intro h
      have:=pairsB_iff.1 h k hkl
      unfold goodAt at this
      rw [← HCM.out] at this
      simp at this
     have HFIN:=zh hfin
     clear hfin
     refine zI [(false,0),(false,1),(false,2),(false,3),(false,4),(false,5),(false,6),(false,7),(false,8),(false,9),(true,10),(false,11),(false,12),(false,13),(false,14),(false,15),(false,16),(false,17),(false,18),(false,19),(false,20),(false,21),(false,22),(false,23),(false,24),(false,25),(false,26),(false,27),(false,28),(false,29)] (fun w'=>Below w.heap.size w w') (by kernel_rfl) (by kernel_rfl) s0 ?_
     repeat (first | (refine zS rfl rfl ?_;simp only [Act.put,zq1,zq2,zq3]) | (refine zT rfl ?_ rfl (fun w' hw'=>?_) ?_;rotate_left;(go_simp;first | done | with_reducible rfl);(try simp only [Act.put,zq1,zq2,zq3])))
     refine zA rfl rfl fun K hK=>?_
     go_simp
     refine (KM.out _).mono ?_
     rintro e w5 ⟨rfl,rfl⟩
     refine hK.out _ _ s0 ?_
     clear hK K
     repeat (first | (refine zS rfl rfl ?_;simp only [Act.put,zq1,zq2,zq3]) | (refine zT rfl ?_ rfl (fun w' hw'=>?_) ?_;rotate_left;(go_simp;first | done | with_reducible rfl);(try simp only [Act.put,zq1,zq2,zq3])))
     refine zN ?_
     go_wp2_with fail
     go_ret
     exact⟨by rw [HFIN.out];rfl,s0⟩
    | true =>
     cases k with
     | zero =>
      have L0':=L0
      have L1':=L1
      rw [Nat.zero_mul,Nat.add_zero] at L0' L1'
      have hok:goodR l 0 l[0]=true:=by
       unfold goodR
       rw [← HCM.out]
       simp
      have HOK:=zh hok
      clear hok
      refine zI [(false,0),(false,1),(false,2),(false,3),(false,4),(false,5),(false,6),(false,7),(false,8),(false,9),(true,10),(false,11),(false,12),(false,13),(false,14),(false,15),(false,16),(false,17),(false,18),(false,19),(false,20),(false,21),(false,22),(false,23),(false,24),(false,25),(false,26),(false,27),(false,28),(false,29)] (fun w'=>Below w.heap.size w w') (by kernel_rfl) (by kernel_rfl) s0 ?_
      repeat (first | (refine zS rfl rfl ?_;simp only [Act.put,zq1,zq2,zq3]) | (refine zT rfl ?_ rfl (fun w' hw'=>?_) ?_;rotate_left;(go_simp;first | done | with_reducible rfl);(try simp only [Act.put,zq1,zq2,zq3])))
      refine zA rfl rfl fun K hK=>?_
      go_simp
      refine (KM.out _).mono ?_
      rintro e w5 ⟨rfl,rfl⟩
      refine hK.out _ _ s0 ?_
      clear hK K
      repeat (first | (refine zS rfl rfl ?_;simp only [Act.put,zq1,zq2,zq3]) | (refine zT rfl ?_ rfl (fun w' hw'=>?_) ?_;rotate_left;(go_simp;first | done | with_reducible rfl);(try simp only [Act.put,zq1,zq2,zq3])))
      refine zN ?_
      go_wp2_with fail
      go_roundw
      case rel =>
       refine⟨0+1,by omega,by omega,by go_num,s0,zh (fun i hi h'=>?_)⟩
       by_cases hik:i<0
       ·exact HG.out i hik h'
       ·obtain rfl:i=0:=by omega
        exact HOK.out
      case measure=>simp [intOf];omega
     | succ j =>
      obtain⟨b',off',he',_,hc'⟩:=load_pair HV.out (show j<l.length by omega)
      cases he'
      obtain⟨sp,hsp⟩:∃ s,s=ByteArray.mk l[j].key.toArray:=⟨_,rfl⟩
      have L2:∀ w',Below w.heap.size w w'→w'.cell? ⟨b,off+j*2,none⟩=some (.string sp):=fun w' h=>by
       rw [hsp]
       exact (hc' w' h).1
      obtain⟨cl,hcl⟩:∃ x,x=decide (l[j].key<l[j+1].key):=⟨_,rfl⟩
      have kb:Op.bytesLess sp.toList sk.toList=cl:=by rw [hsp,HSK.out,str_list,str_list,bytesLess_eq,hcl]
      have hok:goodR l (j+1) l[j+1]=cl:=by
       unfold goodR
       rw [← HCM.out,Nat.add_sub_cancel,List.getElem?_eq_getElem (show j<l.length by omega)]
       simp [hcl]
      have HOK:=zh hok
      clear hok hcl hsp hc'
      have k1':(0:Int)≤(j:Int)+1:=by omega
      have k2':(j:Int)+1<(N:Int):=by omega
      have j1:(0:Int)≤(j:Int):=by omega
      have j2:(j:Int)<(N:Int):=by omega
      have hwj:IntKind.i64.wrap (j:Int)=(j:Int):=by
       simp only [IntKind.wrap,IntKind.bits,IntKind.signed]
       simp
       omega
      have c2:decide ((0:Int)<(j:Int)+1)=true:=decide_eq_true (by omega)
      cases cl with
      | false =>
       have hfin:pairsB l=false:=by
        rw [Bool.eq_false_iff]
        intro h
        have:=pairsB_iff.1 h (j+1) hkl
        rw [goodAt_eq,HOK.out] at this
        simp at this
       have HFIN:=zh hfin
       clear hfin
       refine zI [(false,0),(false,1),(false,2),(false,3),(false,4),(false,5),(false,6),(false,7),(false,8),(false,9),(true,10),(false,11),(false,12),(false,13),(false,14),(false,15),(false,16),(false,17),(false,18),(false,19),(false,20),(false,21),(false,22),(false,23),(false,24),(false,25),(false,26),(false,27),(false,28),(false,29)] (fun w'=>Below w.heap.size w w') (by kernel_rfl) (by kernel_rfl) s0 ?_
       repeat (first | (refine zS rfl rfl ?_;simp only [Act.put,zq1,zq2,zq3]) | (refine zT rfl ?_ rfl (fun w' hw'=>?_) ?_;rotate_left;(go_simp;first | done | with_reducible rfl);(try simp only [Act.put,zq1,zq2,zq3])))
       refine zA rfl rfl fun K hK=>?_
       go_simp
       refine (KM.out _).mono ?_
       rintro e w5 ⟨rfl,rfl⟩
       refine hK.out _ _ s0 ?_
       clear hK K
       repeat (first | (refine zS rfl rfl ?_;simp only [Act.put,zq1,zq2,zq3]) | (refine zT rfl ?_ rfl (fun w' hw'=>?_) ?_;rotate_left;(go_simp;first | done | with_reducible rfl);(try simp only [Act.put,zq1,zq2,zq3])))
       refine zN ?_
       go_wp2_with fail
       go_ret
       exact⟨by rw [HFIN.out];rfl,s0⟩
      | true =>
       refine zI [(false,0),(false,1),(false,2),(false,3),(false,4),(false,5),(false,6),(false,7),(false,8),(false,9),(true,10),(false,11),(false,12),(false,13),(false,14),(false,15),(false,16),(false,17),(false,18),(false,19),(false,20),(false,21),(false,22),(false,23),(false,24),(false,25),(false,26),(false,27),(false,28),(false,29)] (fun w'=>Below w.heap.size w w') (by kernel_rfl) (by kernel_rfl) s0 ?_
       repeat (first | (refine zS rfl rfl ?_;simp only [Act.put,zq1,zq2,zq3]) | (refine zT rfl ?_ rfl (fun w' hw'=>?_) ?_;rotate_left;(go_simp;first | done | with_reducible rfl);(try simp only [Act.put,zq1,zq2,zq3])))
       refine zA rfl rfl fun K hK=>?_
       go_simp
       refine (KM.out _).mono ?_
       rintro e w5 ⟨rfl,rfl⟩
       refine hK.out _ _ s0 ?_
       clear hK K
       repeat (first | (refine zS rfl rfl ?_;simp only [Act.put,zq1,zq2,zq3]) | (refine zT rfl ?_ rfl (fun w' hw'=>?_) ?_;rotate_left;(go_simp;first | done | with_reducible rfl);(try simp only [Act.put,zq1,zq2,zq3])))
       refine zN ?_
       go_wp2_with fail
       go_roundw
       case rel =>
        refine⟨(j+1)+1,by omega,by omega,by go_num,s0,zh (fun i hi h'=>?_)⟩
        by_cases hik:i<(j+1)
        ·exact HG.out i hik h'
        ·obtain rfl:i=(j+1):=by omega
         exact HOK.out
       case measure=>simp [intOf];omega
   ·have q4:decide ((k:Int)<401)=false:=by simp;omega
    have q5:decide ((N:Int)≤400)=false:=by simp;omega
    have hfin:pairsB l=false:=by
     rw [Bool.eq_false_iff]
     intro h
     have:=(pairsB_parts h).1
     have:=HN.out
     omega
    have HFIN:=zh hfin
    clear hfin
    go_wp2_with fail
    go_ret
    exact⟨by rw [HFIN.out];rfl,hb⟩
  ·have k0:decide ((k:Int)<(N:Int))=false:=by simp;omega
   have hfin:pairsB l=decide ((N:Int)≤400):=by
    by_cases h4:N≤400
    ·rw [decide_eq_true (by omega)]
     refine pairsB_iff.2 (fun i hi=>?_)
     have:=HN.out
     rw [goodAt_eq,HG.out i (by omega) hi,decide_eq_true (show i<400 by omega)]
     rfl
    ·rw [decide_eq_false (by omega),Bool.eq_false_iff]
     intro h
     have:=(pairsB_parts h).1
     have:=HN.out
     omega
   have HFIN:=zh hfin
   clear hfin
   go_wp2_with fail
   go_ret
   exact⟨by rw [HFIN.out];rfl,hb⟩
end
section
open Go.RowKit KvP PackP
set_option maxRecDepth 100000 in
set_option maxHeartbeats 4000000 in
theorem refbytes_any {B:Nat} (v:Value) (l:List ChangeP) (w:World) (hv:ChangesV B w v l) (hl:l.length≤2^20) (hsz:∀ c∈l,c.key.length≤2^20∧c.val.length≤2^20) :
  Calls Tryz.prog 45 #[v] w fun e w'=>∃ v',e = .returned v'∧OwnB w.heap.size w' v' (bytesP l)∧Below w.heap.size w w':=by
 have hv:=hv.tight
 obtain⟨_,a,c,rfl,h1,h2,_⟩:=id hv
 unfold maxLen at h2
 obtain⟨N,hN⟩:∃ N,N=l.length:=⟨_,rfl⟩
 have hb0:bytesK l 0=[]++numB (N:Int):=by
  unfold bytesK
  rw [hN]
  simp
 have hHB:=zh (bytesK_all l)
 rw [← hHB.out,← hN]
 rw [← hN] at hv h1 hl
 have HN:=zh hN
 have HV:=zh hv
 have HSZ:=zh hsz
 have HB0:=zh hb0
 have HLN:=zh hl
 clear hN hv hsz hb0 hl hHB
 have kc:=refNum_any 0 (.slice none 0 0) [] (N:Int) w (nil_bytes _ _) (by simp)
 go_enter Tryz.func45,Tryz.ntmps45
 go_wp2_with fail
 refine kc.mono ?_
 rintro e w0 ⟨v0,rfl,ho0,hb0⟩
 clear kc
 rw [← HB0.out] at ho0
 have HO0:=zh ho0
 have HB2:=zh hb0
 clear ho0 hb0
 go_wp2_with fail
 go_loopw [3,4] (fun s i wr=>∃ k:Nat,k≤N∧i = .int .i64 k∧OwnB w.heap.size wr s (bytesK l k)∧Below w.heap.size w wr) (fun _ i _=>N-(intOf i).toNat)
 case atStart=>exact⟨0,Nat.zero_le _,rfl,HO0.out,HB2.out⟩
 case round =>
  obtain⟨k,hk,rfl,ho,hb⟩:=hrel
  clear HO0 HB2 HB0
  by_cases hkN:k<N
  ·have hkl:k<l.length:=HN.out▸hkN
   have k1:(0:Int)≤(k:Int):=by omega
   have k2:(k:Int)<(N:Int):=by omega
   have k0:decide ((k:Int)<(N:Int))=true:=by simp;omega
   obtain⟨b,off,rfl,hbb,hc⟩:=load_change HV.out hkl
   have hz:=HSZ.out _ (List.getElem_mem hkl)
   have hsucc:=bytesK_succ l k hkl
   have hlen:(bytesK l k).length≤2^34:=len_bytesK l k (Nat.le_trans hk HLN.out)
   obtain⟨⟨key,val,gn⟩,hx⟩:∃ x,x=l[k]:=⟨_,rfl⟩
   rw [← hx] at hc hz hsucc
   dsimp only at hc hz
   obtain⟨sk,hsk⟩:∃ s,s=ByteArray.mk key.toArray:=⟨_,rfl⟩
   obtain⟨sv,hsv⟩:∃ s,s=ByteArray.mk val.toArray:=⟨_,rfl⟩
   have L0:∀ w',Below w.heap.size w w'→w'.cell? ⟨b,off+k*3,none⟩=some (.string sk):=fun w' h=>by rw [hsk];exact (hc w' h).1
   have L1:∀ w',Below w.heap.size w w'→w'.cell? ⟨b,off+k*3+1,none⟩=some (.string sv):=fun w' h=>by rw [hsv];exact (hc w' h).2.1
   have S2:=(hc wr hb).2.2
   have hzk:sk.size≤2^47:=by rw [hsk,str_size];omega
   have hzv:sv.size≤2^47:=by rw [hsv,str_size];omega
   have htk:sk.data.toList=key:=by rw [hsk]
   have htv:sv.data.toList=val:=by rw [hsv]
   have HZK:=zh hzk
   have HZV:=zh hzv
   have HTK:=zh htk
   have HTV:=zh htv
   have HSU:=zh hsucc
   have HLE:=zh hlen
   have s0:Below w.heap.size w wr.drew:=zD hb 1
   have hob:=(ho.bytes.below (zD (Below.refl _ wr) 1)).tight
   clear hsk hsv hz hzk hzv htk htv hsucc hlen hx hc ho
   cases gn with
  | true =>
    go_upto_region 6 with (fail)
    clear S2
    refine zI [(false,0),(false,2),(false,3),(false,4),(false,5),(false,6),(true,1),(true,7),(false,8)] (fun w'=>Below w.heap.size w w') (by kernel_rfl) (by kernel_rfl) s0 ?_
    repeat (first | (refine zS rfl rfl ?_;simp only [Act.put,zq1,zq2,zq3]) | (refine zT rfl ?_ rfl (fun w' hw'=>?_) ?_;rotate_left;(go_simp;first | done | with_reducible rfl);(try simp only [Act.put,zq1,zq2,zq3])))
    refine zA rfl rfl fun K hK=>?_
    have kc:=refNum_any _ _ _ (1:Int) _ hob (by have:=HLE.out;omega)
    go_simp
    refine kc.mono ?_
    rintro e w1 ⟨u1,rfl,hu1,hb1⟩
    clear kc
    have s1:=s0.trans (hb1.mono s0.size)
    refine hK.out _ _ s1 ?_
    clear hK K
    repeat (first | (refine zS rfl rfl ?_;simp only [Act.put,zq1,zq2,zq3]) | (refine zT rfl ?_ rfl (fun w' hw'=>?_) ?_;rotate_left;(go_simp;first | done | with_reducible rfl);(try simp only [Act.put,zq1,zq2,zq3])))
    refine zA rfl rfl fun K hK=>?_
    have kc:=refText_any _ _ _ sk _ hu1.bytes (by have:=HLE.out;rw [List.length_append,length_numB];omega) HZK.out
    go_simp
    refine kc.mono ?_
    rintro e w2 ⟨u2,rfl,hu2,hb2⟩
    clear kc
    have s2:=s1.trans (hb2.mono s1.size)
    refine hK.out _ _ s2 ?_
    clear hK K
    repeat (first | (refine zS rfl rfl ?_;simp only [Act.put,zq1,zq2,zq3]) | (refine zT rfl ?_ rfl (fun w' hw'=>?_) ?_;rotate_left;(go_simp;first | done | with_reducible rfl);(try simp only [Act.put,zq1,zq2,zq3])))
    refine zN ?_
    have hfin:OwnB w.heap.size w2 u2 (bytesK l (k+1)):=by
     rw [HSU.out]
     unfold changeB
     rw [← HTK.out,← HTV.out]
     simp only [if_true,Bool.false_eq_true,if_false,← List.append_assoc]
     exact Own.lower hu2 s1.size
    have HFIN:=zh hfin
    clear hfin hu2
    go_wp2_with fail
    go_roundw
    case rel=>exact⟨k+1,by omega,by go_num,HFIN.out,s2⟩
    case measure=>simp [intOf];omega
  | false =>
    go_upto_region 7 with (fail)
    clear S2
    refine zI [(false,0),(false,2),(false,3),(false,4),(false,5),(false,6),(false,8),(false,9),(false,10),(false,11),(false,12),(true,1),(true,7),(true,13),(false,14)] (fun w'=>Below w.heap.size w w') (by kernel_rfl) (by kernel_rfl) s0 ?_
    repeat (first | (refine zS rfl rfl ?_;simp only [Act.put,zq1,zq2,zq3]) | (refine zT rfl ?_ rfl (fun w' hw'=>?_) ?_;rotate_left;(go_simp;first | done | with_reducible rfl);(try simp only [Act.put,zq1,zq2,zq3])))
    refine zA rfl rfl fun K hK=>?_
    have kc:=refNum_any _ _ _ (0:Int) _ hob (by have:=HLE.out;omega)
    go_simp
    refine kc.mono ?_
    rintro e w1 ⟨u1,rfl,hu1,hb1⟩
    clear kc
    have s1:=s0.trans (hb1.mono s0.size)
    refine hK.out _ _ s1 ?_
    clear hK K
    repeat (first | (refine zS rfl rfl ?_;simp only [Act.put,zq1,zq2,zq3]) | (refine zT rfl ?_ rfl (fun w' hw'=>?_) ?_;rotate_left;(go_simp;first | done | with_reducible rfl);(try simp only [Act.put,zq1,zq2,zq3])))
    refine zA rfl rfl fun K hK=>?_
    have kc:=refText_any _ _ _ sk _ hu1.bytes (by have:=HLE.out;rw [List.length_append,length_numB];omega) HZK.out
    go_simp
    refine kc.mono ?_
    rintro e w2 ⟨u2,rfl,hu2,hb2⟩
    clear kc
    have s2:=s1.trans (hb2.mono s1.size)
    refine hK.out _ _ s2 ?_
    clear hK K
    repeat (first | (refine zS rfl rfl ?_;simp only [Act.put,zq1,zq2,zq3]) | (refine zT rfl ?_ rfl (fun w' hw'=>?_) ?_;rotate_left;(go_simp;first | done | with_reducible rfl);(try simp only [Act.put,zq1,zq2,zq3])))
    refine zA rfl rfl fun K hK=>?_
    have kc:=refText_any _ _ _ sv _ hu2.bytes (by have:=HLE.out;have:=length_textB sk.data.toList;rw [List.length_append,List.length_append,length_numB];omega) HZV.out
    go_simp
    refine kc.mono ?_
    rintro e w3 ⟨u3,rfl,hu3,hb3⟩
    clear kc
    have s3:=s2.trans (hb3.mono s2.size)
    refine hK.out _ _ s3 ?_
    clear hK K
    repeat (first | (refine zS rfl rfl ?_;simp only [Act.put,zq1,zq2,zq3]) | (refine zT rfl ?_ rfl (fun w' hw'=>?_) ?_;rotate_left;(go_simp;first | done | with_reducible rfl);(try simp only [Act.put,zq1,zq2,zq3])))
    refine zN ?_
    have hfin:OwnB w.heap.size w3 u3 (bytesK l (k+1)):=by
     rw [HSU.out]
     unfold changeB
     rw [← HTK.out,← HTV.out]
     simp only [if_true,Bool.false_eq_true,if_false,← List.append_assoc]
     exact Own.lower hu3 s2.size
    have HFIN:=zh hfin
    clear hfin hu3
    go_wp2_with fail
    go_roundw
    case rel=>exact⟨k+1,by omega,by go_num,HFIN.out,s3⟩
    case measure=>simp [intOf];omega
  ·have k0:decide ((k:Int)<(N:Int))=false:=by simp;omega
   obtain rfl:k=N:=by omega
   have HO:=zh ho
   clear ho
   go_wp2_with fail
   go_ret
   exact⟨_,rfl,HO.out,hb⟩
end
section
open Go.RowKit KvP PackP
theorem op_append3 {P:Program} {o:Oper} {a:Act} {w:World} {K:Act→World→Prop} {Q:Exit→Act→World→Prop} (s y:Operand) (t xt e:TypeId)
  (ho:o.op = .call { callee:=.builtin .append,args:=#[s,y],argTypes:=#[t,xt] }) (i:TypeInfo) (z:Value) (sz bytes:Nat)
  (ht:P.underlying t=some (.slice e)) (hxt:(∃ e',P.underlying xt=some (.slice e'))∨P.underlying xt=some .string) (hi:P.info? e=some i) (hz:i.zero=some z) (hsz:i.size=sz) (hby:i.bytes=bytes) (hzs:z.cells.size=sz)
  {B:Nat} {v x:Value} {n m:Nat} {cs news:List Value} (hs:a.eval s=v) (hx:a.eval y=x)
  (hown:Own B w e v sz n cs) (hsrc:Src P w x sz m news) (h1:∀ u∈news,u.oneCell'=true) (h63:n+m≤maxLen) (hroom:(n+m)*bytes≤140737488355328) (hB:B≤w.heap.size)
  (h:∀ v' w',Own B w' e v' sz (n+m) (cs++news)→Below B w w'→Typed e w w'→K (a.put o.dst v') w'):Oper.wp P o a w K Q:=by
 obtain⟨v',w',hr,h2,h3,h4⟩:=run_append2 (P:=P) t xt o.type e i z ht hxt hi hz hsz hby hzs hown hsrc h1 h63 hroom hB
 subst hs
 subst hx
 unfold Oper.wp execOp
 simp only [ho,resolve,invoke,builtin,Sem.run_bind,Sem.run_pure,Result.andThen_ok,List.map_toArray,List.map_cons,List.map_nil,hr]
 exact h v' w' h2 h3 h4
theorem run_bs0C (w:World):(Instr.buildSlice 22 0 #[]).run Tryz.prog w = .ok (.slice (some ⟨w.heap.size,0,none⟩) 0 0) (w.alloc (.cells #[] 33)):=by kernel_rfl
theorem run_slice_rest {P:Program} {t e:TypeId} {i:TypeInfo} {sz:Nat} (ht:P.underlying t=some (.slice e)) (hi:P.info? e=some i) (hsz:i.size=sz) {B:Nat} {w:World} {a:Option Addr} {n cap:Nat} {cs:List Value} (h:Row B w (.slice a n cap) sz n cs) (k:Nat) (hk:k≤n) :
  ∃ a' c',(∀ w',(Instr.slice t (.slice a n cap) (some (.int .i64 k)) none none).run P w' = .ok (.slice a' (n-k) c') w')∧Row B w (.slice a' (n-k) c') sz (n-k) (cs.drop (k*sz)):=by
 refine⟨if cap=k then a else a.map (·.add (k*sz)),cap-k,fun w'=>?_,Row.drop h k hk⟩
 have h0:(0:Int)≤(k:Int):=by omega
 have h1:(k:Int)≤(n:Int):=by omega
 simp [Instr.slice,run_underlying ht,Instr.sliceBounds,run_sliceBound,sizeOf,typeInfo,hi,hsz,h0,h1]
theorem drop_changes (c:List ChangeP) (x:ChangeP):((c++[x]).map changeCells).flatten.drop (c.length*3)=([x].map changeCells).flatten:=by
 rw [List.map_append,List.flatten_append]
 have:(c.map changeCells).flatten.length=c.length*3:=by
  induction c with
  | nil=>rfl
  | cons y c ih=>rw [List.map_cons,List.flatten_cons,List.length_append,ih,List.length_cons];simp only [changeCells,List.length_cons,List.length_nil];omega
 rw [← this]
 exact List.drop_left
theorem ones_changes (l:List ChangeP):∀ u∈(l.map changeCells).flatten,u.oneCell'=true:=by
 intro u hu
 obtain⟨c,hc,hu⟩:=List.mem_flatten.1 hu
 obtain⟨x,_,rfl⟩:=List.mem_map.1 hc
 exact ones_change x u hu
set_option maxRecDepth 100000 in
set_option maxHeartbeats 4000000 in
theorem refsnapshot_any {B:Nat} (v:Value) (l:List PairP) (w:World) (hv:PairsV B w v l) (hm:∀ p∈l,mayP p.key p.val=true) (hN4:l.length≤400) :
  Calls Tryz.prog 42 #[v] w fun e w'=>∃ u,e = .returned u∧RecsT w.heap.size w' u (snapP l)∧Below w.heap.size w w':=by
 have hv:=hv.tight
 obtain⟨_,a,c,rfl,h1,h2,_⟩:=id hv
 unfold maxLen at h2
 obtain⟨N,hN⟩:∃ N,N=l.length:=⟨_,rfl⟩
 rw [← hN] at hv h1 hN4 ⊢
 have HN:=zh hN
 have HV:=zh hv
 have HM:=zh hm
 clear hN hv hm
 go_enter Tryz.func42,Tryz.ntmps42
 go_wp2_with fail
 go_loopw [3,4,5] (fun lv cv i wr=>∃ (k:Nat) (list:List (List UInt8)) (cs:List ChangeP),k≤N∧i = .int .i64 k∧list.length≤k∧RecsT w.heap.size wr lv list∧ChangesV wr.heap.size wr cv cs∧Below w.heap.size w wr∧Hid (ChunkOk cs)∧Hid (snapP l=list++(snapF (l.drop k) cs).map bytesP)) (fun _ _ i _=>N-(intOf i).toNat)
 case atStart=>exact⟨0,[],[],Nat.zero_le _,rfl,Nat.le_refl _,RecsT.none _ _ _,Row.nil _ _ _,Below.refl _ _,zh chunk_nil,zh rfl⟩
 case round =>
  obtain⟨k,list,cs,hk,rfl,hlk,hR,hC,hb,HCK,HSN⟩:=hrel
  by_cases hkN:k<N
  ·have hkl:k<l.length:=HN.out▸hkN
   have k1:(0:Int)≤(k:Int):=by omega
   have k2:(k:Int)<(N:Int):=by omega
   have k0:decide ((k:Int)<(N:Int))=true:=by simp;omega
   obtain⟨b,off,rfl,hbb,hc⟩:=load_pair HV.out hkl
   have hmay:=HM.out _ (List.getElem_mem hkl)
   have hdrop:l.drop k=l[k] :: l.drop (k+1):=List.drop_eq_getElem_cons hkl
   obtain⟨⟨key,val⟩,hx⟩:∃ x,x=l[k]:=⟨_,rfl⟩
   rw [← hx] at hc hmay hdrop
   dsimp only at hc
   obtain⟨sk,hsk⟩:∃ s,s=ByteArray.mk key.toArray:=⟨_,rfl⟩
   obtain⟨sv,hsv⟩:∃ s,s=ByteArray.mk val.toArray:=⟨_,rfl⟩
   have L0:∀ w',Below w.heap.size w w'→w'.cell? ⟨b,off+k*2,none⟩=some (.string sk):=fun w' h=>by rw [hsk];exact (hc w' h).1
   have L1:∀ w',Below w.heap.size w w'→w'.cell? ⟨b,off+k*2+1,none⟩=some (.string sv):=fun w' h=>by rw [hsv];exact (hc w' h).2
   obtain⟨L,hL⟩:∃ L,L=(bytesP (cs++[chg ⟨key,val⟩])).length:=⟨_,rfl⟩
   have hL2:L≤12000:=by
    rw [hL,bytes_snoc,length_chg hmay]
    have h:=hmay
    unfold mayP at h
    simp only [Bool.and_eq_true,decide_eq_true_eq] at h
    have:=HCK.out.2.1
    have h3:=h.1.2
    have h4:=h.2
    dsimp only at h3 h4 ⊢
    omega
   have hgreat:6000<L→snapF (l.drop k) cs=cs :: snapF (l.drop (k+1)) [chg ⟨key,val⟩]:=fun h=>by
    rw [hdrop]
    exact snapF_cons_great _ _ _ (by rw [← hL];exact h)
   have hsmall:¬ 6000<L→snapF (l.drop k) cs=snapF (l.drop (k+1)) (cs++[chg ⟨key,val⟩]):=fun h=>by
    rw [hdrop]
    exact snapF_cons_small _ _ _ (by rw [← hL];exact h)
   have HSK:=zh hsk
   have HSV:=zh hsv
   have HL:=zh hL
   have HMAY:=zh hmay
   have HG:=zh hgreat
   have HS:=zh hsmall
   have hcl:=(ChunkOk.len HCK.out).1
   have HCL:=zh hcl
   have s0:Below w.heap.size w wr.drew:=zD hb 1
   have hd:Below wr.heap.size wr wr.drew:=zD (Below.refl _ _) 1
   have hcv:=(hC.below hd).tight
   obtain⟨i0,z0,hi,hz0,hz1,hz2,hz3⟩:=zero_parts infoz_change
   have HI:=zh hi
   have HZ0:=zh hz0
   clear hsk hsv hL hmay hgreat hsmall hdrop hx hc hcl hd hi hz0
   go_upto_region 6 with (fail)
   have hb0:=hb
   go_cut [6] from 13 to 28 (fun x wx=>ChangesO wr.heap.size wx x (cs++[chg ⟨key,val⟩])∧Below wr.heap.size wr wx)
   case first =>
    refine wp_region_start (fun w'=>Below w.heap.size w w') (by kernel_rfl) s0 ?_
    refine wpAnyH_part [(false,1),(false,3),(false,4),(false,5),(false,6),(false,7),(false,8),(false,9),(false,10),(false,11),(false,12),(false,13)] (by kernel_rfl) s0 ?_
    repeat (first | (refine zS rfl rfl ?_;simp only [Act.put,zq1,zq2,zq3]) | (refine zT rfl ?_ rfl (fun w' hw'=>?_) ?_;rotate_left;(go_simp;first | done | with_reducible rfl);(try simp only [Act.put,zq1,zq2,zq3])))
    refine zN ?_
    refine wpAnyH_ready (rs:=[0,14]) (by kernel_rfl) (by simp) ?_
    refine zR rfl rfl (fun K hK=>?_) (zR rfl rfl (fun K hK=>?_) AllReadyH.nil)
    ·skip
     obtain⟨wt1,hw⟩:∃ x,x=wr.drew.alloc (.cells #[] 33):=⟨_,rfl⟩
     obtain⟨g0,hg⟩:∃ g,g=wr.drew.heap.size:=⟨_,rfl⟩
     have hb:Below wr.drew.heap.size wr.drew wt1:=by rw [hw];exact Below.alloc (Below.refl _ _) (Nat.le_refl _) _
     have st1:=s0.trans (hb.mono s0.size)
     have bb1:=(zD (Below.refl wr.heap.size wr) 1).trans (hb.mono (zD (Below.refl wr.heap.size wr) 1).size)
     have hcv:=(hcv.below hb).tight
     refine op_buildSlice 22 0 [] rfl rfl (run_bs0C _) ?_
     rw [← hw,← hg]
     refine hK.out _ _ st1 ?_
     clear hK K hw hg hb
     simp only [Act.put,zq1,zq2,zq3]
     refine wpAnyH_ready (rs:=[2,14]) (by kernel_rfl) (by simp) ?_
     refine zR rfl rfl (fun K hK=>?_) (zR rfl rfl (fun K hK=>?_) AllReadyH.nil)
     ·skip
      refine op_append3 (.tmp 13) (.tmp 14) 22 22 33 rfl i0 z0 3 40 Tryz.underlying22 (.inl ⟨_,Tryz.underlying22⟩) HI.out HZ0.out hz1 hz2 hz3 rfl rfl (Own.none wt1.heap.size wt1 33 (some ⟨g0,0,none⟩) 3) (Row.src hcv) (ones_changes cs) (by have:=HCL.out;unfold maxLen;omega) (by have:=HCL.out;omega) (Nat.le_refl _) ?_
      rintro x1 wt2 hx1 hb _
      have st2:=st1.trans (hb.mono st1.size)
      have bb2:=bb1.trans (hb.mono bb1.size)
      rw [Nat.zero_add,List.nil_append] at hx1
      have lx1:wr.heap.size≤wt1.heap.size:=bb1.size
      replace hx1:=Own.lower hx1 lx1
      refine hK.out _ _ st2 ?_
      clear hK K hb lx1
      try simp only [Act.put,zq1,zq2,zq3]
      refine wpAnyH_ready (rs:=[14]) (by kernel_rfl) (by simp) ?_
      refine zR rfl rfl (fun K hK=>?_) AllReadyH.nil
      ·skip
       obtain⟨wt3,hw⟩:∃ x,x=wt2.alloc (.cells #[.string sk,.string sv,.bool false] 33):=⟨_,rfl⟩
       obtain⟨g1,hg⟩:∃ g,g=wt2.heap.size:=⟨_,rfl⟩
       have hb:Below wt2.heap.size wt2 wt3:=by rw [hw];exact Below.alloc (Below.refl _ _) (Nat.le_refl _) _
       have st3:=st2.trans (hb.mono st2.size)
       have bb3:=bb2.trans (hb.mono bb2.size)
       have hnw:Row wt3.heap.size wt3 (.slice (some ⟨g1,0,none⟩) 1 1) 3 1 (changeCells (chg ⟨key,val⟩)):=by
        rw [hw,hg]
        refine Row.tight (Row.fresh (by simp [changeCells]) (Nat.le_refl _) (by decide) (fun k u hk=>?_)) (by decide)
        simp only [changeCells,str,chg] at hk
        rw [HSK.out,HSV.out];simpa using hk
       have hx1:=Own.below hx1 hb (Nat.le_refl _)
       refine op_buildSlice 22 1 [(0,.tmp 26)] rfl rfl (run_bsC sk sv false _) ?_
       rw [← hw,← hg]
       refine hK.out _ _ st3 ?_
       clear hK K hw hg hb
       simp only [Act.put,zq1,zq2,zq3]
       refine wpAnyH_end [(true,15),(false,16)] (by kernel_rfl) st3 ?_
       refine zA rfl rfl fun K hK=>?_
       refine op_append3 (.tmp 15) (.tmp 27) 22 22 33 rfl i0 z0 3 40 Tryz.underlying22 (.inl ⟨_,Tryz.underlying22⟩) HI.out HZ0.out hz1 hz2 hz3 rfl rfl hx1 (Row.src hnw) (ones_change _) (by have:=HCL.out;unfold maxLen;omega) (by have:=HCL.out;omega) bb3.size ?_
       rintro x2 wt4 hx2 hb _
       have st4:=st3.trans (hb.mono hb0.size)
       have bb4:=bb3.trans hb
       have hX:=ChangesO.snoc hx2
       refine hK.out _ _ st4 ?_
       clear hK K hb hx2
       repeat (first | (refine zS rfl rfl ?_;simp only [Act.put,zq1,zq2,zq3]) | (refine zT rfl ?_ rfl (fun w' hw'=>?_) ?_;rotate_left;(go_simp;first | done | with_reducible rfl);(try simp only [Act.put,zq1,zq2,zq3])))
       refine zN ?_
       go_wp2_with fail
       go_meet
       case rel=>exact⟨hX,bb4⟩
     ·skip
      obtain⟨wt5,hw⟩:∃ x,x=wt1.alloc (.cells #[.string sk,.string sv,.bool false] 33):=⟨_,rfl⟩
      obtain⟨g1,hg⟩:∃ g,g=wt1.heap.size:=⟨_,rfl⟩
      have hb:Below wt1.heap.size wt1 wt5:=by rw [hw];exact Below.alloc (Below.refl _ _) (Nat.le_refl _) _
      have st5:=st1.trans (hb.mono st1.size)
      have bb5:=bb1.trans (hb.mono bb1.size)
      have hnw:Row wt5.heap.size wt5 (.slice (some ⟨g1,0,none⟩) 1 1) 3 1 (changeCells (chg ⟨key,val⟩)):=by
       rw [hw,hg]
       refine Row.tight (Row.fresh (by simp [changeCells]) (Nat.le_refl _) (by decide) (fun k u hk=>?_)) (by decide)
       simp only [changeCells,str,chg] at hk
       rw [HSK.out,HSV.out];simpa using hk
      have hcv:=(hcv.below hb).tight
      refine op_buildSlice 22 1 [(0,.tmp 26)] rfl rfl (run_bsC sk sv false _) ?_
      rw [← hw,← hg]
      refine hK.out _ _ st5 ?_
      clear hK K hw hg hb
      simp only [Act.put,zq1,zq2,zq3]
      refine wpAnyH_ready (rs:=[2]) (by kernel_rfl) (by simp) ?_
      refine zR rfl rfl (fun K hK=>?_) AllReadyH.nil
      ·skip
       refine op_append3 (.tmp 13) (.tmp 14) 22 22 33 rfl i0 z0 3 40 Tryz.underlying22 (.inl ⟨_,Tryz.underlying22⟩) HI.out HZ0.out hz1 hz2 hz3 rfl rfl (Own.none wt5.heap.size wt5 33 (some ⟨g0,0,none⟩) 3) (Row.src hcv) (ones_changes cs) (by have:=HCL.out;unfold maxLen;omega) (by have:=HCL.out;omega) (Nat.le_refl _) ?_
       rintro x1 wt6 hx1 hb _
       have st6:=st5.trans (hb.mono st5.size)
       have bb6:=bb5.trans (hb.mono bb5.size)
       rw [Nat.zero_add,List.nil_append] at hx1
       have lx1:wr.heap.size≤wt5.heap.size:=bb5.size
       replace hx1:=Own.lower hx1 lx1
       have hnw:=(hnw.below hb).tight (by decide)
       refine hK.out _ _ st6 ?_
       clear hK K hb lx1
       try simp only [Act.put,zq1,zq2,zq3]
       refine wpAnyH_end [(true,15),(false,16)] (by kernel_rfl) st6 ?_
       refine zA rfl rfl fun K hK=>?_
       refine op_append3 (.tmp 15) (.tmp 27) 22 22 33 rfl i0 z0 3 40 Tryz.underlying22 (.inl ⟨_,Tryz.underlying22⟩) HI.out HZ0.out hz1 hz2 hz3 rfl rfl hx1 (Row.src hnw) (ones_change _) (by have:=HCL.out;unfold maxLen;omega) (by have:=HCL.out;omega) bb6.size ?_
       rintro x2 wt7 hx2 hb _
       have st7:=st6.trans (hb.mono hb0.size)
       have bb7:=bb6.trans hb
       have hX:=ChangesO.snoc hx2
       refine hK.out _ _ st7 ?_
       clear hK K hb hx2
       repeat (first | (refine zS rfl rfl ?_;simp only [Act.put,zq1,zq2,zq3]) | (refine zT rfl ?_ rfl (fun w' hw'=>?_) ?_;rotate_left;(go_simp;first | done | with_reducible rfl);(try simp only [Act.put,zq1,zq2,zq3])))
       refine zN ?_
       go_wp2_with fail
       go_meet
       case rel=>exact⟨hX,bb7⟩
    ·skip
     obtain⟨wt8,hw⟩:∃ x,x=wr.drew.alloc (.cells #[.string sk,.string sv,.bool false] 33):=⟨_,rfl⟩
     obtain⟨g1,hg⟩:∃ g,g=wr.drew.heap.size:=⟨_,rfl⟩
     have hb:Below wr.drew.heap.size wr.drew wt8:=by rw [hw];exact Below.alloc (Below.refl _ _) (Nat.le_refl _) _
     have st8:=s0.trans (hb.mono s0.size)
     have bb8:=(zD (Below.refl wr.heap.size wr) 1).trans (hb.mono (zD (Below.refl wr.heap.size wr) 1).size)
     have hnw:Row wt8.heap.size wt8 (.slice (some ⟨g1,0,none⟩) 1 1) 3 1 (changeCells (chg ⟨key,val⟩)):=by
      rw [hw,hg]
      refine Row.tight (Row.fresh (by simp [changeCells]) (Nat.le_refl _) (by decide) (fun k u hk=>?_)) (by decide)
      simp only [changeCells,str,chg] at hk
      rw [HSK.out,HSV.out];simpa using hk
     have hcv:=(hcv.below hb).tight
     refine op_buildSlice 22 1 [(0,.tmp 26)] rfl rfl (run_bsC sk sv false _) ?_
     rw [← hw,← hg]
     refine hK.out _ _ st8 ?_
     clear hK K hw hg hb
     simp only [Act.put,zq1,zq2,zq3]
     refine wpAnyH_ready (rs:=[0]) (by kernel_rfl) (by simp) ?_
     refine zR rfl rfl (fun K hK=>?_) AllReadyH.nil
     ·skip
      obtain⟨wt9,hw⟩:∃ x,x=wt8.alloc (.cells #[] 33):=⟨_,rfl⟩
      obtain⟨g0,hg⟩:∃ g,g=wt8.heap.size:=⟨_,rfl⟩
      have hb:Below wt8.heap.size wt8 wt9:=by rw [hw];exact Below.alloc (Below.refl _ _) (Nat.le_refl _) _
      have st9:=st8.trans (hb.mono st8.size)
      have bb9:=bb8.trans (hb.mono bb8.size)
      have hcv:=(hcv.below hb).tight
      have hnw:=(hnw.below hb).tight (by decide)
      refine op_buildSlice 22 0 [] rfl rfl (run_bs0C _) ?_
      rw [← hw,← hg]
      refine hK.out _ _ st9 ?_
      clear hK K hw hg hb
      simp only [Act.put,zq1,zq2,zq3]
      refine wpAnyH_ready (rs:=[2]) (by kernel_rfl) (by simp) ?_
      refine zR rfl rfl (fun K hK=>?_) AllReadyH.nil
      ·skip
       refine op_append3 (.tmp 13) (.tmp 14) 22 22 33 rfl i0 z0 3 40 Tryz.underlying22 (.inl ⟨_,Tryz.underlying22⟩) HI.out HZ0.out hz1 hz2 hz3 rfl rfl (Own.none wt9.heap.size wt9 33 (some ⟨g0,0,none⟩) 3) (Row.src hcv) (ones_changes cs) (by have:=HCL.out;unfold maxLen;omega) (by have:=HCL.out;omega) (Nat.le_refl _) ?_
       rintro x1 wt10 hx1 hb _
       have st10:=st9.trans (hb.mono st9.size)
       have bb10:=bb9.trans (hb.mono bb9.size)
       rw [Nat.zero_add,List.nil_append] at hx1
       have lx1:wr.heap.size≤wt9.heap.size:=bb9.size
       replace hx1:=Own.lower hx1 lx1
       have hnw:=(hnw.below hb).tight (by decide)
       refine hK.out _ _ st10 ?_
       clear hK K hb lx1
       try simp only [Act.put,zq1,zq2,zq3]
       refine wpAnyH_end [(true,15),(false,16)] (by kernel_rfl) st10 ?_
       refine zA rfl rfl fun K hK=>?_
       refine op_append3 (.tmp 15) (.tmp 27) 22 22 33 rfl i0 z0 3 40 Tryz.underlying22 (.inl ⟨_,Tryz.underlying22⟩) HI.out HZ0.out hz1 hz2 hz3 rfl rfl hx1 (Row.src hnw) (ones_change _) (by have:=HCL.out;unfold maxLen;omega) (by have:=HCL.out;omega) bb10.size ?_
       rintro x2 wt11 hx2 hb _
       have st11:=st10.trans (hb.mono hb0.size)
       have bb11:=bb10.trans hb
       have hX:=ChangesO.snoc hx2
       refine hK.out _ _ st11 ?_
       clear hK K hb hx2
       repeat (first | (refine zS rfl rfl ?_;simp only [Act.put,zq1,zq2,zq3]) | (refine zT rfl ?_ rfl (fun w' hw'=>?_) ?_;rotate_left;(go_simp;first | done | with_reducible rfl);(try simp only [Act.put,zq1,zq2,zq3])))
       refine zN ?_
       go_wp2_with fail
       go_meet
       case rel=>exact⟨hX,bb11⟩
   case rest =>
    obtain⟨hX,hbx⟩:=hcut
    have HR1:=zh (hR.below hbx (Nat.le_refl _))
    have hC1:=(hC.below hbx).tight
    have HC1:=zh hC1
    have HBX:=zh (hb.trans (hbx.mono hb.size))
    obtain⟨_,xa,xc,rfl,hxc,hxm,_⟩:=id hX.v
    have hxn:(cs++[chg ⟨key,val⟩]).length=cs.length+1:=by rw [List.length_append,List.length_singleton]
    have kb:=refbytes_any _ (cs++[chg ⟨key,val⟩]) wc hX.v (by rw [hxn];have:=HCL.out;omega) (fun x hx=>by
     have h2:=HMAY.out
     rcases List.mem_append.1 hx with hx | hx
     ·have:=(ChunkOk.len HCK.out).2 x hx;omega
     ·rw [List.mem_singleton.1 hx]
      have:=len_okC (okC_chg h2)
      omega)
    have hXr:Own wr.heap.size wc 33 (.slice xa (cs.length+1) xc) 3 (cs.length+1) ((cs++[chg ⟨key,val⟩]).map changeCells).flatten:=by
     have:=hX
     unfold ChangesO at this
     rwa [hxn] at this
    rw [hxn] at kb ⊢
    rw [hxn] at hxc
    have HXR:=zh hXr
    clear hX hbx hC1 hXr hC hb hxn s0 L0 L1 hz1 hz2 hz3 hcv
    go_wp2_with fail
    refine kb.mono ?_
    rintro e w5 ⟨u5,rfl,hu5,hb5⟩
    clear kb
    obtain⟨_,ya,yc,rfl,_,_,_⟩:=id hu5.bytes
    rw [← HL.out]
    have HR6:=zh (HR1.out.below hb5 (Nat.le_refl _))
    have HC6:=zh (HC1.out.below hb5).tight
    have HB6:=zh (HBX.out.trans (hb5.mono HBX.out.size))
    have HX6:=zh (Own.below HXR.out hb5 (Nat.le_refl _))
    clear hu5 hb5 HR1 HC1 HBX HXR
    by_cases h6:6000<L
    ·have q6:decide ((6000:Int)<(L:Int))=true:=by simp;omega
     have HSN2:=zh (HG.out h6)
     go_upto_region 8 with (fail)
     have kb:=refbytes_any _ cs w5 HC6.out (by have:=(ChunkOk.len (HCK.out)).1;omega) (fun x hx=>by have:=(ChunkOk.len (HCK.out)).2 x hx;omega)
     go_wp2_with fail
     refine kb.mono ?_
     rintro e w2 ⟨u,rfl,hu,hb2⟩
     clear kb
     obtain⟨_,ua,uc,rfl,_,_,_⟩:=id hu.bytes
     obtain⟨un,hun⟩:∃ n,n=(bytesP cs).length:=⟨_,rfl⟩
     have hu2:OwnB w.heap.size w2 (.slice ua un uc) (bytesP cs):=by rw [hun];exact Own.lower hu (HB6.out).size
     rw [← hun]
     clear hu hun
     obtain⟨w3,hw3⟩:∃ x,x=w2.alloc (.cells #[.slice ua un uc] 23):=⟨_,rfl⟩
     have hb3:Below w2.heap.size w2 w3:=by rw [hw3];exact Below.alloc (Below.refl _ _) (Nat.le_refl _) _
     have hb13:Below w5.heap.size w5 w3:=hb2.trans (hb3.mono hb2.size)
     obtain⟨vs,hvl,hown8,hel8⟩:=RecsT.open_ HR6.out hb13
     have hu3:OwnB w.heap.size w3 (.slice ua un uc) (bytesP cs):=Own.below hu2 hb3 (Nat.le_refl _)
     have hsrc:Src Tryz.prog w3 (.slice (some ⟨w2.heap.size,0,none⟩) 1 1) 1 1 [.slice ua un uc]:=by
      rw [hw3]
      exact Row.src (Row.fresh (by simp) (Nat.le_refl _) (by decide) (fun k u hk=>by simpa using hk))
     have hone:∀ u∈[Value.slice ua un uc],u.oneCell'=true:=fun u hu=>by rw [List.mem_singleton.1 hu];rfl
     obtain⟨i1,z1,hi,hz0,hy1,hy2,hy3⟩:=zero_parts infoz_bytes
     have R1:list.length+1≤maxLen:=by unfold maxLen;omega
     have R2:(list.length+1)*24≤140737488355328:=by omega
     have hs3:w.heap.size≤w3.heap.size:=Nat.le_trans (HB6.out).size hb13.size
     have HB3:=zh ((HB6.out).trans (hb13.mono (HB6.out).size))
     have hx13:=hb13
     have HU3:=zh hu3
     have HVL:=zh hvl
     have HEL:=zh hel8
     rw [hw3] at hown8 hsrc hs3
     have HW3:=zh hw3
     clear hb2 hb3 hb13 hu2 hu3 hvl hel8 hw3
     go_wp2_with (at_builtin;refine wp_append2 rfl (.tmp 33) (.tmp 36) 66 66 23 rfl i1 z1 1 24 Tryz.underlying66 (.inl ⟨_,Tryz.underlying66⟩) hi hz0 hy1 hy2 hy3 rfl rfl hown8 hsrc hone R1 R2 hs3 ?_;intro v5 w5 hown5 hb5 hty5;refine Halt.in ?_)
     refine Halt.out ?_
     rw [← HW3.out] at hb5 hty5
     have HR5:=zh (RecsT.snoc HVL.out hown5 HEL.out HU3.out hty5)
     have HB5:=zh (HB3.out.trans hb5)
     have HTY:=zh hty5
     have HX13:=zh hx13
     clear hsrc hone hown8 hown5 hb5 hty5 R1 R2 hs3 hi hz0 hy1 hy2 hy3 hx13
     obtain⟨i2,z2,hi2,hz2,hv1,hv2,hv3⟩:=zero_parts infoz_change
     obtain⟨a',c',hsl,hrow⟩:=run_slice_rest (P:=Tryz.prog) Tryz.underlying22 hi2 hv1 (Own.row (Own.typed (Own.below HX6.out HX13.out (Nat.le_refl _)) HTY.out (by decide))) cs.length (Nat.le_succ _)
     rw [drop_changes,Nat.add_sub_cancel_left] at hrow
     rw [Nat.add_sub_cancel_left] at hsl
     have hsub:((cs.length+1:Nat):Int)-1=(cs.length:Int):=by omega
     have hlen0:=HCL.out
     have HROW:=zh hrow
     clear hrow
     go_wp2_with fail
     go_roundw
     case rel=>exact⟨k+1,list++[bytesP cs],[chg ⟨key,val⟩],by omega,by go_num,by rw [List.length_append,List.length_singleton];omega,HR5.out,HROW.out,HB5.out,zh (ChunkOk.one (p:=⟨key,val⟩) HMAY.out),zh (by rw [HSN.out,HSN2.out];simp)⟩
     case measure=>simp [intOf];omega
    ·have q6:decide ((6000:Int)<(L:Int))=false:=by simp;omega
     have HSN2:=zh (HS.out h6)
     have HCK2:=zh (ChunkOk.snoc (p:=⟨key,val⟩) HCK.out HMAY.out (by rw [← HL.out];exact h6))
     go_wp2_with fail
     go_roundw
     case rel=>exact⟨k+1,list,cs++[chg ⟨key,val⟩],by omega,by go_num,by omega,HR6.out,by unfold ChangesV;rw [List.length_append,List.length_singleton];exact Own.row HX6.out,HB6.out,HCK2,zh (by rw [HSN.out,HSN2.out])⟩
     case measure=>simp [intOf];omega
  ·have k0:decide ((k:Int)<(N:Int))=false:=by simp;omega
   obtain rfl:k=N:=by omega
   have hend:snapP l=list++[bytesP cs]:=by
    rw [HSN.out,List.drop_eq_nil_of_le (by have:=HN.out;omega)]
    rfl
   have HEND:=zh hend
   have HR6:=zh hR
   have HC6:=zh hC
   have HB6:=zh hb
   clear hend hR hC hb
   have kb:=refbytes_any _ cs wr HC6.out (by have:=(ChunkOk.len (HCK.out)).1;omega) (fun x hx=>by have:=(ChunkOk.len (HCK.out)).2 x hx;omega)
   go_wp2_with fail
   refine kb.mono ?_
   rintro e w2 ⟨u,rfl,hu,hb2⟩
   clear kb
   obtain⟨_,ua,uc,rfl,_,_,_⟩:=id hu.bytes
   obtain⟨un,hun⟩:∃ n,n=(bytesP cs).length:=⟨_,rfl⟩
   have hu2:OwnB w.heap.size w2 (.slice ua un uc) (bytesP cs):=by rw [hun];exact Own.lower hu (HB6.out).size
   rw [← hun]
   clear hu hun
   obtain⟨w3,hw3⟩:∃ x,x=w2.alloc (.cells #[.slice ua un uc] 23):=⟨_,rfl⟩
   have hb3:Below w2.heap.size w2 w3:=by rw [hw3];exact Below.alloc (Below.refl _ _) (Nat.le_refl _) _
   have hb13:Below wr.heap.size wr w3:=hb2.trans (hb3.mono hb2.size)
   obtain⟨vs,hvl,hown8,hel8⟩:=RecsT.open_ HR6.out hb13
   have hu3:OwnB w.heap.size w3 (.slice ua un uc) (bytesP cs):=Own.below hu2 hb3 (Nat.le_refl _)
   have hsrc:Src Tryz.prog w3 (.slice (some ⟨w2.heap.size,0,none⟩) 1 1) 1 1 [.slice ua un uc]:=by
    rw [hw3]
    exact Row.src (Row.fresh (by simp) (Nat.le_refl _) (by decide) (fun k u hk=>by simpa using hk))
   have hone:∀ u∈[Value.slice ua un uc],u.oneCell'=true:=fun u hu=>by rw [List.mem_singleton.1 hu];rfl
   obtain⟨i1,z1,hi,hz0,hy1,hy2,hy3⟩:=zero_parts infoz_bytes
   have R1:list.length+1≤maxLen:=by unfold maxLen;omega
   have R2:(list.length+1)*24≤140737488355328:=by omega
   have hs3:w.heap.size≤w3.heap.size:=Nat.le_trans (HB6.out).size hb13.size
   have HB3:=zh ((HB6.out).trans (hb13.mono (HB6.out).size))
   have hx13:=hb13
   have HU3:=zh hu3
   have HVL:=zh hvl
   have HEL:=zh hel8
   rw [hw3] at hown8 hsrc hs3
   have HW3:=zh hw3
   clear hb2 hb3 hb13 hu2 hu3 hvl hel8 hw3
   go_wp2_with (at_builtin;refine wp_append2 rfl (.tmp 44) (.tmp 47) 66 66 23 rfl i1 z1 1 24 Tryz.underlying66 (.inl ⟨_,Tryz.underlying66⟩) hi hz0 hy1 hy2 hy3 rfl rfl hown8 hsrc hone R1 R2 hs3 ?_;intro v5 w5 hown5 hb5 hty5;refine Halt.in ?_)
   refine Halt.out ?_
   rw [← HW3.out] at hb5 hty5
   have HR5:=zh (RecsT.snoc HVL.out hown5 HEL.out HU3.out hty5)
   have HB5:=zh (HB3.out.trans hb5)
   have HTY:=zh hty5
   have HX13:=zh hx13
   clear hsrc hone hown8 hown5 hb5 hty5 R1 R2 hs3 hi hz0 hy1 hy2 hy3 hx13
   go_wp2_with fail
   go_ret
   exact⟨_,rfl,by rw [HEND.out];exact HR5.out,HB5.out⟩
end
end Go.Proofs.YtaijompnohkmaaaGreatDoor
