/- Layer 6 (kv), the document's answer: Right, Format. -/
import Derived.Test.YtaijompnohkmaaaGreatDoorOP
set_option linter.unusedSimpArgs false
set_option linter.unusedVariables false
namespace Go.Proofs.YtaijompnohkmaaaGreatDoor
section
open Go.RowKit KvP PackP WalP
theorem formatP_err (d:DiskP) (l:List (List UInt8)) (h:(formatP d l).2.2≠0):(formatP d l).2.1=log0:=by
 revert h
 unfold formatP
 cases total l with
 | none=>exact fun _=>rfl
 | some n =>
  intro h
  dsimp only at h ⊢
  by_cases h1:rightB d=true
  ·rw [if_pos h1] at h ⊢
   by_cases h2:half d<n
   ·rw [if_pos h2]
   ·rw [if_neg h2] at h ⊢
    by_cases h3:(run d (.put (half d) zeroS :: layD (half d) 0 1 l)).2=0
    ·rw [if_pos h3] at h
     exact absurd rfl h
    ·rw [if_neg h3]
  ·rw [if_neg h1]
set_option maxRecDepth 100000 in
set_option maxHeartbeats 8000000 in
theorem rkformat_any {B:Nat} (v:Value) (d:DiskP) (w:World) (hd:DiskV B w v d) :
  Calls Tryz.prog 21 #[v] w (KE w (formatK d)):=by
 have hd:=hd.tight
 obtain⟨p1,q1,p2,q2,rfl,_,_⟩:=hd.parts
 obtain⟨w1,hw1,hb1,hs1,R0,R1,R2⟩:=three w (.cells #[.slice p1 d.secs.length q1,.slice p2 d.loose.length q2,.int .i64 d.fuse,.bool d.down] 38) (.cells #[.slice none 0 0,.slice none 0 0,.int .i64 0,.bool false] 38) (.cells #[.int .i64 0,.int .i64 0,.int .i64 0,.int .i64 0,.slice none 0 0] 44)
 have hd1:=(hd.below hb1).tight
 obtain⟨r,hr⟩:∃ r,r=formatP d (snapP []):=⟨_,rfl⟩
 have herr:r.2.2≠0→r.2.1=log0:=fun h=>by rw [hr] at h ⊢;exact formatP_err d _ h
 have hfk:formatK d=(r.1,⟨r.2.1,[]⟩,r.2.2):=by unfold formatK;rw [hr]
 rw [hfk]
 have HR:=zh hr
 have HERR:=zh herr
 have HW1:=zh hw1
 have s0:Below w1.heap.size w1 w1.drew:=zD (Below.refl _ _) 1
 have HS1:=zh hs1
 clear herr hr hfk hw1 hd hs1
 go_enter Tryz.func21,Tryz.ntmps21
 go_upto_region 1 with (fail)
 rw [← HW1.out]
 go_cut [5,6] from 7 to 13 (fun s5 s6 wx=>FormatMid w r wx s5 s6)
 case first =>
  refine wp_region_start Always (by kernel_rfl) trivial ?_
  refine wpAnyH_ready (rs:=[0,1,7]) (by kernel_rfl) (by simp) ?_
  refine zR rfl rfl (fun K hK=>?_) (zR rfl rfl (fun K hK=>?_) (zR rfl rfl (fun K hK=>?_) AllReadyH.nil))
  ·skip
   refine op_load (.tmp 1) 38 rfl rfl (run_loadVar_row (P:=Tryz.prog) w1.drew w.heap.size 38 38 _ (0,0) _ ((s0.block _ (zB R0)).trans R0) Tryz.underlying38 rfl zQ) ?_
   refine hK.out _ _ trivial ?_
   clear hK K
   simp only [Act.put,zq1,zq2,zq3]
   refine wpAnyH_ready (rs:=[1,7]) (by kernel_rfl) (by simp) ?_
   refine zR rfl rfl (fun K hK=>?_) (zR rfl rfl (fun K hK=>?_) AllReadyH.nil)
   ·skip
    have kc:=refsnapshot_any (.slice none 0 0) [] w1.drew (Row.nil 0 w1.drew 2) (by simp) (by simp)
    go_simp
    refine kc.mono ?_
    rintro e wt1 ⟨u1,rfl,hu1,hb⟩
    clear kc
    have st1:=s0.trans (hb.mono s0.size)
    have hrec:=hu1.pieces
    clear hu1
    refine hK.out _ _ trivial ?_
    clear hK K hb
    refine wpAnyH_ready (rs:=[2,7]) (by kernel_rfl) (by simp) ?_
    refine zR rfl rfl (fun K hK=>?_) (zR rfl rfl (fun K hK=>?_) AllReadyH.nil)
    ·skip
     have kc:=refFormat_any _ _ d (snapP []) wt1 (hd1.below st1).tight hrec (by rw [snapP_nil];intro b hb;rw [List.mem_singleton.1 hb,len_bytes_nil];decide) (by rw [snapP_nil];decide)
     rw [← HR.out] at kc
     unfold DLE at kc
     simp only [logV] at kc
     go_simp
     refine kc.mono ?_
     rintro e wt2 ⟨⟨vr,rfl,hdr⟩,hb⟩
     clear kc hrec
     obtain⟨r1,r2,r3,r4,rfl,_,_⟩:=hdr.parts
     have st2:=st1.trans (hb.mono st1.size)
     refine hK.out _ _ trivial ?_
     clear hK K hb
     refine wpAnyH_part [(false,3),(false,4),(false,5),(false,6)] (by kernel_rfl) trivial ?_
     repeat (first | (refine zS rfl rfl ?_;simp only [Act.put,zq1,zq2,zq3]) | (refine zT rfl ?_ rfl (fun w' hw'=>?_) ?_;rotate_left;(go_simp;first | done | with_reducible rfl);(try simp only [Act.put,zq1,zq2,zq3])))
     refine zN ?_
     refine wpAnyH_ready (rs:=[7]) (by kernel_rfl) (by simp) ?_
     refine zR rfl rfl (fun K hK=>?_) AllReadyH.nil
     ·skip
      obtain⟨wt3,G,hw,hg,hG,hb,hlt,hle⟩:=fresh_log wt2
      have st3:=st2.trans (hb.mono st2.size)
      have lG:w1.heap.size≤G:=Nat.le_trans st2.size hle
      have hdr:=(hdr.below hb).tight
      refine op_alloc 41 rfl (zero_log _) hw.out ?_
      rw [← hg.out]
      refine hK.out _ _ trivial ?_
      clear hK K hw hg hb hlt hle
      simp only [Act.put,zq1,zq2,zq3]
      have hs1:=HS1.out
      have hRD:=(st3.block _ (zB R0)).trans R0
      obtain⟨wx,hst,hnA,hbx,hzx,hkx,_⟩:=storeBig info_disk hRD rfl #[.slice r1 r.1.secs.length r2,.slice r3 r.1.loose.length r4,.int .i64 r.1.fuse,.bool r.1.down] rfl (ones4 rfl rfl rfl rfl)
      have hGx:wx.heap[G]?=_:=(hkx G (by omega)).trans hG
      obtain⟨wy,hst2,hnB,hby,hzy,hky,_⟩:=storeBig info_log hGx rfl #[.int .i64 r.2.1.half,.int .i64 r.2.1.gen,.int .i64 r.2.1.used,.int .i64 r.2.1.count] rfl (ones4 rfl rfl rfl rfl)
      have hdx:=hdr.kept hRD (by simp) hkx
      have hdy:=hdx.kept hGx (by simp) hky
      have hmid:FormatMid w r wy (.pointer (some ⟨G,0,none⟩)) (.int .i64 r.2.2):=by
       refine⟨G,rfl,rfl,by omega,⟨r1,r2,r3,r4,(hky _ (by omega)).trans hnA,by rw [hzy,hzx];exact hdy⟩,hnB,?_,?_,?_⟩
       ·exact (hky _ (by omega)).trans ((hkx _ (by omega)).trans ((st3.block _ (zB R1)).trans R1))
       ·exact (hky _ (by omega)).trans ((hkx _ (by omega)).trans ((st3.block _ (zB R2)).trans R2))
       ·exact (((hb1.trans (st3.mono hb1.size)).trans hbx).trans (hby.mono (by omega)))
      have HMID:=zh hmid
      refine wpAnyH_end [(true,8),(true,9),(false,10)] (by kernel_rfl) trivial ?_
      refine zA rfl rfl fun K hK=>?_
      refine op_store (.tmp 1) (.tmp 11) 38 rfl rfl rfl hst ?_
      refine hK.out _ _ trivial ?_
      clear hK K hst
      simp only [Act.put,zq1,zq2,zq3]
      refine zA rfl rfl fun K hK=>?_
      refine op_store (.tmp 5) (.tmp 12) 41 rfl rfl rfl hst2 ?_
      refine hK.out _ _ trivial ?_
      clear hK K hst2
      simp only [Act.put,zq1,zq2,zq3]
      repeat (first | (refine zS rfl rfl ?_;simp only [Act.put,zq1,zq2,zq3]) | (refine zT rfl ?_ rfl (fun w' hw'=>?_) ?_;rotate_left;(go_simp;first | done | with_reducible rfl);(try simp only [Act.put,zq1,zq2,zq3])))
      refine zN ?_
      clear hmid hdx hdy hkx hky hnA hnB hRD hGx hG hdr
      go_wp2_with fail
      go_meet
      case rel=>exact HMID.out
    ·skip
     obtain⟨wt4,G,hw,hg,hG,hb,hlt,hle⟩:=fresh_log wt1
     have st4:=st1.trans (hb.mono st1.size)
     have lG:w1.heap.size≤G:=Nat.le_trans st1.size hle
     have hrec:=(hrec.below hb).tight
     refine op_alloc 41 rfl (zero_log _) hw.out ?_
     rw [← hg.out]
     refine hK.out _ _ trivial ?_
     clear hK K hw hg hb hlt hle
     simp only [Act.put,zq1,zq2,zq3]
     refine wpAnyH_ready (rs:=[2]) (by kernel_rfl) (by simp) ?_
     refine zR rfl rfl (fun K hK=>?_) AllReadyH.nil
     ·skip
      have kc:=refFormat_any _ _ d (snapP []) wt4 (hd1.below st4).tight hrec (by rw [snapP_nil];intro b hb;rw [List.mem_singleton.1 hb,len_bytes_nil];decide) (by rw [snapP_nil];decide)
      rw [← HR.out] at kc
      unfold DLE at kc
      simp only [logV] at kc
      go_simp
      refine kc.mono ?_
      rintro e wt5 ⟨⟨vr,rfl,hdr⟩,hb⟩
      clear kc hrec
      obtain⟨r1,r2,r3,r4,rfl,_,_⟩:=hdr.parts
      have st5:=st4.trans (hb.mono st4.size)
      have hG:=hG.below hb
      refine hK.out _ _ trivial ?_
      clear hK K hb
      refine wpAnyH_part [(false,3),(false,4),(false,5),(false,6)] (by kernel_rfl) trivial ?_
      repeat (first | (refine zS rfl rfl ?_;simp only [Act.put,zq1,zq2,zq3]) | (refine zT rfl ?_ rfl (fun w' hw'=>?_) ?_;rotate_left;(go_simp;first | done | with_reducible rfl);(try simp only [Act.put,zq1,zq2,zq3])))
      refine zN ?_
      have hs1:=HS1.out
      have hRD:=(st5.block _ (zB R0)).trans R0
      obtain⟨wx,hst,hnA,hbx,hzx,hkx,_⟩:=storeBig info_disk hRD rfl #[.slice r1 r.1.secs.length r2,.slice r3 r.1.loose.length r4,.int .i64 r.1.fuse,.bool r.1.down] rfl (ones4 rfl rfl rfl rfl)
      have hGx:wx.heap[G]?=_:=(hkx G (by omega)).trans hG
      obtain⟨wy,hst2,hnB,hby,hzy,hky,_⟩:=storeBig info_log hGx rfl #[.int .i64 r.2.1.half,.int .i64 r.2.1.gen,.int .i64 r.2.1.used,.int .i64 r.2.1.count] rfl (ones4 rfl rfl rfl rfl)
      have hdx:=hdr.kept hRD (by simp) hkx
      have hdy:=hdx.kept hGx (by simp) hky
      have hmid:FormatMid w r wy (.pointer (some ⟨G,0,none⟩)) (.int .i64 r.2.2):=by
       refine⟨G,rfl,rfl,by omega,⟨r1,r2,r3,r4,(hky _ (by omega)).trans hnA,by rw [hzy,hzx];exact hdy⟩,hnB,?_,?_,?_⟩
       ·exact (hky _ (by omega)).trans ((hkx _ (by omega)).trans ((st5.block _ (zB R1)).trans R1))
       ·exact (hky _ (by omega)).trans ((hkx _ (by omega)).trans ((st5.block _ (zB R2)).trans R2))
       ·exact (((hb1.trans (st5.mono hb1.size)).trans hbx).trans (hby.mono (by omega)))
      have HMID:=zh hmid
      refine wpAnyH_end [(true,8),(true,9),(false,10)] (by kernel_rfl) trivial ?_
      refine zA rfl rfl fun K hK=>?_
      refine op_store (.tmp 1) (.tmp 11) 38 rfl rfl rfl hst ?_
      refine hK.out _ _ trivial ?_
      clear hK K hst
      simp only [Act.put,zq1,zq2,zq3]
      refine zA rfl rfl fun K hK=>?_
      refine op_store (.tmp 5) (.tmp 12) 41 rfl rfl rfl hst2 ?_
      refine hK.out _ _ trivial ?_
      clear hK K hst2
      simp only [Act.put,zq1,zq2,zq3]
      repeat (first | (refine zS rfl rfl ?_;simp only [Act.put,zq1,zq2,zq3]) | (refine zT rfl ?_ rfl (fun w' hw'=>?_) ?_;rotate_left;(go_simp;first | done | with_reducible rfl);(try simp only [Act.put,zq1,zq2,zq3])))
      refine zN ?_
      clear hmid hdx hdy hkx hky hnA hnB hRD hGx hG hdr
      go_wp2_with fail
      go_meet
      case rel=>exact HMID.out
   ·skip
    obtain⟨wt6,G,hw,hg,hG,hb,hlt,hle⟩:=fresh_log w1.drew
    have st6:=s0.trans (hb.mono s0.size)
    have lG:w1.heap.size≤G:=Nat.le_trans s0.size hle
    refine op_alloc 41 rfl (zero_log _) hw.out ?_
    rw [← hg.out]
    refine hK.out _ _ trivial ?_
    clear hK K hw hg hb hlt hle
    simp only [Act.put,zq1,zq2,zq3]
    refine wpAnyH_ready (rs:=[1]) (by kernel_rfl) (by simp) ?_
    refine zR rfl rfl (fun K hK=>?_) AllReadyH.nil
    ·skip
     have kc:=refsnapshot_any (.slice none 0 0) [] wt6 (Row.nil 0 wt6 2) (by simp) (by simp)
     go_simp
     refine kc.mono ?_
     rintro e wt7 ⟨u1,rfl,hu1,hb⟩
     clear kc
     have st7:=st6.trans (hb.mono st6.size)
     have hrec:=hu1.pieces
     clear hu1
     have hG:=hG.below hb
     refine hK.out _ _ trivial ?_
     clear hK K hb
     refine wpAnyH_ready (rs:=[2]) (by kernel_rfl) (by simp) ?_
     refine zR rfl rfl (fun K hK=>?_) AllReadyH.nil
     ·skip
      have kc:=refFormat_any _ _ d (snapP []) wt7 (hd1.below st7).tight hrec (by rw [snapP_nil];intro b hb;rw [List.mem_singleton.1 hb,len_bytes_nil];decide) (by rw [snapP_nil];decide)
      rw [← HR.out] at kc
      unfold DLE at kc
      simp only [logV] at kc
      go_simp
      refine kc.mono ?_
      rintro e wt8 ⟨⟨vr,rfl,hdr⟩,hb⟩
      clear kc hrec
      obtain⟨r1,r2,r3,r4,rfl,_,_⟩:=hdr.parts
      have st8:=st7.trans (hb.mono st7.size)
      have hG:=hG.below hb
      refine hK.out _ _ trivial ?_
      clear hK K hb
      refine wpAnyH_part [(false,3),(false,4),(false,5),(false,6)] (by kernel_rfl) trivial ?_
      repeat (first | (refine zS rfl rfl ?_;simp only [Act.put,zq1,zq2,zq3]) | (refine zT rfl ?_ rfl (fun w' hw'=>?_) ?_;rotate_left;(go_simp;first | done | with_reducible rfl);(try simp only [Act.put,zq1,zq2,zq3])))
      refine zN ?_
      have hs1:=HS1.out
      have hRD:=(st8.block _ (zB R0)).trans R0
      obtain⟨wx,hst,hnA,hbx,hzx,hkx,_⟩:=storeBig info_disk hRD rfl #[.slice r1 r.1.secs.length r2,.slice r3 r.1.loose.length r4,.int .i64 r.1.fuse,.bool r.1.down] rfl (ones4 rfl rfl rfl rfl)
      have hGx:wx.heap[G]?=_:=(hkx G (by omega)).trans hG
      obtain⟨wy,hst2,hnB,hby,hzy,hky,_⟩:=storeBig info_log hGx rfl #[.int .i64 r.2.1.half,.int .i64 r.2.1.gen,.int .i64 r.2.1.used,.int .i64 r.2.1.count] rfl (ones4 rfl rfl rfl rfl)
      have hdx:=hdr.kept hRD (by simp) hkx
      have hdy:=hdx.kept hGx (by simp) hky
      have hmid:FormatMid w r wy (.pointer (some ⟨G,0,none⟩)) (.int .i64 r.2.2):=by
       refine⟨G,rfl,rfl,by omega,⟨r1,r2,r3,r4,(hky _ (by omega)).trans hnA,by rw [hzy,hzx];exact hdy⟩,hnB,?_,?_,?_⟩
       ·exact (hky _ (by omega)).trans ((hkx _ (by omega)).trans ((st8.block _ (zB R1)).trans R1))
       ·exact (hky _ (by omega)).trans ((hkx _ (by omega)).trans ((st8.block _ (zB R2)).trans R2))
       ·exact (((hb1.trans (st8.mono hb1.size)).trans hbx).trans (hby.mono (by omega)))
      have HMID:=zh hmid
      refine wpAnyH_end [(true,8),(true,9),(false,10)] (by kernel_rfl) trivial ?_
      refine zA rfl rfl fun K hK=>?_
      refine op_store (.tmp 1) (.tmp 11) 38 rfl rfl rfl hst ?_
      refine hK.out _ _ trivial ?_
      clear hK K hst
      simp only [Act.put,zq1,zq2,zq3]
      refine zA rfl rfl fun K hK=>?_
      refine op_store (.tmp 5) (.tmp 12) 41 rfl rfl rfl hst2 ?_
      refine hK.out _ _ trivial ?_
      clear hK K hst2
      simp only [Act.put,zq1,zq2,zq3]
      repeat (first | (refine zS rfl rfl ?_;simp only [Act.put,zq1,zq2,zq3]) | (refine zT rfl ?_ rfl (fun w' hw'=>?_) ?_;rotate_left;(go_simp;first | done | with_reducible rfl);(try simp only [Act.put,zq1,zq2,zq3])))
      refine zN ?_
      clear hmid hdx hdy hkx hky hnA hnB hRD hGx hG hdr
      go_wp2_with fail
      go_meet
      case rel=>exact HMID.out
  ·skip
   have kc:=refsnapshot_any (.slice none 0 0) [] w1.drew (Row.nil 0 w1.drew 2) (by simp) (by simp)
   go_simp
   refine kc.mono ?_
   rintro e wt9 ⟨u1,rfl,hu1,hb⟩
   clear kc
   have st9:=s0.trans (hb.mono s0.size)
   have hrec:=hu1.pieces
   clear hu1
   refine hK.out _ _ trivial ?_
   clear hK K hb
   refine wpAnyH_ready (rs:=[0,7]) (by kernel_rfl) (by simp) ?_
   refine zR rfl rfl (fun K hK=>?_) (zR rfl rfl (fun K hK=>?_) AllReadyH.nil)
   ·skip
    refine op_load (.tmp 1) 38 rfl rfl (run_loadVar_row (P:=Tryz.prog) wt9 w.heap.size 38 38 _ (0,0) _ ((st9.block _ (zB R0)).trans R0) Tryz.underlying38 rfl zQ) ?_
    refine hK.out _ _ trivial ?_
    clear hK K
    simp only [Act.put,zq1,zq2,zq3]
    refine wpAnyH_ready (rs:=[2,7]) (by kernel_rfl) (by simp) ?_
    refine zR rfl rfl (fun K hK=>?_) (zR rfl rfl (fun K hK=>?_) AllReadyH.nil)
    ·skip
     have kc:=refFormat_any _ _ d (snapP []) wt9 (hd1.below st9).tight hrec (by rw [snapP_nil];intro b hb;rw [List.mem_singleton.1 hb,len_bytes_nil];decide) (by rw [snapP_nil];decide)
     rw [← HR.out] at kc
     unfold DLE at kc
     simp only [logV] at kc
     go_simp
     refine kc.mono ?_
     rintro e wt10 ⟨⟨vr,rfl,hdr⟩,hb⟩
     clear kc hrec
     obtain⟨r1,r2,r3,r4,rfl,_,_⟩:=hdr.parts
     have st10:=st9.trans (hb.mono st9.size)
     refine hK.out _ _ trivial ?_
     clear hK K hb
     refine wpAnyH_part [(false,3),(false,4),(false,5),(false,6)] (by kernel_rfl) trivial ?_
     repeat (first | (refine zS rfl rfl ?_;simp only [Act.put,zq1,zq2,zq3]) | (refine zT rfl ?_ rfl (fun w' hw'=>?_) ?_;rotate_left;(go_simp;first | done | with_reducible rfl);(try simp only [Act.put,zq1,zq2,zq3])))
     refine zN ?_
     refine wpAnyH_ready (rs:=[7]) (by kernel_rfl) (by simp) ?_
     refine zR rfl rfl (fun K hK=>?_) AllReadyH.nil
     ·skip
      obtain⟨wt11,G,hw,hg,hG,hb,hlt,hle⟩:=fresh_log wt10
      have st11:=st10.trans (hb.mono st10.size)
      have lG:w1.heap.size≤G:=Nat.le_trans st10.size hle
      have hdr:=(hdr.below hb).tight
      refine op_alloc 41 rfl (zero_log _) hw.out ?_
      rw [← hg.out]
      refine hK.out _ _ trivial ?_
      clear hK K hw hg hb hlt hle
      simp only [Act.put,zq1,zq2,zq3]
      have hs1:=HS1.out
      have hRD:=(st11.block _ (zB R0)).trans R0
      obtain⟨wx,hst,hnA,hbx,hzx,hkx,_⟩:=storeBig info_disk hRD rfl #[.slice r1 r.1.secs.length r2,.slice r3 r.1.loose.length r4,.int .i64 r.1.fuse,.bool r.1.down] rfl (ones4 rfl rfl rfl rfl)
      have hGx:wx.heap[G]?=_:=(hkx G (by omega)).trans hG
      obtain⟨wy,hst2,hnB,hby,hzy,hky,_⟩:=storeBig info_log hGx rfl #[.int .i64 r.2.1.half,.int .i64 r.2.1.gen,.int .i64 r.2.1.used,.int .i64 r.2.1.count] rfl (ones4 rfl rfl rfl rfl)
      have hdx:=hdr.kept hRD (by simp) hkx
      have hdy:=hdx.kept hGx (by simp) hky
      have hmid:FormatMid w r wy (.pointer (some ⟨G,0,none⟩)) (.int .i64 r.2.2):=by
       refine⟨G,rfl,rfl,by omega,⟨r1,r2,r3,r4,(hky _ (by omega)).trans hnA,by rw [hzy,hzx];exact hdy⟩,hnB,?_,?_,?_⟩
       ·exact (hky _ (by omega)).trans ((hkx _ (by omega)).trans ((st11.block _ (zB R1)).trans R1))
       ·exact (hky _ (by omega)).trans ((hkx _ (by omega)).trans ((st11.block _ (zB R2)).trans R2))
       ·exact (((hb1.trans (st11.mono hb1.size)).trans hbx).trans (hby.mono (by omega)))
      have HMID:=zh hmid
      refine wpAnyH_end [(true,8),(true,9),(false,10)] (by kernel_rfl) trivial ?_
      refine zA rfl rfl fun K hK=>?_
      refine op_store (.tmp 1) (.tmp 11) 38 rfl rfl rfl hst ?_
      refine hK.out _ _ trivial ?_
      clear hK K hst
      simp only [Act.put,zq1,zq2,zq3]
      refine zA rfl rfl fun K hK=>?_
      refine op_store (.tmp 5) (.tmp 12) 41 rfl rfl rfl hst2 ?_
      refine hK.out _ _ trivial ?_
      clear hK K hst2
      simp only [Act.put,zq1,zq2,zq3]
      repeat (first | (refine zS rfl rfl ?_;simp only [Act.put,zq1,zq2,zq3]) | (refine zT rfl ?_ rfl (fun w' hw'=>?_) ?_;rotate_left;(go_simp;first | done | with_reducible rfl);(try simp only [Act.put,zq1,zq2,zq3])))
      refine zN ?_
      clear hmid hdx hdy hkx hky hnA hnB hRD hGx hG hdr
      go_wp2_with fail
      go_meet
      case rel=>exact HMID.out
    ·skip
     obtain⟨wt12,G,hw,hg,hG,hb,hlt,hle⟩:=fresh_log wt9
     have st12:=st9.trans (hb.mono st9.size)
     have lG:w1.heap.size≤G:=Nat.le_trans st9.size hle
     have hrec:=(hrec.below hb).tight
     refine op_alloc 41 rfl (zero_log _) hw.out ?_
     rw [← hg.out]
     refine hK.out _ _ trivial ?_
     clear hK K hw hg hb hlt hle
     simp only [Act.put,zq1,zq2,zq3]
     refine wpAnyH_ready (rs:=[2]) (by kernel_rfl) (by simp) ?_
     refine zR rfl rfl (fun K hK=>?_) AllReadyH.nil
     ·skip
      have kc:=refFormat_any _ _ d (snapP []) wt12 (hd1.below st12).tight hrec (by rw [snapP_nil];intro b hb;rw [List.mem_singleton.1 hb,len_bytes_nil];decide) (by rw [snapP_nil];decide)
      rw [← HR.out] at kc
      unfold DLE at kc
      simp only [logV] at kc
      go_simp
      refine kc.mono ?_
      rintro e wt13 ⟨⟨vr,rfl,hdr⟩,hb⟩
      clear kc hrec
      obtain⟨r1,r2,r3,r4,rfl,_,_⟩:=hdr.parts
      have st13:=st12.trans (hb.mono st12.size)
      have hG:=hG.below hb
      refine hK.out _ _ trivial ?_
      clear hK K hb
      refine wpAnyH_part [(false,3),(false,4),(false,5),(false,6)] (by kernel_rfl) trivial ?_
      repeat (first | (refine zS rfl rfl ?_;simp only [Act.put,zq1,zq2,zq3]) | (refine zT rfl ?_ rfl (fun w' hw'=>?_) ?_;rotate_left;(go_simp;first | done | with_reducible rfl);(try simp only [Act.put,zq1,zq2,zq3])))
      refine zN ?_
      have hs1:=HS1.out
      have hRD:=(st13.block _ (zB R0)).trans R0
      obtain⟨wx,hst,hnA,hbx,hzx,hkx,_⟩:=storeBig info_disk hRD rfl #[.slice r1 r.1.secs.length r2,.slice r3 r.1.loose.length r4,.int .i64 r.1.fuse,.bool r.1.down] rfl (ones4 rfl rfl rfl rfl)
      have hGx:wx.heap[G]?=_:=(hkx G (by omega)).trans hG
      obtain⟨wy,hst2,hnB,hby,hzy,hky,_⟩:=storeBig info_log hGx rfl #[.int .i64 r.2.1.half,.int .i64 r.2.1.gen,.int .i64 r.2.1.used,.int .i64 r.2.1.count] rfl (ones4 rfl rfl rfl rfl)
      have hdx:=hdr.kept hRD (by simp) hkx
      have hdy:=hdx.kept hGx (by simp) hky
      have hmid:FormatMid w r wy (.pointer (some ⟨G,0,none⟩)) (.int .i64 r.2.2):=by
       refine⟨G,rfl,rfl,by omega,⟨r1,r2,r3,r4,(hky _ (by omega)).trans hnA,by rw [hzy,hzx];exact hdy⟩,hnB,?_,?_,?_⟩
       ·exact (hky _ (by omega)).trans ((hkx _ (by omega)).trans ((st13.block _ (zB R1)).trans R1))
       ·exact (hky _ (by omega)).trans ((hkx _ (by omega)).trans ((st13.block _ (zB R2)).trans R2))
       ·exact (((hb1.trans (st13.mono hb1.size)).trans hbx).trans (hby.mono (by omega)))
      have HMID:=zh hmid
      refine wpAnyH_end [(true,8),(true,9),(false,10)] (by kernel_rfl) trivial ?_
      refine zA rfl rfl fun K hK=>?_
      refine op_store (.tmp 1) (.tmp 11) 38 rfl rfl rfl hst ?_
      refine hK.out _ _ trivial ?_
      clear hK K hst
      simp only [Act.put,zq1,zq2,zq3]
      refine zA rfl rfl fun K hK=>?_
      refine op_store (.tmp 5) (.tmp 12) 41 rfl rfl rfl hst2 ?_
      refine hK.out _ _ trivial ?_
      clear hK K hst2
      simp only [Act.put,zq1,zq2,zq3]
      repeat (first | (refine zS rfl rfl ?_;simp only [Act.put,zq1,zq2,zq3]) | (refine zT rfl ?_ rfl (fun w' hw'=>?_) ?_;rotate_left;(go_simp;first | done | with_reducible rfl);(try simp only [Act.put,zq1,zq2,zq3])))
      refine zN ?_
      clear hmid hdx hdy hkx hky hnA hnB hRD hGx hG hdr
      go_wp2_with fail
      go_meet
      case rel=>exact HMID.out
   ·skip
    obtain⟨wt14,G,hw,hg,hG,hb,hlt,hle⟩:=fresh_log wt9
    have st14:=st9.trans (hb.mono st9.size)
    have lG:w1.heap.size≤G:=Nat.le_trans st9.size hle
    have hrec:=(hrec.below hb).tight
    refine op_alloc 41 rfl (zero_log _) hw.out ?_
    rw [← hg.out]
    refine hK.out _ _ trivial ?_
    clear hK K hw hg hb hlt hle
    simp only [Act.put,zq1,zq2,zq3]
    refine wpAnyH_ready (rs:=[0]) (by kernel_rfl) (by simp) ?_
    refine zR rfl rfl (fun K hK=>?_) AllReadyH.nil
    ·skip
     refine op_load (.tmp 1) 38 rfl rfl (run_loadVar_row (P:=Tryz.prog) wt14 w.heap.size 38 38 _ (0,0) _ ((st14.block _ (zB R0)).trans R0) Tryz.underlying38 rfl zQ) ?_
     refine hK.out _ _ trivial ?_
     clear hK K
     simp only [Act.put,zq1,zq2,zq3]
     refine wpAnyH_ready (rs:=[2]) (by kernel_rfl) (by simp) ?_
     refine zR rfl rfl (fun K hK=>?_) AllReadyH.nil
     ·skip
      have kc:=refFormat_any _ _ d (snapP []) wt14 (hd1.below st14).tight hrec (by rw [snapP_nil];intro b hb;rw [List.mem_singleton.1 hb,len_bytes_nil];decide) (by rw [snapP_nil];decide)
      rw [← HR.out] at kc
      unfold DLE at kc
      simp only [logV] at kc
      go_simp
      refine kc.mono ?_
      rintro e wt15 ⟨⟨vr,rfl,hdr⟩,hb⟩
      clear kc hrec
      obtain⟨r1,r2,r3,r4,rfl,_,_⟩:=hdr.parts
      have st15:=st14.trans (hb.mono st14.size)
      have hG:=hG.below hb
      refine hK.out _ _ trivial ?_
      clear hK K hb
      refine wpAnyH_part [(false,3),(false,4),(false,5),(false,6)] (by kernel_rfl) trivial ?_
      repeat (first | (refine zS rfl rfl ?_;simp only [Act.put,zq1,zq2,zq3]) | (refine zT rfl ?_ rfl (fun w' hw'=>?_) ?_;rotate_left;(go_simp;first | done | with_reducible rfl);(try simp only [Act.put,zq1,zq2,zq3])))
      refine zN ?_
      have hs1:=HS1.out
      have hRD:=(st15.block _ (zB R0)).trans R0
      obtain⟨wx,hst,hnA,hbx,hzx,hkx,_⟩:=storeBig info_disk hRD rfl #[.slice r1 r.1.secs.length r2,.slice r3 r.1.loose.length r4,.int .i64 r.1.fuse,.bool r.1.down] rfl (ones4 rfl rfl rfl rfl)
      have hGx:wx.heap[G]?=_:=(hkx G (by omega)).trans hG
      obtain⟨wy,hst2,hnB,hby,hzy,hky,_⟩:=storeBig info_log hGx rfl #[.int .i64 r.2.1.half,.int .i64 r.2.1.gen,.int .i64 r.2.1.used,.int .i64 r.2.1.count] rfl (ones4 rfl rfl rfl rfl)
      have hdx:=hdr.kept hRD (by simp) hkx
      have hdy:=hdx.kept hGx (by simp) hky
      have hmid:FormatMid w r wy (.pointer (some ⟨G,0,none⟩)) (.int .i64 r.2.2):=by
       refine⟨G,rfl,rfl,by omega,⟨r1,r2,r3,r4,(hky _ (by omega)).trans hnA,by rw [hzy,hzx];exact hdy⟩,hnB,?_,?_,?_⟩
       ·exact (hky _ (by omega)).trans ((hkx _ (by omega)).trans ((st15.block _ (zB R1)).trans R1))
       ·exact (hky _ (by omega)).trans ((hkx _ (by omega)).trans ((st15.block _ (zB R2)).trans R2))
       ·exact (((hb1.trans (st15.mono hb1.size)).trans hbx).trans (hby.mono (by omega)))
      have HMID:=zh hmid
      refine wpAnyH_end [(true,8),(true,9),(false,10)] (by kernel_rfl) trivial ?_
      refine zA rfl rfl fun K hK=>?_
      refine op_store (.tmp 1) (.tmp 11) 38 rfl rfl rfl hst ?_
      refine hK.out _ _ trivial ?_
      clear hK K hst
      simp only [Act.put,zq1,zq2,zq3]
      refine zA rfl rfl fun K hK=>?_
      refine op_store (.tmp 5) (.tmp 12) 41 rfl rfl rfl hst2 ?_
      refine hK.out _ _ trivial ?_
      clear hK K hst2
      simp only [Act.put,zq1,zq2,zq3]
      repeat (first | (refine zS rfl rfl ?_;simp only [Act.put,zq1,zq2,zq3]) | (refine zT rfl ?_ rfl (fun w' hw'=>?_) ?_;rotate_left;(go_simp;first | done | with_reducible rfl);(try simp only [Act.put,zq1,zq2,zq3])))
      refine zN ?_
      clear hmid hdx hdy hkx hky hnA hnB hRD hGx hG hdr
      go_wp2_with fail
      go_meet
      case rel=>exact HMID.out
  ·skip
   obtain⟨wt16,G,hw,hg,hG,hb,hlt,hle⟩:=fresh_log w1.drew
   have st16:=s0.trans (hb.mono s0.size)
   have lG:w1.heap.size≤G:=Nat.le_trans s0.size hle
   refine op_alloc 41 rfl (zero_log _) hw.out ?_
   rw [← hg.out]
   refine hK.out _ _ trivial ?_
   clear hK K hw hg hb hlt hle
   simp only [Act.put,zq1,zq2,zq3]
   refine wpAnyH_ready (rs:=[0,1]) (by kernel_rfl) (by simp) ?_
   refine zR rfl rfl (fun K hK=>?_) (zR rfl rfl (fun K hK=>?_) AllReadyH.nil)
   ·skip
    refine op_load (.tmp 1) 38 rfl rfl (run_loadVar_row (P:=Tryz.prog) wt16 w.heap.size 38 38 _ (0,0) _ ((st16.block _ (zB R0)).trans R0) Tryz.underlying38 rfl zQ) ?_
    refine hK.out _ _ trivial ?_
    clear hK K
    simp only [Act.put,zq1,zq2,zq3]
    refine wpAnyH_ready (rs:=[1]) (by kernel_rfl) (by simp) ?_
    refine zR rfl rfl (fun K hK=>?_) AllReadyH.nil
    ·skip
     have kc:=refsnapshot_any (.slice none 0 0) [] wt16 (Row.nil 0 wt16 2) (by simp) (by simp)
     go_simp
     refine kc.mono ?_
     rintro e wt17 ⟨u1,rfl,hu1,hb⟩
     clear kc
     have st17:=st16.trans (hb.mono st16.size)
     have hrec:=hu1.pieces
     clear hu1
     have hG:=hG.below hb
     refine hK.out _ _ trivial ?_
     clear hK K hb
     refine wpAnyH_ready (rs:=[2]) (by kernel_rfl) (by simp) ?_
     refine zR rfl rfl (fun K hK=>?_) AllReadyH.nil
     ·skip
      have kc:=refFormat_any _ _ d (snapP []) wt17 (hd1.below st17).tight hrec (by rw [snapP_nil];intro b hb;rw [List.mem_singleton.1 hb,len_bytes_nil];decide) (by rw [snapP_nil];decide)
      rw [← HR.out] at kc
      unfold DLE at kc
      simp only [logV] at kc
      go_simp
      refine kc.mono ?_
      rintro e wt18 ⟨⟨vr,rfl,hdr⟩,hb⟩
      clear kc hrec
      obtain⟨r1,r2,r3,r4,rfl,_,_⟩:=hdr.parts
      have st18:=st17.trans (hb.mono st17.size)
      have hG:=hG.below hb
      refine hK.out _ _ trivial ?_
      clear hK K hb
      refine wpAnyH_part [(false,3),(false,4),(false,5),(false,6)] (by kernel_rfl) trivial ?_
      repeat (first | (refine zS rfl rfl ?_;simp only [Act.put,zq1,zq2,zq3]) | (refine zT rfl ?_ rfl (fun w' hw'=>?_) ?_;rotate_left;(go_simp;first | done | with_reducible rfl);(try simp only [Act.put,zq1,zq2,zq3])))
      refine zN ?_
      have hs1:=HS1.out
      have hRD:=(st18.block _ (zB R0)).trans R0
      obtain⟨wx,hst,hnA,hbx,hzx,hkx,_⟩:=storeBig info_disk hRD rfl #[.slice r1 r.1.secs.length r2,.slice r3 r.1.loose.length r4,.int .i64 r.1.fuse,.bool r.1.down] rfl (ones4 rfl rfl rfl rfl)
      have hGx:wx.heap[G]?=_:=(hkx G (by omega)).trans hG
      obtain⟨wy,hst2,hnB,hby,hzy,hky,_⟩:=storeBig info_log hGx rfl #[.int .i64 r.2.1.half,.int .i64 r.2.1.gen,.int .i64 r.2.1.used,.int .i64 r.2.1.count] rfl (ones4 rfl rfl rfl rfl)
      have hdx:=hdr.kept hRD (by simp) hkx
      have hdy:=hdx.kept hGx (by simp) hky
      have hmid:FormatMid w r wy (.pointer (some ⟨G,0,none⟩)) (.int .i64 r.2.2):=by
       refine⟨G,rfl,rfl,by omega,⟨r1,r2,r3,r4,(hky _ (by omega)).trans hnA,by rw [hzy,hzx];exact hdy⟩,hnB,?_,?_,?_⟩
       ·exact (hky _ (by omega)).trans ((hkx _ (by omega)).trans ((st18.block _ (zB R1)).trans R1))
       ·exact (hky _ (by omega)).trans ((hkx _ (by omega)).trans ((st18.block _ (zB R2)).trans R2))
       ·exact (((hb1.trans (st18.mono hb1.size)).trans hbx).trans (hby.mono (by omega)))
      have HMID:=zh hmid
      refine wpAnyH_end [(true,8),(true,9),(false,10)] (by kernel_rfl) trivial ?_
      refine zA rfl rfl fun K hK=>?_
      refine op_store (.tmp 1) (.tmp 11) 38 rfl rfl rfl hst ?_
      refine hK.out _ _ trivial ?_
      clear hK K hst
      simp only [Act.put,zq1,zq2,zq3]
      refine zA rfl rfl fun K hK=>?_
      refine op_store (.tmp 5) (.tmp 12) 41 rfl rfl rfl hst2 ?_
      refine hK.out _ _ trivial ?_
      clear hK K hst2
      simp only [Act.put,zq1,zq2,zq3]
      repeat (first | (refine zS rfl rfl ?_;simp only [Act.put,zq1,zq2,zq3]) | (refine zT rfl ?_ rfl (fun w' hw'=>?_) ?_;rotate_left;(go_simp;first | done | with_reducible rfl);(try simp only [Act.put,zq1,zq2,zq3])))
      refine zN ?_
      clear hmid hdx hdy hkx hky hnA hnB hRD hGx hG hdr
      go_wp2_with fail
      go_meet
      case rel=>exact HMID.out
   ·skip
    have kc:=refsnapshot_any (.slice none 0 0) [] wt16 (Row.nil 0 wt16 2) (by simp) (by simp)
    go_simp
    refine kc.mono ?_
    rintro e wt19 ⟨u1,rfl,hu1,hb⟩
    clear kc
    have st19:=st16.trans (hb.mono st16.size)
    have hrec:=hu1.pieces
    clear hu1
    have hG:=hG.below hb
    refine hK.out _ _ trivial ?_
    clear hK K hb
    refine wpAnyH_ready (rs:=[0]) (by kernel_rfl) (by simp) ?_
    refine zR rfl rfl (fun K hK=>?_) AllReadyH.nil
    ·skip
     refine op_load (.tmp 1) 38 rfl rfl (run_loadVar_row (P:=Tryz.prog) wt19 w.heap.size 38 38 _ (0,0) _ ((st19.block _ (zB R0)).trans R0) Tryz.underlying38 rfl zQ) ?_
     refine hK.out _ _ trivial ?_
     clear hK K
     simp only [Act.put,zq1,zq2,zq3]
     refine wpAnyH_ready (rs:=[2]) (by kernel_rfl) (by simp) ?_
     refine zR rfl rfl (fun K hK=>?_) AllReadyH.nil
     ·skip
      have kc:=refFormat_any _ _ d (snapP []) wt19 (hd1.below st19).tight hrec (by rw [snapP_nil];intro b hb;rw [List.mem_singleton.1 hb,len_bytes_nil];decide) (by rw [snapP_nil];decide)
      rw [← HR.out] at kc
      unfold DLE at kc
      simp only [logV] at kc
      go_simp
      refine kc.mono ?_
      rintro e wt20 ⟨⟨vr,rfl,hdr⟩,hb⟩
      clear kc hrec
      obtain⟨r1,r2,r3,r4,rfl,_,_⟩:=hdr.parts
      have st20:=st19.trans (hb.mono st19.size)
      have hG:=hG.below hb
      refine hK.out _ _ trivial ?_
      clear hK K hb
      refine wpAnyH_part [(false,3),(false,4),(false,5),(false,6)] (by kernel_rfl) trivial ?_
      repeat (first | (refine zS rfl rfl ?_;simp only [Act.put,zq1,zq2,zq3]) | (refine zT rfl ?_ rfl (fun w' hw'=>?_) ?_;rotate_left;(go_simp;first | done | with_reducible rfl);(try simp only [Act.put,zq1,zq2,zq3])))
      refine zN ?_
      have hs1:=HS1.out
      have hRD:=(st20.block _ (zB R0)).trans R0
      obtain⟨wx,hst,hnA,hbx,hzx,hkx,_⟩:=storeBig info_disk hRD rfl #[.slice r1 r.1.secs.length r2,.slice r3 r.1.loose.length r4,.int .i64 r.1.fuse,.bool r.1.down] rfl (ones4 rfl rfl rfl rfl)
      have hGx:wx.heap[G]?=_:=(hkx G (by omega)).trans hG
      obtain⟨wy,hst2,hnB,hby,hzy,hky,_⟩:=storeBig info_log hGx rfl #[.int .i64 r.2.1.half,.int .i64 r.2.1.gen,.int .i64 r.2.1.used,.int .i64 r.2.1.count] rfl (ones4 rfl rfl rfl rfl)
      have hdx:=hdr.kept hRD (by simp) hkx
      have hdy:=hdx.kept hGx (by simp) hky
      have hmid:FormatMid w r wy (.pointer (some ⟨G,0,none⟩)) (.int .i64 r.2.2):=by
       refine⟨G,rfl,rfl,by omega,⟨r1,r2,r3,r4,(hky _ (by omega)).trans hnA,by rw [hzy,hzx];exact hdy⟩,hnB,?_,?_,?_⟩
       ·exact (hky _ (by omega)).trans ((hkx _ (by omega)).trans ((st20.block _ (zB R1)).trans R1))
       ·exact (hky _ (by omega)).trans ((hkx _ (by omega)).trans ((st20.block _ (zB R2)).trans R2))
       ·exact (((hb1.trans (st20.mono hb1.size)).trans hbx).trans (hby.mono (by omega)))
      have HMID:=zh hmid
      refine wpAnyH_end [(true,8),(true,9),(false,10)] (by kernel_rfl) trivial ?_
      refine zA rfl rfl fun K hK=>?_
      refine op_store (.tmp 1) (.tmp 11) 38 rfl rfl rfl hst ?_
      refine hK.out _ _ trivial ?_
      clear hK K hst
      simp only [Act.put,zq1,zq2,zq3]
      refine zA rfl rfl fun K hK=>?_
      refine op_store (.tmp 5) (.tmp 12) 41 rfl rfl rfl hst2 ?_
      refine hK.out _ _ trivial ?_
      clear hK K hst2
      simp only [Act.put,zq1,zq2,zq3]
      repeat (first | (refine zS rfl rfl ?_;simp only [Act.put,zq1,zq2,zq3]) | (refine zT rfl ?_ rfl (fun w' hw'=>?_) ?_;rotate_left;(go_simp;first | done | with_reducible rfl);(try simp only [Act.put,zq1,zq2,zq3])))
      refine zN ?_
      clear hmid hdx hdy hkx hky hnA hnB hRD hGx hG hdr
      go_wp2_with fail
      go_meet
      case rel=>exact HMID.out
 case rest =>
  obtain⟨G,rfl,rfl,hG3,hDx,hLx,hRC,hRS,hbx⟩:=hcut
  by_cases he:r.2.2=0
  ·have q0:(r.2.2 != 0)=false:=by simp [he]
   have HE:=zh he
   clear he
   obtain⟨a0,n0,b0,m0,TX,hvX⟩:=id hDx
   have s0:zK (w.heap.size+1) (w.heap.size+1+1) wc wc.drew:=zK.drew (zK.refl _ _ _)
   obtain⟨wa,wb,st1,st2,ka,kb,HLD⟩:=laid_DS (wx:=wc.drew) (a0:=a0) (a1:=b0) (n0:=n0) (n1:=m0) (d:=r.1) (l:=r.2.1) (pv:=(.slice none 0 0)) (s:=([]:List PairP)) hRC rfl hRS rfl (by omega) ((hvX.below (zD (Below.refl _ _) 1)).tight) ⟨none,0,rfl⟩ (fun w' _ _=>Row.nil _ _ _)
   have sa:zK (w.heap.size+1) (w.heap.size+1+1) wc wa:=zK.trans_ s0 (fun k h1 _=>ka k h1)
   have sb:zK (w.heap.size+1) (w.heap.size+1+1) wc wb:=zK.trans_ s0 kb
   have X0:∀ w':World,zK (w.heap.size+1) (w.heap.size+1+1) wc w'→w'.cell? ⟨w.heap.size,0,none⟩=some (.slice a0 r.1.secs.length n0):=fun w' h=>cR w' _ 0 _ _ _ ((h w.heap.size (by omega) (by omega)).trans TX)
   have X1:∀ w':World,zK (w.heap.size+1) (w.heap.size+1+1) wc w'→w'.cell? ⟨w.heap.size,1,none⟩=some (.slice b0 r.1.loose.length m0):=fun w' h=>cR w' _ 1 _ _ _ ((h w.heap.size (by omega) (by omega)).trans TX)
   have X2:∀ w':World,zK (w.heap.size+1) (w.heap.size+1+1) wc w'→w'.cell? ⟨w.heap.size,2,none⟩=some (.int .i64 r.1.fuse):=fun w' h=>cR w' _ 2 _ _ _ ((h w.heap.size (by omega) (by omega)).trans TX)
   have X3:∀ w':World,zK (w.heap.size+1) (w.heap.size+1+1) wc w'→w'.cell? ⟨w.heap.size,3,none⟩=some (.bool r.1.down):=fun w' h=>cR w' _ 3 _ _ _ ((h w.heap.size (by omega) (by omega)).trans TX)
   have N0:∀ w':World,zK (w.heap.size+1) (w.heap.size+1+1) wc w'→w'.cell? ⟨G,0,none⟩=some (.int .i64 r.2.1.half):=fun w' h=>cR w' _ 0 _ _ _ ((h G (by omega) (by omega)).trans hLx)
   have N1:∀ w':World,zK (w.heap.size+1) (w.heap.size+1+1) wc w'→w'.cell? ⟨G,1,none⟩=some (.int .i64 r.2.1.gen):=fun w' h=>cR w' _ 1 _ _ _ ((h G (by omega) (by omega)).trans hLx)
   have N2:∀ w':World,zK (w.heap.size+1) (w.heap.size+1+1) wc w'→w'.cell? ⟨G,2,none⟩=some (.int .i64 r.2.1.used):=fun w' h=>cR w' _ 2 _ _ _ ((h G (by omega) (by omega)).trans hLx)
   have N3:∀ w':World,zK (w.heap.size+1) (w.heap.size+1+1) wc w'→w'.cell? ⟨G,3,none⟩=some (.int .i64 r.2.1.count):=fun w' h=>cR w' _ 3 _ _ _ ((h G (by omega) (by omega)).trans hLx)
   have HBZ:=zh (HLD.out.2.2.2.2 w.heap.size w ((hbx).trans (zD (Below.refl _ _) 1)) (by omega) (by omega))
   clear ka kb TX hvX
   go_wp2_with fail
   refine zI [(false,0),(false,1),(false,2),(true,3),(true,4),(false,5)] (zK (w.heap.size+1) (w.heap.size+1+1) wc) (by kernel_rfl) (by kernel_rfl) s0 ?_
   repeat (first | (refine zS rfl rfl ?_;simp only [Act.put,zq1,zq2,zq3]) | (refine zT rfl ?_ rfl (fun w' hw'=>?_) ?_;rotate_left;(go_simp;first | done | with_reducible rfl);(try simp only [Act.put,zq1,zq2,zq3])))
   refine zA rfl rfl fun K hK=>?_
   refine op_store (.tmp 2) (.tmp 19) 38 rfl rfl rfl st1 ?_
   refine hK.out _ _ sa ?_
   clear hK K st1
   simp only [Act.put,zq1,zq2,zq3]
   refine zA rfl rfl fun K hK=>?_
   refine op_store (.tmp 3) (.tmp 21) 44 rfl rfl rfl st2 ?_
   refine hK.out _ _ sb ?_
   clear hK K st2
   simp only [Act.put,zq1,zq2,zq3]
   repeat (first | (refine zS rfl rfl ?_;simp only [Act.put,zq1,zq2,zq3]) | (refine zT rfl ?_ rfl (fun w' hw'=>?_) ?_;rotate_left;(go_simp;first | done | with_reducible rfl);(try simp only [Act.put,zq1,zq2,zq3])))
   refine zN ?_
   go_wp2_with fail
   refine bodyPost_ret (results_cct rfl _ _ (w.heap.size+1) (w.heap.size+1+1) _ _ _ _ _ _ _ _ rfl rfl HLD.out.1 HLD.out.2.1 Tryz.underlying38 rfl zQ Tryz.underlying44 rfl size_store) rfl ?_
   rw [HE.out]
   exact⟨⟨_,_,rfl,HLD.out.2.2.1,HLD.out.2.2.2.1⟩,HBZ.out⟩
  ·have q0:(r.2.2 != 0)=true:=by simp [he]
   have HE:=zh he
   clear he
   obtain⟨a0,n0,b0,m0,TX,hvX⟩:=id hDx
   obtain⟨wa,wb,st1,st2,ka,kb,HLD⟩:=laid_DS (wx:=wc) (a0:=a0) (a1:=b0) (n0:=n0) (n1:=m0) (d:=r.1) (l:=log0) (pv:=.slice none 0 0) (s:=([]:List PairP)) hRC rfl hRS rfl (by omega) hvX ⟨none,0,rfl⟩ (fun w' _ _=>Row.nil _ _ _)
   have HBZ:=zh (HLD.out.2.2.2.2 w.heap.size w hbx (by omega) (by omega))
   have C0:=cR wc _ 0 _ _ _ TX
   have C1:=cR wc _ 1 _ _ _ TX
   have C2:=cR wc _ 2 _ _ _ TX
   have C3:=cR wc _ 3 _ _ _ TX
   have ST2:=zh st2
   clear ka kb TX hvX st2
   go_wp2_with (with_reducible refine wp_store_r (.tmp 2) (.tmp 16) 38 st1 rfl rfl ?_;refine Halt.in ?_)
   refine Halt.out ?_
   have st2:=ST2.out
   clear st1 C0 C1 C2 C3
   go_wp2_with (with_reducible refine wp_store_r (.tmp 3) (.tmp 17) 44 st2 rfl rfl ?_;refine Halt.in ?_)
   refine Halt.out ?_
   clear st2
   go_wp2_with fail
   refine bodyPost_ret (results_cct rfl _ _ (w.heap.size+1) (w.heap.size+1+1) _ _ _ _ _ _ _ _ rfl rfl HLD.out.1 HLD.out.2.1 Tryz.underlying38 rfl zQ Tryz.underlying44 rfl size_store) rfl ?_
   rw [HERR.out HE.out]
   exact⟨⟨_,_,rfl,HLD.out.2.2.1,HLD.out.2.2.2.1⟩,HBZ.out⟩
end
section
open Go.RowKit KvP PackP
theorem flat_take:∀ (l:List PairP) (k:Nat),(l.map pairCells).flatten.take (k*2)=((l.take k).map pairCells).flatten
 | [],k=>by simp
 | _ :: _,0=>by simp
 | x :: l,k+1=>by
  have e:(k+1)*2=k*2+1+1:=by omega
  rw [List.map_cons,List.flatten_cons,e,List.take_succ_cons,List.map_cons,List.flatten_cons,← flat_take l k]
  simp [pairCells]
theorem flat_drop:∀ (l:List PairP) (k:Nat),(l.map pairCells).flatten.drop (k*2)=((l.drop k).map pairCells).flatten
 | [],k=>by simp
 | _ :: _,0=>by simp
 | x :: l,k+1=>by
  have e:(k+1)*2=k*2+1+1:=by omega
  rw [List.map_cons,List.flatten_cons,e,List.drop_succ_cons,← flat_drop l k]
  simp [pairCells]
theorem flat_setP:∀ (l:List PairP) (j:Nat) (p:PairP) (v:List UInt8),l[j]?=some p→(l.map pairCells).flatten.set (j*2+1) (str v)=((l.set j ⟨p.key,v⟩).map pairCells).flatten
 | [],j,p,v,h=>by simp at h
 | x :: l,0,p,v,h=>by
  simp at h
  subst h
  simp [pairCells]
 | x :: l,j+1,p,v,h=>by
  have e:(j+1)*2+1=(j*2+1)+1+1:=by omega
  rw [List.map_cons,List.flatten_cons,e,zq3,List.map_cons,List.flatten_cons,← flat_setP l j p v (by simpa using h)]
  simp [pairCells]
theorem flat_atP {l:List PairP} {j:Nat} (hj:j<l.length):(l.map pairCells).flatten[j*2+1]?=some (str l[j].val):=by
 have h:=flatten_get (css:=l.map pairCells) (sz:=2) (fun c hc=>by obtain⟨x,_,rfl⟩:=List.mem_map.1 hc;rfl) j 1 (pairCells l[j]) (by rw [List.getElem?_map,List.getElem?_eq_getElem hj];rfl) (by decide)
 rw [h]
 rfl
theorem run_bs0P (w:World):(Instr.buildSlice 42 0 #[]).run Tryz.prog w = .ok (.slice (some ⟨w.heap.size,0,none⟩) 0 0) (w.alloc (.cells #[] 76)):=by kernel_rfl
theorem run_slice_front {P:Program} {t e:TypeId} {i:TypeInfo} (ht:P.underlying t=some (.slice e)) (hi:P.info? e=some i) {B:Nat} {w:World} {a:Option Addr} {n cap sz:Nat} {cs:List Value} (h:Row B w (.slice a n cap) sz n cs) (k:Nat) (hk:k≤n) :
  (∀ w',(Instr.slice t (.slice a n cap) none (some (.int .i64 k)) none).run P w' = .ok (.slice a k cap) w')∧Row B w (.slice a k cap) sz k (cs.take (k*sz)):=by
 have hc:n≤cap:=by obtain⟨_,a',cap',hv,h2,_⟩:=h;cases hv;exact h2
 refine⟨fun w'=>?_,Row.take h k hk⟩
 have h0:(0:Int)≤(k:Int):=by omega
 have h1:(k:Int)≤(cap:Int):=by omega
 simp [Instr.slice,run_underlying ht,Instr.sliceBounds,run_sliceBound,sizeOf,typeInfo,hi,h0,h1]
 intros;cases a <;> simp [Addr.add]
theorem ones_pairs (l:List PairP):∀ u∈(l.map pairCells).flatten,u.oneCell'=true:=by
 intro u hu
 obtain⟨c,hc,hu⟩:=List.mem_flatten.1 hu
 obtain⟨x,_,rfl⟩:=List.mem_map.1 hc
 exact ones_pair x u hu
theorem there_at {l:List PairP} {k:List UInt8} {j:Nat} (hj:j<l.length) (he:placeN l k=j):thereN l k=decide (l[j].key=k):=by
 unfold thereN
 rw [he,List.getElem?_eq_getElem hj]
theorem there_end {l:List PairP} {k:List UInt8} {j:Nat} (hj:j=l.length) (he:placeN l k=j):thereN l k=false:=by
 unfold thereN
 rw [he,hj,List.getElem?_eq_none (Nat.le_refl _)]
theorem step_del {l:List PairP} (hr:Rising l) {k v:List UInt8} {j:Nat} (ht:thereN l k=true) (he:placeN l k=j):do1 l ⟨k,v,true⟩=l.take j++l.drop (j+1):=by
 unfold do1
 rw [if_pos rfl,delK_place hr,if_pos ht,he]
theorem step_none {l:List PairP} (hr:Rising l) {k v:List UInt8} (ht:thereN l k=false):do1 l ⟨k,v,true⟩=l:=by
 unfold do1
 rw [if_pos rfl,delK_place hr,ht]
 rfl
theorem step_set {l:List PairP} {k v:List UInt8} {j:Nat} (hj:j<l.length) (ht:thereN l k=true) (he:placeN l k=j):do1 l ⟨k,v,false⟩=l.set j ⟨k,v⟩:=by
 unfold do1
 dsimp only
 rw [if_neg (by decide),putK_place,he,if_pos ht,List.set_eq_take_append_cons_drop,if_pos hj]
theorem step_ins {l:List PairP} {k v:List UInt8} {j:Nat} (ht:thereN l k=false) (he:placeN l k=j):do1 l ⟨k,v,false⟩=l.take j++⟨k,v⟩ :: l.drop j:=by
 unfold do1
 dsimp only
 rw [if_neg (by decide),putK_place,he,ht]
 rfl
theorem PairsO.del {B:Nat} {w:World} {v:Value} {l:List PairP} {j n:Nat} (hn:n=l.length) (hj:j<n) (h:Own B w 76 v 2 (j+(n-(j+1))) (((l.take j).map pairCells).flatten++((l.drop (j+1)).map pairCells).flatten)):PairsO B w v (l.take j++l.drop (j+1)):=by
 unfold PairsO
 rw [List.length_append,List.length_take,List.length_drop,Nat.min_eq_left (by omega),← hn,List.map_append,List.flatten_append]
 exact h
theorem PairsO.ins {B:Nat} {w:World} {v:Value} {l:List PairP} {j n:Nat} {p:PairP} (hn:n=l.length) (hj:j≤n) (h:Own B w 76 v 2 (j+1+(n-j)) (((l.take j).map pairCells).flatten++pairCells p++((l.drop j).map pairCells).flatten)):PairsO B w v (l.take j++p :: l.drop j):=by
 unfold PairsO
 rw [List.length_append,List.length_take,List.length_cons,List.length_drop,Nat.min_eq_left (by omega),← hn,show j+(n-j+1)=j+1+(n-j) by omega,List.map_append,List.flatten_append,List.map_cons,List.flatten_cons,← List.append_assoc]
 exact h
theorem PairsO.set {B:Nat} {w:World} {v:Value} {l:List PairP} {j:Nat} {p:PairP} {x:List UInt8} (hp:l[j]?=some p) (h:Own B w 76 v 2 l.length ((l.map pairCells).flatten.set (j*2+1) (str x))):PairsO B w v (l.set j ⟨p.key,x⟩):=by
 unfold PairsO
 rw [List.length_set,← flat_setP l j p x hp]
 exact h
set_option maxRecDepth 100000 in
set_option maxHeartbeats 4000000 in
theorem refdo_any {B B':Nat} (u v:Value) (l:List PairP) (c:List ChangeP) (w:World) (hu:PairsV B w u l) (hv:ChangesV B' w v c) (hr:Rising l) (hl:l.length≤2^20) (hcl:c.length≤2^20) :
  Calls Tryz.prog 30 #[u,v] w fun e w'=>∃ x,e = .returned x∧PairsO w.heap.size w' x (doP l c)∧Below w.heap.size w w':=by
 have hu:=hu.tight
 have hv:=hv.tight
 obtain⟨_,a,ca,rfl,h1,h2,_⟩:=id hu
 obtain⟨_,b',cb,rfl,h3,h4,_⟩:=id hv
 unfold maxLen at h2 h4
 obtain⟨N,hN⟩:∃ N,N=l.length:=⟨_,rfl⟩
 obtain⟨M,hM⟩:∃ M,M=c.length:=⟨_,rfl⟩
 rw [← hN] at hu h1 hl ⊢
 rw [← hM] at hv h3 hcl ⊢
 obtain⟨w1,hw1⟩:∃ x,x=w.alloc (.cells #[] 76):=⟨_,rfl⟩
 obtain⟨g1,hg1⟩:∃ x,x=w.heap.size:=⟨_,rfl⟩
 have hbs:=run_bs0P w
 have hb1:Below w.heap.size w w1:=by rw [hw1];exact Below.alloc (Below.refl _ _) (Nat.le_refl _) _
 rw [← hw1,← hg1] at hbs
 obtain⟨i0,z0,hi,hz0,hz1,hz2,hz3⟩:=zero_parts infoz_pair
 have hu1:=hu.below hb1
 have hsrc:Src Tryz.prog w1 (.slice a N ca) 2 N (l.map pairCells).flatten:=by rw [hN];exact Row.src (by rw [← hN];unfold PairsV at hu1;rw [← hN] at hu1;exact hu1)
 have HN:=zh hN
 have HM:=zh hM
 have HV:=zh hv
 have HR:=zh hr
 have HB1:=zh hb1
 have HI:=zh hi
 have HZ0:=zh hz0
 have HZ1:=zh hz1
 have HZ2:=zh hz2
 have HZ3:=zh hz3
 have R1:0+N≤maxLen:=by unfold maxLen;omega
 have R2:(0+N)*32≤140737488355328:=by omega
 have hs1:=hb1.size
 clear hN hM hu hv hr hb1 hw1 hg1 hu1
 go_enter Tryz.func30,Tryz.ntmps30
 go_upto_region 1 with (fail)
 go_wp2_with (with_reducible refine wp_buildSlice_r 42 0 [] hbs rfl ?_;refine Halt.in ?_)
 refine Halt.out ?_
 clear hbs
 go_wp2_with (at_builtin;refine wp_append2 rfl (.tmp 9) (.tmp 10) 42 42 76 rfl i0 z0 2 32 Tryz.underlying42 (.inl ⟨_,Tryz.underlying42⟩) hi hz0 hz1 hz2 hz3 rfl rfl (Own.none w.heap.size w1 76 (some ⟨g1,0,none⟩) 2) hsrc (ones_pairs l) R1 R2 hs1 ?_;intro v5 w5 hown5 hb5 _;refine Halt.in ?_)
 refine Halt.out ?_
 have hP5:PairsO w.heap.size w5 v5 (doP l (c.take 0)):=by
  rw [List.take_zero]
  unfold PairsO
  rw [Nat.zero_add,List.nil_append,HN.out] at hown5
  exact hown5
 have HP5:=zh hP5
 have HB5:=zh (HB1.out.trans hb5)
 clear hown5 hP5 hb5 hsrc hs1 R1 R2 hi hz0 hz1 hz2 hz3
 go_wp2_with fail
 go_loopw [5,6] (fun s5 i wr=>∃ k:Nat,k≤M∧i = .int .i64 k∧PairsO w.heap.size wr s5 (doP l (c.take k))∧Below w.heap.size w wr) (fun _ i _=>M-(intOf i).toNat)
 case atStart=>exact⟨0,Nat.zero_le _,rfl,HP5.out,HB5.out⟩
 case round =>
  obtain⟨i,hiM',rfl,hP,hb⟩:=hrel
  obtain⟨wo,hwo⟩:∃ x,x=wr:=⟨_,rfl⟩
  subst hwo
  clear HP5 HB5
  by_cases hiM:i<M
  ·have hil:i<c.length:=HM.out▸hiM
   have i0:decide ((i:Int)<(M:Int))=true:=by simp;omega
   have i1:(0:Int)≤(i:Int):=by omega
   have i2:(i:Int)<(M:Int):=by omega
   have hpt:=doP_take l c i hil
   have hln:(doP l (c.take i)).length≤N+i:=by
    have:=len_doP l (c.take i)
    rw [List.length_take,← HN.out] at this
    omega
   have hrs:=Rising.doP HR.out (c.take i)
   obtain⟨cur,hcur⟩:∃ x,x=doP l (c.take i):=⟨_,rfl⟩
   rw [← hcur] at hpt hln hrs hP
   obtain⟨b,off,rfl,hbb,hc⟩:=load_change HV.out hil
   obtain⟨⟨key,val,gn⟩,hx⟩:∃ x,x=c[i]:=⟨_,rfl⟩
   rw [← hx] at hc hpt
   dsimp only at hc
   obtain⟨sk,hsk⟩:∃ s,s=ByteArray.mk key.toArray:=⟨_,rfl⟩
   obtain⟨sv,hsv⟩:∃ s,s=ByteArray.mk val.toArray:=⟨_,rfl⟩
   have L0:∀ w',Below wo.heap.size wo w'→w'.cell? ⟨b,off+i*3,none⟩=some (.string sk):=fun w' h=>by rw [hsk];exact (hc w' (hb.trans (h.mono hb.size))).1
   have L1:∀ w',Below wo.heap.size wo w'→w'.cell? ⟨b,off+i*3+1,none⟩=some (.string sv):=fun w' h=>by rw [hsv];exact (hc w' (hb.trans (h.mono hb.size))).2.1
   have L2:∀ w',Below wo.heap.size wo w'→w'.cell? ⟨b,off+i*3+2,none⟩=some (.bool gn):=fun w' h=>(hc w' (hb.trans (h.mono hb.size))).2.2
   obtain⟨_,a5,c5,rfl,hKc,hcm,_⟩:=id hP
   unfold maxLen at hcm
   obtain⟨K,hK⟩:∃ n,n=cur.length:=⟨_,rfl⟩
   have hPv:=hP.v
   have hO:=hP
   unfold PairsO at hO
   rw [← hK] at hO hln hKc ⊢
   unfold PairsV at hPv
   rw [← hK] at hPv
   have hln2:K≤2^21:=by omega
   have HK:=zh hK
   have HPV:=zh hPv
   have HO:=zh hO
   have HPT:=zh hpt
   have HRS:=zh hrs
   have HSK:=zh hsk
   have HSV:=zh hsv
   have HB:=zh hb
   have hple:=placeN_le cur key
   rw [← hK] at hple
   obtain⟨pl,hpl⟩:∃ n,n=placeN cur key:=⟨_,rfl⟩
   rw [← hpl] at hple
   have HPL:=zh hpl
   clear hcur hx hc hsk hsv hP hPv hO hK hpt hrs hpl hln
   go_wp2_with fail
   go_loopw [7] (fun jv wx=>∃ j:Nat,j≤pl∧jv = .int .i64 j∧Below wo.heap.size wo wx) (fun jv _=>K-(intOf jv).toNat)
   case atStart=>exact⟨0,Nat.zero_le _,rfl,Below.refl _ _⟩
   case round =>
    obtain⟨j,hj,rfl,hbx⟩:=hrel
    have s0:Below wo.heap.size wo wr.drew:=zD hbx 1
    clear hb hbx
    by_cases hjK:j<K
    ·have hjl:j<cur.length:=HK.out▸hjK
     have q0:decide ((j:Int)<(K:Int))=true:=by simp;omega
     have q1:(0:Int)≤(j:Int):=by omega
     have q2:(j:Int)<(K:Int):=by omega
     obtain⟨b',off',rfl,_,hc'⟩:=load_pair (l:=cur) (by unfold PairsV;rw [← HK.out];exact HPV.out) hjl
     obtain⟨sp,hsp⟩:∃ s,s=ByteArray.mk cur[j].key.toArray:=⟨_,rfl⟩
     have L3:∀ w',Below wo.heap.size wo w'→w'.cell? ⟨b',off'+j*2,none⟩=some (.string sp):=fun w' h=>by
      rw [hsp]
      exact (hc' w' h).1
     obtain⟨cl,hcl⟩:∃ x,x=decide (cur[j].key<key):=⟨_,rfl⟩
     have kb:Op.bytesLess sp.toList sk.toList=cl:=by rw [hsp,HSK.out,str_list,str_list,bytesLess_eq,hcl]
     have HCL:=zh hcl
     have HSP:=zh hsp
     clear hsp hcl hc'
     cases cl with
     | true =>
      have hjp:j<pl:=by
       refine Nat.lt_of_le_of_ne hj (fun h=>?_)
       have h2:=placeN_at cur key (by rw [← HPL.out,← h];exact hjl)
       simp only [← HPL.out,← h] at h2
       exact h2 (of_decide_eq_true HCL.out.symm)
      go_upto_region 6 with (fail)
      refine zI [(false,0),(false,1),(false,2),(false,3),(false,4),(false,5),(false,6),(false,7),(false,8),(false,9),(false,10),(false,11),(false,12),(false,13),(false,14),(false,15),(false,16)] (fun w'=>Below wo.heap.size wo w') (by kernel_rfl) (by kernel_rfl) s0 ?_
      repeat (first | (refine zS rfl rfl ?_;simp only [Act.put,zq1,zq2,zq3]) | (refine zT rfl ?_ rfl (fun w' hw'=>?_) ?_;rotate_left;(go_simp;first | done | with_reducible rfl);(try simp only [Act.put,zq1,zq2,zq3])))
      refine zN ?_
      generalize wr.drew=w6 at s0 ⊢
      go_wp2_with fail
      go_roundw
      case rel=>exact⟨j+1,hjp,by go_num,s0⟩
      case measure=>simp [intOf];omega
     | false =>
      have hjp:j=pl:=by
       refine Nat.le_antisymm hj (Nat.le_of_not_lt (fun h=>?_))
       exact of_decide_eq_false HCL.out.symm (placeN_below cur key j hjl (by rw [← HPL.out];exact h))
      subst hjp
      obtain⟨ce,hce⟩:∃ x,x=decide (cur[j].key=key):=⟨_,rfl⟩
      have kE:(sp.toList == sk.toList)=ce:=by
       rw [HSP.out,HSK.out,str_list,str_list,hce]
       by_cases h:cur[j].key=key
       ·rw [h];simp
       ·rw [decide_eq_false h];exact beq_eq_false_iff_ne.2 h
      have hth:=(there_at hjl HPL.out.symm).trans hce.symm
      have HTH:=zh hth
      have HCE:=zh hce
      clear hth hce
      go_upto_region 6 with (fail)
      refine zI [(false,0),(false,1),(false,2),(false,3),(false,4),(false,5),(false,6),(false,7),(false,8),(false,9),(false,10),(false,11),(false,12),(false,13),(false,14),(false,15),(false,16)] (fun w'=>Below wo.heap.size wo w') (by kernel_rfl) (by kernel_rfl) s0 ?_
      repeat (first | (refine zS rfl rfl ?_;simp only [Act.put,zq1,zq2,zq3]) | (refine zT rfl ?_ rfl (fun w' hw'=>?_) ?_;rotate_left;(go_simp;first | done | with_reducible rfl);(try simp only [Act.put,zq1,zq2,zq3])))
      refine zN ?_
      generalize wr.drew=w6 at s0 ⊢
      cases ce with
      | true =>
       go_upto_region 8 with (fail)
       replace s0:Below wo.heap.size wo w6.drew:=zD s0 1
       refine zI [(false,0),(false,1),(false,2),(false,3),(false,4),(false,5),(false,6),(false,7),(false,8),(false,9),(false,10),(false,11),(false,12),(false,13),(false,14),(false,15),(false,16),(false,17)] (fun w'=>Below wo.heap.size wo w') (by kernel_rfl) (by kernel_rfl) s0 ?_
       repeat (first | (refine zS rfl rfl ?_;simp only [Act.put,zq1,zq2,zq3]) | (refine zT rfl ?_ rfl (fun w' hw'=>?_) ?_;rotate_left;(go_simp;first | done | with_reducible rfl);(try simp only [Act.put,zq1,zq2,zq3])))
       refine zN ?_
       generalize w6.drew=w8 at s0 ⊢
       cases gn with
       | true =>
        have C2:=L2 w8 s0
        go_upto_region 11 with (fail)
        clear C2
        obtain⟨I0,z0,hi,hz0,hz1,hz2,hz3⟩:=zero_parts infoz_pair
        have HI:=zh hi
        have HZ0:=zh hz0
        have HZ1:=zh hz1
        have HZ2:=zh hz2
        have HZ3:=zh hz3
        obtain⟨slF,rowF⟩:=run_slice_front (P:=Tryz.prog) Tryz.underlying42 hi HPV.out j (by omega)
        obtain⟨ra,rc,slR,rowR⟩:=run_slice_rest (P:=Tryz.prog) Tryz.underlying42 hi hz1 HPV.out (j+1) (by omega)
        rw [flat_take] at rowF
        rw [flat_drop] at rowR
        have HFR:=zh rowF
        have HRE:=zh rowR
        replace s0:Below wo.heap.size wo w8.drew:=zD s0 1
        have hwj:IntKind.i64.wrap ((j:Int)+1)=(j:Int)+1:=by
         simp only [IntKind.wrap,IntKind.bits,IntKind.signed]
         simp
         omega
        rw [show ((j+1:Nat):Int)=(j:Int)+1 by omega] at slR
        clear hi hz0 hz1 hz2 hz3 rowF rowR
        refine zI [(false,1),(false,2),(false,3),(false,5),(false,6),(false,7),(false,8),(true,0),(true,4),(true,9),(false,10)] (fun w'=>Below wo.heap.size wo w') (by kernel_rfl) (by kernel_rfl) s0 ?_
        repeat (first | (refine zS rfl rfl ?_;simp only [Act.put,zq1,zq2,zq3]) | (refine zT rfl ?_ rfl (fun w' hw'=>?_) ?_;rotate_left;(go_simp;first | done | with_reducible rfl);(try simp only [Act.put,zq1,zq2,zq3])))
        generalize w8.drew=w9 at s0 ⊢
        obtain⟨wt1,hw⟩:∃ x,x=w9.alloc (.cells #[] 76):=⟨_,rfl⟩
        obtain⟨ga,hg⟩:∃ g,g=w9.heap.size:=⟨_,rfl⟩
        have hb:Below w9.heap.size w9 wt1:=by rw [hw];exact Below.alloc (Below.refl _ _) (Nat.le_refl _) _
        have st1:=s0.trans (hb.mono s0.size)
        refine zA rfl rfl fun K hK=>?_
        refine op_buildSlice 42 0 [] rfl rfl (run_bs0P _) ?_
        rw [← hw,← hg]
        refine hK.out _ _ st1 ?_
        clear hK K hw hg hb
        simp only [Act.put,zq1,zq2,zq3]
        refine zA rfl rfl fun K hK=>?_
        refine op_append3 (.tmp 85) (.tmp 88) 42 42 76 rfl I0 z0 2 32 Tryz.underlying42 (.inl ⟨_,Tryz.underlying42⟩) HI.out HZ0.out HZ1.out HZ2.out HZ3.out rfl rfl (Own.none wo.heap.size wt1 76 (some ⟨ga,0,none⟩) 2) (Row.src (HFR.out.below st1)) (ones_pairs _) (by unfold maxLen;omega) (by omega) (st1.size) ?_
        rintro x1 wt2 hx1 hb _
        have st2:=st1.trans hb
        rw [Nat.zero_add,List.nil_append] at hx1
        refine hK.out _ _ st2 ?_
        clear hK K hb
        try simp only [Act.put,zq1,zq2,zq3]
        refine zA rfl rfl fun K hK=>?_
        refine op_append3 (.tmp 89) (.tmp 93) 42 42 76 rfl I0 z0 2 32 Tryz.underlying42 (.inl ⟨_,Tryz.underlying42⟩) HI.out HZ0.out HZ1.out HZ2.out HZ3.out rfl rfl (hx1) (Row.src (HRE.out.below st2)) (ones_pairs _) (by unfold maxLen;omega) (by omega) (st2.size) ?_
        rintro x2 wt3 hx2 hb _
        have st3:=st2.trans hb
        have hX:=PairsO.del HK.out hjK hx2
        have HX:=zh (Own.lower hX HB.out.size)
        have HBX:=zh (HB.out.trans (st3.mono HB.out.size))
        have HST:=zh (step_del (v:=val) HRS.out HTH.out HPL.out.symm)
        refine hK.out _ _ st3 ?_
        clear hK K hb hx1 hx2 hX
        try simp only [Act.put,zq1,zq2,zq3]
        repeat (first | (refine zS rfl rfl ?_;simp only [Act.put,zq1,zq2,zq3]) | (refine zT rfl ?_ rfl (fun w' hw'=>?_) ?_;rotate_left;(go_simp;first | done | with_reducible rfl);(try simp only [Act.put,zq1,zq2,zq3])))
        refine zN ?_
        clear st1 st2 st3 slF slR hwj
        go_wp2_with fail
        go_roundw
        case rel=>exact⟨i+1,by omega,by go_num,by rw [HPT.out,HST.out];exact HX.out,HBX.out⟩
        case measure=>simp [intOf];omega
       | false =>
        have C2:=L2 w8 s0
        go_upto_region 14 with (fail)
        have C1:=L1 w8 s0
        have hO8:=Own.below HO.out s0 (Nat.le_refl _)
        obtain⟨g,hg,hBg,hgl,hgc,hgf,hgs⟩:=Own.form hO8 (by omega)
        cases hg
        have hcell:=hgc (j*2+1) _ (flat_atP hjl)
        unfold str at hcell
        have hfz:=hgf (j*2+1)
        have ho3:=hgs (j*2+1) (.string sv) (by omega)
        have hb3:=(HB.out.trans (s0.mono HB.out.size)).setCell (p:=⟨b',j*2+1,none⟩) hBg (.string sv)
        have HO3:=zh ho3
        have HB3:=zh hb3
        have HST:=zh (step_set (v:=val) hjl HTH.out HPL.out.symm)
        clear hgc hgf hgs ho3 hb3 hgl hBg hO8
        go_wp2_with fail
        go_roundw
        case rel=>exact⟨i+1,by omega,by go_num,by
         rw [HPT.out,HST.out]
         have hkj:cur[j].key=key:=of_decide_eq_true HCE.out.symm
         have h:=PairsO.set (l:=cur) (j:=j) (p:=cur[j]) (x:=val) (List.getElem?_eq_getElem hjl) (by rw [← HK.out];unfold str;rw [← HSV.out];exact HO3.out)
         rw [hkj] at h
         have hl2:(cur.set j ⟨key,val⟩).length=K:=by rw [List.length_set,HK.out]
         exact h,HB3.out⟩
        case measure=>simp [intOf];omega
      | false =>
       go_upto_region 8 with (fail)
       replace s0:Below wo.heap.size wo w6.drew:=zD s0 1
       refine zI [(false,0),(false,1),(false,2),(false,3),(false,4),(false,5),(false,6),(false,7),(false,8),(false,9),(false,10),(false,11),(false,12),(false,13),(false,14),(false,15),(false,16),(false,17)] (fun w'=>Below wo.heap.size wo w') (by kernel_rfl) (by kernel_rfl) s0 ?_
       repeat (first | (refine zS rfl rfl ?_;simp only [Act.put,zq1,zq2,zq3]) | (refine zT rfl ?_ rfl (fun w' hw'=>?_) ?_;rotate_left;(go_simp;first | done | with_reducible rfl);(try simp only [Act.put,zq1,zq2,zq3])))
       refine zN ?_
       generalize w6.drew=w8 at s0 ⊢
       cases gn with
       | true =>
        have C2:=L2 w8 s0
        have HST:=zh (step_none (v:=val) HRS.out HTH.out)
        have HX:=zh (Own.below HO.out s0 (Nat.le_refl _))
        have HBX:=zh (HB.out.trans (s0.mono HB.out.size))
        go_wp2_with fail
        go_roundw
        case rel=>exact⟨i+1,by omega,by go_num,by rw [HPT.out,HST.out];exact (by unfold PairsO;rw [← HK.out];exact HX.out),HBX.out⟩
        case measure=>simp [intOf];omega
       | false =>
        have C2:=L2 w8 s0
        go_upto_region 9 with (fail)
        clear C2
        obtain⟨I0,z0,hi,hz0,hz1,hz2,hz3⟩:=zero_parts infoz_pair
        have HI:=zh hi
        have HZ0:=zh hz0
        have HZ1:=zh hz1
        have HZ2:=zh hz2
        have HZ3:=zh hz3
        obtain⟨slF,rowF⟩:=run_slice_front (P:=Tryz.prog) Tryz.underlying42 hi HPV.out j (by omega)
        obtain⟨ra,rc,slR,rowR⟩:=run_slice_rest (P:=Tryz.prog) Tryz.underlying42 hi hz1 HPV.out j (by omega)
        rw [flat_take] at rowF
        rw [flat_drop] at rowR
        skip
        have HFR:=zh rowF
        have HRE:=zh rowR
        have t0:Below wo.heap.size wo w8.drew:=zD s0 1
        clear hi hz0 hz1 hz2 hz3 rowF rowR
        have HST:=zh (step_ins (v:=val) HTH.out HPL.out.symm)
        refine wp_region_start (fun w'=>Below wo.heap.size wo w') (by kernel_rfl) t0 ?_
        refine wpAnyH_part [(false,1),(false,2),(false,3),(false,5),(false,6),(false,7),(false,8),(false,9),(false,10),(false,11),(false,12),(false,13),(false,14),(false,15),(false,18),(false,19),(false,20)] (by kernel_rfl) t0 ?_
        repeat (first | (refine zS rfl rfl ?_;simp only [Act.put,zq1,zq2,zq3]) | (refine zT rfl ?_ rfl (fun w' hw'=>?_) ?_;rotate_left;(go_simp;first | done | with_reducible rfl);(try simp only [Act.put,zq1,zq2,zq3])))
        refine zN ?_
        refine wpAnyH_ready (rs:=[0,16]) (by kernel_rfl) (by simp) ?_
        refine zR rfl rfl (fun K hK=>?_) (zR rfl rfl (fun K hK=>?_) AllReadyH.nil)
        ·skip
         obtain⟨wt1,hw⟩:∃ x,x=w8.drew.alloc (.cells #[] 76):=⟨_,rfl⟩
         obtain⟨ga,hg⟩:∃ g,g=w8.drew.heap.size:=⟨_,rfl⟩
         have hb:Below w8.drew.heap.size w8.drew wt1:=by rw [hw];exact Below.alloc (Below.refl _ _) (Nat.le_refl _) _
         have st1:=t0.trans (hb.mono t0.size)
         refine op_buildSlice 42 0 [] rfl rfl (run_bs0P _) ?_
         rw [← hw,← hg]
         refine hK.out _ _ st1 ?_
         clear hK K hw hg hb
         simp only [Act.put,zq1,zq2,zq3]
         refine wpAnyH_ready (rs:=[4,16]) (by kernel_rfl) (by simp) ?_
         refine zR rfl rfl (fun K hK=>?_) (zR rfl rfl (fun K hK=>?_) AllReadyH.nil)
         ·skip
          refine op_append3 (.tmp 54) (.tmp 57) 42 42 76 rfl I0 z0 2 32 Tryz.underlying42 (.inl ⟨_,Tryz.underlying42⟩) HI.out HZ0.out HZ1.out HZ2.out HZ3.out rfl rfl (Own.none wt1.heap.size wt1 76 (some ⟨ga,0,none⟩) 2) (Row.src (HFR.out.below st1)) (ones_pairs _) (by unfold maxLen;omega) (by omega) (Nat.le_refl _) ?_
          rintro x1 wt2 hx1 hb _
          have st2:=st1.trans (hb.mono st1.size)
          rw [Nat.zero_add,List.nil_append] at hx1
          have lx1:wo.heap.size≤wt1.heap.size:=st1.size
          replace hx1:=Own.lower hx1 lx1
          refine hK.out _ _ st2 ?_
          clear hK K hb lx1
          try simp only [Act.put,zq1,zq2,zq3]
          refine wpAnyH_ready (rs:=[16]) (by kernel_rfl) (by simp) ?_
          refine zR rfl rfl (fun K hK=>?_) AllReadyH.nil
          ·skip
           obtain⟨wt3,hw⟩:∃ x,x=wt2.alloc (.cells #[.string sk,.string sv] 76):=⟨_,rfl⟩
           obtain⟨gb,hg⟩:∃ g,g=wt2.heap.size:=⟨_,rfl⟩
           have hb:Below wt2.heap.size wt2 wt3:=by rw [hw];exact Below.alloc (Below.refl _ _) (Nat.le_refl _) _
           have st3:=st2.trans (hb.mono st2.size)
           have hnw:Row wt3.heap.size wt3 (.slice (some ⟨gb,0,none⟩) 1 1) 2 1 (pairCells ⟨key,val⟩):=by
            rw [hw,hg]
            refine Row.tight (Row.fresh (by simp [pairCells]) (Nat.le_refl _) (by decide) (fun k u hk=>?_)) (by decide)
            simp only [pairCells,str] at hk
            rw [HSK.out,HSV.out];simpa using hk
           have hx1:=Own.below hx1 hb (Nat.le_refl _)
           refine op_buildSlice 42 1 [(0,.tmp 69)] rfl rfl (run_bsP sk sv _) ?_
           rw [← hw,← hg]
           refine hK.out _ _ st3 ?_
           clear hK K hw hg hb
           simp only [Act.put,zq1,zq2,zq3]
           refine wpAnyH_end [(true,17),(true,21),(false,22)] (by kernel_rfl) st3 ?_
           refine zA rfl rfl fun K hK=>?_
           refine op_append3 (.tmp 58) (.tmp 70) 42 42 76 rfl I0 z0 2 32 Tryz.underlying42 (.inl ⟨_,Tryz.underlying42⟩) HI.out HZ0.out HZ1.out HZ2.out HZ3.out rfl rfl (hx1) (Row.src hnw) (ones_pair _) (by unfold maxLen;omega) (by omega) (st3.size) ?_
           rintro x2 wt4 hx2 hb _
           have st4:=st3.trans hb
           refine hK.out _ _ st4 ?_
           clear hK K hb hx1 hnw
           try simp only [Act.put,zq1,zq2,zq3]
           refine zA rfl rfl fun K hK=>?_
           refine op_append3 (.tmp 71) (.tmp 74) 42 42 76 rfl I0 z0 2 32 Tryz.underlying42 (.inl ⟨_,Tryz.underlying42⟩) HI.out HZ0.out HZ1.out HZ2.out HZ3.out rfl rfl (hx2) (Row.src (HRE.out.below st4)) (ones_pairs _) (by unfold maxLen;omega) (by omega) (st4.size) ?_
           rintro x3 wt5 hx3 hb _
           have st5:=st4.trans hb
           have hX:=PairsO.ins HK.out (by omega) hx3
           refine hK.out _ _ st5 ?_
           clear hK K hb hx2 hx3
           try simp only [Act.put,zq1,zq2,zq3]
           repeat (first | (refine zS rfl rfl ?_;simp only [Act.put,zq1,zq2,zq3]) | (refine zT rfl ?_ rfl (fun w' hw'=>?_) ?_;rotate_left;(go_simp;first | done | with_reducible rfl);(try simp only [Act.put,zq1,zq2,zq3])))
           refine zN ?_
           have HX:=zh (Own.lower hX HB.out.size)
           have HBX:=zh (HB.out.trans (st5.mono HB.out.size))
           clear hX slF slR t0
           go_wp2_with fail
           go_roundw
           case rel=>exact⟨i+1,by omega,by go_num,by rw [HPT.out,HST.out];exact HX.out,HBX.out⟩
           case measure=>simp [intOf];omega
         ·skip
          obtain⟨wt6,hw⟩:∃ x,x=wt1.alloc (.cells #[.string sk,.string sv] 76):=⟨_,rfl⟩
          obtain⟨gb,hg⟩:∃ g,g=wt1.heap.size:=⟨_,rfl⟩
          have hb:Below wt1.heap.size wt1 wt6:=by rw [hw];exact Below.alloc (Below.refl _ _) (Nat.le_refl _) _
          have st6:=st1.trans (hb.mono st1.size)
          have hnw:Row wt6.heap.size wt6 (.slice (some ⟨gb,0,none⟩) 1 1) 2 1 (pairCells ⟨key,val⟩):=by
           rw [hw,hg]
           refine Row.tight (Row.fresh (by simp [pairCells]) (Nat.le_refl _) (by decide) (fun k u hk=>?_)) (by decide)
           simp only [pairCells,str] at hk
           rw [HSK.out,HSV.out];simpa using hk
          refine op_buildSlice 42 1 [(0,.tmp 69)] rfl rfl (run_bsP sk sv _) ?_
          rw [← hw,← hg]
          refine hK.out _ _ st6 ?_
          clear hK K hw hg hb
          simp only [Act.put,zq1,zq2,zq3]
          refine wpAnyH_ready (rs:=[4]) (by kernel_rfl) (by simp) ?_
          refine zR rfl rfl (fun K hK=>?_) AllReadyH.nil
          ·skip
           refine op_append3 (.tmp 54) (.tmp 57) 42 42 76 rfl I0 z0 2 32 Tryz.underlying42 (.inl ⟨_,Tryz.underlying42⟩) HI.out HZ0.out HZ1.out HZ2.out HZ3.out rfl rfl (Own.none wt6.heap.size wt6 76 (some ⟨ga,0,none⟩) 2) (Row.src (HFR.out.below st6)) (ones_pairs _) (by unfold maxLen;omega) (by omega) (Nat.le_refl _) ?_
           rintro x1 wt7 hx1 hb _
           have st7:=st6.trans (hb.mono st6.size)
           rw [Nat.zero_add,List.nil_append] at hx1
           have lx1:wo.heap.size≤wt6.heap.size:=st6.size
           replace hx1:=Own.lower hx1 lx1
           have hnw:=(hnw.below hb).tight (by decide)
           refine hK.out _ _ st7 ?_
           clear hK K hb lx1
           try simp only [Act.put,zq1,zq2,zq3]
           refine wpAnyH_end [(true,17),(true,21),(false,22)] (by kernel_rfl) st7 ?_
           refine zA rfl rfl fun K hK=>?_
           refine op_append3 (.tmp 58) (.tmp 70) 42 42 76 rfl I0 z0 2 32 Tryz.underlying42 (.inl ⟨_,Tryz.underlying42⟩) HI.out HZ0.out HZ1.out HZ2.out HZ3.out rfl rfl (hx1) (Row.src hnw) (ones_pair _) (by unfold maxLen;omega) (by omega) (st7.size) ?_
           rintro x2 wt8 hx2 hb _
           have st8:=st7.trans hb
           refine hK.out _ _ st8 ?_
           clear hK K hb hx1 hnw
           try simp only [Act.put,zq1,zq2,zq3]
           refine zA rfl rfl fun K hK=>?_
           refine op_append3 (.tmp 71) (.tmp 74) 42 42 76 rfl I0 z0 2 32 Tryz.underlying42 (.inl ⟨_,Tryz.underlying42⟩) HI.out HZ0.out HZ1.out HZ2.out HZ3.out rfl rfl (hx2) (Row.src (HRE.out.below st8)) (ones_pairs _) (by unfold maxLen;omega) (by omega) (st8.size) ?_
           rintro x3 wt9 hx3 hb _
           have st9:=st8.trans hb
           have hX:=PairsO.ins HK.out (by omega) hx3
           refine hK.out _ _ st9 ?_
           clear hK K hb hx2 hx3
           try simp only [Act.put,zq1,zq2,zq3]
           repeat (first | (refine zS rfl rfl ?_;simp only [Act.put,zq1,zq2,zq3]) | (refine zT rfl ?_ rfl (fun w' hw'=>?_) ?_;rotate_left;(go_simp;first | done | with_reducible rfl);(try simp only [Act.put,zq1,zq2,zq3])))
           refine zN ?_
           have HX:=zh (Own.lower hX HB.out.size)
           have HBX:=zh (HB.out.trans (st9.mono HB.out.size))
           clear hX slF slR t0
           go_wp2_with fail
           go_roundw
           case rel=>exact⟨i+1,by omega,by go_num,by rw [HPT.out,HST.out];exact HX.out,HBX.out⟩
           case measure=>simp [intOf];omega
        ·skip
         obtain⟨wt10,hw⟩:∃ x,x=w8.drew.alloc (.cells #[.string sk,.string sv] 76):=⟨_,rfl⟩
         obtain⟨gb,hg⟩:∃ g,g=w8.drew.heap.size:=⟨_,rfl⟩
         have hb:Below w8.drew.heap.size w8.drew wt10:=by rw [hw];exact Below.alloc (Below.refl _ _) (Nat.le_refl _) _
         have st10:=t0.trans (hb.mono t0.size)
         have hnw:Row wt10.heap.size wt10 (.slice (some ⟨gb,0,none⟩) 1 1) 2 1 (pairCells ⟨key,val⟩):=by
          rw [hw,hg]
          refine Row.tight (Row.fresh (by simp [pairCells]) (Nat.le_refl _) (by decide) (fun k u hk=>?_)) (by decide)
          simp only [pairCells,str] at hk
          rw [HSK.out,HSV.out];simpa using hk
         refine op_buildSlice 42 1 [(0,.tmp 69)] rfl rfl (run_bsP sk sv _) ?_
         rw [← hw,← hg]
         refine hK.out _ _ st10 ?_
         clear hK K hw hg hb
         simp only [Act.put,zq1,zq2,zq3]
         refine wpAnyH_ready (rs:=[0]) (by kernel_rfl) (by simp) ?_
         refine zR rfl rfl (fun K hK=>?_) AllReadyH.nil
         ·skip
          obtain⟨wt11,hw⟩:∃ x,x=wt10.alloc (.cells #[] 76):=⟨_,rfl⟩
          obtain⟨ga,hg⟩:∃ g,g=wt10.heap.size:=⟨_,rfl⟩
          have hb:Below wt10.heap.size wt10 wt11:=by rw [hw];exact Below.alloc (Below.refl _ _) (Nat.le_refl _) _
          have st11:=st10.trans (hb.mono st10.size)
          have hnw:=(hnw.below hb).tight (by decide)
          refine op_buildSlice 42 0 [] rfl rfl (run_bs0P _) ?_
          rw [← hw,← hg]
          refine hK.out _ _ st11 ?_
          clear hK K hw hg hb
          simp only [Act.put,zq1,zq2,zq3]
          refine wpAnyH_ready (rs:=[4]) (by kernel_rfl) (by simp) ?_
          refine zR rfl rfl (fun K hK=>?_) AllReadyH.nil
          ·skip
           refine op_append3 (.tmp 54) (.tmp 57) 42 42 76 rfl I0 z0 2 32 Tryz.underlying42 (.inl ⟨_,Tryz.underlying42⟩) HI.out HZ0.out HZ1.out HZ2.out HZ3.out rfl rfl (Own.none wt11.heap.size wt11 76 (some ⟨ga,0,none⟩) 2) (Row.src (HFR.out.below st11)) (ones_pairs _) (by unfold maxLen;omega) (by omega) (Nat.le_refl _) ?_
           rintro x1 wt12 hx1 hb _
           have st12:=st11.trans (hb.mono st11.size)
           rw [Nat.zero_add,List.nil_append] at hx1
           have lx1:wo.heap.size≤wt11.heap.size:=st11.size
           replace hx1:=Own.lower hx1 lx1
           have hnw:=(hnw.below hb).tight (by decide)
           refine hK.out _ _ st12 ?_
           clear hK K hb lx1
           try simp only [Act.put,zq1,zq2,zq3]
           refine wpAnyH_end [(true,17),(true,21),(false,22)] (by kernel_rfl) st12 ?_
           refine zA rfl rfl fun K hK=>?_
           refine op_append3 (.tmp 58) (.tmp 70) 42 42 76 rfl I0 z0 2 32 Tryz.underlying42 (.inl ⟨_,Tryz.underlying42⟩) HI.out HZ0.out HZ1.out HZ2.out HZ3.out rfl rfl (hx1) (Row.src hnw) (ones_pair _) (by unfold maxLen;omega) (by omega) (st12.size) ?_
           rintro x2 wt13 hx2 hb _
           have st13:=st12.trans hb
           refine hK.out _ _ st13 ?_
           clear hK K hb hx1 hnw
           try simp only [Act.put,zq1,zq2,zq3]
           refine zA rfl rfl fun K hK=>?_
           refine op_append3 (.tmp 71) (.tmp 74) 42 42 76 rfl I0 z0 2 32 Tryz.underlying42 (.inl ⟨_,Tryz.underlying42⟩) HI.out HZ0.out HZ1.out HZ2.out HZ3.out rfl rfl (hx2) (Row.src (HRE.out.below st13)) (ones_pairs _) (by unfold maxLen;omega) (by omega) (st13.size) ?_
           rintro x3 wt14 hx3 hb _
           have st14:=st13.trans hb
           have hX:=PairsO.ins HK.out (by omega) hx3
           refine hK.out _ _ st14 ?_
           clear hK K hb hx2 hx3
           try simp only [Act.put,zq1,zq2,zq3]
           repeat (first | (refine zS rfl rfl ?_;simp only [Act.put,zq1,zq2,zq3]) | (refine zT rfl ?_ rfl (fun w' hw'=>?_) ?_;rotate_left;(go_simp;first | done | with_reducible rfl);(try simp only [Act.put,zq1,zq2,zq3])))
           refine zN ?_
           have HX:=zh (Own.lower hX HB.out.size)
           have HBX:=zh (HB.out.trans (st14.mono HB.out.size))
           clear hX slF slR t0
           go_wp2_with fail
           go_roundw
           case rel=>exact⟨i+1,by omega,by go_num,by rw [HPT.out,HST.out];exact HX.out,HBX.out⟩
           case measure=>simp [intOf];omega
    ·obtain rfl:j=K:=by omega
     obtain rfl:j=pl:=by omega
     have q0:decide ((j:Int)<(j:Int))=false:=by simp
     have hth:=there_end HK.out HPL.out.symm
     have HTH:=zh hth
     clear hth
     go_upto_region 6 with (fail)
     refine zI [(false,0),(false,1),(false,2),(false,3),(false,4),(false,5),(false,6),(false,7),(false,8),(false,9),(false,10),(false,11),(false,12),(false,13),(false,14),(false,15),(false,16)] (fun w'=>Below wo.heap.size wo w') (by kernel_rfl) (by kernel_rfl) s0 ?_
     repeat (first | (refine zS rfl rfl ?_;simp only [Act.put,zq1,zq2,zq3]) | (refine zT rfl ?_ rfl (fun w' hw'=>?_) ?_;rotate_left;(go_simp;first | done | with_reducible rfl);(try simp only [Act.put,zq1,zq2,zq3])))
     refine zN ?_
     generalize wr.drew=w6 at s0 ⊢
     go_upto_region 8 with (fail)
     replace s0:Below wo.heap.size wo w6.drew:=zD s0 1
     refine zI [(false,0),(false,1),(false,2),(false,3),(false,4),(false,5),(false,6),(false,7),(false,8),(false,9),(false,10),(false,11),(false,12),(false,13),(false,14),(false,15),(false,16),(false,17)] (fun w'=>Below wo.heap.size wo w') (by kernel_rfl) (by kernel_rfl) s0 ?_
     repeat (first | (refine zS rfl rfl ?_;simp only [Act.put,zq1,zq2,zq3]) | (refine zT rfl ?_ rfl (fun w' hw'=>?_) ?_;rotate_left;(go_simp;first | done | with_reducible rfl);(try simp only [Act.put,zq1,zq2,zq3])))
     refine zN ?_
     generalize w6.drew=w8 at s0 ⊢
     cases gn with
     | true =>
      have C2:=L2 w8 s0
      have HST:=zh (step_none (v:=val) HRS.out HTH.out)
      have HX:=zh (Own.below HO.out s0 (Nat.le_refl _))
      have HBX:=zh (HB.out.trans (s0.mono HB.out.size))
      go_wp2_with fail
      go_roundw
      case rel=>exact⟨i+1,by omega,by go_num,by rw [HPT.out,HST.out];exact (by unfold PairsO;rw [← HK.out];exact HX.out),HBX.out⟩
      case measure=>simp [intOf];omega
     | false =>
      have C2:=L2 w8 s0
      go_upto_region 9 with (fail)
      clear C2
      obtain⟨I0,z0,hi,hz0,hz1,hz2,hz3⟩:=zero_parts infoz_pair
      have HI:=zh hi
      have HZ0:=zh hz0
      have HZ1:=zh hz1
      have HZ2:=zh hz2
      have HZ3:=zh hz3
      obtain⟨slF,rowF⟩:=run_slice_front (P:=Tryz.prog) Tryz.underlying42 hi HPV.out j (by omega)
      obtain⟨ra,rc,slR,rowR⟩:=run_slice_rest (P:=Tryz.prog) Tryz.underlying42 hi hz1 HPV.out j (by omega)
      rw [flat_take] at rowF
      rw [flat_drop] at rowR
      rw [Nat.sub_self] at slR rowR
      have HFR:=zh rowF
      have HRE:=zh rowR
      have t0:Below wo.heap.size wo w8.drew:=zD s0 1
      clear hi hz0 hz1 hz2 hz3 rowF rowR
      have HST:=zh (step_ins (v:=val) HTH.out HPL.out.symm)
      refine wp_region_start (fun w'=>Below wo.heap.size wo w') (by kernel_rfl) t0 ?_
      refine wpAnyH_part [(false,1),(false,2),(false,3),(false,5),(false,6),(false,7),(false,8),(false,9),(false,10),(false,11),(false,12),(false,13),(false,14),(false,15),(false,18),(false,19),(false,20)] (by kernel_rfl) t0 ?_
      repeat (first | (refine zS rfl rfl ?_;simp only [Act.put,zq1,zq2,zq3]) | (refine zT rfl ?_ rfl (fun w' hw'=>?_) ?_;rotate_left;(go_simp;first | done | with_reducible rfl);(try simp only [Act.put,zq1,zq2,zq3])))
      refine zN ?_
      refine wpAnyH_ready (rs:=[0,16]) (by kernel_rfl) (by simp) ?_
      refine zR rfl rfl (fun K hK=>?_) (zR rfl rfl (fun K hK=>?_) AllReadyH.nil)
      ·skip
       obtain⟨wt1,hw⟩:∃ x,x=w8.drew.alloc (.cells #[] 76):=⟨_,rfl⟩
       obtain⟨ga,hg⟩:∃ g,g=w8.drew.heap.size:=⟨_,rfl⟩
       have hb:Below w8.drew.heap.size w8.drew wt1:=by rw [hw];exact Below.alloc (Below.refl _ _) (Nat.le_refl _) _
       have st1:=t0.trans (hb.mono t0.size)
       refine op_buildSlice 42 0 [] rfl rfl (run_bs0P _) ?_
       rw [← hw,← hg]
       refine hK.out _ _ st1 ?_
       clear hK K hw hg hb
       simp only [Act.put,zq1,zq2,zq3]
       refine wpAnyH_ready (rs:=[4,16]) (by kernel_rfl) (by simp) ?_
       refine zR rfl rfl (fun K hK=>?_) (zR rfl rfl (fun K hK=>?_) AllReadyH.nil)
       ·skip
        refine op_append3 (.tmp 54) (.tmp 57) 42 42 76 rfl I0 z0 2 32 Tryz.underlying42 (.inl ⟨_,Tryz.underlying42⟩) HI.out HZ0.out HZ1.out HZ2.out HZ3.out rfl rfl (Own.none wt1.heap.size wt1 76 (some ⟨ga,0,none⟩) 2) (Row.src (HFR.out.below st1)) (ones_pairs _) (by unfold maxLen;omega) (by omega) (Nat.le_refl _) ?_
        rintro x1 wt2 hx1 hb _
        have st2:=st1.trans (hb.mono st1.size)
        rw [Nat.zero_add,List.nil_append] at hx1
        have lx1:wo.heap.size≤wt1.heap.size:=st1.size
        replace hx1:=Own.lower hx1 lx1
        refine hK.out _ _ st2 ?_
        clear hK K hb lx1
        try simp only [Act.put,zq1,zq2,zq3]
        refine wpAnyH_ready (rs:=[16]) (by kernel_rfl) (by simp) ?_
        refine zR rfl rfl (fun K hK=>?_) AllReadyH.nil
        ·skip
         obtain⟨wt3,hw⟩:∃ x,x=wt2.alloc (.cells #[.string sk,.string sv] 76):=⟨_,rfl⟩
         obtain⟨gb,hg⟩:∃ g,g=wt2.heap.size:=⟨_,rfl⟩
         have hb:Below wt2.heap.size wt2 wt3:=by rw [hw];exact Below.alloc (Below.refl _ _) (Nat.le_refl _) _
         have st3:=st2.trans (hb.mono st2.size)
         have hnw:Row wt3.heap.size wt3 (.slice (some ⟨gb,0,none⟩) 1 1) 2 1 (pairCells ⟨key,val⟩):=by
          rw [hw,hg]
          refine Row.tight (Row.fresh (by simp [pairCells]) (Nat.le_refl _) (by decide) (fun k u hk=>?_)) (by decide)
          simp only [pairCells,str] at hk
          rw [HSK.out,HSV.out];simpa using hk
         have hx1:=Own.below hx1 hb (Nat.le_refl _)
         refine op_buildSlice 42 1 [(0,.tmp 69)] rfl rfl (run_bsP sk sv _) ?_
         rw [← hw,← hg]
         refine hK.out _ _ st3 ?_
         clear hK K hw hg hb
         simp only [Act.put,zq1,zq2,zq3]
         refine wpAnyH_end [(true,17),(true,21),(false,22)] (by kernel_rfl) st3 ?_
         refine zA rfl rfl fun K hK=>?_
         refine op_append3 (.tmp 58) (.tmp 70) 42 42 76 rfl I0 z0 2 32 Tryz.underlying42 (.inl ⟨_,Tryz.underlying42⟩) HI.out HZ0.out HZ1.out HZ2.out HZ3.out rfl rfl (hx1) (Row.src hnw) (ones_pair _) (by unfold maxLen;omega) (by omega) (st3.size) ?_
         rintro x2 wt4 hx2 hb _
         have st4:=st3.trans hb
         refine hK.out _ _ st4 ?_
         clear hK K hb hx1 hnw
         try simp only [Act.put,zq1,zq2,zq3]
         refine zA rfl rfl fun K hK=>?_
         refine op_append3 (.tmp 71) (.tmp 74) 42 42 76 rfl I0 z0 2 32 Tryz.underlying42 (.inl ⟨_,Tryz.underlying42⟩) HI.out HZ0.out HZ1.out HZ2.out HZ3.out rfl rfl (hx2) (Row.src (HRE.out.below st4)) (ones_pairs _) (by unfold maxLen;omega) (by omega) (st4.size) ?_
         rintro x3 wt5 hx3 hb _
         have st5:=st4.trans hb
         have hX:=PairsO.ins HK.out (by omega) (by rw [Nat.sub_self];exact hx3)
         refine hK.out _ _ st5 ?_
         clear hK K hb hx2 hx3
         try simp only [Act.put,zq1,zq2,zq3]
         repeat (first | (refine zS rfl rfl ?_;simp only [Act.put,zq1,zq2,zq3]) | (refine zT rfl ?_ rfl (fun w' hw'=>?_) ?_;rotate_left;(go_simp;first | done | with_reducible rfl);(try simp only [Act.put,zq1,zq2,zq3])))
         refine zN ?_
         have HX:=zh (Own.lower hX HB.out.size)
         have HBX:=zh (HB.out.trans (st5.mono HB.out.size))
         clear hX slF slR t0
         go_wp2_with fail
         go_roundw
         case rel=>exact⟨i+1,by omega,by go_num,by rw [HPT.out,HST.out];exact HX.out,HBX.out⟩
         case measure=>simp [intOf];omega
       ·skip
        obtain⟨wt6,hw⟩:∃ x,x=wt1.alloc (.cells #[.string sk,.string sv] 76):=⟨_,rfl⟩
        obtain⟨gb,hg⟩:∃ g,g=wt1.heap.size:=⟨_,rfl⟩
        have hb:Below wt1.heap.size wt1 wt6:=by rw [hw];exact Below.alloc (Below.refl _ _) (Nat.le_refl _) _
        have st6:=st1.trans (hb.mono st1.size)
        have hnw:Row wt6.heap.size wt6 (.slice (some ⟨gb,0,none⟩) 1 1) 2 1 (pairCells ⟨key,val⟩):=by
         rw [hw,hg]
         refine Row.tight (Row.fresh (by simp [pairCells]) (Nat.le_refl _) (by decide) (fun k u hk=>?_)) (by decide)
         simp only [pairCells,str] at hk
         rw [HSK.out,HSV.out];simpa using hk
        refine op_buildSlice 42 1 [(0,.tmp 69)] rfl rfl (run_bsP sk sv _) ?_
        rw [← hw,← hg]
        refine hK.out _ _ st6 ?_
        clear hK K hw hg hb
        simp only [Act.put,zq1,zq2,zq3]
        refine wpAnyH_ready (rs:=[4]) (by kernel_rfl) (by simp) ?_
        refine zR rfl rfl (fun K hK=>?_) AllReadyH.nil
        ·skip
         refine op_append3 (.tmp 54) (.tmp 57) 42 42 76 rfl I0 z0 2 32 Tryz.underlying42 (.inl ⟨_,Tryz.underlying42⟩) HI.out HZ0.out HZ1.out HZ2.out HZ3.out rfl rfl (Own.none wt6.heap.size wt6 76 (some ⟨ga,0,none⟩) 2) (Row.src (HFR.out.below st6)) (ones_pairs _) (by unfold maxLen;omega) (by omega) (Nat.le_refl _) ?_
         rintro x1 wt7 hx1 hb _
         have st7:=st6.trans (hb.mono st6.size)
         rw [Nat.zero_add,List.nil_append] at hx1
         have lx1:wo.heap.size≤wt6.heap.size:=st6.size
         replace hx1:=Own.lower hx1 lx1
         have hnw:=(hnw.below hb).tight (by decide)
         refine hK.out _ _ st7 ?_
         clear hK K hb lx1
         try simp only [Act.put,zq1,zq2,zq3]
         refine wpAnyH_end [(true,17),(true,21),(false,22)] (by kernel_rfl) st7 ?_
         refine zA rfl rfl fun K hK=>?_
         refine op_append3 (.tmp 58) (.tmp 70) 42 42 76 rfl I0 z0 2 32 Tryz.underlying42 (.inl ⟨_,Tryz.underlying42⟩) HI.out HZ0.out HZ1.out HZ2.out HZ3.out rfl rfl (hx1) (Row.src hnw) (ones_pair _) (by unfold maxLen;omega) (by omega) (st7.size) ?_
         rintro x2 wt8 hx2 hb _
         have st8:=st7.trans hb
         refine hK.out _ _ st8 ?_
         clear hK K hb hx1 hnw
         try simp only [Act.put,zq1,zq2,zq3]
         refine zA rfl rfl fun K hK=>?_
         refine op_append3 (.tmp 71) (.tmp 74) 42 42 76 rfl I0 z0 2 32 Tryz.underlying42 (.inl ⟨_,Tryz.underlying42⟩) HI.out HZ0.out HZ1.out HZ2.out HZ3.out rfl rfl (hx2) (Row.src (HRE.out.below st8)) (ones_pairs _) (by unfold maxLen;omega) (by omega) (st8.size) ?_
         rintro x3 wt9 hx3 hb _
         have st9:=st8.trans hb
         have hX:=PairsO.ins HK.out (by omega) (by rw [Nat.sub_self];exact hx3)
         refine hK.out _ _ st9 ?_
         clear hK K hb hx2 hx3
         try simp only [Act.put,zq1,zq2,zq3]
         repeat (first | (refine zS rfl rfl ?_;simp only [Act.put,zq1,zq2,zq3]) | (refine zT rfl ?_ rfl (fun w' hw'=>?_) ?_;rotate_left;(go_simp;first | done | with_reducible rfl);(try simp only [Act.put,zq1,zq2,zq3])))
         refine zN ?_
         have HX:=zh (Own.lower hX HB.out.size)
         have HBX:=zh (HB.out.trans (st9.mono HB.out.size))
         clear hX slF slR t0
         go_wp2_with fail
         go_roundw
         case rel=>exact⟨i+1,by omega,by go_num,by rw [HPT.out,HST.out];exact HX.out,HBX.out⟩
         case measure=>simp [intOf];omega
      ·skip
       obtain⟨wt10,hw⟩:∃ x,x=w8.drew.alloc (.cells #[.string sk,.string sv] 76):=⟨_,rfl⟩
       obtain⟨gb,hg⟩:∃ g,g=w8.drew.heap.size:=⟨_,rfl⟩
       have hb:Below w8.drew.heap.size w8.drew wt10:=by rw [hw];exact Below.alloc (Below.refl _ _) (Nat.le_refl _) _
       have st10:=t0.trans (hb.mono t0.size)
       have hnw:Row wt10.heap.size wt10 (.slice (some ⟨gb,0,none⟩) 1 1) 2 1 (pairCells ⟨key,val⟩):=by
        rw [hw,hg]
        refine Row.tight (Row.fresh (by simp [pairCells]) (Nat.le_refl _) (by decide) (fun k u hk=>?_)) (by decide)
        simp only [pairCells,str] at hk
        rw [HSK.out,HSV.out];simpa using hk
       refine op_buildSlice 42 1 [(0,.tmp 69)] rfl rfl (run_bsP sk sv _) ?_
       rw [← hw,← hg]
       refine hK.out _ _ st10 ?_
       clear hK K hw hg hb
       simp only [Act.put,zq1,zq2,zq3]
       refine wpAnyH_ready (rs:=[0]) (by kernel_rfl) (by simp) ?_
       refine zR rfl rfl (fun K hK=>?_) AllReadyH.nil
       ·skip
        obtain⟨wt11,hw⟩:∃ x,x=wt10.alloc (.cells #[] 76):=⟨_,rfl⟩
        obtain⟨ga,hg⟩:∃ g,g=wt10.heap.size:=⟨_,rfl⟩
        have hb:Below wt10.heap.size wt10 wt11:=by rw [hw];exact Below.alloc (Below.refl _ _) (Nat.le_refl _) _
        have st11:=st10.trans (hb.mono st10.size)
        have hnw:=(hnw.below hb).tight (by decide)
        refine op_buildSlice 42 0 [] rfl rfl (run_bs0P _) ?_
        rw [← hw,← hg]
        refine hK.out _ _ st11 ?_
        clear hK K hw hg hb
        simp only [Act.put,zq1,zq2,zq3]
        refine wpAnyH_ready (rs:=[4]) (by kernel_rfl) (by simp) ?_
        refine zR rfl rfl (fun K hK=>?_) AllReadyH.nil
        ·skip
         refine op_append3 (.tmp 54) (.tmp 57) 42 42 76 rfl I0 z0 2 32 Tryz.underlying42 (.inl ⟨_,Tryz.underlying42⟩) HI.out HZ0.out HZ1.out HZ2.out HZ3.out rfl rfl (Own.none wt11.heap.size wt11 76 (some ⟨ga,0,none⟩) 2) (Row.src (HFR.out.below st11)) (ones_pairs _) (by unfold maxLen;omega) (by omega) (Nat.le_refl _) ?_
         rintro x1 wt12 hx1 hb _
         have st12:=st11.trans (hb.mono st11.size)
         rw [Nat.zero_add,List.nil_append] at hx1
         have lx1:wo.heap.size≤wt11.heap.size:=st11.size
         replace hx1:=Own.lower hx1 lx1
         have hnw:=(hnw.below hb).tight (by decide)
         refine hK.out _ _ st12 ?_
         clear hK K hb lx1
         try simp only [Act.put,zq1,zq2,zq3]
         refine wpAnyH_end [(true,17),(true,21),(false,22)] (by kernel_rfl) st12 ?_
         refine zA rfl rfl fun K hK=>?_
         refine op_append3 (.tmp 58) (.tmp 70) 42 42 76 rfl I0 z0 2 32 Tryz.underlying42 (.inl ⟨_,Tryz.underlying42⟩) HI.out HZ0.out HZ1.out HZ2.out HZ3.out rfl rfl (hx1) (Row.src hnw) (ones_pair _) (by unfold maxLen;omega) (by omega) (st12.size) ?_
         rintro x2 wt13 hx2 hb _
         have st13:=st12.trans hb
         refine hK.out _ _ st13 ?_
         clear hK K hb hx1 hnw
         try simp only [Act.put,zq1,zq2,zq3]
         refine zA rfl rfl fun K hK=>?_
         refine op_append3 (.tmp 71) (.tmp 74) 42 42 76 rfl I0 z0 2 32 Tryz.underlying42 (.inl ⟨_,Tryz.underlying42⟩) HI.out HZ0.out HZ1.out HZ2.out HZ3.out rfl rfl (hx2) (Row.src (HRE.out.below st13)) (ones_pairs _) (by unfold maxLen;omega) (by omega) (st13.size) ?_
         rintro x3 wt14 hx3 hb _
         have st14:=st13.trans hb
         have hX:=PairsO.ins HK.out (by omega) (by rw [Nat.sub_self];exact hx3)
         refine hK.out _ _ st14 ?_
         clear hK K hb hx2 hx3
         try simp only [Act.put,zq1,zq2,zq3]
         repeat (first | (refine zS rfl rfl ?_;simp only [Act.put,zq1,zq2,zq3]) | (refine zT rfl ?_ rfl (fun w' hw'=>?_) ?_;rotate_left;(go_simp;first | done | with_reducible rfl);(try simp only [Act.put,zq1,zq2,zq3])))
         refine zN ?_
         have HX:=zh (Own.lower hX HB.out.size)
         have HBX:=zh (HB.out.trans (st14.mono HB.out.size))
         clear hX slF slR t0
         go_wp2_with fail
         go_roundw
         case rel=>exact⟨i+1,by omega,by go_num,by rw [HPT.out,HST.out];exact HX.out,HBX.out⟩
         case measure=>simp [intOf];omega
  ·have i0:decide ((i:Int)<(M:Int))=false:=by simp;omega
   obtain rfl:i=M:=by omega
   rw [List.take_of_length_le (by have:=HM.out;omega)] at hP
   have HP2:=zh hP
   have HB2:=zh hb
   clear hP hb
   go_wp2_with fail
   go_ret
   exact⟨_,rfl,HP2.out,HB2.out⟩
end
end Go.Proofs.YtaijompnohkmaaaGreatDoor
