/- Layer 6 (kv): any changes are committed to any store as the document says, or refused: the law's walk. -/
import Derived.Test.YtaijompnohkmaaaGreatDoorCQ
import Derived.Carry
import Derived.ProofKit
import Derived.OpenShut
import Derived.KernelRfl
set_option linter.unusedSimpArgs false
set_option linter.unusedVariables false
namespace Go.Proofs.YtaijompnohkmaaaGreatDoor
section
open Go.RowKit KvP PackP WalP
theorem pack_DS2 {w:World} {D S:Nat} {d0 d:DiskP} {s0 s:StoreP} {a0 a1:Option Addr} {n0 n1:Nat} {sv:Value} (hD:DAt w D d0) (hS:SVAt w S s0) (hne:D≠S) (hd:DiskV w.heap.size w (.agg #[.slice a0 d.secs.length n0,.slice a1 d.loose.length n1,.int .i64 d.fuse,.bool d.down]) d) (hs:StoreV w.heap.size w sv s) :
  ∃ wa wb,(storeVar 38 ⟨D,0,none⟩ (.agg #[.slice a0 d.secs.length n0,.slice a1 d.loose.length n1,.int .i64 d.fuse,.bool d.down])).run Tryz.prog w = .ok () wa∧(storeVar 44 ⟨S,0,none⟩ sv).run Tryz.prog wa = .ok () wb ∧
   Hid (DAt wb D d∧SVAt wb S s∧(∀ B w0,Below B w0 w→B≤D→Below B w0 wa)∧(∀ B w0,Below B w0 w→B≤D→B≤S→Below B w0 wb)):=by
 obtain⟨pv,rfl,hp⟩:=hs
 obtain⟨pa,pc,rfl,hpc⟩:=pairs_len hp
 obtain⟨x0,y0,x1,y1,TD,_⟩:=id hD
 obtain⟨sa,sc,TS,_⟩:=id hS
 obtain⟨wa,r1,r2,r3,r4,r5,_⟩:=storeBig info_disk TD rfl #[.slice a0 d.secs.length n0,.slice a1 d.loose.length n1,.int .i64 d.fuse,.bool d.down] rfl (ones4 rfl rfl rfl rfl)
 have hE2:=(r5 S (Ne.symm hne)).trans TS
 obtain⟨wb,t1,t2,t3,t4,t5,_⟩:=storeBig info_store hE2 rfl #[.int .i64 s.log.half,.int .i64 s.log.gen,.int .i64 s.log.used,.int .i64 s.log.count,.slice pa s.pairs.length pc] rfl (ones5 rfl rfl rfl rfl rfl)
 have hk:∀ k,k≠D→k≠S→wb.heap[k]?=w.heap[k]?:=fun k h1 h2=>(t5 k h2).trans (r5 k h1)
 have hd1:=hd.kept TD (by simp) r5
 have hd2:=hd1.kept hE2 (by simp) t5
 refine⟨wa,wb,r1,t1,zh ⟨⟨a0,n0,a1,n1,(t5 D hne).trans r2,by rw [t4,r4];exact hd2⟩,⟨pa,pc,t2,PairsV.keptC hp TD TS no_str4 no_str5 hk⟩,fun B w0 hb h1=>hb.trans (r3.mono h1),fun B w0 hb h1 h2=>(hb.trans (r3.mono h1)).trans (t3.mono h2)⟩⟩
def StepMid (wr:World) (r:DiskP×StoreP×Int) (s7 s8 s9:Value) (wx:World):Prop :=
 ∃ GA GS,s7 = .pointer (some ⟨GA,0,none⟩)∧s8 = .pointer (some ⟨GS,0,none⟩)∧s9 = .int .i64 r.2.2∧DAt wx GA r.1∧SVAt wx GS r.2.1∧Below wr.heap.size wr wx
set_option maxRecDepth 100000 in
set_option maxHeartbeats 8000000 in
theorem KvCommits_walk {p1 p2:Option Addr} {q1 q2:Nat} (d:DiskP) (s:StoreP) (c:List ChangeP) (pv cv:Value) (w:World) (ht:TabAt w) (hT:1<w.heap.size)
  (hd:DiskV w.heap.size w (.agg #[.slice p1 d.secs.length q1,.slice p2 d.loose.length q2,.int .i64 d.fuse,.bool d.down]) d) (hp:PairsV w.heap.size w pv s.pairs) (hc:ChangesV w.heap.size w cv c) (hl0:-9223372036854775808≤s.log.half∧s.log.half≤9223372036854775807) :
  Calls Tryz.prog 5 #[.agg #[.slice p1 d.secs.length q1,.slice p2 d.loose.length q2,.int .i64 d.fuse,.bool d.down],.agg #[.int .i64 s.log.half,.int .i64 s.log.gen,.int .i64 s.log.used,.int .i64 s.log.count,pv],cv] w fun e w'=>e = .returned (.bool true)∧Below w.heap.size w w':=by
 obtain⟨pa,pc,rfl,_⟩:=pairs_len hp
 obtain⟨_,ca,cc,rfl,_,_,_⟩:=id hc
 obtain⟨n,hn⟩:∃ n,n=s.pairs.length:=⟨_,rfl⟩
 obtain⟨m,hm⟩:∃ n,n=c.length:=⟨_,rfl⟩
 rw [← hn] at hp ⊢
 rw [← hm] at hc ⊢
 obtain⟨w1,hw1⟩:∃ w1,w1=(w.alloc (.cells #[.slice p1 d.secs.length q1,.slice p2 d.loose.length q2,.int .i64 d.fuse,.bool d.down] 38)).alloc (.cells #[.int .i64 s.log.half,.int .i64 s.log.gen,.int .i64 s.log.used,.int .i64 s.log.count,.slice pa n pc] 44):=⟨_,rfl⟩
 have hb1:Below w.heap.size w w1:=by rw [hw1];exact Below.alloc (Below.alloc (Below.refl _ _) (Nat.le_refl _) _) (by simp) _
 have RX:w1.heap[w.heap.size]?=some (.cells #[.slice p1 d.secs.length q1,.slice p2 d.loose.length q2,.int .i64 d.fuse,.bool d.down] 38 (0,0)):=by rw [hw1];exact heap_alloc2_old w _ _
 have RS:w1.heap[w.heap.size+1]?=some (.cells #[.int .i64 s.log.half,.int .i64 s.log.gen,.int .i64 s.log.used,.int .i64 s.log.count,.slice pa n pc] 44 (0,0)):=by rw [hw1];exact heap_alloc2_new w _ _
 obtain⟨DX,hDX⟩:∃ g,g=w.heap.size:=⟨_,rfl⟩
 rw [← hDX] at RX RS
 have ka:=kvAlive_any w1 (ht.below hb1 hT) (Nat.lt_of_lt_of_le hT hb1.size)
 have HX1:=zh (show DAt w1 DX d from ⟨p1,q1,p2,q2,RX,(hd.below hb1).tight⟩)
 have HS1:=zh (show SVAt w1 (DX+1) s from ⟨pa,pc,by rw [← hn];exact RS,by rw [← hn];exact (hp.below hb1).tight⟩)
 have HW1:=zh hw1
 have HGX:=zh hDX
 have HT:=zh ht
 have HB1:=zh hb1
 have HC:=zh hc
 have HN:=zh hn
 have HM:=zh hm
 clear hw1 hDX ht hd hb1 RX RS hp hc hm hn
 go_enter Tryz.func5,Tryz.ntmps5
 go_upto_region 1 with (fail)
 rw [← HW1.out,← HGX.out]
 go_wp2_with fail
 refine ka.mono ?_
 rintro e w2 ⟨rfl,hb2⟩
 clear ka
 have HX2:=zh (HX1.out.below hb2)
 have HS2:=zh (HS1.out.below hb2)
 have HB2:=zh (HB1.out.trans (hb2.mono HB1.out.size))
 clear hb2
 obtain⟨xa,xn,xb,xm,TX,hvX⟩:=id HX2.out
 have C0:=cR w2 _ 0 _ _ _ TX
 have C1:=cR w2 _ 1 _ _ _ TX
 have C2:=cR w2 _ 2 _ _ _ TX
 have C3:=cR w2 _ 3 _ _ _ TX
 obtain⟨ya,yc,TS,hpS⟩:=id HS2.out
 rw [← HN.out] at TS hpS
 have F4:=cR w2 _ 4 _ _ _ TS
 clear TX hvX TS
 by_cases h1:200<d.secs.length
 ·have k0:decide ((200:Int)<(d.secs.length:Int))=true:=by simp;omega
  go_wp2_with fail
  go_ret
  exact⟨rfl,HB2.out⟩
 have k0:decide ((200:Int)<(d.secs.length:Int))=false:=by simp;omega
 by_cases h2:120<d.loose.length
 ·have k1:decide ((120:Int)<(d.loose.length:Int))=true:=by simp;omega
  go_wp2_with fail
  go_ret
  exact⟨rfl,HB2.out⟩
 have k1:decide ((120:Int)<(d.loose.length:Int))=false:=by simp;omega
 have kg:=kvGreat_any _ _ s.pairs c w2 hpS (HC.out.below HB2.out)
 clear hpS
 go_wp2_with fail
 refine kg.mono ?_
 rintro e w3 ⟨⟨gr,rfl⟩,hb3⟩
 clear kg C0 C1 C2 C3 F4 k0 k1
 have HX3:=zh (HX2.out.below hb3)
 have HS3:=zh (HS2.out.below hb3)
 have HB3:=zh (HB2.out.trans (hb3.mono HB2.out.size))
 clear hb3
 cases gr with
 | true =>
  go_wp2_with fail
  go_ret
  exact⟨rfl,HB3.out⟩
 | false =>
 obtain⟨wr,hwr⟩:∃ x,x=w3:=⟨_,rfl⟩
 subst hwr
 obtain⟨r,hr⟩:∃ r,r=commitK d s c:=⟨_,rfl⟩
 have HR:=zh hr
 have HT3:=zh (HT.out.below HB3.out hT)
 have hT3:1<wr.heap.size:=Nat.lt_of_lt_of_le hT HB3.out.size
 have HLEN:=zh (And.intro h1 h2)
 have HL0:=zh hl0
 have HCV:=zh (HC.out.below HB3.out).tight
 clear hr h1 h2 hl0
 go_upto_region 5 with (fail)
 go_cut [7,8,9] from 31 to 31 (fun s7 s8 s9 wx=>StepMid wr r s7 s8 s9 wx)
 case first =>
  obtain⟨xa,xn,xb,xm,TX,hvX⟩:=id HX3.out
  obtain⟨ya,yc,TS,hpS⟩:=id HS3.out
  have s0':Below wr.heap.size wr wr.drew:=zD (Below.refl _ _) 1
  have L0:=fun w' (h:Below wr.heap.size wr w')=>cR w' _ 0 _ _ _ ((h.block _ (zB TX)).trans TX)
  have L1:=fun w' (h:Below wr.heap.size wr w')=>cR w' _ 1 _ _ _ ((h.block _ (zB TX)).trans TX)
  have L2:=fun w' (h:Below wr.heap.size wr w')=>cR w' _ 2 _ _ _ ((h.block _ (zB TX)).trans TX)
  have L3:=fun w' (h:Below wr.heap.size wr w')=>cR w' _ 3 _ _ _ ((h.block _ (zB TX)).trans TX)
  have N0:=fun w' (h:Below wr.heap.size wr w')=>cR w' _ 0 _ _ _ ((h.block _ (zB TS)).trans TS)
  have N1:=fun w' (h:Below wr.heap.size wr w')=>cR w' _ 1 _ _ _ ((h.block _ (zB TS)).trans TS)
  have N2:=fun w' (h:Below wr.heap.size wr w')=>cR w' _ 2 _ _ _ ((h.block _ (zB TS)).trans TS)
  have N3:=fun w' (h:Below wr.heap.size wr w')=>cR w' _ 3 _ _ _ ((h.block _ (zB TS)).trans TS)
  have N4:=fun w' (h:Below wr.heap.size wr w')=>cR w' _ 4 _ _ _ ((h.block _ (zB TS)).trans TS)
  have HVX:=zh hvX
  have HSV:=zh (show StoreV wr.heap.size wr (storeV s.log (.slice ya s.pairs.length yc)) s from ⟨_,rfl,hpS⟩)
  clear TX TS hvX hpS
  refine wp_region_start (fun w'=>Below wr.heap.size wr w') (by kernel_rfl) s0' ?_
  refine wpAnyH_part [(false,0),(false,2),(false,3)] (by kernel_rfl) s0' ?_
  repeat (first | (refine zS rfl rfl ?_;simp only [Act.put,zq1,zq2,zq3]) | (refine zT rfl ?_ rfl (fun w' hw'=>?_) ?_;rotate_left;(go_simp;first | done | with_reducible rfl);(try simp only [Act.put,zq1,zq2,zq3])))
  refine zN ?_
  refine wpAnyH_ready (rs:=[1,9,10]) (by kernel_rfl) (by simp) ?_
  refine zR rfl rfl (fun K hK=>?_) (zR rfl rfl (fun K hK=>?_) (zR rfl rfl (fun K hK=>?_) AllReadyH.nil))
  ·skip
   have kc:=copy_any _ d wr.drew (HVX.out.below s0') ⟨by have:=HLEN.out.1;omega,by have:=HLEN.out.2;omega⟩
   go_simp
   refine kc.mono ?_
   rintro e wt1 ⟨⟨sv,lv,rfl,C,_,_,ho,_,hlo⟩,hb⟩
   obtain⟨p0,q0,rfl⟩:=ho.form
   obtain⟨r0,s0,rfl⟩:=hlo.form
   have dn:DiskV wt1.heap.size wt1 (.agg #[.slice p0 d.secs.length q0,.slice r0 d.loose.length s0,.int .i64 d.fuse,.bool d.down]) d:=⟨_,_,rfl,ho.secs,hlo.loose⟩
   have st1:=s0'.trans (hb.mono s0'.size)
   clear kc ho hlo
   refine hK.out _ _ st1 ?_
   clear hK K hb
   try simp only [Act.put,zq1,zq2,zq3]
   refine wpAnyH_ready (rs:=[4,9,10]) (by kernel_rfl) (by simp) ?_
   refine zR rfl rfl (fun K hK=>?_) (zR rfl rfl (fun K hK=>?_) (zR rfl rfl (fun K hK=>?_) AllReadyH.nil))
   ·skip
    have kc:=kcommit_any _ _ _ d s c wt1 dn (HSV.out.below st1) (HCV.out.below st1) HL0.out (HT3.out.below st1 hT3) (Nat.lt_of_lt_of_le hT3 st1.size)
    rw [← HR.out] at kc
    unfold KE storeV at kc
    go_simp
    refine kc.mono ?_
    rintro e wt2 ⟨⟨vr,sr,rfl,hdr,hsr⟩,hb⟩
    clear kc
    obtain⟨r1,r2,r3,r4,rfl,_,_⟩:=hdr.parts
    have st2:=st1.trans (hb.mono st1.size)
    clear dn
    refine hK.out _ _ st2 ?_
    clear hK K hb
    refine wpAnyH_part [(false,5),(false,6),(false,7),(false,8)] (by kernel_rfl) st2 ?_
    repeat (first | (refine zS rfl rfl ?_;simp only [Act.put,zq1,zq2,zq3]) | (refine zT rfl ?_ rfl (fun w' hw'=>?_) ?_;rotate_left;(go_simp;first | done | with_reducible rfl);(try simp only [Act.put,zq1,zq2,zq3])))
    refine zN ?_
    refine wpAnyH_ready (rs:=[9,10]) (by kernel_rfl) (by simp) ?_
    refine zR rfl rfl (fun K hK=>?_) (zR rfl rfl (fun K hK=>?_) AllReadyH.nil)
    ·skip
     obtain⟨wt3,GA,hw,hg,hA,hb,hlt,hle⟩:=fresh_disk wt2
     have st3:=st2.trans (hb.mono st2.size)
     have lGA:wr.heap.size≤GA:=Nat.le_trans st2.size hle
     have hdr:=(hdr.below hb).tight
     have hsr:=(hsr.below hb).tight
     refine op_alloc 38 rfl (zero_disk _) hw.out ?_
     rw [← hg.out]
     refine hK.out _ _ st3 ?_
     clear hK K hw hg hb hlt hle
     simp only [Act.put,zq1,zq2,zq3]
     refine wpAnyH_ready (rs:=[10]) (by kernel_rfl) (by simp) ?_
     refine zR rfl rfl (fun K hK=>?_) AllReadyH.nil
     ·skip
      obtain⟨wt4,GS,hw,hg,hS,hb,hlt,hle⟩:=fresh_store wt3
      have st4:=st3.trans (hb.mono st3.size)
      have lGS:wr.heap.size≤GS:=Nat.le_trans st3.size hle
      have hne:GA≠GS:=by have:=hA.lt;omega
      have hdr:=(hdr.below hb).tight
      have hsr:=(hsr.below hb).tight
      have hA:=hA.below hb
      refine op_alloc 44 rfl (zero_store _) hw.out ?_
      rw [← hg.out]
      refine hK.out _ _ st4 ?_
      clear hK K hw hg hb hlt hle
      simp only [Act.put,zq1,zq2,zq3]
      obtain⟨wx,wy,st1,st2,HX⟩:=pack_DS2 hA hS hne hdr hsr
      have sx:=HX.out.2.2.1 wr.heap.size wr st4 lGA
      have sy:=HX.out.2.2.2 wr.heap.size wr st4 lGA lGS
      have HMID:=zh (show StepMid wr r (.pointer (some ⟨GA,0,none⟩)) (.pointer (some ⟨GS,0,none⟩)) (.int .i64 r.2.2) wy from ⟨GA,GS,rfl,rfl,rfl,HX.out.1,HX.out.2.1,sy⟩)
      refine wpAnyH_end [(true,11),(true,12),(false,13)] (by kernel_rfl) st4 ?_
      refine zA rfl rfl fun K hK=>?_
      refine op_store (.tmp 7) (.tmp 37) 38 rfl rfl rfl st1 ?_
      refine hK.out _ _ sx ?_
      clear hK K st1
      simp only [Act.put,zq1,zq2,zq3]
      refine zA rfl rfl fun K hK=>?_
      refine op_store (.tmp 8) (.tmp 38) 44 rfl rfl rfl st2 ?_
      refine hK.out _ _ sy ?_
      clear hK K st2
      simp only [Act.put,zq1,zq2,zq3]
      repeat (first | (refine zS rfl rfl ?_;simp only [Act.put,zq1,zq2,zq3]) | (refine zT rfl ?_ rfl (fun w' hw'=>?_) ?_;rotate_left;(go_simp;first | done | with_reducible rfl);(try simp only [Act.put,zq1,zq2,zq3])))
      refine zN ?_
      clear HX hA hS hdr hsr sx sy L0 L1 L2 L3 N0 N1 N2 N3 N4
      go_wp2_with fail
      go_meet
      case rel=>exact HMID.out
    ·skip
     obtain⟨wt5,GS,hw,hg,hS,hb,hlt,hle⟩:=fresh_store wt2
     have st5:=st2.trans (hb.mono st2.size)
     have lGS:wr.heap.size≤GS:=Nat.le_trans st2.size hle
     have hdr:=(hdr.below hb).tight
     have hsr:=(hsr.below hb).tight
     refine op_alloc 44 rfl (zero_store _) hw.out ?_
     rw [← hg.out]
     refine hK.out _ _ st5 ?_
     clear hK K hw hg hb hlt hle
     simp only [Act.put,zq1,zq2,zq3]
     refine wpAnyH_ready (rs:=[9]) (by kernel_rfl) (by simp) ?_
     refine zR rfl rfl (fun K hK=>?_) AllReadyH.nil
     ·skip
      obtain⟨wt6,GA,hw,hg,hA,hb,hlt,hle⟩:=fresh_disk wt5
      have st6:=st5.trans (hb.mono st5.size)
      have lGA:wr.heap.size≤GA:=Nat.le_trans st5.size hle
      have hne:GA≠GS:=by have:=hS.lt;omega
      have hdr:=(hdr.below hb).tight
      have hsr:=(hsr.below hb).tight
      have hS:=hS.below hb
      refine op_alloc 38 rfl (zero_disk _) hw.out ?_
      rw [← hg.out]
      refine hK.out _ _ st6 ?_
      clear hK K hw hg hb hlt hle
      simp only [Act.put,zq1,zq2,zq3]
      obtain⟨wx,wy,st1,st2,HX⟩:=pack_DS2 hA hS hne hdr hsr
      have sx:=HX.out.2.2.1 wr.heap.size wr st6 lGA
      have sy:=HX.out.2.2.2 wr.heap.size wr st6 lGA lGS
      have HMID:=zh (show StepMid wr r (.pointer (some ⟨GA,0,none⟩)) (.pointer (some ⟨GS,0,none⟩)) (.int .i64 r.2.2) wy from ⟨GA,GS,rfl,rfl,rfl,HX.out.1,HX.out.2.1,sy⟩)
      refine wpAnyH_end [(true,11),(true,12),(false,13)] (by kernel_rfl) st6 ?_
      refine zA rfl rfl fun K hK=>?_
      refine op_store (.tmp 7) (.tmp 37) 38 rfl rfl rfl st1 ?_
      refine hK.out _ _ sx ?_
      clear hK K st1
      simp only [Act.put,zq1,zq2,zq3]
      refine zA rfl rfl fun K hK=>?_
      refine op_store (.tmp 8) (.tmp 38) 44 rfl rfl rfl st2 ?_
      refine hK.out _ _ sy ?_
      clear hK K st2
      simp only [Act.put,zq1,zq2,zq3]
      repeat (first | (refine zS rfl rfl ?_;simp only [Act.put,zq1,zq2,zq3]) | (refine zT rfl ?_ rfl (fun w' hw'=>?_) ?_;rotate_left;(go_simp;first | done | with_reducible rfl);(try simp only [Act.put,zq1,zq2,zq3])))
      refine zN ?_
      clear HX hA hS hdr hsr sx sy L0 L1 L2 L3 N0 N1 N2 N3 N4
      go_wp2_with fail
      go_meet
      case rel=>exact HMID.out
   ·skip
    obtain⟨wt7,GA,hw,hg,hA,hb,hlt,hle⟩:=fresh_disk wt1
    have st7:=st1.trans (hb.mono st1.size)
    have lGA:wr.heap.size≤GA:=Nat.le_trans st1.size hle
    have dn:=(dn.below hb).tight
    refine op_alloc 38 rfl (zero_disk _) hw.out ?_
    rw [← hg.out]
    refine hK.out _ _ st7 ?_
    clear hK K hw hg hb hlt hle
    simp only [Act.put,zq1,zq2,zq3]
    refine wpAnyH_ready (rs:=[4,10]) (by kernel_rfl) (by simp) ?_
    refine zR rfl rfl (fun K hK=>?_) (zR rfl rfl (fun K hK=>?_) AllReadyH.nil)
    ·skip
     have kc:=kcommit_any _ _ _ d s c wt7 dn (HSV.out.below st7) (HCV.out.below st7) HL0.out (HT3.out.below st7 hT3) (Nat.lt_of_lt_of_le hT3 st7.size)
     rw [← HR.out] at kc
     unfold KE storeV at kc
     go_simp
     refine kc.mono ?_
     rintro e wt8 ⟨⟨vr,sr,rfl,hdr,hsr⟩,hb⟩
     clear kc
     obtain⟨r1,r2,r3,r4,rfl,_,_⟩:=hdr.parts
     have st8:=st7.trans (hb.mono st7.size)
     clear dn
     have hA:=hA.below hb
     refine hK.out _ _ st8 ?_
     clear hK K hb
     refine wpAnyH_part [(false,5),(false,6),(false,7),(false,8)] (by kernel_rfl) st8 ?_
     repeat (first | (refine zS rfl rfl ?_;simp only [Act.put,zq1,zq2,zq3]) | (refine zT rfl ?_ rfl (fun w' hw'=>?_) ?_;rotate_left;(go_simp;first | done | with_reducible rfl);(try simp only [Act.put,zq1,zq2,zq3])))
     refine zN ?_
     refine wpAnyH_ready (rs:=[10]) (by kernel_rfl) (by simp) ?_
     refine zR rfl rfl (fun K hK=>?_) AllReadyH.nil
     ·skip
      obtain⟨wt9,GS,hw,hg,hS,hb,hlt,hle⟩:=fresh_store wt8
      have st9:=st8.trans (hb.mono st8.size)
      have lGS:wr.heap.size≤GS:=Nat.le_trans st8.size hle
      have hne:GA≠GS:=by have:=hA.lt;omega
      have hA:=hA.below hb
      have hdr:=(hdr.below hb).tight
      have hsr:=(hsr.below hb).tight
      refine op_alloc 44 rfl (zero_store _) hw.out ?_
      rw [← hg.out]
      refine hK.out _ _ st9 ?_
      clear hK K hw hg hb hlt hle
      simp only [Act.put,zq1,zq2,zq3]
      obtain⟨wx,wy,st1,st2,HX⟩:=pack_DS2 hA hS hne hdr hsr
      have sx:=HX.out.2.2.1 wr.heap.size wr st9 lGA
      have sy:=HX.out.2.2.2 wr.heap.size wr st9 lGA lGS
      have HMID:=zh (show StepMid wr r (.pointer (some ⟨GA,0,none⟩)) (.pointer (some ⟨GS,0,none⟩)) (.int .i64 r.2.2) wy from ⟨GA,GS,rfl,rfl,rfl,HX.out.1,HX.out.2.1,sy⟩)
      refine wpAnyH_end [(true,11),(true,12),(false,13)] (by kernel_rfl) st9 ?_
      refine zA rfl rfl fun K hK=>?_
      refine op_store (.tmp 7) (.tmp 37) 38 rfl rfl rfl st1 ?_
      refine hK.out _ _ sx ?_
      clear hK K st1
      simp only [Act.put,zq1,zq2,zq3]
      refine zA rfl rfl fun K hK=>?_
      refine op_store (.tmp 8) (.tmp 38) 44 rfl rfl rfl st2 ?_
      refine hK.out _ _ sy ?_
      clear hK K st2
      simp only [Act.put,zq1,zq2,zq3]
      repeat (first | (refine zS rfl rfl ?_;simp only [Act.put,zq1,zq2,zq3]) | (refine zT rfl ?_ rfl (fun w' hw'=>?_) ?_;rotate_left;(go_simp;first | done | with_reducible rfl);(try simp only [Act.put,zq1,zq2,zq3])))
      refine zN ?_
      clear HX hA hS hdr hsr sx sy L0 L1 L2 L3 N0 N1 N2 N3 N4
      go_wp2_with fail
      go_meet
      case rel=>exact HMID.out
    ·skip
     obtain⟨wt10,GS,hw,hg,hS,hb,hlt,hle⟩:=fresh_store wt7
     have st10:=st7.trans (hb.mono st7.size)
     have lGS:wr.heap.size≤GS:=Nat.le_trans st7.size hle
     have hne:GA≠GS:=by have:=hA.lt;omega
     have dn:=(dn.below hb).tight
     have hA:=hA.below hb
     refine op_alloc 44 rfl (zero_store _) hw.out ?_
     rw [← hg.out]
     refine hK.out _ _ st10 ?_
     clear hK K hw hg hb hlt hle
     simp only [Act.put,zq1,zq2,zq3]
     refine wpAnyH_ready (rs:=[4]) (by kernel_rfl) (by simp) ?_
     refine zR rfl rfl (fun K hK=>?_) AllReadyH.nil
     ·skip
      have kc:=kcommit_any _ _ _ d s c wt10 dn (HSV.out.below st10) (HCV.out.below st10) HL0.out (HT3.out.below st10 hT3) (Nat.lt_of_lt_of_le hT3 st10.size)
      rw [← HR.out] at kc
      unfold KE storeV at kc
      go_simp
      refine kc.mono ?_
      rintro e wt11 ⟨⟨vr,sr,rfl,hdr,hsr⟩,hb⟩
      clear kc
      obtain⟨r1,r2,r3,r4,rfl,_,_⟩:=hdr.parts
      have st11:=st10.trans (hb.mono st10.size)
      clear dn
      have hA:=hA.below hb
      have hS:=hS.below hb
      refine hK.out _ _ st11 ?_
      clear hK K hb
      refine wpAnyH_part [(false,5),(false,6),(false,7),(false,8)] (by kernel_rfl) st11 ?_
      repeat (first | (refine zS rfl rfl ?_;simp only [Act.put,zq1,zq2,zq3]) | (refine zT rfl ?_ rfl (fun w' hw'=>?_) ?_;rotate_left;(go_simp;first | done | with_reducible rfl);(try simp only [Act.put,zq1,zq2,zq3])))
      refine zN ?_
      obtain⟨wx,wy,st1,st2,HX⟩:=pack_DS2 hA hS hne hdr hsr
      have sx:=HX.out.2.2.1 wr.heap.size wr st11 lGA
      have sy:=HX.out.2.2.2 wr.heap.size wr st11 lGA lGS
      have HMID:=zh (show StepMid wr r (.pointer (some ⟨GA,0,none⟩)) (.pointer (some ⟨GS,0,none⟩)) (.int .i64 r.2.2) wy from ⟨GA,GS,rfl,rfl,rfl,HX.out.1,HX.out.2.1,sy⟩)
      refine wpAnyH_end [(true,11),(true,12),(false,13)] (by kernel_rfl) st11 ?_
      refine zA rfl rfl fun K hK=>?_
      refine op_store (.tmp 7) (.tmp 37) 38 rfl rfl rfl st1 ?_
      refine hK.out _ _ sx ?_
      clear hK K st1
      simp only [Act.put,zq1,zq2,zq3]
      refine zA rfl rfl fun K hK=>?_
      refine op_store (.tmp 8) (.tmp 38) 44 rfl rfl rfl st2 ?_
      refine hK.out _ _ sy ?_
      clear hK K st2
      simp only [Act.put,zq1,zq2,zq3]
      repeat (first | (refine zS rfl rfl ?_;simp only [Act.put,zq1,zq2,zq3]) | (refine zT rfl ?_ rfl (fun w' hw'=>?_) ?_;rotate_left;(go_simp;first | done | with_reducible rfl);(try simp only [Act.put,zq1,zq2,zq3])))
      refine zN ?_
      clear HX hA hS hdr hsr sx sy L0 L1 L2 L3 N0 N1 N2 N3 N4
      go_wp2_with fail
      go_meet
      case rel=>exact HMID.out
   ·skip
    obtain⟨wt12,GS,hw,hg,hS,hb,hlt,hle⟩:=fresh_store wt1
    have st12:=st1.trans (hb.mono st1.size)
    have lGS:wr.heap.size≤GS:=Nat.le_trans st1.size hle
    have dn:=(dn.below hb).tight
    refine op_alloc 44 rfl (zero_store _) hw.out ?_
    rw [← hg.out]
    refine hK.out _ _ st12 ?_
    clear hK K hw hg hb hlt hle
    simp only [Act.put,zq1,zq2,zq3]
    refine wpAnyH_ready (rs:=[4,9]) (by kernel_rfl) (by simp) ?_
    refine zR rfl rfl (fun K hK=>?_) (zR rfl rfl (fun K hK=>?_) AllReadyH.nil)
    ·skip
     have kc:=kcommit_any _ _ _ d s c wt12 dn (HSV.out.below st12) (HCV.out.below st12) HL0.out (HT3.out.below st12 hT3) (Nat.lt_of_lt_of_le hT3 st12.size)
     rw [← HR.out] at kc
     unfold KE storeV at kc
     go_simp
     refine kc.mono ?_
     rintro e wt13 ⟨⟨vr,sr,rfl,hdr,hsr⟩,hb⟩
     clear kc
     obtain⟨r1,r2,r3,r4,rfl,_,_⟩:=hdr.parts
     have st13:=st12.trans (hb.mono st12.size)
     clear dn
     have hS:=hS.below hb
     refine hK.out _ _ st13 ?_
     clear hK K hb
     refine wpAnyH_part [(false,5),(false,6),(false,7),(false,8)] (by kernel_rfl) st13 ?_
     repeat (first | (refine zS rfl rfl ?_;simp only [Act.put,zq1,zq2,zq3]) | (refine zT rfl ?_ rfl (fun w' hw'=>?_) ?_;rotate_left;(go_simp;first | done | with_reducible rfl);(try simp only [Act.put,zq1,zq2,zq3])))
     refine zN ?_
     refine wpAnyH_ready (rs:=[9]) (by kernel_rfl) (by simp) ?_
     refine zR rfl rfl (fun K hK=>?_) AllReadyH.nil
     ·skip
      obtain⟨wt14,GA,hw,hg,hA,hb,hlt,hle⟩:=fresh_disk wt13
      have st14:=st13.trans (hb.mono st13.size)
      have lGA:wr.heap.size≤GA:=Nat.le_trans st13.size hle
      have hne:GA≠GS:=by have:=hS.lt;omega
      have hS:=hS.below hb
      have hdr:=(hdr.below hb).tight
      have hsr:=(hsr.below hb).tight
      refine op_alloc 38 rfl (zero_disk _) hw.out ?_
      rw [← hg.out]
      refine hK.out _ _ st14 ?_
      clear hK K hw hg hb hlt hle
      simp only [Act.put,zq1,zq2,zq3]
      obtain⟨wx,wy,st1,st2,HX⟩:=pack_DS2 hA hS hne hdr hsr
      have sx:=HX.out.2.2.1 wr.heap.size wr st14 lGA
      have sy:=HX.out.2.2.2 wr.heap.size wr st14 lGA lGS
      have HMID:=zh (show StepMid wr r (.pointer (some ⟨GA,0,none⟩)) (.pointer (some ⟨GS,0,none⟩)) (.int .i64 r.2.2) wy from ⟨GA,GS,rfl,rfl,rfl,HX.out.1,HX.out.2.1,sy⟩)
      refine wpAnyH_end [(true,11),(true,12),(false,13)] (by kernel_rfl) st14 ?_
      refine zA rfl rfl fun K hK=>?_
      refine op_store (.tmp 7) (.tmp 37) 38 rfl rfl rfl st1 ?_
      refine hK.out _ _ sx ?_
      clear hK K st1
      simp only [Act.put,zq1,zq2,zq3]
      refine zA rfl rfl fun K hK=>?_
      refine op_store (.tmp 8) (.tmp 38) 44 rfl rfl rfl st2 ?_
      refine hK.out _ _ sy ?_
      clear hK K st2
      simp only [Act.put,zq1,zq2,zq3]
      repeat (first | (refine zS rfl rfl ?_;simp only [Act.put,zq1,zq2,zq3]) | (refine zT rfl ?_ rfl (fun w' hw'=>?_) ?_;rotate_left;(go_simp;first | done | with_reducible rfl);(try simp only [Act.put,zq1,zq2,zq3])))
      refine zN ?_
      clear HX hA hS hdr hsr sx sy L0 L1 L2 L3 N0 N1 N2 N3 N4
      go_wp2_with fail
      go_meet
      case rel=>exact HMID.out
    ·skip
     obtain⟨wt15,GA,hw,hg,hA,hb,hlt,hle⟩:=fresh_disk wt12
     have st15:=st12.trans (hb.mono st12.size)
     have lGA:wr.heap.size≤GA:=Nat.le_trans st12.size hle
     have hne:GA≠GS:=by have:=hS.lt;omega
     have dn:=(dn.below hb).tight
     have hS:=hS.below hb
     refine op_alloc 38 rfl (zero_disk _) hw.out ?_
     rw [← hg.out]
     refine hK.out _ _ st15 ?_
     clear hK K hw hg hb hlt hle
     simp only [Act.put,zq1,zq2,zq3]
     refine wpAnyH_ready (rs:=[4]) (by kernel_rfl) (by simp) ?_
     refine zR rfl rfl (fun K hK=>?_) AllReadyH.nil
     ·skip
      have kc:=kcommit_any _ _ _ d s c wt15 dn (HSV.out.below st15) (HCV.out.below st15) HL0.out (HT3.out.below st15 hT3) (Nat.lt_of_lt_of_le hT3 st15.size)
      rw [← HR.out] at kc
      unfold KE storeV at kc
      go_simp
      refine kc.mono ?_
      rintro e wt16 ⟨⟨vr,sr,rfl,hdr,hsr⟩,hb⟩
      clear kc
      obtain⟨r1,r2,r3,r4,rfl,_,_⟩:=hdr.parts
      have st16:=st15.trans (hb.mono st15.size)
      clear dn
      have hS:=hS.below hb
      have hA:=hA.below hb
      refine hK.out _ _ st16 ?_
      clear hK K hb
      refine wpAnyH_part [(false,5),(false,6),(false,7),(false,8)] (by kernel_rfl) st16 ?_
      repeat (first | (refine zS rfl rfl ?_;simp only [Act.put,zq1,zq2,zq3]) | (refine zT rfl ?_ rfl (fun w' hw'=>?_) ?_;rotate_left;(go_simp;first | done | with_reducible rfl);(try simp only [Act.put,zq1,zq2,zq3])))
      refine zN ?_
      obtain⟨wx,wy,st1,st2,HX⟩:=pack_DS2 hA hS hne hdr hsr
      have sx:=HX.out.2.2.1 wr.heap.size wr st16 lGA
      have sy:=HX.out.2.2.2 wr.heap.size wr st16 lGA lGS
      have HMID:=zh (show StepMid wr r (.pointer (some ⟨GA,0,none⟩)) (.pointer (some ⟨GS,0,none⟩)) (.int .i64 r.2.2) wy from ⟨GA,GS,rfl,rfl,rfl,HX.out.1,HX.out.2.1,sy⟩)
      refine wpAnyH_end [(true,11),(true,12),(false,13)] (by kernel_rfl) st16 ?_
      refine zA rfl rfl fun K hK=>?_
      refine op_store (.tmp 7) (.tmp 37) 38 rfl rfl rfl st1 ?_
      refine hK.out _ _ sx ?_
      clear hK K st1
      simp only [Act.put,zq1,zq2,zq3]
      refine zA rfl rfl fun K hK=>?_
      refine op_store (.tmp 8) (.tmp 38) 44 rfl rfl rfl st2 ?_
      refine hK.out _ _ sy ?_
      clear hK K st2
      simp only [Act.put,zq1,zq2,zq3]
      repeat (first | (refine zS rfl rfl ?_;simp only [Act.put,zq1,zq2,zq3]) | (refine zT rfl ?_ rfl (fun w' hw'=>?_) ?_;rotate_left;(go_simp;first | done | with_reducible rfl);(try simp only [Act.put,zq1,zq2,zq3])))
      refine zN ?_
      clear HX hA hS hdr hsr sx sy L0 L1 L2 L3 N0 N1 N2 N3 N4
      go_wp2_with fail
      go_meet
      case rel=>exact HMID.out
  ·skip
   obtain⟨wt17,GA,hw,hg,hA,hb,hlt,hle⟩:=fresh_disk wr.drew
   have st17:=s0'.trans (hb.mono s0'.size)
   have lGA:wr.heap.size≤GA:=Nat.le_trans s0'.size hle
   refine op_alloc 38 rfl (zero_disk _) hw.out ?_
   rw [← hg.out]
   refine hK.out _ _ st17 ?_
   clear hK K hw hg hb hlt hle
   simp only [Act.put,zq1,zq2,zq3]
   refine wpAnyH_ready (rs:=[1,10]) (by kernel_rfl) (by simp) ?_
   refine zR rfl rfl (fun K hK=>?_) (zR rfl rfl (fun K hK=>?_) AllReadyH.nil)
   ·skip
    have kc:=copy_any _ d wt17 (HVX.out.below st17) ⟨by have:=HLEN.out.1;omega,by have:=HLEN.out.2;omega⟩
    go_simp
    refine kc.mono ?_
    rintro e wt18 ⟨⟨sv,lv,rfl,C,_,_,ho,_,hlo⟩,hb⟩
    obtain⟨p0,q0,rfl⟩:=ho.form
    obtain⟨r0,s0,rfl⟩:=hlo.form
    have dn:DiskV wt18.heap.size wt18 (.agg #[.slice p0 d.secs.length q0,.slice r0 d.loose.length s0,.int .i64 d.fuse,.bool d.down]) d:=⟨_,_,rfl,ho.secs,hlo.loose⟩
    have st18:=st17.trans (hb.mono st17.size)
    clear kc ho hlo
    have hA:=hA.below hb
    refine hK.out _ _ st18 ?_
    clear hK K hb
    try simp only [Act.put,zq1,zq2,zq3]
    refine wpAnyH_ready (rs:=[4,10]) (by kernel_rfl) (by simp) ?_
    refine zR rfl rfl (fun K hK=>?_) (zR rfl rfl (fun K hK=>?_) AllReadyH.nil)
    ·skip
     have kc:=kcommit_any _ _ _ d s c wt18 dn (HSV.out.below st18) (HCV.out.below st18) HL0.out (HT3.out.below st18 hT3) (Nat.lt_of_lt_of_le hT3 st18.size)
     rw [← HR.out] at kc
     unfold KE storeV at kc
     go_simp
     refine kc.mono ?_
     rintro e wt19 ⟨⟨vr,sr,rfl,hdr,hsr⟩,hb⟩
     clear kc
     obtain⟨r1,r2,r3,r4,rfl,_,_⟩:=hdr.parts
     have st19:=st18.trans (hb.mono st18.size)
     clear dn
     have hA:=hA.below hb
     refine hK.out _ _ st19 ?_
     clear hK K hb
     refine wpAnyH_part [(false,5),(false,6),(false,7),(false,8)] (by kernel_rfl) st19 ?_
     repeat (first | (refine zS rfl rfl ?_;simp only [Act.put,zq1,zq2,zq3]) | (refine zT rfl ?_ rfl (fun w' hw'=>?_) ?_;rotate_left;(go_simp;first | done | with_reducible rfl);(try simp only [Act.put,zq1,zq2,zq3])))
     refine zN ?_
     refine wpAnyH_ready (rs:=[10]) (by kernel_rfl) (by simp) ?_
     refine zR rfl rfl (fun K hK=>?_) AllReadyH.nil
     ·skip
      obtain⟨wt20,GS,hw,hg,hS,hb,hlt,hle⟩:=fresh_store wt19
      have st20:=st19.trans (hb.mono st19.size)
      have lGS:wr.heap.size≤GS:=Nat.le_trans st19.size hle
      have hne:GA≠GS:=by have:=hA.lt;omega
      have hA:=hA.below hb
      have hdr:=(hdr.below hb).tight
      have hsr:=(hsr.below hb).tight
      refine op_alloc 44 rfl (zero_store _) hw.out ?_
      rw [← hg.out]
      refine hK.out _ _ st20 ?_
      clear hK K hw hg hb hlt hle
      simp only [Act.put,zq1,zq2,zq3]
      obtain⟨wx,wy,st1,st2,HX⟩:=pack_DS2 hA hS hne hdr hsr
      have sx:=HX.out.2.2.1 wr.heap.size wr st20 lGA
      have sy:=HX.out.2.2.2 wr.heap.size wr st20 lGA lGS
      have HMID:=zh (show StepMid wr r (.pointer (some ⟨GA,0,none⟩)) (.pointer (some ⟨GS,0,none⟩)) (.int .i64 r.2.2) wy from ⟨GA,GS,rfl,rfl,rfl,HX.out.1,HX.out.2.1,sy⟩)
      refine wpAnyH_end [(true,11),(true,12),(false,13)] (by kernel_rfl) st20 ?_
      refine zA rfl rfl fun K hK=>?_
      refine op_store (.tmp 7) (.tmp 37) 38 rfl rfl rfl st1 ?_
      refine hK.out _ _ sx ?_
      clear hK K st1
      simp only [Act.put,zq1,zq2,zq3]
      refine zA rfl rfl fun K hK=>?_
      refine op_store (.tmp 8) (.tmp 38) 44 rfl rfl rfl st2 ?_
      refine hK.out _ _ sy ?_
      clear hK K st2
      simp only [Act.put,zq1,zq2,zq3]
      repeat (first | (refine zS rfl rfl ?_;simp only [Act.put,zq1,zq2,zq3]) | (refine zT rfl ?_ rfl (fun w' hw'=>?_) ?_;rotate_left;(go_simp;first | done | with_reducible rfl);(try simp only [Act.put,zq1,zq2,zq3])))
      refine zN ?_
      clear HX hA hS hdr hsr sx sy L0 L1 L2 L3 N0 N1 N2 N3 N4
      go_wp2_with fail
      go_meet
      case rel=>exact HMID.out
    ·skip
     obtain⟨wt21,GS,hw,hg,hS,hb,hlt,hle⟩:=fresh_store wt18
     have st21:=st18.trans (hb.mono st18.size)
     have lGS:wr.heap.size≤GS:=Nat.le_trans st18.size hle
     have hne:GA≠GS:=by have:=hA.lt;omega
     have hA:=hA.below hb
     have dn:=(dn.below hb).tight
     refine op_alloc 44 rfl (zero_store _) hw.out ?_
     rw [← hg.out]
     refine hK.out _ _ st21 ?_
     clear hK K hw hg hb hlt hle
     simp only [Act.put,zq1,zq2,zq3]
     refine wpAnyH_ready (rs:=[4]) (by kernel_rfl) (by simp) ?_
     refine zR rfl rfl (fun K hK=>?_) AllReadyH.nil
     ·skip
      have kc:=kcommit_any _ _ _ d s c wt21 dn (HSV.out.below st21) (HCV.out.below st21) HL0.out (HT3.out.below st21 hT3) (Nat.lt_of_lt_of_le hT3 st21.size)
      rw [← HR.out] at kc
      unfold KE storeV at kc
      go_simp
      refine kc.mono ?_
      rintro e wt22 ⟨⟨vr,sr,rfl,hdr,hsr⟩,hb⟩
      clear kc
      obtain⟨r1,r2,r3,r4,rfl,_,_⟩:=hdr.parts
      have st22:=st21.trans (hb.mono st21.size)
      clear dn
      have hA:=hA.below hb
      have hS:=hS.below hb
      refine hK.out _ _ st22 ?_
      clear hK K hb
      refine wpAnyH_part [(false,5),(false,6),(false,7),(false,8)] (by kernel_rfl) st22 ?_
      repeat (first | (refine zS rfl rfl ?_;simp only [Act.put,zq1,zq2,zq3]) | (refine zT rfl ?_ rfl (fun w' hw'=>?_) ?_;rotate_left;(go_simp;first | done | with_reducible rfl);(try simp only [Act.put,zq1,zq2,zq3])))
      refine zN ?_
      obtain⟨wx,wy,st1,st2,HX⟩:=pack_DS2 hA hS hne hdr hsr
      have sx:=HX.out.2.2.1 wr.heap.size wr st22 lGA
      have sy:=HX.out.2.2.2 wr.heap.size wr st22 lGA lGS
      have HMID:=zh (show StepMid wr r (.pointer (some ⟨GA,0,none⟩)) (.pointer (some ⟨GS,0,none⟩)) (.int .i64 r.2.2) wy from ⟨GA,GS,rfl,rfl,rfl,HX.out.1,HX.out.2.1,sy⟩)
      refine wpAnyH_end [(true,11),(true,12),(false,13)] (by kernel_rfl) st22 ?_
      refine zA rfl rfl fun K hK=>?_
      refine op_store (.tmp 7) (.tmp 37) 38 rfl rfl rfl st1 ?_
      refine hK.out _ _ sx ?_
      clear hK K st1
      simp only [Act.put,zq1,zq2,zq3]
      refine zA rfl rfl fun K hK=>?_
      refine op_store (.tmp 8) (.tmp 38) 44 rfl rfl rfl st2 ?_
      refine hK.out _ _ sy ?_
      clear hK K st2
      simp only [Act.put,zq1,zq2,zq3]
      repeat (first | (refine zS rfl rfl ?_;simp only [Act.put,zq1,zq2,zq3]) | (refine zT rfl ?_ rfl (fun w' hw'=>?_) ?_;rotate_left;(go_simp;first | done | with_reducible rfl);(try simp only [Act.put,zq1,zq2,zq3])))
      refine zN ?_
      clear HX hA hS hdr hsr sx sy L0 L1 L2 L3 N0 N1 N2 N3 N4
      go_wp2_with fail
      go_meet
      case rel=>exact HMID.out
   ·skip
    obtain⟨wt23,GS,hw,hg,hS,hb,hlt,hle⟩:=fresh_store wt17
    have st23:=st17.trans (hb.mono st17.size)
    have lGS:wr.heap.size≤GS:=Nat.le_trans st17.size hle
    have hne:GA≠GS:=by have:=hA.lt;omega
    have hA:=hA.below hb
    refine op_alloc 44 rfl (zero_store _) hw.out ?_
    rw [← hg.out]
    refine hK.out _ _ st23 ?_
    clear hK K hw hg hb hlt hle
    simp only [Act.put,zq1,zq2,zq3]
    refine wpAnyH_ready (rs:=[1]) (by kernel_rfl) (by simp) ?_
    refine zR rfl rfl (fun K hK=>?_) AllReadyH.nil
    ·skip
     have kc:=copy_any _ d wt23 (HVX.out.below st23) ⟨by have:=HLEN.out.1;omega,by have:=HLEN.out.2;omega⟩
     go_simp
     refine kc.mono ?_
     rintro e wt24 ⟨⟨sv,lv,rfl,C,_,_,ho,_,hlo⟩,hb⟩
     obtain⟨p0,q0,rfl⟩:=ho.form
     obtain⟨r0,s0,rfl⟩:=hlo.form
     have dn:DiskV wt24.heap.size wt24 (.agg #[.slice p0 d.secs.length q0,.slice r0 d.loose.length s0,.int .i64 d.fuse,.bool d.down]) d:=⟨_,_,rfl,ho.secs,hlo.loose⟩
     have st24:=st23.trans (hb.mono st23.size)
     clear kc ho hlo
     have hA:=hA.below hb
     have hS:=hS.below hb
     refine hK.out _ _ st24 ?_
     clear hK K hb
     try simp only [Act.put,zq1,zq2,zq3]
     refine wpAnyH_ready (rs:=[4]) (by kernel_rfl) (by simp) ?_
     refine zR rfl rfl (fun K hK=>?_) AllReadyH.nil
     ·skip
      have kc:=kcommit_any _ _ _ d s c wt24 dn (HSV.out.below st24) (HCV.out.below st24) HL0.out (HT3.out.below st24 hT3) (Nat.lt_of_lt_of_le hT3 st24.size)
      rw [← HR.out] at kc
      unfold KE storeV at kc
      go_simp
      refine kc.mono ?_
      rintro e wt25 ⟨⟨vr,sr,rfl,hdr,hsr⟩,hb⟩
      clear kc
      obtain⟨r1,r2,r3,r4,rfl,_,_⟩:=hdr.parts
      have st25:=st24.trans (hb.mono st24.size)
      clear dn
      have hA:=hA.below hb
      have hS:=hS.below hb
      refine hK.out _ _ st25 ?_
      clear hK K hb
      refine wpAnyH_part [(false,5),(false,6),(false,7),(false,8)] (by kernel_rfl) st25 ?_
      repeat (first | (refine zS rfl rfl ?_;simp only [Act.put,zq1,zq2,zq3]) | (refine zT rfl ?_ rfl (fun w' hw'=>?_) ?_;rotate_left;(go_simp;first | done | with_reducible rfl);(try simp only [Act.put,zq1,zq2,zq3])))
      refine zN ?_
      obtain⟨wx,wy,st1,st2,HX⟩:=pack_DS2 hA hS hne hdr hsr
      have sx:=HX.out.2.2.1 wr.heap.size wr st25 lGA
      have sy:=HX.out.2.2.2 wr.heap.size wr st25 lGA lGS
      have HMID:=zh (show StepMid wr r (.pointer (some ⟨GA,0,none⟩)) (.pointer (some ⟨GS,0,none⟩)) (.int .i64 r.2.2) wy from ⟨GA,GS,rfl,rfl,rfl,HX.out.1,HX.out.2.1,sy⟩)
      refine wpAnyH_end [(true,11),(true,12),(false,13)] (by kernel_rfl) st25 ?_
      refine zA rfl rfl fun K hK=>?_
      refine op_store (.tmp 7) (.tmp 37) 38 rfl rfl rfl st1 ?_
      refine hK.out _ _ sx ?_
      clear hK K st1
      simp only [Act.put,zq1,zq2,zq3]
      refine zA rfl rfl fun K hK=>?_
      refine op_store (.tmp 8) (.tmp 38) 44 rfl rfl rfl st2 ?_
      refine hK.out _ _ sy ?_
      clear hK K st2
      simp only [Act.put,zq1,zq2,zq3]
      repeat (first | (refine zS rfl rfl ?_;simp only [Act.put,zq1,zq2,zq3]) | (refine zT rfl ?_ rfl (fun w' hw'=>?_) ?_;rotate_left;(go_simp;first | done | with_reducible rfl);(try simp only [Act.put,zq1,zq2,zq3])))
      refine zN ?_
      clear HX hA hS hdr hsr sx sy L0 L1 L2 L3 N0 N1 N2 N3 N4
      go_wp2_with fail
      go_meet
      case rel=>exact HMID.out
  ·skip
   obtain⟨wt26,GS,hw,hg,hS,hb,hlt,hle⟩:=fresh_store wr.drew
   have st26:=s0'.trans (hb.mono s0'.size)
   have lGS:wr.heap.size≤GS:=Nat.le_trans s0'.size hle
   refine op_alloc 44 rfl (zero_store _) hw.out ?_
   rw [← hg.out]
   refine hK.out _ _ st26 ?_
   clear hK K hw hg hb hlt hle
   simp only [Act.put,zq1,zq2,zq3]
   refine wpAnyH_ready (rs:=[1,9]) (by kernel_rfl) (by simp) ?_
   refine zR rfl rfl (fun K hK=>?_) (zR rfl rfl (fun K hK=>?_) AllReadyH.nil)
   ·skip
    have kc:=copy_any _ d wt26 (HVX.out.below st26) ⟨by have:=HLEN.out.1;omega,by have:=HLEN.out.2;omega⟩
    go_simp
    refine kc.mono ?_
    rintro e wt27 ⟨⟨sv,lv,rfl,C,_,_,ho,_,hlo⟩,hb⟩
    obtain⟨p0,q0,rfl⟩:=ho.form
    obtain⟨r0,s0,rfl⟩:=hlo.form
    have dn:DiskV wt27.heap.size wt27 (.agg #[.slice p0 d.secs.length q0,.slice r0 d.loose.length s0,.int .i64 d.fuse,.bool d.down]) d:=⟨_,_,rfl,ho.secs,hlo.loose⟩
    have st27:=st26.trans (hb.mono st26.size)
    clear kc ho hlo
    have hS:=hS.below hb
    refine hK.out _ _ st27 ?_
    clear hK K hb
    try simp only [Act.put,zq1,zq2,zq3]
    refine wpAnyH_ready (rs:=[4,9]) (by kernel_rfl) (by simp) ?_
    refine zR rfl rfl (fun K hK=>?_) (zR rfl rfl (fun K hK=>?_) AllReadyH.nil)
    ·skip
     have kc:=kcommit_any _ _ _ d s c wt27 dn (HSV.out.below st27) (HCV.out.below st27) HL0.out (HT3.out.below st27 hT3) (Nat.lt_of_lt_of_le hT3 st27.size)
     rw [← HR.out] at kc
     unfold KE storeV at kc
     go_simp
     refine kc.mono ?_
     rintro e wt28 ⟨⟨vr,sr,rfl,hdr,hsr⟩,hb⟩
     clear kc
     obtain⟨r1,r2,r3,r4,rfl,_,_⟩:=hdr.parts
     have st28:=st27.trans (hb.mono st27.size)
     clear dn
     have hS:=hS.below hb
     refine hK.out _ _ st28 ?_
     clear hK K hb
     refine wpAnyH_part [(false,5),(false,6),(false,7),(false,8)] (by kernel_rfl) st28 ?_
     repeat (first | (refine zS rfl rfl ?_;simp only [Act.put,zq1,zq2,zq3]) | (refine zT rfl ?_ rfl (fun w' hw'=>?_) ?_;rotate_left;(go_simp;first | done | with_reducible rfl);(try simp only [Act.put,zq1,zq2,zq3])))
     refine zN ?_
     refine wpAnyH_ready (rs:=[9]) (by kernel_rfl) (by simp) ?_
     refine zR rfl rfl (fun K hK=>?_) AllReadyH.nil
     ·skip
      obtain⟨wt29,GA,hw,hg,hA,hb,hlt,hle⟩:=fresh_disk wt28
      have st29:=st28.trans (hb.mono st28.size)
      have lGA:wr.heap.size≤GA:=Nat.le_trans st28.size hle
      have hne:GA≠GS:=by have:=hS.lt;omega
      have hS:=hS.below hb
      have hdr:=(hdr.below hb).tight
      have hsr:=(hsr.below hb).tight
      refine op_alloc 38 rfl (zero_disk _) hw.out ?_
      rw [← hg.out]
      refine hK.out _ _ st29 ?_
      clear hK K hw hg hb hlt hle
      simp only [Act.put,zq1,zq2,zq3]
      obtain⟨wx,wy,st1,st2,HX⟩:=pack_DS2 hA hS hne hdr hsr
      have sx:=HX.out.2.2.1 wr.heap.size wr st29 lGA
      have sy:=HX.out.2.2.2 wr.heap.size wr st29 lGA lGS
      have HMID:=zh (show StepMid wr r (.pointer (some ⟨GA,0,none⟩)) (.pointer (some ⟨GS,0,none⟩)) (.int .i64 r.2.2) wy from ⟨GA,GS,rfl,rfl,rfl,HX.out.1,HX.out.2.1,sy⟩)
      refine wpAnyH_end [(true,11),(true,12),(false,13)] (by kernel_rfl) st29 ?_
      refine zA rfl rfl fun K hK=>?_
      refine op_store (.tmp 7) (.tmp 37) 38 rfl rfl rfl st1 ?_
      refine hK.out _ _ sx ?_
      clear hK K st1
      simp only [Act.put,zq1,zq2,zq3]
      refine zA rfl rfl fun K hK=>?_
      refine op_store (.tmp 8) (.tmp 38) 44 rfl rfl rfl st2 ?_
      refine hK.out _ _ sy ?_
      clear hK K st2
      simp only [Act.put,zq1,zq2,zq3]
      repeat (first | (refine zS rfl rfl ?_;simp only [Act.put,zq1,zq2,zq3]) | (refine zT rfl ?_ rfl (fun w' hw'=>?_) ?_;rotate_left;(go_simp;first | done | with_reducible rfl);(try simp only [Act.put,zq1,zq2,zq3])))
      refine zN ?_
      clear HX hA hS hdr hsr sx sy L0 L1 L2 L3 N0 N1 N2 N3 N4
      go_wp2_with fail
      go_meet
      case rel=>exact HMID.out
    ·skip
     obtain⟨wt30,GA,hw,hg,hA,hb,hlt,hle⟩:=fresh_disk wt27
     have st30:=st27.trans (hb.mono st27.size)
     have lGA:wr.heap.size≤GA:=Nat.le_trans st27.size hle
     have hne:GA≠GS:=by have:=hS.lt;omega
     have hS:=hS.below hb
     have dn:=(dn.below hb).tight
     refine op_alloc 38 rfl (zero_disk _) hw.out ?_
     rw [← hg.out]
     refine hK.out _ _ st30 ?_
     clear hK K hw hg hb hlt hle
     simp only [Act.put,zq1,zq2,zq3]
     refine wpAnyH_ready (rs:=[4]) (by kernel_rfl) (by simp) ?_
     refine zR rfl rfl (fun K hK=>?_) AllReadyH.nil
     ·skip
      have kc:=kcommit_any _ _ _ d s c wt30 dn (HSV.out.below st30) (HCV.out.below st30) HL0.out (HT3.out.below st30 hT3) (Nat.lt_of_lt_of_le hT3 st30.size)
      rw [← HR.out] at kc
      unfold KE storeV at kc
      go_simp
      refine kc.mono ?_
      rintro e wt31 ⟨⟨vr,sr,rfl,hdr,hsr⟩,hb⟩
      clear kc
      obtain⟨r1,r2,r3,r4,rfl,_,_⟩:=hdr.parts
      have st31:=st30.trans (hb.mono st30.size)
      clear dn
      have hS:=hS.below hb
      have hA:=hA.below hb
      refine hK.out _ _ st31 ?_
      clear hK K hb
      refine wpAnyH_part [(false,5),(false,6),(false,7),(false,8)] (by kernel_rfl) st31 ?_
      repeat (first | (refine zS rfl rfl ?_;simp only [Act.put,zq1,zq2,zq3]) | (refine zT rfl ?_ rfl (fun w' hw'=>?_) ?_;rotate_left;(go_simp;first | done | with_reducible rfl);(try simp only [Act.put,zq1,zq2,zq3])))
      refine zN ?_
      obtain⟨wx,wy,st1,st2,HX⟩:=pack_DS2 hA hS hne hdr hsr
      have sx:=HX.out.2.2.1 wr.heap.size wr st31 lGA
      have sy:=HX.out.2.2.2 wr.heap.size wr st31 lGA lGS
      have HMID:=zh (show StepMid wr r (.pointer (some ⟨GA,0,none⟩)) (.pointer (some ⟨GS,0,none⟩)) (.int .i64 r.2.2) wy from ⟨GA,GS,rfl,rfl,rfl,HX.out.1,HX.out.2.1,sy⟩)
      refine wpAnyH_end [(true,11),(true,12),(false,13)] (by kernel_rfl) st31 ?_
      refine zA rfl rfl fun K hK=>?_
      refine op_store (.tmp 7) (.tmp 37) 38 rfl rfl rfl st1 ?_
      refine hK.out _ _ sx ?_
      clear hK K st1
      simp only [Act.put,zq1,zq2,zq3]
      refine zA rfl rfl fun K hK=>?_
      refine op_store (.tmp 8) (.tmp 38) 44 rfl rfl rfl st2 ?_
      refine hK.out _ _ sy ?_
      clear hK K st2
      simp only [Act.put,zq1,zq2,zq3]
      repeat (first | (refine zS rfl rfl ?_;simp only [Act.put,zq1,zq2,zq3]) | (refine zT rfl ?_ rfl (fun w' hw'=>?_) ?_;rotate_left;(go_simp;first | done | with_reducible rfl);(try simp only [Act.put,zq1,zq2,zq3])))
      refine zN ?_
      clear HX hA hS hdr hsr sx sy L0 L1 L2 L3 N0 N1 N2 N3 N4
      go_wp2_with fail
      go_meet
      case rel=>exact HMID.out
   ·skip
    obtain⟨wt32,GA,hw,hg,hA,hb,hlt,hle⟩:=fresh_disk wt26
    have st32:=st26.trans (hb.mono st26.size)
    have lGA:wr.heap.size≤GA:=Nat.le_trans st26.size hle
    have hne:GA≠GS:=by have:=hS.lt;omega
    have hS:=hS.below hb
    refine op_alloc 38 rfl (zero_disk _) hw.out ?_
    rw [← hg.out]
    refine hK.out _ _ st32 ?_
    clear hK K hw hg hb hlt hle
    simp only [Act.put,zq1,zq2,zq3]
    refine wpAnyH_ready (rs:=[1]) (by kernel_rfl) (by simp) ?_
    refine zR rfl rfl (fun K hK=>?_) AllReadyH.nil
    ·skip
     have kc:=copy_any _ d wt32 (HVX.out.below st32) ⟨by have:=HLEN.out.1;omega,by have:=HLEN.out.2;omega⟩
     go_simp
     refine kc.mono ?_
     rintro e wt33 ⟨⟨sv,lv,rfl,C,_,_,ho,_,hlo⟩,hb⟩
     obtain⟨p0,q0,rfl⟩:=ho.form
     obtain⟨r0,s0,rfl⟩:=hlo.form
     have dn:DiskV wt33.heap.size wt33 (.agg #[.slice p0 d.secs.length q0,.slice r0 d.loose.length s0,.int .i64 d.fuse,.bool d.down]) d:=⟨_,_,rfl,ho.secs,hlo.loose⟩
     have st33:=st32.trans (hb.mono st32.size)
     clear kc ho hlo
     have hS:=hS.below hb
     have hA:=hA.below hb
     refine hK.out _ _ st33 ?_
     clear hK K hb
     try simp only [Act.put,zq1,zq2,zq3]
     refine wpAnyH_ready (rs:=[4]) (by kernel_rfl) (by simp) ?_
     refine zR rfl rfl (fun K hK=>?_) AllReadyH.nil
     ·skip
      have kc:=kcommit_any _ _ _ d s c wt33 dn (HSV.out.below st33) (HCV.out.below st33) HL0.out (HT3.out.below st33 hT3) (Nat.lt_of_lt_of_le hT3 st33.size)
      rw [← HR.out] at kc
      unfold KE storeV at kc
      go_simp
      refine kc.mono ?_
      rintro e wt34 ⟨⟨vr,sr,rfl,hdr,hsr⟩,hb⟩
      clear kc
      obtain⟨r1,r2,r3,r4,rfl,_,_⟩:=hdr.parts
      have st34:=st33.trans (hb.mono st33.size)
      clear dn
      have hS:=hS.below hb
      have hA:=hA.below hb
      refine hK.out _ _ st34 ?_
      clear hK K hb
      refine wpAnyH_part [(false,5),(false,6),(false,7),(false,8)] (by kernel_rfl) st34 ?_
      repeat (first | (refine zS rfl rfl ?_;simp only [Act.put,zq1,zq2,zq3]) | (refine zT rfl ?_ rfl (fun w' hw'=>?_) ?_;rotate_left;(go_simp;first | done | with_reducible rfl);(try simp only [Act.put,zq1,zq2,zq3])))
      refine zN ?_
      obtain⟨wx,wy,st1,st2,HX⟩:=pack_DS2 hA hS hne hdr hsr
      have sx:=HX.out.2.2.1 wr.heap.size wr st34 lGA
      have sy:=HX.out.2.2.2 wr.heap.size wr st34 lGA lGS
      have HMID:=zh (show StepMid wr r (.pointer (some ⟨GA,0,none⟩)) (.pointer (some ⟨GS,0,none⟩)) (.int .i64 r.2.2) wy from ⟨GA,GS,rfl,rfl,rfl,HX.out.1,HX.out.2.1,sy⟩)
      refine wpAnyH_end [(true,11),(true,12),(false,13)] (by kernel_rfl) st34 ?_
      refine zA rfl rfl fun K hK=>?_
      refine op_store (.tmp 7) (.tmp 37) 38 rfl rfl rfl st1 ?_
      refine hK.out _ _ sx ?_
      clear hK K st1
      simp only [Act.put,zq1,zq2,zq3]
      refine zA rfl rfl fun K hK=>?_
      refine op_store (.tmp 8) (.tmp 38) 44 rfl rfl rfl st2 ?_
      refine hK.out _ _ sy ?_
      clear hK K st2
      simp only [Act.put,zq1,zq2,zq3]
      repeat (first | (refine zS rfl rfl ?_;simp only [Act.put,zq1,zq2,zq3]) | (refine zT rfl ?_ rfl (fun w' hw'=>?_) ?_;rotate_left;(go_simp;first | done | with_reducible rfl);(try simp only [Act.put,zq1,zq2,zq3])))
      refine zN ?_
      clear HX hA hS hdr hsr sx sy L0 L1 L2 L3 N0 N1 N2 N3 N4
      go_wp2_with fail
      go_meet
      case rel=>exact HMID.out
 case rest =>
  obtain⟨GA,GS,rfl,rfl,rfl,hA,hS,hbc⟩:=hcut
  have HA:=zh hA
  have HS:=zh hS
  have HXc:=zh (HX3.out.below hbc)
  have HSc:=zh (HS3.out.below hbc)
  have HBc:=zh (HB3.out.trans (hbc.mono HB3.out.size))
  have HCc:=zh (HCV.out.below hbc)
  clear hA hS hbc
  obtain⟨ax,nx,bx,mx,Tx,hvx⟩:=id (HXc.out)
  have C0x:=cR wc _ 0 _ _ _ Tx
  have C1x:=cR wc _ 1 _ _ _ Tx
  have C2x:=cR wc _ 2 _ _ _ Tx
  have C3x:=cR wc _ 3 _ _ _ Tx
  clear Tx
  obtain⟨ay,cy,Ty,hpy⟩:=id (HSc.out)
  have F0y:=cR wc _ 0 _ _ _ Ty
  have F1y:=cR wc _ 1 _ _ _ Ty
  have F2y:=cR wc _ 2 _ _ _ Ty
  have F3y:=cR wc _ 3 _ _ _ Ty
  have F4y:=cR wc _ 4 _ _ _ Ty
  clear Ty
  have ko:=rkcommit_any _ _ _ d s c wc hvx ⟨_,rfl,hpy⟩ HCc.out
  rw [← HR.out] at ko
  unfold KE storeV at ko
  clear hvx hpy
  go_wp2_with fail
  refine ko.mono ?_
  rintro e wa ⟨⟨v9,sv9,rfl,hd9,hs9⟩,hb9⟩
  clear ko C0x C1x C2x C3x F0y F1y F2y F3y F4y
  obtain⟨p3,q3,p4,q4,rfl,_,_⟩:=hd9.parts
  obtain⟨wb,D2,HWc,HGc,hDD,hbD,ltD,leD⟩:=fresh_disk wa
  obtain⟨wd,S2,HWd,HGd,hSE,hbE,ltE,leE⟩:=fresh_store wb
  have hb9E:=hbD.trans (hbE.mono hbD.size)
  obtain⟨we,wf,st1,st2,HX⟩:=pack_DS (hDD.below hbE) hSE (show D2≠S2 by omega) (hd9.below hb9E).tight (hs9.below hb9E).tight
  have ST2:=zh st2
  have HB9:=zh (And.intro hb9 hb9E)
  have hSn:wa.heap.size≤S2:=by omega
  clear st2 hd9 hs9 hDD hSE hbD hbE hb9 hb9E ltD ltE leE
  go_wp2_with (with_reducible refine wp_alloc_to (w':=wb) 38 rfl rfl (zero_disk _) HWc.out ?_;refine Halt.in ?_)
  refine Halt.out ?_
  rw [← HGc.out]
  go_wp2_with (with_reducible refine wp_alloc_to (w':=wd) 44 rfl rfl (zero_store _) HWd.out ?_;refine Halt.in ?_)
  refine Halt.out ?_
  rw [← HGd.out]
  go_wp2_with (with_reducible refine wp_store_r (.tmp 10) (.tmp 45) 38 st1 rfl rfl ?_;refine Halt.in ?_)
  refine Halt.out ?_
  have st2:=ST2.out
  clear st1
  go_wp2_with (with_reducible refine wp_store_r (.tmp 11) (.tmp 46) 44 st2 rfl rfl ?_;refine Halt.in ?_)
  refine Halt.out ?_
  clear st2 ST2
  go_upto_region 7 with (fail)
  have hbs:Below wc.heap.size wc wf:=HB9.out.1.trans ((HX.out.2.2.2.2 wa.heap.size wa HB9.out.2 leD hSn).mono HB9.out.1.size)
  have HE:=zh HX.out.1
  have HEs:=zh HX.out.2.1
  have HAf:=zh (HA.out.below hbs)
  have HSf:=zh (HS.out.below hbs)
  have HXf:=zh (HXc.out.below hbs)
  have HSXf:=zh (HSc.out.below hbs)
  have HBf:=zh (HBc.out.trans (hbs.mono HBc.out.size))
  clear hbs HX HB9 leD hSn
  obtain⟨ag,ng,bg,mg,Tg,hvg⟩:=id HAf.out
  have L0g:=fun w' (h:Below wf.heap.size wf w')=>cR w' _ 0 _ _ _ ((h.block _ (zB Tg)).trans Tg)
  have L1g:=fun w' (h:Below wf.heap.size wf w')=>cR w' _ 1 _ _ _ ((h.block _ (zB Tg)).trans Tg)
  have L2g:=fun w' (h:Below wf.heap.size wf w')=>cR w' _ 2 _ _ _ ((h.block _ (zB Tg)).trans Tg)
  have L3g:=fun w' (h:Below wf.heap.size wf w')=>cR w' _ 3 _ _ _ ((h.block _ (zB Tg)).trans Tg)
  have HVg:=zh hvg
  clear Tg hvg
  obtain⟨ah,nh,bh,mh,Th,hvh⟩:=id HE.out
  have L0h:=fun w' (h:Below wf.heap.size wf w')=>cR w' _ 0 _ _ _ ((h.block _ (zB Th)).trans Th)
  have L1h:=fun w' (h:Below wf.heap.size wf w')=>cR w' _ 1 _ _ _ ((h.block _ (zB Th)).trans Th)
  have L2h:=fun w' (h:Below wf.heap.size wf w')=>cR w' _ 2 _ _ _ ((h.block _ (zB Th)).trans Th)
  have L3h:=fun w' (h:Below wf.heap.size wf w')=>cR w' _ 3 _ _ _ ((h.block _ (zB Th)).trans Th)
  have HVh:=zh hvh
  clear Th hvh
  obtain⟨ai,ni,bi,mi,Ti,hvi⟩:=id HXf.out
  have L0i:=fun w' (h:Below wf.heap.size wf w')=>cR w' _ 0 _ _ _ ((h.block _ (zB Ti)).trans Ti)
  have L1i:=fun w' (h:Below wf.heap.size wf w')=>cR w' _ 1 _ _ _ ((h.block _ (zB Ti)).trans Ti)
  have L2i:=fun w' (h:Below wf.heap.size wf w')=>cR w' _ 2 _ _ _ ((h.block _ (zB Ti)).trans Ti)
  have L3i:=fun w' (h:Below wf.heap.size wf w')=>cR w' _ 3 _ _ _ ((h.block _ (zB Ti)).trans Ti)
  have HVi:=zh hvi
  clear Ti hvi
  obtain⟨aj,cj,Tj,hpj⟩:=id HSf.out
  have N0j:=fun w' (h:Below wf.heap.size wf w')=>cR w' _ 0 _ _ _ ((h.block _ (zB Tj)).trans Tj)
  have N1j:=fun w' (h:Below wf.heap.size wf w')=>cR w' _ 1 _ _ _ ((h.block _ (zB Tj)).trans Tj)
  have N2j:=fun w' (h:Below wf.heap.size wf w')=>cR w' _ 2 _ _ _ ((h.block _ (zB Tj)).trans Tj)
  have N3j:=fun w' (h:Below wf.heap.size wf w')=>cR w' _ 3 _ _ _ ((h.block _ (zB Tj)).trans Tj)
  have N4j:=fun w' (h:Below wf.heap.size wf w')=>cR w' _ 4 _ _ _ ((h.block _ (zB Tj)).trans Tj)
  have HPj:=zh (show StoreV wf.heap.size wf (storeV r.2.1.log (.slice aj r.2.1.pairs.length cj)) r.2.1 from ⟨_,rfl,hpj⟩)
  clear Tj hpj
  obtain⟨ak,ck,Tk,hpk⟩:=id HEs.out
  have N0k:=fun w' (h:Below wf.heap.size wf w')=>cR w' _ 0 _ _ _ ((h.block _ (zB Tk)).trans Tk)
  have N1k:=fun w' (h:Below wf.heap.size wf w')=>cR w' _ 1 _ _ _ ((h.block _ (zB Tk)).trans Tk)
  have N2k:=fun w' (h:Below wf.heap.size wf w')=>cR w' _ 2 _ _ _ ((h.block _ (zB Tk)).trans Tk)
  have N3k:=fun w' (h:Below wf.heap.size wf w')=>cR w' _ 3 _ _ _ ((h.block _ (zB Tk)).trans Tk)
  have N4k:=fun w' (h:Below wf.heap.size wf w')=>cR w' _ 4 _ _ _ ((h.block _ (zB Tk)).trans Tk)
  have HPk:=zh (show StoreV wf.heap.size wf (storeV r.2.1.log (.slice ak r.2.1.pairs.length ck)) r.2.1 from ⟨_,rfl,hpk⟩)
  clear Tk hpk
  obtain⟨al,cl,Tl,hpl⟩:=id HSXf.out
  have N0l:=fun w' (h:Below wf.heap.size wf w')=>cR w' _ 0 _ _ _ ((h.block _ (zB Tl)).trans Tl)
  have N1l:=fun w' (h:Below wf.heap.size wf w')=>cR w' _ 1 _ _ _ ((h.block _ (zB Tl)).trans Tl)
  have N2l:=fun w' (h:Below wf.heap.size wf w')=>cR w' _ 2 _ _ _ ((h.block _ (zB Tl)).trans Tl)
  have N3l:=fun w' (h:Below wf.heap.size wf w')=>cR w' _ 3 _ _ _ ((h.block _ (zB Tl)).trans Tl)
  have N4l:=fun w' (h:Below wf.heap.size wf w')=>cR w' _ 4 _ _ _ ((h.block _ (zB Tl)).trans Tl)
  have HPl:=zh (show StoreV wf.heap.size wf (storeV s.log (.slice al s.pairs.length cl)) s from ⟨_,rfl,hpl⟩)
  clear Tl hpl
  have s0:Below wf.heap.size wf wf.drew:=zD (Below.refl _ _) 1
  refine zI [(false,0),(false,1),(true,2),(false,3),(false,4),(false,5),(true,6),(false,7),(false,8),(false,9),(false,10),(false,11),(false,12),(false,13),(false,14),(false,15),(false,17),(false,18),(true,16),(true,19),(false,20),(false,21),(false,22)] (fun w'=>Below wf.heap.size wf w') (by kernel_rfl) (by kernel_rfl) s0 ?_
  repeat (first | (refine zS rfl rfl ?_;simp only [Act.put,zq1,zq2,zq3]) | (refine zT rfl ?_ rfl (fun w' hw'=>?_) ?_;rotate_left;(go_simp;first | done | with_reducible rfl);(try simp only [Act.put,zq1,zq2,zq3])))
  refine zA rfl rfl fun K hK=>?_
  have kk:=same_any _ _ r.1 (wf.drew) (HVg.out.below s0) (HVh.out.below s0)
  go_simp
  refine kk.mono ?_
  rintro e wt1 ⟨rfl,hb⟩
  clear kk
  have st1:=s0.trans (hb.mono s0.size)
  refine hK.out _ _ st1 ?_
  clear hK K hb
  repeat (first | (refine zS rfl rfl ?_;simp only [Act.put,zq1,zq2,zq3]) | (refine zT rfl ?_ rfl (fun w' hw'=>?_) ?_;rotate_left;(go_simp;first | done | with_reducible rfl);(try simp only [Act.put,zq1,zq2,zq3])))
  refine zA rfl rfl fun K hK=>?_
  have kk:=refsame6_any _ _ r.2.1 (wt1) (HPj.out.below st1) (HPk.out.below st1)
  unfold storeV at kk
  go_simp
  refine kk.mono ?_
  rintro e wt2 ⟨rfl,hb⟩
  clear kk
  have st2:=st1.trans (hb.mono st1.size)
  refine hK.out _ _ st2 ?_
  clear hK K hb
  repeat (first | (refine zS rfl rfl ?_;simp only [Act.put,zq1,zq2,zq3]) | (refine zT rfl ?_ rfl (fun w' hw'=>?_) ?_;rotate_left;(go_simp;first | done | with_reducible rfl);(try simp only [Act.put,zq1,zq2,zq3])))
  obtain⟨R,hR⟩:∃ R,R=rightS d s:=⟨_,rfl⟩
  refine zA rfl rfl fun K hK=>?_
  have kk:=kright_any _ _ d s (wt2) (HVi.out.below st2) (HPl.out.below st2) HL0.out
  rw [← hR] at kk
  unfold storeV at kk
  go_simp
  refine kk.mono ?_
  rintro e wt3 ⟨rfl,hb⟩
  clear kk
  have st3:=st2.trans (hb.mono st2.size)
  refine hK.out _ _ st3 ?_
  clear hK K hb
  repeat (first | (refine zS rfl rfl ?_;simp only [Act.put,zq1,zq2,zq3]) | (refine zT rfl ?_ rfl (fun w' hw'=>?_) ?_;rotate_left;(go_simp;first | done | with_reducible rfl);(try simp only [Act.put,zq1,zq2,zq3])))
  refine zA rfl rfl fun K hK=>?_
  have kk:=rkright_any _ _ d s (wt3) (HVi.out.below st3) (HPl.out.below st3)
  rw [← hR] at kk
  unfold storeV at kk
  go_simp
  refine kk.mono ?_
  rintro e wt4 ⟨rfl,hb⟩
  clear kk
  have st4:=st3.trans (hb.mono st3.size)
  refine hK.out _ _ st4 ?_
  clear hK K hb
  repeat (first | (refine zS rfl rfl ?_;simp only [Act.put,zq1,zq2,zq3]) | (refine zT rfl ?_ rfl (fun w' hw'=>?_) ?_;rotate_left;(go_simp;first | done | with_reducible rfl);(try simp only [Act.put,zq1,zq2,zq3])))
  have HFIN:=zh (HBf.out.trans (st4.mono HBf.out.size))
  refine zN ?_
  cases R
  all_goals
   go_wp2_with fail
   go_ret
   exact⟨rfl,HFIN.out⟩
end
section
open Go.RowKit Go.ChangeShapes Go.WideShapes
section
variable {H:Type} {enc:TypeId×Value→H} {P:Program}
theorem trods_stay (hl:laidOutB P=true) {W W':World} (hb:Below W.heap.size W W') :
  ∀ (ts:List TypeId) (vs:List Value) (ds:List (DataW H)) (ps:List MemPlace),(∀ t∈ts,P.readableRec t=true∧t<P.types.size) →
   DataW.TrodAll enc P W 0 (fun _=>true) true ts vs ds ps→(∀ x∈ps,x.block<W.heap.size)→DataW.TrodAll enc P W' 0 (fun b=>decide (b<W.heap.size)) true ts vs ds ps:=by
 intro ts
 induction ts with
 | nil =>
  intro vs ds ps _ h _
  cases vs <;> cases ds <;> first | exact h | exact h.elim
 | cons t ts ih =>
  intro vs ds ps hr h hlt
  cases vs with
  | nil=>cases ds <;> exact h.elim
  | cons v vs =>
   cases ds with
   | nil=>exact h.elim
   | cons d ds =>
    obtain⟨p,q,h1,h2,rfl⟩:=h
    obtain⟨hr1,hr2⟩:=hr t (List.mem_cons_self ..)
    exact⟨p,q,WideElems.Trod_stays hl hr1 hr2 h1 (fun x hx=>hb.same (hlt x (List.mem_append_left _ hx))) (fun x hx=>by simpa using hlt x (List.mem_append_left _ hx)),
     ih vs ds q (fun t' ht'=>hr t' (List.mem_cons_of_mem _ ht')) h2 (fun x hx=>hlt x (List.mem_append_right _ hx)),rfl⟩
theorem weights_at {ts:List TypeId} {ds:List (DataW H)} (h:(DataW.weightsEach P ts ds).all (·≤reachBytes)=true) (i:Nat) (t:TypeId) (d:DataW H) (ht:ts[i]?=some t) (hd:ds[i]?=some d) :
  ∀ n∈DataW.weights P t d,n≤reachBytes:=fun n hn=>by
 have:=List.all_eq_true.1 h n (mem_weightsEach ts ds i t d ht hd n hn)
 simpa using this
theorem post_law {f:Func} {s:ChangeSpec} {W W':World} {args:Array Value} {ds gs:List (DataW H)} {before:List MemPlace} {bt:TypeId}
  (hW:DataW.Whole enc P f.params.toList s.vars false W args.toList ds gs before) (hvars:s.vars=[]) (hl:laidOutB P=true)
  (hr:∀ t∈f.params.toList,P.readableRec t=true∧t<P.types.size) (hrt:f.resultTypes=#[bt]) (hbt:P.underlying bt=some .bool)
  (hfn:s.fn H (ds++gs)={ results:=[.lit (.bool true)],args:=ds }) (hb:Below W.heap.size W W'):s.post enc P f false true false false W args (.bool true) W':=by
 have hlt:=hW.lt
 have hW':=hW
 obtain⟨p,q,hA,hV,rfl,_,_⟩:=hW'
 rw [hvars] at hV
 obtain⟨rfl,rfl⟩:=trodVars_none hV
 refine⟨ds,[],p++[],[],p,[],hW,?_,?_,?_,?_,fun h=>by cases h⟩
 ·rw [hfn,hrt]
  exact trodAll_cons_mk (shut_bool hbt true) trodAll_mk0
 ·rw [hfn]
  exact trods_stay hl hb _ _ _ _ hr hA (fun x hx=>hlt x (by simpa using hx))
 ·rw [hfn,hvars]
  rfl
 ·exact World.keptBut_mono (fun x hx=>⟨hx,.inr (.inl (by simpa using hx))⟩) (hb.frame _)
end
end
end Go.Proofs.YtaijompnohkmaaaGreatDoor
