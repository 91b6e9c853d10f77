/- Layer 5 (wal): a mark is read. -/
import Derived.Test.YtaijompnohkmaaaGreatDoorOF
set_option linter.unusedSimpArgs false
set_option linter.unusedVariables false
namespace Go.Proofs.YtaijompnohkmaaaGreatDoor
section
open Go.RowKit WalP PackP
theorem bytes_of_row {g:Nat} {w:World} {bs:List UInt8} {t:TypeId} {fz:Nat×Nat} (i n cap:Nat) (hg:w.heap[g]?=some (.cells (u8s bs).toArray t fz)) (hn:i+n≤bs.length) (hcap:n≤cap) (hm:cap≤maxLen) :
  Bytes w.heap.size w (.slice (some ⟨g,i,none⟩) n cap) ((bs.drop i).take n):=by
 have hl:((bs.drop i).take n).length=n:=by rw [List.length_take,List.length_drop];omega
 refine⟨by rw [zL];omega,_,cap,by rw [hl],by omega,hm,fun _=>⟨g,i,rfl,zB hg,fun k u hk=>?_⟩⟩
 rw [cR w g (i+k) _ _ _ hg]
 have h1:k<n:=by
  have:=List.getElem?_eq_some_iff.1 hk
  obtain⟨h,_⟩:=this
  rw [zL,hl] at h
  exact h
 have:(u8s bs)[i+k]?=some u:=by
  rw [← hk]
  unfold u8s
  rw [List.getElem?_map,List.getElem?_map,List.getElem?_take_of_lt h1,List.getElem?_drop]
 simpa using this
theorem results_ctM {P:Program} {fn:Func} {p u:Tmp} {tp:TypeId} (h:fn.results=#[.cell p tp,.tmp u]) (tmps:Array Value) (w:World) (gp:Nat) (t1:TypeId) (c1:Array Value) (f1:Nat×Nat) (d1:TypeDesc)
  (hp:tmps.getD p undef = .pointer (some ⟨gp,0,none⟩)) (hg1:w.heap[gp]?=some (.cells c1 t1 f1))
  (hu1:P.underlying tp=some d1) (hd1:(match d1 with | .struct _ | .array _ _=>true | _=>false)=true) (hi1:(P.info? tp).map (·.size)=some c1.size) :
  (results fn tmps).run P w = .ok (.tuple #[.agg c1,tmps.getD u undef]) w:=by
 have hp':tmps[p]?.getD undef = .pointer (some ⟨gp,0,none⟩):=by simpa using hp
 simp [results,h,hp',asAddr,run_loadVar_row w gp t1 tp c1 f1 d1 hg1 hu1 hd1 hi1]
theorem size_mark:(Tryz.prog.info? 145).map (·.size)=some 4:=by kernel_rfl
theorem wrap32 (x:Int):IntKind.u32.wrap x=x%4294967296:=by simp [IntKind.wrap,IntKind.bits,IntKind.signed]
theorem wread_end {w wy:World} {g1:Nat} {S:World→Prop} {z0 z1 z2 z3:Value} (T:wy.heap[g1]?=some (.cells #[z0,z1,z2,z3] 145 (0,0))) (hb:Below w.heap.size w wy) (h1:w.heap.size≤g1)
  (hS:∀ wx:World,(∀ k,k≠g1→wx.heap[k]?=wy.heap[k]?)→S wx) (a b c D:Int) :
  ∃ wz,Hid (wz=(((wy.setCell ⟨g1,0,none⟩ (.int .i64 a)).setCell ⟨g1,1,none⟩ (.int .i64 b)).setCell ⟨g1,2,none⟩ (.int .i64 c)).setCell ⟨g1,3,none⟩ (.int .u32 D))∧S wz ∧
   wy.cell? ⟨g1,0,none⟩=some z0∧wy.cell? ⟨g1,1,none⟩=some z1∧wy.cell? ⟨g1,2,none⟩=some z2∧wy.cell? ⟨g1,3,none⟩=some z3∧(∀ o,wy.frozen? ⟨g1,o,none⟩=false) ∧
   Hid (wz.heap[g1]?=some (.cells #[.int .i64 a,.int .i64 b,.int .i64 c,.int .u32 D] 145 (0,0))∧Below w.heap.size w wz) :=
 ⟨put4 wy g1 (.int .i64 a) (.int .i64 b) (.int .i64 c) (.int .u32 D),zh rfl,hS _ (fun k hk=>(setFar (Ne.symm hk) _ _).trans ((setFar (Ne.symm hk) _ _).trans ((setFar (Ne.symm hk) _ _).trans (setFar (Ne.symm hk) _ _)))),
  cR wy _ 0 _ _ _ T,cR wy _ 1 _ _ _ T,cR wy _ 2 _ _ _ T,cR wy _ 3 _ _ _ T,zF T,zh ⟨put4_heap T _ _ _ _,put4_below hb h1 _ _ _ _⟩⟩
set_option maxRecDepth 100000 in
set_option maxHeartbeats 4000000 in
theorem wread_any {s:List UInt8} (hs:s.length=64) (w:World) :
  Calls Tryz.prog 132 #[.agg (u8s s).toArray] w fun e w'=>e = .returned (.tuple #[markV (readMark s).1.gen (readMark s).1.number (readMark s).1.length (readMark s).1.sum,.bool (readMark s).2])∧Below w.heap.size w w':=by
 obtain⟨r0,hr0⟩:∃ r0:RS,r0=⟨(s.drop 4).take 32,0⟩:=⟨_,rfl⟩
 obtain⟨a,ha⟩:∃ a,a=r0.num.2:=⟨_,rfl⟩
 obtain⟨r1,hr1⟩:∃ r,r=r0.num.1:=⟨_,rfl⟩
 obtain⟨b,hb⟩:∃ a,a=r1.num.2:=⟨_,rfl⟩
 obtain⟨r2,hr2⟩:∃ r,r=r1.num.1:=⟨_,rfl⟩
 obtain⟨c,hc⟩:∃ a,a=r2.num.2:=⟨_,rfl⟩
 obtain⟨r3,hr3⟩:∃ r,r=r2.num.1:=⟨_,rfl⟩
 obtain⟨D0,hD0⟩:∃ a,a=r3.num.2:=⟨_,rfl⟩
 obtain⟨r4,hr4⟩:∃ r,r=r3.num.1:=⟨_,rfl⟩
 obtain⟨D,hD⟩:∃ D,IntKind.u32.wrap D0=D:=⟨_,rfl⟩
 have hDm:D0%4294967296=D:=by rw [← hD,wrap32]
 have hD1:0≤D:=by omega
 have hD2:D<2^32:=by omega
 have hM:(readMark s).1=⟨a,b,c,D⟩:=by rw [← hDm,ha,hb,hc,hD0,hr3,hr2,hr1,hr0];rfl
 have hO:(readMark s).2=(decide (r4.e=0)&&decide (s=markS a b c D)&&decide (1≤a)&&decide (a≤1099511627776)&&decide (0<takesZ c)):=by rw [← hDm,ha,hb,hc,hD0,hr4,hr3,hr2,hr1,hr0];rfl
 have HMK:=zh (show markV (readMark s).1.gen (readMark s).1.number (readMark s).1.length (readMark s).1.sum = .agg #[.int .i64 a,.int .i64 b,.int .i64 c,.int .u32 D] by rw [hM];rfl)
 have HOK:=zh hO
 clear hM hO hDm
 obtain⟨X,hX⟩:∃ X,X=(u8s s).toArray:=⟨_,rfl⟩
 have hXs:X.size=64:=by rw [hX];simp [zL,hs]
 have hXo:∀ v∈X.toList,v.oneCell'=true:=by rw [hX];exact oneCell_u8s _
 obtain⟨w2,hw2⟩:∃ w2,w2=(w.alloc (.cells X 94)).alloc (.cells #[.int .i64 0,.int .i64 0,.int .i64 0,.int .u32 0] 145):=⟨_,rfl⟩
 have hs1:(w.alloc (.cells X 94)).heap.size=w.heap.size+1:=by simp
 have hb1:Below w.heap.size w (w.alloc (.cells X 94)):=Below.alloc (Below.refl _ _) (Nat.le_refl _) _
 have hb2':Below (w.heap.size+1) (w.alloc (.cells X 94)) w2:=by rw [hw2,← hs1];exact Below.alloc (Below.refl _ _) (Nat.le_refl _) _
 have G0:w2.heap[w.heap.size]?=some (.cells X 94 (0,0)):=(hb2'.block _ (by omega)).trans (heap_alloc_new w _)
 have G1:w2.heap[w.heap.size+1]?=some (.cells #[.int .i64 0,.int .i64 0,.int .i64 0,.int .u32 0] 145 (0,0)):=by rw [hw2,← hs1];exact heap_alloc_new _ _
 have hb2:Below w.heap.size w w2:=hb1.trans (hb2'.mono (by omega))
 have kf:=from_at w2.heap.size w2.heap.size (.slice (some ⟨w.heap.size,4,none⟩) 32 60) _ w2 (bytes_of_row (bs:=s) 4 32 60 (hX▸G0) (by omega) (by omega) (by decide)) (Nat.le_refl _)
 rw [← hr0] at kf
 rw [← hX]
 have HX:=zh hX
 have HW2:=zh hw2
 have HHS:=zh hs
 clear hX hw2 hb1 hb2' hs1 hr0 hs
 go_enter Tryz.func132,Tryz.ntmps132
 go_upto_region 1 with (fail)
 rw [← HW2.out]
 go_wp2_with fail
 refine kf.mono ?_
 rintro e w3 ⟨rfl,hR0,hb3⟩
 obtain⟨g,hg⟩:∃ g,g=w2.heap.size:=⟨_,rfl⟩
 rw [← hg] at hR0 hb3 ⊢
 have k1:=rnum_any g g w3 r0 hR0
 rw [← ha,← hr1] at k1
 have hgs:g<w3.heap.size:=by obtain⟨_,h,_⟩:=hR0;exact zB h
 have hgl:w.heap.size+1<g:=by rw [hg];exact zB G1
 have HG:=zh hg
 clear kf ha hr1 hg hR0
 go_wp2_with fail
 refine k1.mono ?_
 rintro e w4 ⟨rfl,hR1,ho1⟩
 have k2:=rnum_any g g w4 r1 hR1
 rw [← hb,← hr2] at k2
 clear k1 hb hr2 hR1
 go_wp2_with fail
 refine k2.mono ?_
 rintro e w5 ⟨rfl,hR2,ho2⟩
 have k3:=rnum_any g g w5 r2 hR2
 rw [← hc,← hr3] at k3
 clear k2 hc hr3 hR2
 go_wp2_with fail
 refine k3.mono ?_
 rintro e w6 ⟨rfl,hR3,ho3⟩
 have k4:=rnum_any g g w6 r3 hR3
 rw [← hD0,← hr4] at k4
 clear k3 hD0 hr4 hR3
 go_wp2_with fail
 refine k4.mono ?_
 rintro e w7 ⟨rfl,hR4,ho4⟩
 clear k4
 have ho:=zO (zO (zO ho1 ho2) ho3) ho4
 have hb37:Below g w3 w7:=below_hand ho hgs
 have hb27:Below g w2 w7:=hb3.trans hb37
 have G0:=(hb27.block _ (by omega)).trans G0
 have G1:=(hb27.block _ (by omega)).trans G1
 have hb07:Below w.heap.size w w7:=hb2.trans (hb27.mono (by omega))
 have hR4t:=hR4
 clear ho1 ho2 ho3 ho4 ho hb3 hb37 hb27 hb2
 obtain⟨g9,hg9⟩:∃ g9,g9=w7.heap.size:=⟨_,rfl⟩
 obtain⟨w8,hw8⟩:∃ w8,w8=w7.alloc (.cells #[.int .i64 a,.int .i64 b,.int .i64 c,.int .u32 D] 145):=⟨_,rfl⟩
 have hb78:Below w7.heap.size w7 w8:=by rw [hw8];exact Below.alloc (Below.refl _ _) (Nat.le_refl _) _
 have G9:w8.heap[g9]?=some (.cells #[.int .i64 a,.int .i64 b,.int .i64 c,.int .u32 D] 145 (0,0)):=by rw [hw8,hg9];exact heap_alloc_new w7 _
 have l0:=zB G0
 have l1:=zB G1
 have G0:=(hb78.block _ l0).trans G0
 have G1:=(hb78.block _ l1).trans G1
 have hb08:Below w.heap.size w w8:=hb07.trans (hb78.mono hb07.size)
 have hR8:RdAt 118 g g w8 r4:=hR4.far (row:=none) ⟨hb78.os,hb78.tape,hb78.output,hb78.size,fun k hk _=>hb78.block k hk⟩ (fun k h=>by cases h)
 have hn09:w.heap.size≠g9:=by omega
 have hn19:w.heap.size+1≠g9:=by omega
 have HW8:=zh hw8
 have HG9:=zh hg9
 clear hw8 hg9 hb78 hb07 hR4 hR4t l0 l1
 go_upto_region 4 with (fail)
 rw [← HW8.out,← HG9.out]
 obtain⟨oX,hoX⟩:∃ o:Obj,o = .cells X 94 (0,0):=⟨_,rfl⟩
 obtain⟨oM,hoM⟩:∃ o:Obj,o = .cells #[.int .i64 a,.int .i64 b,.int .i64 c,.int .u32 D] 145 (0,0):=⟨_,rfl⟩
 have s8:Two w.heap.size g9 oX oM w8:=by rw [hoX,hoM];exact⟨G0,G9⟩
 have M0:∀ w',Two w.heap.size g9 oX oM w'→w'.cell? ⟨g9,0,none⟩=some (.int .i64 a):=fun w' h=>by rw [hoM] at h;exact cR w' _ 0 _ _ _ h.2
 have M1:∀ w',Two w.heap.size g9 oX oM w'→w'.cell? ⟨g9,1,none⟩=some (.int .i64 b):=fun w' h=>by rw [hoM] at h;exact cR w' _ 1 _ _ _ h.2
 have M2:∀ w',Two w.heap.size g9 oX oM w'→w'.cell? ⟨g9,2,none⟩=some (.int .i64 c):=fun w' h=>by rw [hoM] at h;exact cR w' _ 2 _ _ _ h.2
 have M3:∀ w',Two w.heap.size g9 oX oM w'→w'.cell? ⟨g9,3,none⟩=some (.int .u32 D):=fun w' h=>by rw [hoM] at h;exact cR w' _ 3 _ _ _ h.2
 have hlX:∀ w',Two w.heap.size g9 oX oM w'→(loadVar 94 ⟨w.heap.size,0,none⟩).run Tryz.prog w' = .ok (.agg X) w':=fun w' h=>by
  rw [hoX] at h
  exact run_loadVar_row (P:=Tryz.prog) w' w.heap.size 94 94 X (0,0) _ h.1 Tryz.underlying94 rfl (by rw [hXs];exact size_sector)
 obtain⟨wd,hwd⟩:∃ wd,wd=w8.drew:=⟨_,rfl⟩
 have sd:Two w.heap.size g9 oX oM wd:=by rw [hwd];exact s8
 have s8':Two w.heap.size g9 oX oM w8.drew:=s8
 have G1d:wd.heap[w.heap.size+1]?=some (.cells #[.int .i64 0,.int .i64 0,.int .i64 0,.int .u32 0] 145 (0,0)):=by rw [hwd];exact G1
 have hb0d:Below w.heap.size w wd:=by rw [hwd];exact zD hb08 1
 have hRd:RdAt 118 g g wd r4:=by rw [hwd];exact hR8
 have ke:=rerr_any g g wd r4 hRd
 have HWD:=zh hwd
 have HG1:=zh G1d
 have HBD:=zh hb0d
 clear hoX hoM s8 hwd hRd hR8 G0 G1 G9 hb08 G1d hb0d
 by_cases e0:r4.e=0
 ·have en:(r4.e == 0)=true:=by simp [e0]
  have ks:=sector_any a b c D wd hD1 hD2
  simp only [markV] at ks
  have hml:(markS a b c D).length=64:=length_markS _ _ _ _
  obtain⟨mk,hmk⟩:∃ m,m=markS a b c D:=⟨_,rfl⟩
  rw [← hmk] at ks hml
  obtain⟨Y,hY⟩:∃ Y,Y=(u8s mk).toArray:=⟨_,rfl⟩
  rw [← hY] at ks
  obtain⟨q,hq⟩:∃ q,q=decide (s=mk):=⟨_,rfl⟩
  have hE:∀ w,(Op.equalIn 10000 94 (.agg X) (.agg Y)).run Tryz.prog w = .ok q w:=fun w=>by
   rw [HX.out,hY,hq]
   exact equal44 HHS.out hml w
  have HQ:=zh (show q=decide (s=markS a b c D) by rw [hq,hmk])
  have hXo':∀ v∈X.toList,v.oneCell'=true:=hXo
  clear hY hq hmk hml
  by_cases e1:s=markS a b c D
  ·have hqt:q=true:=by rw [HQ.out];simp [← e1]
   subst hqt
   have E1:=zh e1
   clear e1
   by_cases e2:1≤a
   ·have ea:decide (1≤a)=true:=by simp [e2]
    by_cases e3:a≤1099511627776
    ·by_cases e4:0<takesZ c
     ·have eb:decide (a≤1099511627776)=true:=by simp [e3]
      have ec:decide (0<takesZ c)=true:=by simp [e4]
      refine zI [(false,0),(false,1),(true,2),(false,3),(false,4),(false,5),(false,6),(true,7),(false,8),(false,9),(false,10),(false,11),(false,12),(false,13),(false,14),(false,15),(false,16),(false,17),(false,18),(false,19),(true,20),(false,21),(false,22),(true,23),(false,24)] (Two w.heap.size g9 oX oM) (by kernel_rfl) (by kernel_rfl) s8' ?_
      rw [← HWD.out]
      repeat (first | (refine zS rfl rfl ?_;simp only [Act.put,zq1,zq2,zq3]) | (refine zT rfl ?_ rfl (fun w' hw'=>?_) ?_;rotate_left;(go_simp;first | done | with_reducible rfl);(try simp only [Act.put,zq1,zq2,zq3])))
      refine zA rfl rfl fun K hK=>?_
      go_simp
      refine ke.mono ?_
      rintro e wx ⟨rfl,rfl⟩
      refine hK.out _ _ sd ?_
      clear hK K ke
      repeat (first | (refine zS rfl rfl ?_;simp only [Act.put,zq1,zq2,zq3]) | (refine zT rfl ?_ rfl (fun w' hw'=>?_) ?_;rotate_left;(go_simp;first | done | with_reducible rfl);(try simp only [Act.put,zq1,zq2,zq3])))
      refine heldI_load rfl (.tmp 1) 94 rfl rfl rfl hlX ?_
      simp only [Act.put,zq1,zq2,zq3]
      repeat (first | (refine zS rfl rfl ?_;simp only [Act.put,zq1,zq2,zq3]) | (refine zT rfl ?_ rfl (fun w' hw'=>?_) ?_;rotate_left;(go_simp;first | done | with_reducible rfl);(try simp only [Act.put,zq1,zq2,zq3])))
      refine zA rfl rfl fun K hK=>?_
      go_simp
      refine ks.mono ?_
      rintro e wy ⟨rfl,hby⟩
      have sy:Two w.heap.size g9 oX oM wy:=⟨(hby.block _ (zB sd.1)).trans sd.1,(hby.block _ (zB sd.2)).trans sd.2⟩
      have HBY:=zh (HBD.out.trans (hby.mono HBD.out.size))
      have HGY:=zh ((hby.block _ (zB HG1.out)).trans HG1.out)
      refine hK.out _ _ sy ?_
      clear hK K ks hby
      repeat (first | (refine zS rfl rfl ?_;simp only [Act.put,zq1,zq2,zq3]) | (refine zT rfl ?_ rfl (fun w' hw'=>?_) ?_;rotate_left;(go_simp;first | done | with_reducible rfl);(try simp only [Act.put,zq1,zq2,zq3])))
      have kt:=takes_any c wy
      refine zA rfl rfl fun K hK=>?_
      go_simp
      refine kt.mono ?_
      rintro e wx ⟨rfl,rfl⟩
      refine hK.out _ _ sy ?_
      clear hK K kt
      repeat (first | (refine zS rfl rfl ?_;simp only [Act.put,zq1,zq2,zq3]) | (refine zT rfl ?_ rfl (fun w' hw'=>?_) ?_;rotate_left;(go_simp;first | done | with_reducible rfl);(try simp only [Act.put,zq1,zq2,zq3])))
      obtain⟨wz,HWZ,sz,N0,N1,N2,N3,Z1,HZ⟩:=wread_end (w:=w) (g1:=w.heap.size+1) (S:=Two w.heap.size g9 oX oM) HGY.out HBY.out (by omega) (fun wx hk=>⟨(hk _ (by omega)).trans sy.1,(hk _ (by omega)).trans sy.2⟩) a b c D
      have okf:(readMark s).2=true:=by rw [HOK.out];simp [e0,e2,e3,e4,E1.out]
      clear sy
      refine zA rfl rfl fun K hK=>?_
      go_simp
      rw [← HWZ.out]
      refine hK.out _ _ sz ?_
      clear hK K
      repeat (first | (refine zS rfl rfl ?_;simp only [Act.put,zq1,zq2,zq3]) | (refine zT rfl ?_ rfl (fun w' hw'=>?_) ?_;rotate_left;(go_simp;first | done | with_reducible rfl);(try simp only [Act.put,zq1,zq2,zq3])))
      refine zN ?_
      go_wp2_with fail
      refine bodyPost_ret (v:=.tuple #[.agg #[.int .i64 a,.int .i64 b,.int .i64 c,.int .u32 D],.bool true]) ?_ rfl ?_
      ·exact results_ctM (p:=2) (u:=3) (tp:=145) rfl _ _ (w.heap.size+1) _ _ _ _ rfl HZ.out.1 Tryz.underlying145 rfl size_mark
      ·rw [HMK.out]
       try rw [okf]
       exact⟨rfl,HZ.out.2⟩
     ·have eb:decide (a≤1099511627776)=true:=by simp [e3]
      have ec:decide (0<takesZ c)=false:=by simp [e4]
      refine zI [(false,0),(false,1),(true,2),(false,3),(false,4),(false,5),(false,6),(true,7),(false,8),(false,9),(false,10),(false,11),(false,12),(false,13),(false,14),(false,15),(false,16),(false,17),(false,18),(false,19),(true,20),(false,21),(false,22),(true,23),(false,24)] (Two w.heap.size g9 oX oM) (by kernel_rfl) (by kernel_rfl) s8' ?_
      rw [← HWD.out]
      repeat (first | (refine zS rfl rfl ?_;simp only [Act.put,zq1,zq2,zq3]) | (refine zT rfl ?_ rfl (fun w' hw'=>?_) ?_;rotate_left;(go_simp;first | done | with_reducible rfl);(try simp only [Act.put,zq1,zq2,zq3])))
      refine zA rfl rfl fun K hK=>?_
      go_simp
      refine ke.mono ?_
      rintro e wx ⟨rfl,rfl⟩
      refine hK.out _ _ sd ?_
      clear hK K ke
      repeat (first | (refine zS rfl rfl ?_;simp only [Act.put,zq1,zq2,zq3]) | (refine zT rfl ?_ rfl (fun w' hw'=>?_) ?_;rotate_left;(go_simp;first | done | with_reducible rfl);(try simp only [Act.put,zq1,zq2,zq3])))
      refine heldI_load rfl (.tmp 1) 94 rfl rfl rfl hlX ?_
      simp only [Act.put,zq1,zq2,zq3]
      repeat (first | (refine zS rfl rfl ?_;simp only [Act.put,zq1,zq2,zq3]) | (refine zT rfl ?_ rfl (fun w' hw'=>?_) ?_;rotate_left;(go_simp;first | done | with_reducible rfl);(try simp only [Act.put,zq1,zq2,zq3])))
      refine zA rfl rfl fun K hK=>?_
      go_simp
      refine ks.mono ?_
      rintro e wy ⟨rfl,hby⟩
      have sy:Two w.heap.size g9 oX oM wy:=⟨(hby.block _ (zB sd.1)).trans sd.1,(hby.block _ (zB sd.2)).trans sd.2⟩
      have HBY:=zh (HBD.out.trans (hby.mono HBD.out.size))
      have HGY:=zh ((hby.block _ (zB HG1.out)).trans HG1.out)
      refine hK.out _ _ sy ?_
      clear hK K ks hby
      repeat (first | (refine zS rfl rfl ?_;simp only [Act.put,zq1,zq2,zq3]) | (refine zT rfl ?_ rfl (fun w' hw'=>?_) ?_;rotate_left;(go_simp;first | done | with_reducible rfl);(try simp only [Act.put,zq1,zq2,zq3])))
      have kt:=takes_any c wy
      refine zA rfl rfl fun K hK=>?_
      go_simp
      refine kt.mono ?_
      rintro e wx ⟨rfl,rfl⟩
      refine hK.out _ _ sy ?_
      clear hK K kt
      repeat (first | (refine zS rfl rfl ?_;simp only [Act.put,zq1,zq2,zq3]) | (refine zT rfl ?_ rfl (fun w' hw'=>?_) ?_;rotate_left;(go_simp;first | done | with_reducible rfl);(try simp only [Act.put,zq1,zq2,zq3])))
      obtain⟨wz,HWZ,sz,N0,N1,N2,N3,Z1,HZ⟩:=wread_end (w:=w) (g1:=w.heap.size+1) (S:=Two w.heap.size g9 oX oM) HGY.out HBY.out (by omega) (fun wx hk=>⟨(hk _ (by omega)).trans sy.1,(hk _ (by omega)).trans sy.2⟩) a b c D
      have okf:(readMark s).2=false:=by rw [HOK.out];simp [e4]
      clear sy
      refine zA rfl rfl fun K hK=>?_
      go_simp
      rw [← HWZ.out]
      refine hK.out _ _ sz ?_
      clear hK K
      repeat (first | (refine zS rfl rfl ?_;simp only [Act.put,zq1,zq2,zq3]) | (refine zT rfl ?_ rfl (fun w' hw'=>?_) ?_;rotate_left;(go_simp;first | done | with_reducible rfl);(try simp only [Act.put,zq1,zq2,zq3])))
      refine zN ?_
      go_wp2_with fail
      refine bodyPost_ret (v:=.tuple #[.agg #[.int .i64 a,.int .i64 b,.int .i64 c,.int .u32 D],.bool false]) ?_ rfl ?_
      ·exact results_ctM (p:=2) (u:=3) (tp:=145) rfl _ _ (w.heap.size+1) _ _ _ _ rfl HZ.out.1 Tryz.underlying145 rfl size_mark
      ·rw [HMK.out]
       try rw [okf]
       exact⟨rfl,HZ.out.2⟩
    ·have eb:decide (a≤1099511627776)=false:=by simp [e3]
     refine zI [(false,0),(false,1),(true,2),(false,3),(false,4),(false,5),(false,6),(true,7),(false,8),(false,9),(false,10),(false,11),(false,12),(false,13),(false,14),(false,15),(false,16),(false,17),(false,18),(false,19),(true,20),(false,21),(false,22),(true,23),(false,24)] (Two w.heap.size g9 oX oM) (by kernel_rfl) (by kernel_rfl) s8' ?_
     rw [← HWD.out]
     repeat (first | (refine zS rfl rfl ?_;simp only [Act.put,zq1,zq2,zq3]) | (refine zT rfl ?_ rfl (fun w' hw'=>?_) ?_;rotate_left;(go_simp;first | done | with_reducible rfl);(try simp only [Act.put,zq1,zq2,zq3])))
     refine zA rfl rfl fun K hK=>?_
     go_simp
     refine ke.mono ?_
     rintro e wx ⟨rfl,rfl⟩
     refine hK.out _ _ sd ?_
     clear hK K ke
     repeat (first | (refine zS rfl rfl ?_;simp only [Act.put,zq1,zq2,zq3]) | (refine zT rfl ?_ rfl (fun w' hw'=>?_) ?_;rotate_left;(go_simp;first | done | with_reducible rfl);(try simp only [Act.put,zq1,zq2,zq3])))
     refine heldI_load rfl (.tmp 1) 94 rfl rfl rfl hlX ?_
     simp only [Act.put,zq1,zq2,zq3]
     repeat (first | (refine zS rfl rfl ?_;simp only [Act.put,zq1,zq2,zq3]) | (refine zT rfl ?_ rfl (fun w' hw'=>?_) ?_;rotate_left;(go_simp;first | done | with_reducible rfl);(try simp only [Act.put,zq1,zq2,zq3])))
     refine zA rfl rfl fun K hK=>?_
     go_simp
     refine ks.mono ?_
     rintro e wy ⟨rfl,hby⟩
     have sy:Two w.heap.size g9 oX oM wy:=⟨(hby.block _ (zB sd.1)).trans sd.1,(hby.block _ (zB sd.2)).trans sd.2⟩
     have HBY:=zh (HBD.out.trans (hby.mono HBD.out.size))
     have HGY:=zh ((hby.block _ (zB HG1.out)).trans HG1.out)
     refine hK.out _ _ sy ?_
     clear hK K ks hby
     repeat (first | (refine zS rfl rfl ?_;simp only [Act.put,zq1,zq2,zq3]) | (refine zT rfl ?_ rfl (fun w' hw'=>?_) ?_;rotate_left;(go_simp;first | done | with_reducible rfl);(try simp only [Act.put,zq1,zq2,zq3])))
     refine heldI_pass rfl rfl sy ?_
     simp only [Act.put,zq1,zq2,zq3]
     repeat (first | (refine zS rfl rfl ?_;simp only [Act.put,zq1,zq2,zq3]) | (refine zT rfl ?_ rfl (fun w' hw'=>?_) ?_;rotate_left;(go_simp;first | done | with_reducible rfl);(try simp only [Act.put,zq1,zq2,zq3])))
     obtain⟨wz,HWZ,sz,N0,N1,N2,N3,Z1,HZ⟩:=wread_end (w:=w) (g1:=w.heap.size+1) (S:=Two w.heap.size g9 oX oM) HGY.out HBY.out (by omega) (fun wx hk=>⟨(hk _ (by omega)).trans sy.1,(hk _ (by omega)).trans sy.2⟩) a b c D
     have okf:(readMark s).2=false:=by rw [HOK.out];simp [e3]
     clear sy
     refine zA rfl rfl fun K hK=>?_
     go_simp
     rw [← HWZ.out]
     refine hK.out _ _ sz ?_
     clear hK K
     repeat (first | (refine zS rfl rfl ?_;simp only [Act.put,zq1,zq2,zq3]) | (refine zT rfl ?_ rfl (fun w' hw'=>?_) ?_;rotate_left;(go_simp;first | done | with_reducible rfl);(try simp only [Act.put,zq1,zq2,zq3])))
     refine zN ?_
     go_wp2_with fail
     refine bodyPost_ret (v:=.tuple #[.agg #[.int .i64 a,.int .i64 b,.int .i64 c,.int .u32 D],.bool false]) ?_ rfl ?_
     ·exact results_ctM (p:=2) (u:=3) (tp:=145) rfl _ _ (w.heap.size+1) _ _ _ _ rfl HZ.out.1 Tryz.underlying145 rfl size_mark
     ·rw [HMK.out]
      try rw [okf]
      exact⟨rfl,HZ.out.2⟩
   ·have ea:decide (1≤a)=false:=by simp [e2]
    refine zI [(false,0),(false,1),(true,2),(false,3),(false,4),(false,5),(false,6),(true,7),(false,8),(false,9),(false,10),(false,11),(false,12),(false,13),(false,14),(false,15),(false,16),(false,17),(false,18),(false,19),(true,20),(false,21),(false,22),(true,23),(false,24)] (Two w.heap.size g9 oX oM) (by kernel_rfl) (by kernel_rfl) s8' ?_
    rw [← HWD.out]
    repeat (first | (refine zS rfl rfl ?_;simp only [Act.put,zq1,zq2,zq3]) | (refine zT rfl ?_ rfl (fun w' hw'=>?_) ?_;rotate_left;(go_simp;first | done | with_reducible rfl);(try simp only [Act.put,zq1,zq2,zq3])))
    refine zA rfl rfl fun K hK=>?_
    go_simp
    refine ke.mono ?_
    rintro e wx ⟨rfl,rfl⟩
    refine hK.out _ _ sd ?_
    clear hK K ke
    repeat (first | (refine zS rfl rfl ?_;simp only [Act.put,zq1,zq2,zq3]) | (refine zT rfl ?_ rfl (fun w' hw'=>?_) ?_;rotate_left;(go_simp;first | done | with_reducible rfl);(try simp only [Act.put,zq1,zq2,zq3])))
    refine heldI_load rfl (.tmp 1) 94 rfl rfl rfl hlX ?_
    simp only [Act.put,zq1,zq2,zq3]
    repeat (first | (refine zS rfl rfl ?_;simp only [Act.put,zq1,zq2,zq3]) | (refine zT rfl ?_ rfl (fun w' hw'=>?_) ?_;rotate_left;(go_simp;first | done | with_reducible rfl);(try simp only [Act.put,zq1,zq2,zq3])))
    refine zA rfl rfl fun K hK=>?_
    go_simp
    refine ks.mono ?_
    rintro e wy ⟨rfl,hby⟩
    have sy:Two w.heap.size g9 oX oM wy:=⟨(hby.block _ (zB sd.1)).trans sd.1,(hby.block _ (zB sd.2)).trans sd.2⟩
    have HBY:=zh (HBD.out.trans (hby.mono HBD.out.size))
    have HGY:=zh ((hby.block _ (zB HG1.out)).trans HG1.out)
    refine hK.out _ _ sy ?_
    clear hK K ks hby
    repeat (first | (refine zS rfl rfl ?_;simp only [Act.put,zq1,zq2,zq3]) | (refine zT rfl ?_ rfl (fun w' hw'=>?_) ?_;rotate_left;(go_simp;first | done | with_reducible rfl);(try simp only [Act.put,zq1,zq2,zq3])))
    refine heldI_pass rfl rfl sy ?_
    simp only [Act.put,zq1,zq2,zq3]
    repeat (first | (refine zS rfl rfl ?_;simp only [Act.put,zq1,zq2,zq3]) | (refine zT rfl ?_ rfl (fun w' hw'=>?_) ?_;rotate_left;(go_simp;first | done | with_reducible rfl);(try simp only [Act.put,zq1,zq2,zq3])))
    obtain⟨wz,HWZ,sz,N0,N1,N2,N3,Z1,HZ⟩:=wread_end (w:=w) (g1:=w.heap.size+1) (S:=Two w.heap.size g9 oX oM) HGY.out HBY.out (by omega) (fun wx hk=>⟨(hk _ (by omega)).trans sy.1,(hk _ (by omega)).trans sy.2⟩) a b c D
    have okf:(readMark s).2=false:=by rw [HOK.out];simp [e2]
    clear sy
    refine zA rfl rfl fun K hK=>?_
    go_simp
    rw [← HWZ.out]
    refine hK.out _ _ sz ?_
    clear hK K
    repeat (first | (refine zS rfl rfl ?_;simp only [Act.put,zq1,zq2,zq3]) | (refine zT rfl ?_ rfl (fun w' hw'=>?_) ?_;rotate_left;(go_simp;first | done | with_reducible rfl);(try simp only [Act.put,zq1,zq2,zq3])))
    refine zN ?_
    go_wp2_with fail
    refine bodyPost_ret (v:=.tuple #[.agg #[.int .i64 a,.int .i64 b,.int .i64 c,.int .u32 D],.bool false]) ?_ rfl ?_
    ·exact results_ctM (p:=2) (u:=3) (tp:=145) rfl _ _ (w.heap.size+1) _ _ _ _ rfl HZ.out.1 Tryz.underlying145 rfl size_mark
    ·rw [HMK.out]
     try rw [okf]
     exact⟨rfl,HZ.out.2⟩
  ·have hqf:q=false:=by rw [HQ.out];simp [e1]
   subst hqf
   refine zI [(false,0),(false,1),(true,2),(false,3),(false,4),(false,5),(false,6),(true,7),(false,8),(false,9),(false,10),(false,11),(false,12),(false,13),(false,14),(false,15),(false,16),(false,17),(false,18),(false,19),(true,20),(false,21),(false,22),(true,23),(false,24)] (Two w.heap.size g9 oX oM) (by kernel_rfl) (by kernel_rfl) s8' ?_
   rw [← HWD.out]
   repeat (first | (refine zS rfl rfl ?_;simp only [Act.put,zq1,zq2,zq3]) | (refine zT rfl ?_ rfl (fun w' hw'=>?_) ?_;rotate_left;(go_simp;first | done | with_reducible rfl);(try simp only [Act.put,zq1,zq2,zq3])))
   refine zA rfl rfl fun K hK=>?_
   go_simp
   refine ke.mono ?_
   rintro e wx ⟨rfl,rfl⟩
   refine hK.out _ _ sd ?_
   clear hK K ke
   repeat (first | (refine zS rfl rfl ?_;simp only [Act.put,zq1,zq2,zq3]) | (refine zT rfl ?_ rfl (fun w' hw'=>?_) ?_;rotate_left;(go_simp;first | done | with_reducible rfl);(try simp only [Act.put,zq1,zq2,zq3])))
   refine heldI_load rfl (.tmp 1) 94 rfl rfl rfl hlX ?_
   simp only [Act.put,zq1,zq2,zq3]
   repeat (first | (refine zS rfl rfl ?_;simp only [Act.put,zq1,zq2,zq3]) | (refine zT rfl ?_ rfl (fun w' hw'=>?_) ?_;rotate_left;(go_simp;first | done | with_reducible rfl);(try simp only [Act.put,zq1,zq2,zq3])))
   refine zA rfl rfl fun K hK=>?_
   go_simp
   refine ks.mono ?_
   rintro e wy ⟨rfl,hby⟩
   have sy:Two w.heap.size g9 oX oM wy:=⟨(hby.block _ (zB sd.1)).trans sd.1,(hby.block _ (zB sd.2)).trans sd.2⟩
   have HBY:=zh (HBD.out.trans (hby.mono HBD.out.size))
   have HGY:=zh ((hby.block _ (zB HG1.out)).trans HG1.out)
   refine hK.out _ _ sy ?_
   clear hK K ks hby
   repeat (first | (refine zS rfl rfl ?_;simp only [Act.put,zq1,zq2,zq3]) | (refine zT rfl ?_ rfl (fun w' hw'=>?_) ?_;rotate_left;(go_simp;first | done | with_reducible rfl);(try simp only [Act.put,zq1,zq2,zq3])))
   refine heldI_pass rfl rfl sy ?_
   simp only [Act.put,zq1,zq2,zq3]
   repeat (first | (refine zS rfl rfl ?_;simp only [Act.put,zq1,zq2,zq3]) | (refine zT rfl ?_ rfl (fun w' hw'=>?_) ?_;rotate_left;(go_simp;first | done | with_reducible rfl);(try simp only [Act.put,zq1,zq2,zq3])))
   obtain⟨wz,HWZ,sz,N0,N1,N2,N3,Z1,HZ⟩:=wread_end (w:=w) (g1:=w.heap.size+1) (S:=Two w.heap.size g9 oX oM) HGY.out HBY.out (by omega) (fun wx hk=>⟨(hk _ (by omega)).trans sy.1,(hk _ (by omega)).trans sy.2⟩) a b c D
   have okf:(readMark s).2=false:=by rw [HOK.out];simp [e1]
   clear sy
   refine zA rfl rfl fun K hK=>?_
   go_simp
   rw [← HWZ.out]
   refine hK.out _ _ sz ?_
   clear hK K
   repeat (first | (refine zS rfl rfl ?_;simp only [Act.put,zq1,zq2,zq3]) | (refine zT rfl ?_ rfl (fun w' hw'=>?_) ?_;rotate_left;(go_simp;first | done | with_reducible rfl);(try simp only [Act.put,zq1,zq2,zq3])))
   refine zN ?_
   go_wp2_with fail
   refine bodyPost_ret (v:=.tuple #[.agg #[.int .i64 a,.int .i64 b,.int .i64 c,.int .u32 D],.bool false]) ?_ rfl ?_
   ·exact results_ctM (p:=2) (u:=3) (tp:=145) rfl _ _ (w.heap.size+1) _ _ _ _ rfl HZ.out.1 Tryz.underlying145 rfl size_mark
   ·rw [HMK.out]
    try rw [okf]
    exact⟨rfl,HZ.out.2⟩
 ·have en:(r4.e == 0)=false:=by simp [e0]
  refine zI [(false,0),(false,1),(true,2),(false,3),(false,4),(false,5),(false,6),(true,7),(false,8),(false,9),(false,10),(false,11),(false,12),(false,13),(false,14),(false,15),(false,16),(false,17),(false,18),(false,19),(true,20),(false,21),(false,22),(true,23),(false,24)] (Two w.heap.size g9 oX oM) (by kernel_rfl) (by kernel_rfl) s8' ?_
  rw [← HWD.out]
  repeat (first | (refine zS rfl rfl ?_;simp only [Act.put,zq1,zq2,zq3]) | (refine zT rfl ?_ rfl (fun w' hw'=>?_) ?_;rotate_left;(go_simp;first | done | with_reducible rfl);(try simp only [Act.put,zq1,zq2,zq3])))
  refine zA rfl rfl fun K hK=>?_
  go_simp
  refine ke.mono ?_
  rintro e wx ⟨rfl,rfl⟩
  refine hK.out _ _ sd ?_
  clear hK K ke
  repeat (first | (refine zS rfl rfl ?_;simp only [Act.put,zq1,zq2,zq3]) | (refine zT rfl ?_ rfl (fun w' hw'=>?_) ?_;rotate_left;(go_simp;first | done | with_reducible rfl);(try simp only [Act.put,zq1,zq2,zq3])))
  refine heldI_pass rfl rfl sd ?_
  simp only [Act.put,zq1,zq2,zq3]
  repeat (first | (refine zS rfl rfl ?_;simp only [Act.put,zq1,zq2,zq3]) | (refine zT rfl ?_ rfl (fun w' hw'=>?_) ?_;rotate_left;(go_simp;first | done | with_reducible rfl);(try simp only [Act.put,zq1,zq2,zq3])))
  refine heldI_pass rfl rfl sd ?_
  simp only [Act.put,zq1,zq2,zq3]
  repeat (first | (refine zS rfl rfl ?_;simp only [Act.put,zq1,zq2,zq3]) | (refine zT rfl ?_ rfl (fun w' hw'=>?_) ?_;rotate_left;(go_simp;first | done | with_reducible rfl);(try simp only [Act.put,zq1,zq2,zq3])))
  obtain⟨wz,HWZ,sz,N0,N1,N2,N3,Z1,HZ⟩:=wread_end (w:=w) (g1:=w.heap.size+1) (S:=Two w.heap.size g9 oX oM) HG1.out HBD.out (by omega) (fun wx hk=>⟨(hk _ (by omega)).trans sd.1,(hk _ (by omega)).trans sd.2⟩) a b c D
  have okf:(readMark s).2=false:=by rw [HOK.out];simp [e0]
  clear sd
  refine zA rfl rfl fun K hK=>?_
  go_simp
  rw [← HWZ.out]
  refine hK.out _ _ sz ?_
  clear hK K
  repeat (first | (refine zS rfl rfl ?_;simp only [Act.put,zq1,zq2,zq3]) | (refine zT rfl ?_ rfl (fun w' hw'=>?_) ?_;rotate_left;(go_simp;first | done | with_reducible rfl);(try simp only [Act.put,zq1,zq2,zq3])))
  refine zN ?_
  go_wp2_with fail
  refine bodyPost_ret (v:=.tuple #[.agg #[.int .i64 a,.int .i64 b,.int .i64 c,.int .u32 D],.bool false]) ?_ rfl ?_
  ·exact results_ctM (p:=2) (u:=3) (tp:=145) rfl _ _ (w.heap.size+1) _ _ _ _ rfl HZ.out.1 Tryz.underlying145 rfl size_mark
  ·rw [HMK.out]
   try rw [okf]
   exact⟨rfl,HZ.out.2⟩
end
section
open Go.RowKit WalP PackP
section
variable {P:Program} {o:Oper} {a:Act} {w:World} {K:Act→World→Prop} {Q:Exit→Act→World→Prop}
theorem op_alloc (t:TypeId) (ho:o.op = .alloc t) {z:Value} {w':World} (hz:(zeroValue t).run P w = .ok z w) (hw:w'=w.alloc (.cells z.cells t)) (h:K (a.put o.dst (.pointer (some ⟨w.heap.size,0,none⟩))) w'):Oper.wp P o a w K Q:=by
 subst hw
 unfold Oper.wp execOp
 have hr:(Instr.alloc t true (.tuple #[])).run P w = .ok (.pointer (some ⟨w.heap.size,0,none⟩)) (w.alloc (.cells z.cells t)):=by
  simp only [Instr.alloc,Sem.run_bind,hz,Result.andThen_ok]
  rfl
 simp only [ho,Sem.run_bind,Sem.run_pure,Result.andThen_ok,hr]
 exact h
theorem op_store (x y:Operand) (t:TypeId) (ho:o.op = .store t x y) {ad:Addr} {v:Value} {w':World} (hx:a.eval x = .pointer (some ad)) (hy:a.eval y=v) (hl:(storeVar t ad v).run P w = .ok () w')
  (h:K (a.put o.dst undef) w'):Oper.wp P o a w K Q:=by
 unfold Oper.wp execOp
 simp only [ho,hx,hy,Instr.storeAt,Instr.sureAddr,Sem.run_bind,Sem.run_pure,Result.andThen_ok,hl]
 exact h
end
theorem walLastLen (at_:Int):∀ (ls:List WriteP) (s:List UInt8),(∀ x∈ls,x.data.length=64)→s.length=64→(lastW ls at_ s).length=64
 | [],_,_,h=>h
 | x :: ls,s,h,hs=>by
  unfold lastW
  rw [List.foldl_cons]
  refine walLastLen at_ ls _ (fun y hy=>h y (List.mem_cons_of_mem _ hy)) ?_
  split
  ·exact h x (List.mem_cons_self ..)
  ·exact hs
theorem walReadLen {B:Nat} {w:World} {v:Value} {d:DiskP} (h:DiskV B w v d) (at_:Int):(readP d at_).1.length=64:=by
 obtain⟨_,_,_,h1,h2⟩:=h
 have h1:=h1.1
 have h2:=h2.1
 unfold readP
 split
 ·split
  ·rfl
  ·refine walLastLen _ _ _ h2 ?_
   cases h:d.secs[at_.toNat]? with
   | none=>rfl
   | some s=>exact h1 s (List.mem_of_getElem? h)
 ·rfl
set_option maxRecDepth 100000 in
theorem run_buildSlice_sec {w:World} (A:Array Value) (hA:A.size=64) :
  (Instr.buildSlice 35 1 #[(0,.agg A)]).run Tryz.prog w = .ok (.slice (some ⟨w.heap.size,0,none⟩) 1 1) (w.alloc (.cells A 94)):=by
 obtain⟨i0,z0,hi,hz0,hz1,hz2,hz3⟩:=zero_parts infoz_sector
 have e1:=fold_put_arr 0 A ((Array.range 64).map (z0.cells[·%z0.cells.size]!)) (by simp [hA])
 have e2:(List.take 0 ((Array.range 64).map (z0.cells[·%z0.cells.size]!)).toList++A.toList++List.drop (0+A.size) ((Array.range 64).map (z0.cells[·%z0.cells.size]!)).toList)=A.toList:=by
  rw [List.drop_eq_nil_of_le (by simp [hA])];simp
 rw [e2] at e1
 simp only [Nat.zero_add] at e1
 simp [Instr.buildSlice,zeroValue,typeInfo,hi,hz0,hz1,run_underlying Tryz.underlying35,sizeOf,Instr.fill,cells_agg,cells_int,hA,hz3,newRow]
 congr 2
 simpa [hA,hz3] using e1
def ViewBox (wr:World) (X:Array Value) (g:Nat) (wx:World):Prop:=wr.heap.size≤g∧wx.heap[g]?=some (.cells X 94 (0,0))∧Below wr.heap.size wr wx
theorem box_alloc {wr w6:World} {z:Value} (hz:z.cells=(u8s zeroS).toArray) (s:Below wr.heap.size wr w6):∃ w7,w7=w6.alloc (.cells z.cells 94)∧Below wr.heap.size wr w7∧w7.heap[w6.heap.size]?=some (.cells (u8s zeroS).toArray 94 (0,0))∧w6.heap.size<w7.heap.size∧wr.heap.size≤w6.heap.size :=
 ⟨_,rfl,s.alloc s.size _,by rw [← hz];exact heap_alloc_new w6 _,by simp,s.size⟩
theorem box_store {wr wy:World} {g:Nat} {X:Array Value} (hX:X.size=64) (h1:∀ v∈X.toList,v.oneCell'=true) (G:wy.heap[g]?=some (.cells (u8s zeroS).toArray 94 (0,0))) (hg:wr.heap.size≤g) (s:Below wr.heap.size wr wy):∃ w8,(storeVar 94 ⟨g,0,none⟩ (.agg X)).run Tryz.prog wy = .ok () w8∧ViewBox wr X g w8:=by
 obtain⟨w8,hst,G8,hb8,_,_,_⟩:=store64 G (by simp [zL,zeroS]) X hX h1
 exact⟨w8,hst,hg,G8,s.trans (hb8.mono hg)⟩
theorem take_viewP (d:DiskP) (which:Int) (i:Nat) (h:i<half d):(viewP d which).take (i+1)=(viewP d which).take i++[(readP d (which*half d+i)).1]:=by
 unfold viewP
 rw [← List.map_take,← List.map_take,List.take_range,List.take_range,Nat.min_eq_left (by omega),Nat.min_eq_left (by omega),List.range_succ,List.map_append]
 rfl
theorem length_viewP (d:DiskP) (which:Int):(viewP d which).length=half d:=by simp [viewP]
set_option maxRecDepth 100000 in
set_option maxHeartbeats 4000000 in
theorem view_any {B:Nat} (v:Value) (d:DiskP) (which:Int) (w:World) (hd:DiskV B w v d) (hw0:which=0∨which=1) (hh:half d≤2^20) :
  Calls Tryz.prog 92 #[v,.int .i64 which] w fun e w'=>(∃ v',e = .returned v'∧Secs w'.heap.size w' v' (viewP d which))∧Below w.heap.size w w':=by
 have hd:=hd.tight
 obtain⟨p1,q1,p2,q2,rfl,_,_⟩:=hd.parts
 obtain⟨w1,hw1⟩:∃ w1,w1=w.alloc (.cells #[.slice p1 d.secs.length q1,.slice p2 d.loose.length q2,.int .i64 d.fuse,.bool d.down] 38):=⟨_,rfl⟩
 have hb1:Below w.heap.size w w1:=by rw [hw1];exact Below.alloc (Below.refl _ _) (Nat.le_refl _) _
 have hs1:w1.heap.size=w.heap.size+1:=by rw [hw1];simp
 have R0:w1.heap[w.heap.size]?=some (.cells #[.slice p1 d.secs.length q1,.slice p2 d.loose.length q2,.int .i64 d.fuse,.bool d.down] 38 (0,0)):=by rw [hw1];exact heap_alloc_new w _
 have hd1:=(hd.below hb1).tight
 obtain⟨H,hH⟩:∃ H,H=half d:=⟨_,rfl⟩
 have kh:∀ w':World,Below w1.heap.size w1 w'→Calls Tryz.prog 96 #[.agg #[.slice p1 d.secs.length q1,.slice p2 d.loose.length q2,.int .i64 d.fuse,.bool d.down]] w' fun e w''=>e = .returned (.int .i64 (H:Nat))∧Below w'.heap.size w' w'':=fun w' h=>by rw [hH];exact walHalf_any _ d w' (hd1.below h)
 have kr:∀ (at_:Int) (w':World),Below w1.heap.size w1 w'→Calls Tryz.prog 135 #[.agg #[.slice p1 d.secs.length q1,.slice p2 d.loose.length q2,.int .i64 d.fuse,.bool d.down],.int .i64 at_] w' fun e w''=>e = .returned (.tuple #[.agg (u8s (readP d at_).1).toArray,.int .i64 (readP d at_).2])∧Below w'.heap.size w' w'':=fun at_ w' h=>read_any _ d at_ w' (hd1.below h)
 have hCC:∀ w',Below w1.heap.size w1 w'→w'.heap[w.heap.size]?=some (.cells #[.slice p1 d.secs.length q1,.slice p2 d.loose.length q2,.int .i64 d.fuse,.bool d.down] 38 (0,0)):=fun w' h=>(h.block _ (by omega)).trans R0
 rw [← hH] at hh
 have HHH:=zh hH
 have HW1:=zh hw1
 have KH:=zh kh
 have KR:=zh kr
 have HCC:=zh hCC
 have HB1:=zh hb1
 have HLEN:=zh (fun a=>walReadLen hd a)
 have C0:=cR w1 _ 0 _ _ _ R0
 have C1:=cR w1 _ 1 _ _ _ R0
 have C2:=cR w1 _ 2 _ _ _ R0
 have C3:=cR w1 _ 3 _ _ _ R0
 have k1:=KH.out w1 (Below.refl _ _)
 clear hw1 kh kr hCC hb1 R0 hd hd1 hH hs1
 go_enter Tryz.func92,Tryz.ntmps92
 go_upto_region 1 with (fail)
 rw [← HW1.out]
 go_wp2_with fail
 refine k1.mono ?_
 rintro e w2 ⟨rfl,hb2⟩
 clear k1 C0 C1 C2 C3
 go_wp2_with fail
 go_loopw [5,11] (fun l z wr=>∃ i:Nat,i≤H∧z = .int .i64 i∧Own w1.heap.size wr 94 l 64 i (((viewP d which).take i).map u8s).flatten∧Below w1.heap.size w1 wr) (fun _ z _=>H-(intOf z).toNat)
 case atStart=>exact⟨0,Nat.zero_le _,rfl,by simpa using Own.none _ _ _ _ _,hb2⟩
 case round =>
  obtain⟨i,hi,rfl,hown,hb⟩:=hrel
  have HOWN:=zh hown
  have HB:=zh hb
  clear hown hb
  by_cases hiH:i<H
  ·have i0:decide ((i:Int)<(H:Int))=true:=by simp;omega
   obtain⟨z,hz⟩:∃ z,z=which*H+(i:Int):=⟨_,rfl⟩
   have hwr0:IntKind.i64.wrap (which*H)=which*H:=by
    simp only [IntKind.wrap,IntKind.bits,IntKind.signed]
    rcases hw0 with h | h <;> rw [h] <;> simp <;> omega
   have hwr1:IntKind.i64.wrap (which*H+i)=z:=by
    rw [hz]
    simp only [IntKind.wrap,IntKind.bits,IntKind.signed]
    rcases hw0 with h | h <;> rw [h] <;> simp <;> omega
   obtain⟨xs,hxs⟩:∃ xs,xs=(readP d z).1:=⟨_,rfl⟩
   obtain⟨X,hX⟩:∃ X,X=(u8s xs).toArray:=⟨_,rfl⟩
   have hxl:xs.length=64:=by rw [hxs];exact HLEN.out z
   have hXs:X.size=64:=by rw [hX];simp [zL,hxl]
   have hXo:∀ v∈X.toList,v.oneCell'=true:=by rw [hX];exact oneCell_u8s _
   have kr:∀ w':World,Below w1.heap.size w1 w'→Calls Tryz.prog 135 #[.agg #[.slice p1 d.secs.length q1,.slice p2 d.loose.length q2,.int .i64 d.fuse,.bool d.down],.int .i64 z] w' fun e w''=>e = .returned (.tuple #[.agg X,.int .i64 (readP d z).2])∧Below w'.heap.size w' w'':=fun w' h=>by rw [hX,hxs];exact KR.out z w' h
   have KRZ:=zh kr
   have HX:=zh hX
   have HXS:=zh hxs
   have HXL:=zh hxl
   have HXO:=zh hXo
   have HXZ:=zh hXs
   have HZ:=zh hz
   clear hX hxs hxl hXo hXs hz kr
   obtain⟨er,her⟩:∃ er,er=(readP d z).2:=⟨_,rfl⟩
   have KRZ:=zh (show ∀ w':World,Below w1.heap.size w1 w'→Calls Tryz.prog 135 #[.agg #[.slice p1 d.secs.length q1,.slice p2 d.loose.length q2,.int .i64 d.fuse,.bool d.down],.int .i64 z] w' fun e w''=>e = .returned (.tuple #[.agg X,.int .i64 er])∧Below w'.heap.size w' w'' by rw [her];exact KRZ.out)
   clear her
   go_upto_region 5 with (fail)
   go_cut [7,8] from 14 to 24 (fun s7 s8 wx=>∃ g e,s7 = .pointer (some ⟨g,0,none⟩)∧s8 = .int .i64 e∧ViewBox wr X g wx)
   case first =>
    have hbr:=HB.out.size
    have hcb:∀ {w'},Below wr.heap.size wr w'→Below w1.heap.size w1 w':=fun {w'} h=>HB.out.trans (h.mono hbr)
    have L0:∀ w',Below wr.heap.size wr w'→w'.cell? ⟨w.heap.size,0,none⟩=some (.slice p1 d.secs.length q1):=fun w' h=>cR w' _ 0 _ _ _ (HCC.out w' (hcb h))
    have L1:∀ w',Below wr.heap.size wr w'→w'.cell? ⟨w.heap.size,1,none⟩=some (.slice p2 d.loose.length q2):=fun w' h=>cR w' _ 1 _ _ _ (HCC.out w' (hcb h))
    have L2:∀ w',Below wr.heap.size wr w'→w'.cell? ⟨w.heap.size,2,none⟩=some (.int .i64 d.fuse):=fun w' h=>cR w' _ 2 _ _ _ (HCC.out w' (hcb h))
    have L3:∀ w',Below wr.heap.size wr w'→w'.cell? ⟨w.heap.size,3,none⟩=some (.bool d.down):=fun w' h=>cR w' _ 3 _ _ _ (HCC.out w' (hcb h))
    obtain⟨z0,hz0,hzr⟩:=zero44
    have HZ0:=zh hz0
    have HZR:=zh hzr
    have HCB:=zh (fun w' h=>hcb (w':=w') h)
    clear hz0 hzr hcb hbr
    have h00:Below wr.heap.size wr wr.drew:=zD (Below.refl _ _) 1
    refine wp_region_start (fun w'=>Below wr.heap.size wr w') (by kernel_rfl) h00 ?_
    obtain⟨wd,hwd⟩:∃ wd,wd=wr.drew:=⟨_,rfl⟩
    rw [← hwd] at h00 ⊢
    clear hwd
    refine wpAnyH_part [(false,0),(false,1),(false,2),(false,5)] (by kernel_rfl) h00 ?_
    repeat (first | (refine zS rfl rfl ?_;simp only [Act.put,zq1,zq2,zq3]) | (refine zT rfl ?_ rfl (fun w' hw'=>?_) ?_;rotate_left;(go_simp;first | done | with_reducible rfl);(try simp only [Act.put,zq1,zq2,zq3])))
    refine zN ?_
    refine wpAnyH_ready (rs:=[3,11]) (by kernel_rfl) (by simp) ?_
    refine zR rfl rfl (fun K hK=>?_) (zR rfl rfl (fun K hK=>?_) AllReadyH.nil)
    ·go_simp
     refine (KH.out wd (HCB.out _ h00)).mono ?_
     rintro e w5 ⟨rfl,hb5⟩
     have s5:=h00.trans (hb5.mono h00.size)
     refine hK.out _ _ s5 ?_
     clear hK K
     refine wpAnyH_part [(false,4),(false,6)] (by kernel_rfl) s5 ?_
     repeat (first | (refine zS rfl rfl ?_;simp only [Act.put,zq1,zq2,zq3]) | (refine zT rfl ?_ rfl (fun w' hw'=>?_) ?_;rotate_left;(go_simp;first | done | with_reducible rfl);(try simp only [Act.put,zq1,zq2,zq3])))
     refine zN ?_
     refine wpAnyH_ready (rs:=[7,11]) (by kernel_rfl) (by simp) ?_
     refine zR rfl rfl (fun K hK=>?_) (zR rfl rfl (fun K hK=>?_) AllReadyH.nil)
     ·go_simp
      refine (KRZ.out w5 (HCB.out _ s5)).mono ?_
      rintro e w6 ⟨rfl,hb6⟩
      have s6:=s5.trans (hb6.mono s5.size)
      refine hK.out _ _ s6 ?_
      clear hK K
      refine wpAnyH_end [(false,8),(false,9),(false,10),(true,11),(true,12),(false,13)] (by kernel_rfl) s6 ?_
      repeat (first | (refine zS rfl rfl ?_;simp only [Act.put,zq1,zq2,zq3]) | (refine zT rfl ?_ rfl (fun w' hw'=>?_) ?_;rotate_left;(go_simp;first | done | with_reducible rfl);(try simp only [Act.put,zq1,zq2,zq3])))
      refine zA rfl rfl fun K hK=>?_
      obtain⟨w7,hw7,s7,g7,l7,hgg⟩:=box_alloc HZ0.out s6
      refine op_alloc 94 rfl (HZR.out _) hw7 ?_
      refine hK.out _ _ s7 ?_
      clear hK K hw7
      simp only [Act.put,zq1,zq2,zq3]
      obtain⟨w8,hst,hbox⟩:=box_store HXZ.out HXO.out g7 hgg s7
      refine zA rfl rfl fun K hK=>?_
      refine op_store (.tmp 7) (.tmp 23) 94 rfl rfl rfl hst ?_
      refine hK.out _ _ hbox.2.2 ?_
      clear hK K hst
      simp only [Act.put,zq1,zq2,zq3]
      repeat (first | (refine zS rfl rfl ?_;simp only [Act.put,zq1,zq2,zq3]) | (refine zT rfl ?_ rfl (fun w' hw'=>?_) ?_;rotate_left;(go_simp;first | done | with_reducible rfl);(try simp only [Act.put,zq1,zq2,zq3])))
      refine zN ?_
      go_wp2_with fail
      go_meet
      case rel=>exact⟨_,_,rfl,rfl,hbox⟩
     ·obtain⟨w6,hw6,s6,g6,l6,hgg⟩:=box_alloc HZ0.out s5
      refine op_alloc 94 rfl (HZR.out _) hw6 ?_
      refine hK.out _ _ s6 ?_
      clear hK K hw6
      simp only [Act.put,zq1,zq2,zq3]
      refine wpAnyH_end [(true,7),(false,8),(false,9),(false,10),(true,12),(false,13)] (by kernel_rfl) s6 ?_
      refine zA rfl rfl fun K hK=>?_
      go_simp
      refine (KRZ.out w6 (HCB.out _ s6)).mono ?_
      rintro e w7 ⟨rfl,hb7⟩
      have s7:=s6.trans (hb7.mono s6.size)
      have g7:=(hb7.block _ l6).trans g6
      refine hK.out _ _ s7 ?_
      clear hK K
      repeat (first | (refine zS rfl rfl ?_;simp only [Act.put,zq1,zq2,zq3]) | (refine zT rfl ?_ rfl (fun w' hw'=>?_) ?_;rotate_left;(go_simp;first | done | with_reducible rfl);(try simp only [Act.put,zq1,zq2,zq3])))
      obtain⟨w8,hst,hbox⟩:=box_store HXZ.out HXO.out g7 hgg s7
      refine zA rfl rfl fun K hK=>?_
      refine op_store (.tmp 7) (.tmp 23) 94 rfl rfl rfl hst ?_
      refine hK.out _ _ hbox.2.2 ?_
      clear hK K hst
      simp only [Act.put,zq1,zq2,zq3]
      repeat (first | (refine zS rfl rfl ?_;simp only [Act.put,zq1,zq2,zq3]) | (refine zT rfl ?_ rfl (fun w' hw'=>?_) ?_;rotate_left;(go_simp;first | done | with_reducible rfl);(try simp only [Act.put,zq1,zq2,zq3])))
      refine zN ?_
      go_wp2_with fail
      go_meet
      case rel=>exact⟨_,_,rfl,rfl,hbox⟩
    ·obtain⟨w4,hw4,s4,g4,l4,hgg⟩:=box_alloc HZ0.out h00
     refine op_alloc 94 rfl (HZR.out _) hw4 ?_
     refine hK.out _ _ s4 ?_
     clear hK K hw4
     simp only [Act.put,zq1,zq2,zq3]
     refine wpAnyH_end [(true,3),(false,4),(false,6),(true,7),(false,8),(false,9),(false,10),(true,12),(false,13)] (by kernel_rfl) s4 ?_
     refine zA rfl rfl fun K hK=>?_
     go_simp
     refine (KH.out w4 (HCB.out _ s4)).mono ?_
     rintro e w5 ⟨rfl,hb5⟩
     have s5:=s4.trans (hb5.mono s4.size)
     have g5:=(hb5.block _ l4).trans g4
     refine hK.out _ _ s5 ?_
     clear hK K
     repeat (first | (refine zS rfl rfl ?_;simp only [Act.put,zq1,zq2,zq3]) | (refine zT rfl ?_ rfl (fun w' hw'=>?_) ?_;rotate_left;(go_simp;first | done | with_reducible rfl);(try simp only [Act.put,zq1,zq2,zq3])))
     refine zA rfl rfl fun K hK=>?_
     go_simp
     refine (KRZ.out w5 (HCB.out _ s5)).mono ?_
     rintro e w6 ⟨rfl,hb6⟩
     have s6:=s5.trans (hb6.mono s5.size)
     have g6:=(hb6.block _ (zB g5)).trans g5
     refine hK.out _ _ s6 ?_
     clear hK K
     repeat (first | (refine zS rfl rfl ?_;simp only [Act.put,zq1,zq2,zq3]) | (refine zT rfl ?_ rfl (fun w' hw'=>?_) ?_;rotate_left;(go_simp;first | done | with_reducible rfl);(try simp only [Act.put,zq1,zq2,zq3])))
     obtain⟨w8,hst,hbox⟩:=box_store HXZ.out HXO.out g6 hgg s6
     refine zA rfl rfl fun K hK=>?_
     refine op_store (.tmp 7) (.tmp 23) 94 rfl rfl rfl hst ?_
     refine hK.out _ _ hbox.2.2 ?_
     clear hK K hst
     simp only [Act.put,zq1,zq2,zq3]
     repeat (first | (refine zS rfl rfl ?_;simp only [Act.put,zq1,zq2,zq3]) | (refine zT rfl ?_ rfl (fun w' hw'=>?_) ?_;rotate_left;(go_simp;first | done | with_reducible rfl);(try simp only [Act.put,zq1,zq2,zq3])))
     refine zN ?_
     go_wp2_with fail
     go_meet
     case rel=>exact⟨_,_,rfl,rfl,hbox⟩
   case rest =>
    obtain⟨g,e,rfl,rfl,hg,hG,hbx⟩:=hcut
    have hld:=run_loadVar_row (P:=Tryz.prog) wc g 94 94 X (0,0) _ hG Tryz.underlying94 rfl (by rw [HXZ.out];exact size_sector)
    have hbs:=run_buildSlice_sec (w:=wc) X HXZ.out
    obtain⟨w8,hw8⟩:∃ w8,w8=wc.alloc (.cells X 94):=⟨_,rfl⟩
    have hb8:Below wc.heap.size wc w8:=by rw [hw8];exact Below.alloc (Below.refl _ _) (Nat.le_refl _) _
    have hb18:Below w1.heap.size w1 w8:=(HB.out.trans (hbx.mono HB.out.size)).trans (hb8.mono (Nat.le_trans HB.out.size hbx.size))
    have hown8:=((HOWN.out.below hbx (Nat.le_refl _)).below hb8 (Nat.le_refl _))
    have hsrc:Src Tryz.prog w8 (.slice (some ⟨wc.heap.size,0,none⟩) 1 1) 64 1 (u8s xs):=by
     rw [hw8]
     refine Row.src (Row.fresh (by simp [zL,HXL.out]) (Nat.le_refl _) (by decide) (fun k u hk=>?_))
     rw [HX.out]
     simpa using hk
    have hone:=oneCell_u8s xs
    have R1:i+1≤maxLen:=by unfold maxLen;omega
    have R2:(i+1)*64≤140737488355328:=by omega
    obtain⟨i0,z0,hi0,hz0,hz1,hz2,hz3⟩:=zero_parts infoz_sector
    have hB8:w1.heap.size≤w8.heap.size:=hb18.size
    have HB18:=zh hb18
    rw [← hw8] at hbs
    clear hw8 hb8 hb18 hbx hG hg hwr0 hwr1
    go_wp2_with (refine wp_load_at (.tmp 7) 94 rfl rfl rfl hld ?_;clear hld;refine Halt.in ?_)
    refine Halt.out ?_
    refine wp_buildSlice_l 35 1 [(0,.tmp 26)] rfl rfl rfl hbs ?_
    refine wp_append rfl (.tmp 25) (.tmp 27) 35 35 94 rfl i0 z0 64 64 Tryz.underlying35 (.inl ⟨_,Tryz.underlying35⟩) hi0 hz0 hz1 hz2 hz3 rfl rfl hown8 hsrc hone R1 R2 hB8 ?_
    intro v2 w9 hown9 hb9
    clear hbs hsrc hown8 hone hi0 hz0 hz1 hz2 hz3
    have HF:=zh (show Own w1.heap.size w9 94 v2 64 (i+1) (((viewP d which).take (i+1)).map u8s).flatten by
     rw [take_viewP d which i (by rw [← HHH.out];exact hiH),List.map_append,List.flatten_append,← HHH.out,← HZ.out,← HXS.out]
     simpa using hown9)
    have HBF:=zh (HB18.out.trans hb9)
    clear hown9 hb9 R1 R2 hB8
    go_wp2_with fail
    go_roundw
    case rel=>exact⟨i+1,by omega,by go_num,HF.out,HBF.out⟩
    case measure=>simp [intOf];omega
  ·have i0:decide ((i:Int)<(H:Int))=false:=by simp;omega
   have hie:i=H:=by omega
   have HIE:=zh hie
   clear hie
   go_wp2_with fail
   go_ret
   have hrow:=HOWN.out.row
   have hb:=HB1.out.trans (HB.out.mono HB1.out.size)
   rw [HIE.out,HHH.out,List.take_of_length_le (by rw [length_viewP];exact Nat.le_refl _)] at hrow
   refine⟨⟨_,rfl,fun s hs=>?_,by rw [length_viewP];exact hrow⟩,hb⟩
   obtain⟨i,_,rfl⟩:=List.mem_map.1 hs
   exact HLEN.out _
end
section
open Go.RowKit
def Grew (w w':World) (v v':Value):Prop :=
 (∃ a n c n',v = .slice (some a) n c∧v' = .slice (some a) n' c∧0<c∧∀ k,k≠a.block→w'.heap[k]?=w.heap[k]?)∨(∃ n' c',v' = .slice (some ⟨w.heap.size,0,none⟩) n' c'∧Below w.heap.size w w')
theorem run_append_apart {P:Program} {B:Nat} {w:World} {v x:Value} {sz n m bytes:Nat} {cs news:List Value} (t xt ty e:TypeId) (i:TypeInfo) (z:Value)
  (ht:P.underlying t=some (.slice e)) (hxt:(∃ e',P.underlying xt=some (.slice e'))∨P.underlying xt=some .string) (hi:P.info? e=some i) (hz:i.zero=some z) (hsz:i.size=sz) (hby:i.bytes=bytes) (hzs:z.cells.size=sz)
  (hown:Own B w e v sz n cs) (hsrc:Src P w x sz m news) (h1:∀ u∈news,u.oneCell'=true) (h63:n+m≤maxLen) (hroom:(n+m)*bytes≤140737488355328) (hB:B≤w.heap.size) (hm:0<m) :
  ∃ v' w',(Builtin.append_ #[t,xt] ty #[v,x]).run P w = .ok v' w'∧Own B w' e v' sz (n+m) (cs++news)∧Below B w w'∧Grew w w' v v':=by
 subst hsz
 subst hby
 obtain⟨hl,a,cap,rfl,hnc,hcap,halt⟩:=hown
 obtain⟨hnl,hlen,hfirst⟩:=hsrc
 have hf0:=hfirst w (fun _=>rfl)
 have hf1:=hfirst w.drew (fun p=>by simp)
 have hll:(cs++news).length=(n+m)*i.size:=by rw [List.length_append,hl,hnl,Nat.add_mul]
 by_cases hfit:n+m≤cap
 ·rcases halt with h0 | ⟨g,cur,rfl,hg,hh,hs,htake⟩
  ·omega
  ·have hst:=run_storeCells_at P g (n*i.size) e news 0 cur w hh (by rw [hs,hnl,Nat.add_zero,← Nat.add_mul];exact Nat.mul_le_mul_right _ hfit) h1
   simp only [Nat.add_zero] at hst
   refine⟨.slice (some ⟨g,0,Option.none⟩) (n+m) cap,w.setRow g (cur.toList.take (n*i.size)++news++cur.toList.drop (n*i.size+news.length)).toArray,?_,⟨hll,_,cap,rfl,hfit,hcap,.inr ⟨g,_,rfl,hg,setRow_heap w g cur _ e _ hh,?_,?_⟩⟩,?_,.inl ⟨_,_,_,_,rfl,rfl,by omega,fun k hk=>setRow_other w g k _ hk⟩⟩
   ·rcases hxt with ⟨e',hxt⟩ | hxt <;> simp [Builtin.append_,run_underlying ht,run_underlying hxt,sizeOf,typeInfo,hi,hlen,hf0,hfit,Addr.add_lit,hst]
   ·have:n*i.size+news.length≤cap*i.size:=by rw [hnl,← Nat.add_mul];exact Nat.mul_le_mul_right _ hfit
    simp only [List.size_toArray,List.length_append,List.length_take,List.length_drop,Array.length_toList]
    omega
   ·rw [htake,← hll]
    exact List.take_left
   ·exact⟨rfl,rfl,rfl,by simp [World.setRow],fun k hk=>setRow_other w g k _ (by omega)⟩
 ·have hfo:(Builtin.firstCells i.size n (.slice a n cap)).run P w.drew = .ok cs.toArray w.drew:=by
   have hr:Row w.heap.size w (.slice a n cap) i.size n cs:=Own.row ⟨hl,a,cap,rfl,hnc,hcap,halt⟩
   exact hr.src.2.2 w.drew (fun p=>by simp)
  have h63':¬ (9223372036854775807<((n:Int)+(m:Int))):=by unfold maxLen at h63;omega
  have h48':¬ (281474976710656<Builtin.nextslicecap (n+m) cap*i.bytes):=Nat.not_lt.2 (growslice_fits (by omega) hroom)
  have hge:=grownCap_ge w (n+m) cap e
  have hcm:=grownCap_le_maxLen w (n+m) cap e h63
  refine⟨.slice (some ⟨w.heap.size,0,Option.none⟩) (n+m) (grownCap w (n+m) cap e),w.drew.alloc (.cells (cs.toArray++news.toArray++Builtin.zeroCells z.cells (grownCap w (n+m) cap e-(n+m))) e),?_,
   ⟨hll,_,_,rfl,hge,hcm,.inr ⟨w.heap.size,_,rfl,hB,heap_alloc_new w.drew _,?_,?_⟩⟩,?_,.inr ⟨_,_,rfl,?_⟩⟩
  ·rcases hxt with ⟨e',hxt⟩ | hxt <;> (simp [Builtin.append_,run_underlying ht,run_underlying hxt,sizeOf,typeInfo,zeroValue,hi,hz,hlen,hfit,h63',h48',Question.forced,hf1,hfo,newRow,grownCap];(congr 2;apply Array.ext';simp [List.append_assoc]))
  ·simp only [Array.size_append,List.size_toArray,size_zeroCells,hzs,hl,hnl,← Nat.add_mul]
   congr 1
   omega
  ·simp only [Array.toList_append,List.append_assoc]
   rw [← List.append_assoc,← hll]
   exact List.take_left
  ·exact⟨rfl,rfl,rfl,by simp,fun k hk=>Below.heap_alloc w.drew _ k (Nat.lt_of_lt_of_le hk hB)⟩
  ·exact⟨rfl,rfl,rfl,by simp,fun k hk=>Below.heap_alloc w.drew _ k hk⟩
theorem wp_append_apart {P:Program} {ops:Array Oper} {rest:List Oper} {o:Oper} {a:Act} {w:World} {Q:Exit→Act→World→Prop} (hgd:o.guard=Option.none) (s y:Operand) (t xt e:TypeId)
  (ho:o.op = .call { callee:=.builtin .append,args:=#[s,y],argTypes:=#[t,xt] }) (i:TypeInfo) (z:Value) (sz bytes:Nat)
  (ht:P.underlying t=some (.slice e)) (hxt:(∃ e',P.underlying xt=some (.slice e'))∨P.underlying xt=some .string) (hi:P.info? e=some i) (hz:i.zero=some z) (hsz:i.size=sz) (hby:i.bytes=bytes) (hzs:z.cells.size=sz)
  {B:Nat} {v x:Value} {n m:Nat} {cs news:List Value} (hs:a.eval s=v) (hx:a.eval y=x)
  (hown:Own B w e v sz n cs) (hsrc:Src P w x sz m news) (h1:∀ u∈news,u.oneCell'=true) (h63:n+m≤maxLen) (hroom:(n+m)*bytes≤140737488355328) (hB:B≤w.heap.size) (hm:0<m)
  (h:∀ v' w',Own B w' e v' sz (n+m) (cs++news)→Below B w w'→Grew w w' v v'→wpList P ops Q rest (a.put o.dst v') w'):wpList P ops Q (o :: rest) a w:=by
 refine wpList_plain hgd fun K hK=>?_
 obtain⟨v',w',hr,h2,h3,h4⟩:=run_append_apart (P:=P) t xt o.type e i z ht hxt hi hz hsz hby hzs hown hsrc h1 h63 hroom hB hm
 subst hs
 subst hx
 unfold Oper.wp execOp
 simp only [ho,resolve,invoke,builtin,Sem.run_bind,Sem.run_pure,Result.andThen_ok,List.map_toArray,List.map_cons,List.map_nil,hr]
 exact hK _ _ (h v' w' h2 h3 h4)
def Apart (v u:Value):Prop:=∀ a n c b m e,v = .slice (some a) n c→u = .slice (some b) m e→0<c→0<m→a.block≠b.block
theorem Row.grew {B:Nat} {w w':World} {v v' u:Value} {sz n:Nat} {cs:List Value} (h:Row B w u sz n cs) (hB:B≤w.heap.size) (hg:Grew w w' v v') (ha:Apart v u):Row B w' u sz n cs∧Apart v' u:=by
 obtain⟨hl,a,cap,rfl,h1,h2,h3⟩:=h
 rcases hg with ⟨g,n1,c1,n2,rfl,rfl,hc0,hk⟩ | ⟨n2,c2,rfl,hb⟩
 ·refine⟨⟨hl,a,cap,rfl,h1,h2,fun hp=>?_⟩,fun a' n' c' b m e hv hu hc hm=>?_⟩
  ·obtain⟨b,off,rfl,hb,hc⟩:=h3 hp
   have hne:=ha _ _ _ _ _ _ rfl rfl hc0 hp
   refine⟨b,off,rfl,hb,fun k u hku=>?_⟩
   have e:w'.cell? ⟨b,off+k,none⟩=w.cell? ⟨b,off+k,none⟩:=by unfold World.cell?;rw [hk b (fun h=>hne h.symm)]
   exact e.trans (hc k u hku)
  ·cases hv
   exact ha _ _ _ _ _ _ rfl hu hc0 hm
 ·refine⟨Row.below (show Row B w (.slice a n cap) sz n cs from ⟨hl,a,cap,rfl,h1,h2,h3⟩) (hb.mono hB),fun a' n' c' b m e hv hu hc hm=>?_⟩
  cases hv
  cases hu
  obtain⟨b',off,he,hb',_⟩:=h3 hm
  cases he
  show w.heap.size≠b'
  omega
end
section
open Go.RowKit WalP PackP
set_option maxRecDepth 100000 in
theorem clip_any {n c:Nat} (a:Option Addr) (w:World) (h:n≤c) (hc:c≤9223372036854775807) :
  Calls Tryz.prog 134 #[.slice a n c] w fun e w'=>e = .returned (.slice a n n)∧w=w':=by
 go_enter Tryz.func134,Tryz.ntmps134
 go_wp2
 go_ret
 exact⟨rfl,rfl⟩
theorem bytes_clip {B:Nat} {w:World} {a:Option Addr} {n c:Nat} {bs:List UInt8} (h:Bytes B w (.slice a n c) bs):Bytes B w (.slice a n n) bs:=by
 obtain⟨h1,a',c',hv,h2,h3,h4⟩:=h
 cases hv
 exact⟨h1,a,bs.length,rfl,Nat.le_refl _,by omega,h4⟩
def RecsV (B:Nat) (w:World) (lv:Value) (list:List (List UInt8)):Prop :=
 ∃ vs:List Value,Own B w 23 lv 1 list.length vs∧∀ (k:Nat) (h:k<list.length),∃ u,vs[k]?=some u∧Bytes w.heap.size w u list[k]∧Apart lv u∧Sl (fun b=>B≤b) u
theorem RecsV.below {B:Nat} {w w':World} {lv:Value} {list:List (List UInt8)} (h:RecsV B w lv list) (hb:Below w.heap.size w w'):RecsV B w' lv list:=by
 obtain⟨vs,h1,h2⟩:=h
 exact⟨vs,h1.below hb (Nat.le_refl _),fun k hk=>let ⟨u,h3,h4,h5⟩:=h2 k hk;⟨u,h3,(h4.below hb).tight,h5⟩⟩
def PiecesS (S:Nat→Prop) (B:Nat) (w:World) (v:Value) (ls:List (List UInt8)):Prop :=
 ∃ vs:List Value,Row B w v 1 ls.length vs∧Sl S v∧∀ (k:Nat) (h:k<ls.length),∃ u,vs[k]?=some u∧Bytes B w u ls[k]∧Sl S u
theorem PiecesS.pieces {S:Nat→Prop} {B:Nat} {w:World} {v:Value} {ls:List (List UInt8)} (h:PiecesS S B w v ls):Pieces B w v ls:=by
 obtain⟨vs,h1,_,h2⟩:=h
 exact⟨vs,h1,fun k hk=>let ⟨u,h3,h4,_⟩:=h2 k hk;⟨u,h3,h4⟩⟩
theorem Row.keepS {S:Nat→Prop} {B:Nat} {w w':World} {v:Value} {sz n:Nat} {cs:List Value} (h:Row B w v sz n cs) (hs:Sl S v) (hk:∀ k,S k→k<B→w'.heap[k]?=w.heap[k]?):Row B w' v sz n cs:=by
 obtain⟨hl,a,cap,rfl,h1,h2,h3⟩:=h
 refine⟨hl,a,cap,rfl,h1,h2,fun hp=>?_⟩
 obtain⟨b,off,rfl,hb,hc⟩:=h3 hp
 have hS:=hs _ _ _ rfl hp
 refine⟨b,off,rfl,hb,fun k u hku=>?_⟩
 have e:w'.cell? ⟨b,off+k,none⟩=w.cell? ⟨b,off+k,none⟩:=by unfold World.cell?;rw [hk b hS hb]
 exact e.trans (hc k u hku)
theorem PiecesS.keep {S:Nat→Prop} {B:Nat} {w w':World} {v:Value} {ls:List (List UInt8)} (h:PiecesS S B w v ls) (hk:∀ k,S k→k<B→w'.heap[k]?=w.heap[k]?):PiecesS S B w' v ls:=by
 obtain⟨vs,h1,h2,h3⟩:=h
 exact⟨vs,Row.keepS h1 h2 hk,h2,fun k hlt=>let ⟨u,g1,g2,g3⟩:=h3 k hlt;⟨u,g1,Row.keepS g2 g3 hk,g3⟩⟩
theorem PiecesS.below {S:Nat→Prop} {B:Nat} {w w':World} {v:Value} {ls:List (List UInt8)} (h:PiecesS S B w v ls) (hb:Below B w w'):PiecesS S B w' v ls:=h.keep fun k _ hk=>hb.block k hk
theorem PiecesS.tight {S:Nat→Prop} {B:Nat} {w:World} {v:Value} {ls:List (List UInt8)} (h:PiecesS S B w v ls):PiecesS S w.heap.size w v ls:=by
 obtain⟨vs,h1,h2,h3⟩:=h
 exact⟨vs,h1.tight (by decide),h2,fun k hk=>let ⟨u,g1,g2,g3⟩:=h3 k hk;⟨u,g1,g2.tight,g3⟩⟩
theorem PiecesS.weak {S T:Nat→Prop} {B:Nat} {w:World} {v:Value} {ls:List (List UInt8)} (h:PiecesS S B w v ls) (hT:∀ b,S b→T b):PiecesS T B w v ls:=by
 obtain⟨vs,h1,h2,h3⟩:=h
 exact⟨vs,h1,fun a n c e hp=>hT _ (h2 a n c e hp),fun k hk=>let ⟨u,g1,g2,g3⟩:=h3 k hk;⟨u,g1,g2,fun a n c e hp=>hT _ (g3 a n c e hp)⟩⟩
theorem RecsV.pieces {B:Nat} {w:World} {lv:Value} {list:List (List UInt8)} (h:RecsV B w lv list):PiecesS (fun b=>B≤b) w.heap.size w lv list:=by
 obtain⟨vs,h1,h2⟩:=h
 exact⟨vs,h1.row,h1.sl (fun b hb=>hb),fun k hk=>let ⟨u,h3,h4,_,h5⟩:=h2 k hk;⟨u,h3,h4,h5⟩⟩
theorem RecsV.snoc {B:Nat} {w w':World} {lv v' u:Value} {list:List (List UInt8)} {vs:List Value} {bs:List UInt8} (hv:vs.length=list.length) (hown:Own B w' 23 v' 1 (list.length+1) (vs++[u]))
  (hel:∀ (k:Nat) (h:k<list.length),∃ u,vs[k]?=some u∧Bytes w.heap.size w u list[k]∧Apart lv u∧Sl (fun b=>B≤b) u) (hu:Bytes w.heap.size w u bs) (ha:Apart lv u) (hsl:Sl (fun b=>B≤b) u) (hg:Grew w w' lv v'):RecsV B w' v' (list++[bs]):=by
 refine⟨vs++[u],by rw [List.length_append];exact hown,fun k hk=>?_⟩
 rw [List.length_append,List.length_singleton] at hk
 by_cases hkl:k<list.length
 ·obtain⟨x,h1,h2,h3,h3'⟩:=hel k hkl
  obtain⟨g1,g2⟩:=Row.grew h2 (Nat.le_refl _) hg h3
  refine⟨x,by rw [List.getElem?_append_left (by omega)];exact h1,?_,g2,h3'⟩
  rw [List.getElem_append_left hkl]
  exact Bytes.tight g1
 ·obtain rfl:k=list.length:=by omega
  obtain⟨g1,g2⟩:=Row.grew hu (Nat.le_refl _) hg ha
  refine⟨u,by rw [List.getElem?_append_right (by omega),hv,Nat.sub_self];rfl,?_,g2,hsl⟩
  rw [List.getElem_append_right (Nat.le_refl _)]
  simp only [Nat.sub_self,List.getElem_cons_zero]
  exact Bytes.tight g1
theorem Own.apart {B C:Nat} {w w':World} {e e':TypeId} {v:Value} {a:Option Addr} {sz n sz' n' p c' m d:Nat} {cs cs':List Value} (h:Own B w e v sz n cs) (h':Own C w' e' (.slice a p c') sz' n' cs') (hC:w.heap.size≤C) (hm:m≤p):Apart v (.slice a m d):=by
 obtain⟨_,a0,c0,hv0,_⟩:=id h'
 cases hv0
 obtain⟨_,a1,cap,rfl,_,_,h4⟩:=h
 intro x n1 c1 y m1 e1 hv hu hc hm1
 cases hv
 cases hu
 obtain⟨g',he,hg',_⟩:=h'.form (by omega)
 cases he
 rcases h4 with h4 | ⟨g,cur,he,hg,hh,_⟩
 ·omega
 ·cases he
  have:=zB hh
  show g≠g'
  omega
theorem RecsV.apart9 {B C:Nat} {w w':World} {e':TypeId} {lv:Value} {a:Option Addr} {list:List (List UInt8)} {sz' n' p c' m d:Nat} {cs':List Value} (h:RecsV B w lv list) (h':Own C w' e' (.slice a p c') sz' n' cs') (hC:w.heap.size≤C) (hm:m≤p):Apart lv (.slice a m d):=by
 obtain⟨vs,h1,_⟩:=h
 exact Own.apart h1 h' hC hm
theorem sl9 {B C:Nat} {w':World} {e':TypeId} {a:Option Addr} {sz' n' p c' m d:Nat} {cs':List Value} (h':Own C w' e' (.slice a p c') sz' n' cs') (hC:B≤C) (hm:m≤p):Sl (fun b=>B≤b) (.slice a m d):=by
 obtain⟨_,a0,c0,hv0,_⟩:=id h'
 cases hv0
 intro x n c hv hp
 cases hv
 obtain⟨g',he,hg',_⟩:=h'.form (by omega)
 cases he
 exact Nat.le_trans hC hg'
theorem round_parts {B:Nat} {wr w8:World} {lv:Value} {list:List (List UInt8)} {a:Option Addr} {n:Nat} {bs:List UInt8} (hw8:w8=(wr.alloc (.cells #[.slice a n n] 23)).drew) (h:RecsV B wr lv list) (hv:Bytes wr.heap.size wr (.slice a n n) bs) :
  Below wr.heap.size wr w8∧Src Tryz.prog w8 (.slice (some ⟨wr.heap.size,0,none⟩) 1 1) 1 1 [.slice a n n]∧∃ vs:List Value,vs.length=list.length∧Own B w8 23 lv 1 list.length vs∧(∀ (k:Nat) (h:k<list.length),∃ u,vs[k]?=some u∧Bytes w8.heap.size w8 u list[k]∧Apart lv u∧Sl (fun b=>B≤b) u)∧Bytes w8.heap.size w8 (.slice a n n) bs:=by
 have hb8:Below wr.heap.size wr w8:=by rw [hw8];exact zD (Below.alloc (Below.refl _ _) (Nat.le_refl _) _) 1
 obtain⟨vs,h1,h2⟩:=h.below hb8
 refine⟨hb8,?_,vs,by have:=h1.1;omega,h1,h2,(hv.below hb8).tight⟩
 rw [hw8]
 exact Row.src (B:=wr.heap.size+1) (Row.below (Row.fresh (w:=wr) rfl (Nat.le_refl _) (by decide) (fun k u hk=>by simpa using hk)) (zD (Below.refl _ _) 1))
theorem RecsV.form {B:Nat} {w:World} {lv:Value} {list:List (List UInt8)} (h:RecsV B w lv list):∃ a c,lv = .slice a list.length c:=by
 obtain⟨vs,h1,h2⟩:=h
 obtain⟨_,a,c,h,_⟩:=h1
 exact⟨a,c,h⟩
theorem RecsV.nil (B:Nat) (w:World):RecsV B w (.slice none 0 0) []:=⟨[],Own.none _ _ _ _ _,fun k h=>absurd h (Nat.not_lt_zero _)⟩
theorem walLoadSec {B:Nat} {w:World} {a:Option Addr} {n c:Nat} {ss:List (List UInt8)} (h:Secs B w (.slice a n c) ss) {k:Nat} (hk:k<ss.length) :
  ∃ b off,a=some ⟨b,off,none⟩∧b<B∧n=ss.length∧n≤c∧c≤2^63-1∧∀ w',(∀ p:Addr,p.block<B→w'.cell? p=w.cell? p)→(loadVar 94 ⟨b,off+k*64,none⟩).run Tryz.prog w' = .ok (.agg (u8s ss[k]).toArray) w':=by
 obtain⟨h64,_,a',cap,hv,hnc,hcap,hcells⟩:=h
 cases hv
 obtain⟨b,off,rfl,hBb,hc⟩:=hcells (by omega)
 obtain⟨i44,hi44,hs44⟩:=info44
 have hat:=flat_at u8s 64 ss (fun x hx=>by rw [zL,h64 x hx]) k ss[k] (List.getElem?_eq_getElem hk)
 exact⟨b,off,rfl,hBb,rfl,hnc,hcap,fun w' hw=>run_load_big (P:=Tryz.prog) (t:=94) Tryz.underlying94 (.inl ⟨_,_,rfl⟩) hi44 (w:=w') (b:=b) (off:=off+k*64) (cs:=u8s ss[k]) hs44 (by rw [zL,h64 _ (List.getElem_mem hk)])
  (fun j u hj=>by rw [Nat.add_assoc];exact (hw ⟨b,off+(k*64+j),none⟩ hBb).trans (hc _ _ (hat j u hj)))⟩
theorem infoz_bytes:(Tryz.prog.info? 23).bind (fun i=>i.zero.map fun z=>(i.size,i.bytes,z.cells.size))=some (1,24,1):=by kernel_rfl
def endedR (list:List (List UInt8)) (used:Nat) (gen:Int):List (List UInt8)×Nat×Int×Int:=if list=[] then ([],0,0,6) else (list,used,gen,0)
theorem recs_end {l:List (List UInt8)} {f used:Nat} {list:List (List UInt8)} {gen:Int} (h:¬ used<l.length):recsGo l (f+1) list used gen=endedR list used gen:=by
 simp only [recsGo]
 rw [if_neg h]
 rfl
theorem recs_stop {l:List (List UInt8)} {f used:Nat} {list:List (List UInt8)} {gen:Int} (h:used<l.length) {m:MarkP} {ok:Bool} (hx:readMark l[used]=(m,ok)) (gen':Int) (hg:gen'=if list=[] then m.gen else gen)
  (hc:ok=false∨m.gen≠gen'∨m.number≠list.length∨l.length-used<(takesZ m.length).toNat):recsGo l (f+1) list used gen=endedR list used gen':=by
 simp only [recsGo]
 rw [if_pos h]
 have e:l.getD used []=l[used]:=by rw [List.getD_eq_getElem?_getD,List.getElem?_eq_getElem h];rfl
 rw [e,hx]
 simp only [← hg]
 rw [if_pos hc]
 rfl
theorem mark_takes {s:List UInt8} {m:MarkP} (h:readMark s=(m,true)):0<takesZ m.length:=by
 have h1:(readMark s).2=true:=by rw [h]
 have h2:(readMark s).1=m:=by rw [h]
 rw [← h2]
 simp only [readMark,Bool.and_eq_true,decide_eq_true_eq] at h1 ⊢
 exact h1.2
theorem flat64_eq:∀ (l:List (List UInt8)),(∀ s∈l,s.length=64)→l.flatten.length=64*l.length
 | [],_=>rfl
 | s :: l,h=>by
  rw [List.flatten_cons,List.length_append,h s (List.mem_cons_self ..),flat64_eq l (fun x hx=>h x (List.mem_cons_of_mem _ hx)),List.length_cons]
  omega
theorem flat64_le (l:List (List UInt8)) (h:∀ s∈l,s.length=64) (j:Nat) (hj:l.length≤j):l.flatten.length≤64*j:=by
 rw [flat64_eq l h]
 omega
theorem recs_step {l:List (List UInt8)} {f used n:Nat} {list:List (List UInt8)} {gen:Int} (h:used<l.length) {m:MarkP} (hx:readMark l[used]=(m,true)) (gen':Int) (hg:gen'=if list=[] then m.gen else gen)
  (hn:takesZ m.length=(n:Int)) (h1:m.gen=gen') (h2:m.number=list.length) (h3:¬ l.length-used<n) (b:List UInt8) (hb:b=((l.drop (used+1)).take (n-1)).flatten.take m.length.toNat) :
  recsGo l (f+1) list used gen=if SumP.toI (SumP.sum b)≠m.sum then ([],0,gen',10) else recsGo l f (list++[b]) (used+n) gen':=by
 simp only [recsGo]
 rw [if_pos h]
 have e:l.getD used []=l[used]:=by rw [List.getD_eq_getElem?_getD,List.getElem?_eq_getElem h];rfl
 have e2:(takesZ m.length).toNat=n:=by rw [hn];rfl
 rw [e,hx]
 simp only [← hg,e2,← hb]
 rw [if_neg (fun hh=>by
  rcases hh with h | h | h | h
  ·cases h
  ·exact h h1
  ·exact h h2
  ·exact h3 h)]
theorem ended_nil (used:Nat) (gen:Int):endedR [] used gen=([],0,0,6):=rfl
theorem ended_ne {list:List (List UInt8)} (h:list≠[]) (used:Nat) (gen:Int):endedR list used gen=(list,used,gen,0):=if_neg h
set_option maxRecDepth 100000 in
set_option maxHeartbeats 4000000 in
theorem records_any {B:Nat} (v:Value) (ss:List (List UInt8)) (w:World) (hs:Secs B w v ss) (hN:ss.length≤2^20) (ht:TabAt w) (hT:1<w.heap.size) :
  Calls Tryz.prog 91 #[v] w fun e w'=>(∃ lv,e = .returned (.tuple #[lv,.int .i64 (recordsP ss).2.1,.int .i64 (recordsP ss).2.2.1,.int .i64 (recordsP ss).2.2.2])∧PiecesS (fun b=>w.heap.size≤b) w'.heap.size w' lv (recordsP ss).1)∧Below w.heap.size w w':=by
 have hs:Secs w.heap.size w v ss:=⟨hs.1,hs.2.tight (by decide)⟩
 obtain⟨_,a0,c0,rfl,hnc,hcap,hat⟩:=id hs.2
 obtain⟨N,hNN⟩:∃ N,N=ss.length:=⟨_,rfl⟩
 rw [← hNN] at hnc hN ⊢
 have HN:=zh hNN
 have HS:=zh hs
 have HT:=zh ht
 clear hs hat ht hNN
 go_enter Tryz.func91,Tryz.ntmps91
 go_wp2_with fail
 go_loopw [2,3,4] (fun lv u g wr=>∃ (list:List (List UInt8)) (used:Nat) (gen:Int) (f:Nat),RecsV w.heap.size wr lv list∧u = .int .i64 used∧g = .int .i64 gen∧used≤N∧list.length≤used∧N+1≤f+used∧recordsP ss=recsGo ss f list used gen∧Below w.heap.size w wr) (fun _ u _ _=>N-(intOf u).toNat)
 case atStart=>exact⟨[],0,0,N+1,RecsV.nil _ _,rfl,rfl,Nat.zero_le _,Nat.zero_le _,by omega,by rw [HN.out];rfl,Below.refl _ _⟩
 case round =>
  obtain⟨list,used,gen,f,hlv,rfl,rfl,hu,hlu,hf,hrec,hb⟩:=hrel
  obtain⟨la,lc,rfl⟩:=hlv.form
  have HLV:=zh hlv
  have HREC:=zh hrec
  have HB:=zh hb
  clear hlv hrec hb
  obtain⟨f,rfl⟩:∃ f',f=f'+1:=⟨f-1,by omega⟩
  have HNL:=zh (show (((list.length:Int) == 0)=true∧list=[])∨(((list.length:Int) == 0)=false∧list≠[]) by
   by_cases h:list=[]
   ·exact .inl ⟨by rw [h];rfl,h⟩
   ·refine .inr ⟨?_,h⟩
    have:0<list.length:=List.length_pos_iff.2 h
    simp;exact h)
  by_cases hun:used<N
  ·have u0:decide ((used:Int)<(N:Int))=true:=by simp;omega
   have hus:used<ss.length:=HN.out▸hun
   obtain⟨b0,off,rfl,hb0,_,_,_,hld⟩:=walLoadSec HS.out hus
   replace hld:=hld wr (fun p hp=>HB.out.cell hp)
   have hu1:(0:Int)≤(used:Int):=by omega
   have hu2:(used:Int)<(N:Int):=by omega
   have kr:=wread_any (s:=ss[used]) (HS.out.1 _ (List.getElem_mem hus)) wr
   obtain⟨X,hX⟩:∃ X,X=(u8s ss[used]).toArray:=⟨_,rfl⟩
   rw [← hX] at hld kr
   obtain⟨m,ok,hm⟩:∃ m ok,readMark ss[used]=(m,ok):=⟨_,_,rfl⟩
   rw [hm] at kr
   simp only [markV] at kr
   obtain⟨a,b,c,D⟩:=m
   simp only at kr
   obtain⟨gp,hgp⟩:∃ gp,gp=if list=[] then a else gen:=⟨_,rfl⟩
   obtain⟨n,hn⟩:∃ n:Nat,takesZ c=(n:Int):=⟨(takesZ c).toNat,by unfold takesZ;split <;> omega⟩
   have hn95:n≤95:=by unfold takesZ at hn;split at hn <;> omega
   have HGP:=zh hgp
   have HM:=zh hm
   have HX:=zh hX
   have HUS:=zh hus
   have HNZ:=zh hn
   clear hX hm hgp hn
   go_wp2_with (refine wp_load_at (.tmp 19) 94 rfl rfl rfl hld ?_;clear hld;refine Halt.in ?_)
   refine Halt.out ?_
   go_wp2_with fail
   refine kr.mono ?_
   rintro e w2 ⟨rfl,hb2⟩
   clear kr
   obtain⟨g3,hg3⟩:∃ g,g=w2.heap.size:=⟨_,rfl⟩
   obtain⟨w3,hw3⟩:∃ w3,w3=w2.alloc (.cells #[.int .i64 a,.int .i64 b,.int .i64 c,.int .u32 D] 145):=⟨_,rfl⟩
   have hb23:Below w2.heap.size w2 w3:=by rw [hw3];exact Below.alloc (Below.refl _ _) (Nat.le_refl _) _
   have hb3:Below wr.heap.size wr w3:=hb2.trans (hb23.mono hb2.size)
   have M3:w3.heap[g3]?=some (.cells #[.int .i64 a,.int .i64 b,.int .i64 c,.int .u32 D] 145 (0,0)):=by rw [hw3,hg3];exact heap_alloc_new w2 _
   have hg3r:wr.heap.size≤g3:=by rw [hg3];exact hb2.size
   have HW3:=zh hw3
   have HG3:=zh hg3
   have HB3:=zh hb3
   have HM3:=zh M3
   clear hw3 hg3 hb23 hb2 hb3 M3
   go_upto_if 26 with (fail)
   rw [← HW3.out,← HG3.out]
   go_cut [4] from 24 to 28 (fun s4 wx=>s4 = .int .i64 gp∧wx=w3)
   case first =>
    rcases HNL.out with ⟨hl0,he⟩ | ⟨hl0,he⟩
    ·have q0:((list.length:Int) == 0)=true:=hl0
     have HE:=zh he
     have hga:gp=a:=by rw [HGP.out,if_pos he]
     have HGA:=zh hga
     have A0:=cR w3 _ 0 _ _ _ HM3.out
     clear hl0 he hga
     go_wp2_with fail
     go_meet
     case rel=>exact⟨by rw [HGA.out],rfl⟩
    ·have q0:((list.length:Int) == 0)=false:=hl0
     have hga:gp=gen:=by rw [HGP.out,if_neg he]
     have HGA:=zh hga
     clear hl0 he hga
     go_wp2_with fail
     go_meet
     case rel=>exact⟨by rw [HGA.out],rfl⟩
   case rest =>
    obtain⟨rfl,rfl⟩:=hcut
    have A0:=cR wc _ 0 _ _ _ HM3.out
    have A1:=cR wc _ 1 _ _ _ HM3.out
    have A2:=cR wc _ 2 _ _ _ HM3.out
    have HLV3:=zh (HLV.out.below HB3.out)
    have HBB:=zh (HB.out.trans (HB3.out.mono HB.out.size))
    have kt:=takes_any c wc
    rw [HNZ.out] at kt
    have hwr:IntKind.i64.wrap ((N:Int)-used)=(N:Int)-used:=by
     simp only [IntKind.wrap,IntKind.bits,IntKind.signed]
     simp
     omega
    cases ok with
    | false =>
     have HR:=zh (HREC.out.trans (recs_stop HUS.out HM.out gp HGP.out (.inl rfl)))
     go_wp2_with fail
     refine kt.mono ?_
     rintro e w4 ⟨rfl,rfl⟩
     clear kt
     rcases HNL.out with ⟨hl0,he⟩ | ⟨hl0,he⟩
     ·have q0:((list.length:Int) == 0)=true:=hl0
      have HE:=zh he
      clear hl0 he
      go_wp2_with fail
      refine bodyPost_ret (v:=.tuple #[.slice none 0 0,.int .i64 0,.int .i64 0,.int .i64 6]) (by simp [results,Tryz.results91,go_sem]) rfl ?_
      rw [HR.out,HE.out,ended_nil]
      exact⟨⟨_,rfl,(RecsV.nil w.heap.size _).pieces⟩,HBB.out⟩
     ·have q0:((list.length:Int) == 0)=false:=hl0
      have HE:=zh he
      clear hl0 he
      go_wp2_with fail
      refine bodyPost_ret (v:=.tuple #[.slice la list.length lc,.int .i64 used,.int .i64 gp,.int .i64 0]) (by simp [results,Tryz.results91,go_sem]) rfl ?_
      rw [HR.out,ended_ne HE.out]
      exact⟨⟨_,rfl,HLV3.out.pieces⟩,HBB.out⟩
    | true =>
     by_cases h1:a≠gp
     ·have na:(a != gp)=true:=by simp;exact h1
      have HH1:=zh h1
      clear h1
      have HR:=zh (HREC.out.trans (recs_stop HUS.out HM.out gp HGP.out (.inr (.inl HH1.out))))
      go_wp2_with fail
      refine kt.mono ?_
      rintro e w4 ⟨rfl,rfl⟩
      clear kt
      rcases HNL.out with ⟨hl0,he⟩ | ⟨hl0,he⟩
      ·have q0:((list.length:Int) == 0)=true:=hl0
       have HE:=zh he
       clear hl0 he
       go_wp2_with fail
       refine bodyPost_ret (v:=.tuple #[.slice none 0 0,.int .i64 0,.int .i64 0,.int .i64 6]) (by simp [results,Tryz.results91,go_sem]) rfl ?_
       rw [HR.out,HE.out,ended_nil]
       exact⟨⟨_,rfl,(RecsV.nil w.heap.size _).pieces⟩,HBB.out⟩
      ·have q0:((list.length:Int) == 0)=false:=hl0
       have HE:=zh he
       clear hl0 he
       go_wp2_with fail
       refine bodyPost_ret (v:=.tuple #[.slice la list.length lc,.int .i64 used,.int .i64 gp,.int .i64 0]) (by simp [results,Tryz.results91,go_sem]) rfl ?_
       rw [HR.out,ended_ne HE.out]
       exact⟨⟨_,rfl,HLV3.out.pieces⟩,HBB.out⟩
     ·have na:(a != gp)=false:=by simp;omega
      have HH1:=zh h1
      clear h1
      by_cases h2:b≠(list.length:Int)
      ·have nb:(b != (list.length:Int))=true:=by simp;exact h2
       have HH2:=zh h2
       clear h2
       have HR:=zh (HREC.out.trans (recs_stop HUS.out HM.out gp HGP.out (.inr (.inr (.inl HH2.out)))))
       go_wp2_with fail
       refine kt.mono ?_
       rintro e w4 ⟨rfl,rfl⟩
       clear kt
       rcases HNL.out with ⟨hl0,he⟩ | ⟨hl0,he⟩
       ·have q0:((list.length:Int) == 0)=true:=hl0
        have HE:=zh he
        clear hl0 he
        go_wp2_with fail
        refine bodyPost_ret (v:=.tuple #[.slice none 0 0,.int .i64 0,.int .i64 0,.int .i64 6]) (by simp [results,Tryz.results91,go_sem]) rfl ?_
        rw [HR.out,HE.out,ended_nil]
        exact⟨⟨_,rfl,(RecsV.nil w.heap.size _).pieces⟩,HBB.out⟩
       ·have q0:((list.length:Int) == 0)=false:=hl0
        have HE:=zh he
        clear hl0 he
        go_wp2_with fail
        refine bodyPost_ret (v:=.tuple #[.slice la list.length lc,.int .i64 used,.int .i64 gp,.int .i64 0]) (by simp [results,Tryz.results91,go_sem]) rfl ?_
        rw [HR.out,ended_ne HE.out]
        exact⟨⟨_,rfl,HLV3.out.pieces⟩,HBB.out⟩
      ·have nb:(b != (list.length:Int))=false:=by simp;omega
       have HH2:=zh h2
       clear h2
       by_cases h3:N-used<n
       ·have nc:decide ((N:Int)-used<(n:Int))=true:=by simp;omega
        have HR:=zh (HREC.out.trans (recs_stop HUS.out HM.out gp HGP.out (.inr (.inr (.inr (by show ss.length-used<(takesZ c).toNat;rw [HNZ.out,← HN.out];omega))))))
        go_wp2_with fail
        refine kt.mono ?_
        rintro e w4 ⟨rfl,rfl⟩
        clear kt
        rcases HNL.out with ⟨hl0,he⟩ | ⟨hl0,he⟩
        ·have q0:((list.length:Int) == 0)=true:=hl0
         have HE:=zh he
         clear hl0 he
         go_wp2_with fail
         refine bodyPost_ret (v:=.tuple #[.slice none 0 0,.int .i64 0,.int .i64 0,.int .i64 6]) (by simp [results,Tryz.results91,go_sem]) rfl ?_
         rw [HR.out,HE.out,ended_nil]
         exact⟨⟨_,rfl,(RecsV.nil w.heap.size _).pieces⟩,HBB.out⟩
        ·have q0:((list.length:Int) == 0)=false:=hl0
         have HE:=zh he
         clear hl0 he
         go_wp2_with fail
         refine bodyPost_ret (v:=.tuple #[.slice la list.length lc,.int .i64 used,.int .i64 gp,.int .i64 0]) (by simp [results,Tryz.results91,go_sem]) rfl ?_
         rw [HR.out,ended_ne HE.out]
         exact⟨⟨_,rfl,HLV3.out.pieces⟩,HBB.out⟩
       ·have nc:decide ((N:Int)-used<(n:Int))=false:=by simp;omega
        obtain⟨hc1,hc2,hc3⟩:1≤c∧c≤6000∧(n:Int)=1+(c+63) / 64:=by
         have h0:0<takesZ c:=mark_takes HM.out
         have h1:=HNZ.out
         unfold takesZ at h0 h1
         split at h0
         ·omega
         ·rename_i h2
          rw [if_neg h2] at h1
          omega
        obtain⟨k,hk⟩:∃ k:Nat,n=k+1:=⟨n-1,by omega⟩
        have hkc:c≤64*k:=by omega
        have hw1:IntKind.i64.wrap ((used:Int)+1)=((used+1:Nat):Int):=by
         simp only [IntKind.wrap,IntKind.bits,IntKind.signed]
         simp
         omega
        have hw2:IntKind.i64.wrap ((used:Int)+n)=((used+n:Nat):Int):=by
         simp only [IntKind.wrap,IntKind.bits,IntKind.signed]
         simp
         omega
        have hle1:used+1≤used+n:=by omega
        have hle2:used+n≤c0:=by omega
        have hkk:used+n-(used+1)=k:=by omega
        have hne:used+1≠c0:=by omega
        have HK:=zh hk
        have HKC:=zh hkc
        have HC3:=zh hc3
        clear hk hkc hc3
        go_wp2_with fail
        refine kt.mono ?_
        rintro e w4 ⟨rfl,rfl⟩
        clear kt
        go_wp2_with fail
        rw [hkk]
        go_loopw [9,63] (fun bv z wx=>∃ j:Nat,j≤k∧z = .int .i64 j∧OwnB wc.heap.size wx bv ((ss.drop (used+1)).take j).flatten∧Below wc.heap.size wc wx) (fun _ z _=>k-(intOf z).toNat)
        case atStart=>exact⟨0,Nat.zero_le _,rfl,Own.none _ _ _ _ _,Below.refl _ _⟩
        case round =>
         obtain⟨j,hj,rfl,hown,hbx⟩:=hrel
         have HOWN:=zh hown
         have HBX:=zh hbx
         clear hown hbx
         by_cases hjk:j<k
         ·have j0:decide ((j:Int)<(k:Int))=true:=by simp;omega
          have hkss:used+1+j<ss.length:=by rw [← HN.out];have:=HK.out;omega
          obtain⟨b1,off1,he,_,_,_,_,hld⟩:=walLoadSec HS.out hkss
          cases he
          replace hld:=hld wr (fun p hp=>((HBB.out.trans (HBX.out.mono HBB.out.size)).cell hp))
          rw [show off+(used+1+j)*64=off+(used+1)*64+j*64 by omega] at hld
          obtain⟨Y,hY⟩:∃ Y,Y=(u8s ss[used+1+j]).toArray:=⟨_,rfl⟩
          have hyl:ss[used+1+j].length=64:=HS.out.1 _ (List.getElem_mem hkss)
          have hYs:Y.size=64:=by rw [hY];simp [zL,hyl]
          have hYo:∀ v∈Y.toList,v.oneCell'=true:=by rw [hY];exact oneCell_u8s _
          rw [← hY] at hld
          have j1:(0:Int)≤(j:Int):=by omega
          have j2:(j:Int)<(k:Int):=by omega
          obtain⟨z0,hz0,hzr⟩:=zero44
          obtain⟨w7,hw7,s7,g7,l7,hgg⟩:=box_alloc hz0 (Below.refl wr.heap.size wr)
          obtain⟨w8,hst,hbox⟩:=box_store hYs hYo g7 (Nat.le_refl _) s7
          have hsrc:Src Tryz.prog w8 (.slice (some ⟨wr.heap.size,0,none⟩) 64 64) 1 64 (u8s ss[used+1+j]):=by
           refine Row.src (B:=w8.heap.size) ⟨by rw [zL,hyl],_,64,rfl,Nat.le_refl _,by decide,fun _=>⟨wr.heap.size,0,rfl,zB hbox.2.1,fun q u hq=>?_⟩⟩
           rw [cR w8 wr.heap.size (0+q) _ _ _ hbox.2.1,hY]
           simpa using hq
          have HY:=zh hY
          have HST:=zh hst
          have HBOX:=zh hbox
          have HSRC:=zh hsrc
          have HZR:=zh hzr
          have HW7:=zh hw7
          clear hY hst hbox hsrc hzr hw7 hz0 g7 s7 l7 hyl hYs hYo hgg
          go_wp2_with (refine wp_load_at (.tmp 65) 94 rfl rfl rfl hld ?_;clear hld;refine Halt.in ?_)
          refine Halt.out ?_
          refine wp_alloc_to (w':=w7) 94 rfl rfl (HZR.out _) HW7.out ?_
          refine wp_store_at (.tmp 11) (.tmp 66) 94 rfl rfl rfl rfl HST.out ?_
          have hbl:(((ss.drop (used+1)).take j).flatten).length≤64*j:=flat64_le _ (fun s hs'=>HS.out.1 s (List.mem_of_mem_drop (List.mem_of_mem_take hs'))) j (by simp;omega)
          have hl46:(((ss.drop (used+1)).take j).flatten).length+(ss[used+1+j]).length≤2^46:=by rw [HS.out.1 _ (List.getElem_mem hkss)];omega
          have hown8:OwnB wc.heap.size w8 u9 ((ss.drop (used+1)).take j).flatten:=HOWN.out.below HBOX.out.2.2 (Nat.le_refl _)
          have hB8:wc.heap.size≤w8.heap.size:=Nat.le_trans HBX.out.size HBOX.out.2.2.size
          have hsn:((ss.drop (used+1)).take (j+1)).flatten=((ss.drop (used+1)).take j).flatten++ss[used+1+j]:=by
           rw [List.take_add_one,List.getElem?_drop,List.getElem?_eq_getElem hkss];simp
          have HSN:=zh hsn
          have hyl:ss[used+1+j].length=64:=HS.out.1 _ (List.getElem_mem hkss)
          have hsrc:Src Tryz.prog w8 (.slice (some ⟨wr.heap.size,0,none⟩) 64 64) 1 (ss[used+1+j]).length (u8s ss[used+1+j]):=by rw [hyl];exact HSRC.out
          have HSR:=zh hsrc
          have HL46:=zh hl46
          clear hsn hyl hbl hl46 hsrc HSRC
          go_wp2_with (at_builtin;refine ap_u8 rfl (.tmp 67) (.tmp 68) 23 rfl (.inl ⟨_,Tryz.underlying23⟩) rfl rfl hown8 HSR.out HL46.out hB8 ?_;intro v2 w9 hown2 hb2)
          have HF:=zh (show OwnB wc.heap.size w9 v2 ((ss.drop (used+1)).take (j+1)).flatten by rw [HSN.out];exact hown2)
          have HBF:=zh ((HBX.out.trans (HBOX.out.2.2.mono HBX.out.size)).trans hb2)
          clear hown2 hb2 hown8 hB8
          go_wp2_with fail
          go_roundw
          case rel=>exact⟨j+1,by omega,by go_num,HF.out,HBF.out⟩
          case measure=>simp [intOf];omega
         ·have j0:decide ((j:Int)<(k:Int))=false:=by simp;omega
          have hjk':j=k:=by omega
          have HJK:=zh hjk'
          clear hjk'
          obtain⟨cn,rfl⟩:∃ cn:Nat,c=(cn:Int):=⟨c.toNat,by omega⟩
          obtain⟨bsA,hbsA⟩:∃ b,b=((ss.drop (used+1)).take j).flatten:=⟨_,rfl⟩
          have hb9:=HOWN.out.bytes
          rw [← hbsA] at hb9
          have hLA:bsA.length=64*k:=by
           rw [hbsA,flat64_eq _ (fun s hs'=>HS.out.1 s (List.mem_of_mem_drop (List.mem_of_mem_take hs'))),List.length_take,List.length_drop,HJK.out,← HN.out]
           have:=HK.out
           omega
          have hcl:cn≤bsA.length:=by have:=HKC.out;omega
          obtain⟨_,a9,c9,rfl,hl9,hc9,hcells⟩:=id hb9
          have hl9':cn≤c9:=Nat.le_trans hcl hl9
          obtain⟨bs,hbs⟩:∃ bs,bs=bsA.take cn:=⟨_,rfl⟩
          have hbl:bs.length=cn:=by rw [hbs,List.length_take];omega
          have hbv:Bytes wr.heap.size wr (.slice a9 cn c9) bs:=by
           refine⟨by rw [zL];omega,a9,c9,by rw [hbl],by omega,hc9,fun hp=>?_⟩
           obtain⟨b9,o9,h1,h2,h3⟩:=hcells (by omega)
           refine⟨b9,o9,h1,h2,fun q u hq=>h3 q u ?_⟩
           rw [hbs,← u8s_take] at hq
           rw [List.getElem?_take] at hq
           split at hq
           ·exact hq
           ·cases hq
          have hM:=(HBX.out.block g3 (zB HM3.out)).trans HM3.out
          have hAll:Below w.heap.size w wr:=HBB.out.trans (HBX.out.mono HBB.out.size)
          have A2:=cR wr _ 2 _ _ _ hM
          have hA3:∀ w',Below wr.heap.size wr w'→w'.cell? ⟨g3,3,none⟩=some (.int .u32 D):=fun w' h=>cR w' _ 3 _ _ _ ((h.block _ (zB hM)).trans hM)
          have h00:Below wr.heap.size wr wr.drew:=zD (Below.refl _ _) 1
          have ks:=sum_any (.slice a9 cn c9) bs wr.drew wr.heap.size (HT.out.below (hAll.trans (h00.mono hAll.size)) hT) (hbv.below h00)
          obtain⟨sm,hsm⟩:∃ s,s=SumP.toI (SumP.sum bs):=⟨_,rfl⟩
          rw [← hsm] at ks
          have HSM:=zh hsm
          have HBV:=zh hbv
          have HALL:=zh hAll
          have HBSA:=zh hbsA
          have HBS:=zh hbs
          have HLA:=zh hLA
          clear hsm hbv hAll hbsA hbs hM hb9 hcells hLA hbl
          go_upto_region 14 with (fail)
          by_cases hsd:sm=D
          ·have sd:(sm != D)=false:=by simp [hsd]
           have HSD:=zh hsd
           clear hsd
           go_wp2_with fail
           refine zI [(false,0),(false,2),(false,3),(true,1),(false,4)] (fun w'=>Below wr.heap.size wr w') (by kernel_rfl) (by kernel_rfl) h00 ?_
           repeat (first | (refine zS rfl rfl ?_;simp only [Act.put,zq1,zq2,zq3]) | (refine zT rfl ?_ rfl (fun w' hw'=>?_) ?_;rotate_left;(go_simp;first | done | with_reducible rfl);(try simp only [Act.put,zq1,zq2,zq3])))
           refine zA rfl rfl fun K hK=>?_
           go_simp
           refine ks.mono ?_
           rintro e w9 ⟨rfl,rfl⟩
           refine hK.out _ _ h00 ?_
           clear hK K ks
           repeat (first | (refine zS rfl rfl ?_;simp only [Act.put,zq1,zq2,zq3]) | (refine zT rfl ?_ rfl (fun w' hw'=>?_) ?_;rotate_left;(go_simp;first | done | with_reducible rfl);(try simp only [Act.put,zq1,zq2,zq3])))
           refine zN ?_
           have kc:=clip_any (n:=cn) (c:=c9) a9 wr.drew hl9' hc9
           have hv9:=bytes_clip HBV.out
           have hap:=HLV3.out.apart9 (d:=cn) HOWN.out (Nat.le_refl _) hcl
           have hel3:=HLV3.out.below HBX.out
           obtain⟨hb8,hsrc8,vs,hvl,hown8,hel8,hv8⟩:=round_parts (w8:=(wr.alloc (.cells #[.slice a9 cn cn] 23)).drew) rfl hel3 hv9
           have HB8:=zh hb8
           have HEL8:=zh hel8
           have HV8:=zh hv8
           have HVL:=zh hvl
           have HAP:=zh hap
           have HSL9:=zh (sl9 (B:=w.heap.size) (d:=cn) HOWN.out (Nat.le_trans HBB.out.size (Nat.le_refl _)) hcl)
           clear hb8 hel8 hv8 hv9 hvl hap hel3
           have hone8:∀ u∈[Value.slice a9 cn cn],u.oneCell'=true:=fun u hu=>by rw [List.mem_singleton.1 hu];rfl
           obtain⟨i0,z0,hi0,hz0,hz1,hz2,hz3⟩:=zero_parts infoz_bytes
           have R1:list.length+1≤maxLen:=by unfold maxLen;omega
           have R2:(list.length+1)*24≤140737488355328:=by omega
           have hB8:w.heap.size≤(wr.alloc (.cells #[.slice a9 cn cn] 23)).drew.heap.size:=Nat.le_trans HALL.out.size HB8.out.size
           go_wp2_with fail
           refine kc.mono ?_
           rintro e w9 ⟨rfl,rfl⟩
           clear kc
           go_wp2_with (at_builtin;refine wp_append_apart rfl (.tmp 81) (.tmp 84) 66 66 23 rfl i0 z0 1 24 Tryz.underlying66 (.inl ⟨_,Tryz.underlying66⟩) hi0 hz0 hz1 hz2 hz3 rfl rfl hown8 hsrc8 hone8 R1 R2 hB8 (Nat.lt_succ_self 0) ?_;intro v2 w11 hown11 hb11 hg11;refine Halt.in ?_)
           refine Halt.out ?_
           have HR11:=zh (RecsV.snoc HVL.out hown11 HEL8.out HV8.out HAP.out HSL9.out hg11)
           have HB11:=zh ((HALL.out.trans (HB8.out.mono HALL.out.size)).trans hb11)
           clear hsrc8 hone8 hi0 hz0 hz1 hz2 hz3 hown8 R1 R2 hB8 hown11 hb11 hg11
           go_wp2_with fail
           go_roundw
           case rel =>
            refine⟨list++[bs],used+n,gp,f,HR11.out,rfl,rfl,by omega,by rw [List.length_append,List.length_singleton];omega,by omega,?_,HB11.out⟩
            rw [HREC.out,recs_step HUS.out HM.out gp HGP.out HNZ.out (Classical.not_not.1 HH1.out) (Classical.not_not.1 HH2.out) (by rw [← HN.out];exact h3) bs (by rw [HBS.out,HBSA.out,HJK.out,HK.out];rfl),if_neg (by rw [← HSM.out];exact fun h=>h HSD.out)]
           case measure=>simp [intOf];omega
          ·have sd:(sm != D)=true:=by simp [hsd]
           go_wp2_with fail
           refine zI [(false,0),(false,2),(false,3),(true,1),(false,4)] (fun w'=>Below wr.heap.size wr w') (by kernel_rfl) (by kernel_rfl) h00 ?_
           repeat (first | (refine zS rfl rfl ?_;simp only [Act.put,zq1,zq2,zq3]) | (refine zT rfl ?_ rfl (fun w' hw'=>?_) ?_;rotate_left;(go_simp;first | done | with_reducible rfl);(try simp only [Act.put,zq1,zq2,zq3])))
           refine zA rfl rfl fun K hK=>?_
           go_simp
           refine ks.mono ?_
           rintro e w9 ⟨rfl,rfl⟩
           refine hK.out _ _ h00 ?_
           clear hK K ks
           repeat (first | (refine zS rfl rfl ?_;simp only [Act.put,zq1,zq2,zq3]) | (refine zT rfl ?_ rfl (fun w' hw'=>?_) ?_;rotate_left;(go_simp;first | done | with_reducible rfl);(try simp only [Act.put,zq1,zq2,zq3])))
           refine zN ?_
           go_wp2_with fail
           refine bodyPost_ret (v:=.tuple #[.slice none 0 0,.int .i64 0,.int .i64 gp,.int .i64 10]) (by simp [results,Tryz.results91,go_sem]) rfl ?_
           have hall:recordsP ss=([],0,gp,10):=by
            rw [HREC.out,recs_step HUS.out HM.out gp HGP.out HNZ.out (Classical.not_not.1 HH1.out) (Classical.not_not.1 HH2.out) (by rw [← HN.out];exact h3) bs (by rw [HBS.out,HBSA.out,HJK.out,HK.out];rfl),if_pos (by rw [← HSM.out];exact hsd)]
           rw [hall]
           exact⟨⟨_,rfl,(RecsV.nil w.heap.size _).pieces⟩,zD HALL.out 1⟩
  ·have u0:decide ((used:Int)<(N:Int))=false:=by simp;omega
   have HR:=zh (HREC.out.trans (recs_end (by rw [← HN.out];exact hun)))
   rcases HNL.out with ⟨hl0,he⟩ | ⟨hl0,he⟩
   ·have q0:((list.length:Int) == 0)=true:=hl0
    have HE:=zh he
    clear hl0 he
    go_wp2_with fail
    refine bodyPost_ret (v:=.tuple #[.slice none 0 0,.int .i64 0,.int .i64 0,.int .i64 6]) (by simp [results,Tryz.results91,go_sem]) rfl ?_
    rw [HR.out,HE.out,ended_nil]
    exact⟨⟨_,rfl,(RecsV.nil w.heap.size _).pieces⟩,HB.out⟩
   ·have q0:((list.length:Int) == 0)=false:=hl0
    have HE:=zh he
    clear hl0 he
    go_wp2_with fail
    refine bodyPost_ret (v:=.tuple #[.slice la list.length lc,.int .i64 used,.int .i64 gen,.int .i64 0]) (by simp [results,Tryz.results91,go_sem]) rfl ?_
    rw [HR.out,ended_ne HE.out]
    exact⟨⟨_,rfl,HLV.out.pieces⟩,HB.out⟩
end
section
namespace WalP
theorem recsGo_bounds (l:List (List UInt8)):∀ (f:Nat) (list:List (List UInt8)) (used:Nat) (gen:Int),(∀ b∈list,b.length≤6000)→list.length≤used→used≤l.length →
  (∀ b∈(recsGo l f list used gen).1,b.length≤6000)∧(recsGo l f list used gen).1.length≤l.length
 | 0,list,used,gen,h1,h2,h3=>by
  simp only [recsGo]
  split
  ·exact⟨fun b hb=>absurd hb List.not_mem_nil,Nat.zero_le _⟩
  ·exact⟨h1,Nat.le_trans h2 h3⟩
 | f+1,list,used,gen,h1,h2,h3=>by
  simp only [recsGo]
  generalize (if list=[] then (readMark (l.getD used [])).1.gen else gen)=g'
  split
  ·split
   ·split
    ·exact⟨fun b hb=>absurd hb List.not_mem_nil,Nat.zero_le _⟩
    ·exact⟨h1,Nat.le_trans h2 h3⟩
   ·rename_i hu hc
    have hok:(readMark (l.getD used [])).2=true:=by
     cases e:(readMark (l.getD used [])).2 with
     | true=>rfl
     | false=>exact absurd (.inl e) hc
    have ht:0<takesZ (readMark (l.getD used [])).1.length:=by
     simp only [readMark,Bool.and_eq_true,decide_eq_true_eq] at hok ⊢
     exact hok.2
    have h4:¬ l.length-used<(takesZ (readMark (l.getD used [])).1.length).toNat:=fun h=>hc (.inr (.inr (.inr h)))
    have h5:(readMark (l.getD used [])).1.length≤6000:=by
     generalize (readMark (l.getD used [])).1.length=z at ht
     unfold takesZ at ht
     split at ht <;> omega
    split
    ·exact⟨fun b hb=>absurd hb List.not_mem_nil,Nat.zero_le _⟩
    ·refine recsGo_bounds l f _ _ _ (fun b hb=>?_) (by rw [List.length_append,List.length_singleton];omega) (by omega)
     rcases List.mem_append.1 hb with hb | hb
     ·exact h1 b hb
     ·rw [List.mem_singleton.1 hb,List.length_take]
      omega
  ·split
   ·exact⟨fun b hb=>absurd hb List.not_mem_nil,Nat.zero_le _⟩
   ·exact⟨h1,Nat.le_trans h2 h3⟩
theorem records_bounds (l:List (List UInt8)):(∀ b∈(recordsP l).1,b.length≤6000)∧(recordsP l).1.length≤l.length :=
 recsGo_bounds l _ [] 0 0 (fun b hb=>absurd hb List.not_mem_nil) (Nat.le_refl _) (Nat.zero_le _)
end WalP
end
end Go.Proofs.YtaijompnohkmaaaGreatDoor
