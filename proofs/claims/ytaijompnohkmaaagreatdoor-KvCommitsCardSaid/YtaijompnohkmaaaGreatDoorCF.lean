/- Layer 5 (wal): Append. -/
import Derived.Test.YtaijompnohkmaaaGreatDoorCE
set_option linter.unusedSimpArgs false
set_option linter.unusedVariables false
namespace Go.Proofs.YtaijompnohkmaaaGreatDoor
section
open Go.RowKit WalP PackP
def Two (a b:Nat) (x y:Obj) (w:World):Prop:=w.heap[a]?=some x∧w.heap[b]?=some y
theorem exit_all {w wx:World} {ga gb gc ge:Nat} {x0 x1 x2 x3 y0 y1 y2 y3:Value} {d:DiskP} (A:wx.heap[ga]?=some (.cells #[x0,x1,x2,x3] 38 (0,0))) (B:wx.heap[gb]?=some (.cells #[y0,y1,y2,y3] 41 (0,0)))
  (C:wx.heap[gc]?=some (.cells #[.slice none 0 0,.slice none 0 0,.int .i64 0,.bool false] 38 (0,0))) (E:wx.heap[ge]?=some (.cells #[.int .i64 0,.int .i64 0,.int .i64 0,.int .i64 0] 41 (0,0)))
  (hd:DiskV wx.heap.size wx (.agg #[x0,x1,x2,x3]) d) (hb:Below w.heap.size w wx) (hc:w.heap.size≤gc) (he:w.heap.size≤ge) (nce:gc≠ge) (nca:gc≠ga) (ncb:gc≠gb) (nea:ge≠ga) (neb:ge≠gb) :
  ∃ oa ob wa wb,Hid (wa=((((wx.setCell ⟨gc,0,none⟩ x0).setCell ⟨gc,1,none⟩ x1).setCell ⟨gc,2,none⟩ x2).setCell ⟨gc,3,none⟩ x3).drew)∧Hid (wb=(((wa.setCell ⟨ge,0,none⟩ y0).setCell ⟨ge,1,none⟩ y1).setCell ⟨ge,2,none⟩ y2).setCell ⟨ge,3,none⟩ y3)∧Two ga gb oa ob wx.drew∧Two ga gb oa ob wa∧Two ga gb oa ob wb ∧
   (∀ w',Two ga gb oa ob w'→w'.cell? ⟨ga,0,none⟩=some x0)∧(∀ w',Two ga gb oa ob w'→w'.cell? ⟨ga,1,none⟩=some x1)∧(∀ w',Two ga gb oa ob w'→w'.cell? ⟨ga,2,none⟩=some x2)∧(∀ w',Two ga gb oa ob w'→w'.cell? ⟨ga,3,none⟩=some x3) ∧
   (∀ w',Two ga gb oa ob w'→w'.cell? ⟨gb,0,none⟩=some y0)∧(∀ w',Two ga gb oa ob w'→w'.cell? ⟨gb,1,none⟩=some y1)∧(∀ w',Two ga gb oa ob w'→w'.cell? ⟨gb,2,none⟩=some y2)∧(∀ w',Two ga gb oa ob w'→w'.cell? ⟨gb,3,none⟩=some y3) ∧
   wx.cell? ⟨gc,0,none⟩=some (.slice none 0 0)∧wx.cell? ⟨gc,1,none⟩=some (.slice none 0 0)∧wx.cell? ⟨gc,2,none⟩=some (.int .i64 0)∧wx.cell? ⟨gc,3,none⟩=some (.bool false)∧(∀ o,wx.frozen? ⟨gc,o,none⟩=false) ∧
   wa.cell? ⟨ge,0,none⟩=some (.int .i64 0)∧wa.cell? ⟨ge,1,none⟩=some (.int .i64 0)∧wa.cell? ⟨ge,2,none⟩=some (.int .i64 0)∧wa.cell? ⟨ge,3,none⟩=some (.int .i64 0)∧(∀ o,wa.frozen? ⟨ge,o,none⟩=false) ∧
   Hid (wb.heap[gc]?=some (.cells #[x0,x1,x2,x3] 38 (0,0))∧wb.heap[ge]?=some (.cells #[y0,y1,y2,y3] 41 (0,0))∧DiskV wb.heap.size wb (.agg #[x0,x1,x2,x3]) d∧Below w.heap.size w wb):=by
 have C':wx.drew.heap[gc]?=some (.cells #[.slice none 0 0,.slice none 0 0,.int .i64 0,.bool false] 38 (0,0)):=C
 have E':wx.drew.heap[ge]?=some (.cells #[.int .i64 0,.int .i64 0,.int .i64 0,.int .i64 0] 41 (0,0)):=E
 have s0:Two ga gb (.cells #[x0,x1,x2,x3] 38 (0,0)) (.cells #[y0,y1,y2,y3] 41 (0,0)) wx.drew:=⟨A,B⟩
 have sa:Two ga gb (.cells #[x0,x1,x2,x3] 38 (0,0)) (.cells #[y0,y1,y2,y3] 41 (0,0)) (put4 wx.drew gc x0 x1 x2 x3):=⟨put4_far s0.1 nca _ _ _ _,put4_far s0.2 ncb _ _ _ _⟩
 have sb:Two ga gb (.cells #[x0,x1,x2,x3] 38 (0,0)) (.cells #[y0,y1,y2,y3] 41 (0,0)) (put4 (put4 wx.drew gc x0 x1 x2 x3) ge y0 y1 y2 y3):=⟨put4_far sa.1 nea _ _ _ _,put4_far sa.2 neb _ _ _ _⟩
 have Ea:(put4 wx.drew gc x0 x1 x2 x3).heap[ge]?=some (.cells #[.int .i64 0,.int .i64 0,.int .i64 0,.int .i64 0] 41 (0,0)):=put4_far E' nce _ _ _ _
 exact⟨_,_,put4 wx.drew gc x0 x1 x2 x3,put4 (put4 wx.drew gc x0 x1 x2 x3) ge y0 y1 y2 y3,zh rfl,zh rfl,s0,sa,sb,
  fun w' h=>cR w' _ 0 _ _ _ h.1,fun w' h=>cR w' _ 1 _ _ _ h.1,fun w' h=>cR w' _ 2 _ _ _ h.1,fun w' h=>cR w' _ 3 _ _ _ h.1,
  fun w' h=>cR w' _ 0 _ _ _ h.2,fun w' h=>cR w' _ 1 _ _ _ h.2,fun w' h=>cR w' _ 2 _ _ _ h.2,fun w' h=>cR w' _ 3 _ _ _ h.2,
  cR wx _ 0 _ _ _ C,cR wx _ 1 _ _ _ C,cR wx _ 2 _ _ _ C,cR wx _ 3 _ _ _ C,zF C,
  cR _ _ 0 _ _ _ Ea,cR _ _ 1 _ _ _ Ea,cR _ _ 2 _ _ _ Ea,cR _ _ 3 _ _ _ Ea,zF Ea,
  zh (exit_dl y0 y1 y2 y3 C' E' hd nce (zD hb 1) hc he)⟩
theorem five (w:World) (o0 o1 o2 o3 o4:Obj):∃ w5,w5=((((w.alloc o0).alloc o1).alloc o2).alloc o3).alloc o4∧Below w.heap.size w w5∧w5.heap.size=w.heap.size+5∧w5.heap[w.heap.size]?=some o0∧w5.heap[w.heap.size+1]?=some o1∧w5.heap[w.heap.size+1+1]?=some o2∧w5.heap[w.heap.size+1+1+1]?=some o3∧w5.heap[w.heap.size+1+1+1+1]?=some o4:=by
 refine⟨_,rfl,Below.alloc (Below.alloc (Below.alloc (Below.alloc (Below.alloc (Below.refl _ _) (Nat.le_refl _) _) (by simp) _) (by simp;omega) _) (by simp;omega) _) (by simp;omega) _,by simp,?_,?_,?_,?_,?_⟩
 all_goals
  simp only [alloc_heap,alloc_size]
  repeat (first | rw [if_pos trivial] | rw [if_neg (by omega)])
def AtBox (w7:World) (at_:Int) (wx:World) (v:Value):Prop:=∃ ga,v = .pointer (some ⟨ga,0,none⟩)∧w7.heap.size≤ga∧Below w7.heap.size w7 wx∧wx.heap[ga]?=some (.cells #[.int .i64 at_] 3 (0,0))
theorem allocOld {w:World} {o:Obj} {k:Nat} (h:k<w.heap.size):(w.alloc o).heap[k]?=w.heap[k]?:=by rw [alloc_heap,if_neg (by omega)]
theorem log_put {w:World} {G:Nat} {y0 y1 y2 y3 v:Value} (z2 z3:Value) {d:DiskP} (T:w.heap[G]?=some (.cells #[y0,y1,y2,y3] 41 (0,0))) (hd:DiskV w.heap.size w v d) :
  ∃ w9,w9=(w.setCell ⟨G,2,none⟩ z2).setCell ⟨G,3,none⟩ z3∧w9.heap[G]?=some (.cells #[y0,y1,z2,z3] 41 (0,0))∧DiskV w9.heap.size w9 v d∧(∀ k o,k≠G→w.heap[k]?=some o→w9.heap[k]?=some o)∧(∀ B w0,Below B w0 w→B≤G→Below B w0 w9):=by
 have e1:=hd.setFar (p:=⟨G,2,none⟩) (hd.slFar T (by simp)) z2
 have T1:(w.setCell ⟨G,2,none⟩ z2).heap[G]?=some (.cells #[y0,y1,z2,y3] 41 (0,0)):=by simp [World.setCell,Array.getElem?_modify,T]
 have e2:=e1.setFar (p:=⟨G,3,none⟩) (e1.slFar T1 (by simp)) z3
 have hz:((w.setCell ⟨G,2,none⟩ z2).setCell ⟨G,3,none⟩ z3).heap.size=w.heap.size:=by simp [World.setCell]
 refine⟨_,rfl,by simp [World.setCell,Array.getElem?_modify,T],by rw [hz];exact e2,fun k o hk h=>(setFar (Ne.symm hk) _ _).trans ((setFar (Ne.symm hk) _ _).trans h),fun B w0 hb hB=>(hb.setCell (p:=⟨G,2,none⟩) hB _).setCell (p:=⟨G,3,none⟩) hB _⟩
theorem cf_append:∀ args w,(callFunc 106 args).run Tryz.prog w = .ok (.enter 106 args) w:=fun args w=>callFunc_run Tryz.func106 rfl rfl args w
theorem rightL_bounds {d:DiskP} {l:LogP} (h:rightL d l=true):(l.half=0∨l.half=1)∧1≤l.gen∧l.gen≤1099511627776∧2≤l.used∧l.used≤(half d:Nat)∧1≤l.count∧l.count≤l.used∧half d≤2048:=by
 unfold rightL at h
 simp only [Bool.and_eq_true,Bool.or_eq_true,decide_eq_true_eq] at h
 have:=right_half h.1.1.1.1.1.1.1
 omega
set_option maxRecDepth 100000 in
set_option maxHeartbeats 8000000 in
theorem append_any {B:Nat} (v bv:Value) (d:DiskP) (l:LogP) (b:List UInt8) (w:World) (hd:DiskV B w v d) (hv:Bytes B w bv b) (hl0:-9223372036854775808≤l.half∧l.half≤9223372036854775807) (ht:TabAt w) (hT:1<w.heap.size) :
  Calls Tryz.prog 63 #[v,logV l,bv] w (DLE w (appendP d l b)):=by
 have hd:=hd.tight
 have hv:=hv.tight
 obtain⟨sa,sc,rfl⟩:=hv.form
 obtain⟨p1,q1,p2,q2,rfl,_,_⟩:=hd.parts
 obtain⟨w5,hw5,hb5,hs5,R0,R1,R2,R3,R4⟩:=five w (.cells #[.slice p1 d.secs.length q1,.slice p2 d.loose.length q2,.int .i64 d.fuse,.bool d.down] 38) (.cells #[.int .i64 l.half,.int .i64 l.gen,.int .i64 l.used,.int .i64 l.count] 41) (.cells #[.slice sa b.length sc] 23) (.cells #[.slice none 0 0,.slice none 0 0,.int .i64 0,.bool false] 38) (.cells #[.int .i64 0,.int .i64 0,.int .i64 0,.int .i64 0] 41)
 have hd5:=(hd.below hb5).tight
 have hv5:=hv.below hb5
 have HW5:=zh hw5
 clear hw5
 have k1:=takes_any (b.length:Int) w5
 rw [takesZ_nat] at k1
 obtain⟨tk,htk⟩:∃ tk,tk=takes b.length:=⟨_,rfl⟩
 rw [← htk] at k1
 have HTK:=zh htk
 have E0:=cR w5 _ 0 _ _ _ R2
 have kr:=walRight_any _ d l w5 hd5 hl0
 simp only [logV] at kr
 obtain⟨R,hR⟩:∃ R,R=rightL d l:=⟨_,rfl⟩
 rw [← hR] at kr
 have HR:=zh hR
 clear htk hR
 by_cases ht0:tk=0
 ·subst ht0
  have hF:appendP d l b=(d,l,1):=by unfold appendP;rw [if_pos (.inl HTK.out.symm)]
  rw [hF]
  have hd55:=hd5
  clear hF kr
  unfold DLE logV
  go_enter Tryz.func63,Tryz.ntmps63
  go_upto_region 1 with (fail)
  rw [← HW5.out]
  go_wp2_with fail
  refine k1.mono ?_
  rintro e w6 ⟨rfl,rfl⟩
  clear k1
  obtain⟨oa,ob,wa,wb,HWA,HWB,s0,sa,sb,L0,L1,L2,L3,M0,M1,M2,M3,D0,D1,D2,D3,Z2,F0,F1,F2,F3,Z3,HX⟩:=exit_all (w:=w) (wx:=w5) R0 R1 R3 R4 hd5 hb5 (by omega) (by omega) (by omega) (by omega) (by omega) (by omega) (by omega)
  clear R0 R1 R2 R3 R4 hd hv hd5 hv5 hb5 hs5 hd55 ht
  go_wp2_with fail
  refine zI [(false,0),(false,1),(true,2),(true,3),(false,4)] (Two w.heap.size (w.heap.size+1) oa ob) (by kernel_rfl) (by kernel_rfl) s0 ?_
  repeat (first | (refine zS rfl rfl ?_;simp only [Act.put,zq1,zq2,zq3]) | (refine zT rfl ?_ rfl (fun w' hw'=>?_) ?_;rotate_left;(go_simp;first | done | with_reducible rfl);(try simp only [Act.put,zq1,zq2,zq3])))
  refine zA rfl rfl fun K hK=>?_
  go_simp
  rw [← HWA.out]
  refine hK.out _ _ sa ?_
  clear hK K D0 D1 D2 D3 Z2
  refine zA rfl rfl fun K hK=>?_
  go_simp
  rw [← HWB.out]
  refine hK.out _ _ sb ?_
  clear hK K F0 F1 F2 F3 Z3
  repeat (first | (refine zS rfl rfl ?_;simp only [Act.put,zq1,zq2,zq3]) | (refine zT rfl ?_ rfl (fun w' hw'=>?_) ?_;rotate_left;(go_simp;first | done | with_reducible rfl);(try simp only [Act.put,zq1,zq2,zq3])))
  refine zN ?_
  go_wp2_with fail
  refine bodyPost_ret (results_cct rfl _ _ (w.heap.size+1+1+1) (w.heap.size+1+1+1+1) _ _ _ _ _ _ _ _ rfl rfl HX.out.1 HX.out.2.1 Tryz.underlying38 rfl zQ Tryz.underlying41 rfl size_log) rfl ?_
  exact⟨⟨_,rfl,HX.out.2.2.1⟩,HX.out.2.2.2⟩
 ·have t0:decide ((tk:Int)=0)=false:=by simp;omega
  have C0:=cR w5 _ 0 _ _ _ R0
  have C1:=cR w5 _ 1 _ _ _ R0
  have C2:=cR w5 _ 2 _ _ _ R0
  have C3:=cR w5 _ 3 _ _ _ R0
  have N0:=cR w5 _ 0 _ _ _ R1
  have N1:=cR w5 _ 1 _ _ _ R1
  have N2:=cR w5 _ 2 _ _ _ R1
  have N3:=cR w5 _ 3 _ _ _ R1
  cases R with
  | false =>
   have hF:appendP d l b=(d,l,1):=by unfold appendP;rw [if_pos (.inr HR.out.symm)]
   rw [hF]
   clear hF
   unfold DLE logV
   go_enter Tryz.func63,Tryz.ntmps63
   go_upto_region 1 with (fail)
   rw [← HW5.out]
   go_wp2_with fail
   refine k1.mono ?_
   rintro e w6 ⟨rfl,rfl⟩
   clear k1
   go_wp2_with fail
   refine kr.mono ?_
   rintro e w6 ⟨rfl,hb6⟩
   clear C0 C1 C2 C3 N0 N1 N2 N3 kr
   have S0:=(hb6.block _ (zB R0)).trans R0
   have S1:=(hb6.block _ (zB R1)).trans R1
   have S2:=(hb6.block _ (zB R2)).trans R2
   have S3:=(hb6.block _ (zB R3)).trans R3
   have S4:=(hb6.block _ (zB R4)).trans R4
   have hd6:=(hd5.below hb6).tight
   have hb06:=hb5.trans (hb6.mono hb5.size)
   obtain⟨oa,ob,wa,wb,HWA,HWB,s0,sa,sb,L0,L1,L2,L3,M0,M1,M2,M3,D0,D1,D2,D3,Z2,F0,F1,F2,F3,Z3,HX⟩:=exit_all (w:=w) (wx:=w6) S0 S1 S3 S4 hd6 hb06 (by omega) (by omega) (by omega) (by omega) (by omega) (by omega) (by omega)
   clear R0 R1 R2 R3 R4 S0 S1 S2 S3 S4 hd hv hd5 hv5 hb5 hs5 ht E0 hd6 hb6 hb06
   go_wp2_with fail
   refine zI [(false,0),(false,1),(true,2),(true,3),(false,4)] (Two w.heap.size (w.heap.size+1) oa ob) (by kernel_rfl) (by kernel_rfl) s0 ?_
   repeat (first | (refine zS rfl rfl ?_;simp only [Act.put,zq1,zq2,zq3]) | (refine zT rfl ?_ rfl (fun w' hw'=>?_) ?_;rotate_left;(go_simp;first | done | with_reducible rfl);(try simp only [Act.put,zq1,zq2,zq3])))
   refine zA rfl rfl fun K hK=>?_
   go_simp
   rw [← HWA.out]
   refine hK.out _ _ sa ?_
   clear hK K D0 D1 D2 D3 Z2
   refine zA rfl rfl fun K hK=>?_
   go_simp
   rw [← HWB.out]
   refine hK.out _ _ sb ?_
   clear hK K F0 F1 F2 F3 Z3
   repeat (first | (refine zS rfl rfl ?_;simp only [Act.put,zq1,zq2,zq3]) | (refine zT rfl ?_ rfl (fun w' hw'=>?_) ?_;rotate_left;(go_simp;first | done | with_reducible rfl);(try simp only [Act.put,zq1,zq2,zq3])))
   refine zN ?_
   go_wp2_with fail
   refine bodyPost_ret (results_cct rfl _ _ (w.heap.size+1+1+1) (w.heap.size+1+1+1+1) _ _ _ _ _ _ _ _ rfl rfl HX.out.1 HX.out.2.1 Tryz.underlying38 rfl zQ Tryz.underlying41 rfl size_log) rfl ?_
   exact⟨⟨_,rfl,HX.out.2.2.1⟩,HX.out.2.2.2⟩
  | true =>
   obtain⟨b1,b2,b3,b4,b5,b6,b7,b8⟩:=rightL_bounds HR.out.symm
   obtain⟨Rm,hRm⟩:∃ Rm,Rm=roomP d l:=⟨_,rfl⟩
   have kroom:∀ w6:World,DiskV w6.heap.size w6 (.agg #[.slice p1 d.secs.length q1,.slice p2 d.loose.length q2,.int .i64 d.fuse,.bool d.down]) d→Calls Tryz.prog 105 #[.agg #[.slice p1 d.secs.length q1,.slice p2 d.loose.length q2,.int .i64 d.fuse,.bool d.down],.agg #[.int .i64 l.half,.int .i64 l.gen,.int .i64 l.used,.int .i64 l.count]] w6 fun e w'=>e = .returned (.int .i64 Rm)∧Below w6.heap.size w6 w':=fun w6 h=>by
    have:=room_any _ d l w6 h hl0
    rw [← hRm] at this
    exact this
   have HRM:=zh hRm
   have HKR:=zh kroom
   have htk95:tk≤95:=by rw [HTK.out];exact takes_le _
   clear hRm kroom
   by_cases hgt:Rm<(tk:Int)
   ·have hgt1:decide (Rm<(tk:Int))=true:=by simp;omega
    have hF:appendP d l b=(d,l,8):=by
     unfold appendP
     rw [if_neg (by rw [← HTK.out,← HR.out];simp;omega),if_pos (by rw [← HRM.out,← HTK.out];exact hgt)]
    rw [hF]
    clear hF b1 b2 b3 b4 b5 b6 b7 b8
    unfold DLE logV
    go_enter Tryz.func63,Tryz.ntmps63
    go_upto_region 1 with (fail)
    rw [← HW5.out]
    go_wp2_with fail
    refine k1.mono ?_
    rintro e w6 ⟨rfl,rfl⟩
    clear k1
    go_wp2_with fail
    refine kr.mono ?_
    rintro e w6 ⟨rfl,hb6⟩
    clear C0 C1 C2 C3 N0 N1 N2 N3 kr
    have S0:=(hb6.block _ (zB R0)).trans R0
    have S1:=(hb6.block _ (zB R1)).trans R1
    have S2:=(hb6.block _ (zB R2)).trans R2
    have S3:=(hb6.block _ (zB R3)).trans R3
    have S4:=(hb6.block _ (zB R4)).trans R4
    have hd6:=(hd5.below hb6).tight
    have hb06:=hb5.trans (hb6.mono hb5.size)
    have C0:=cR w6 _ 0 _ _ _ S0
    have C1:=cR w6 _ 1 _ _ _ S0
    have C2:=cR w6 _ 2 _ _ _ S0
    have C3:=cR w6 _ 3 _ _ _ S0
    have N0:=cR w6 _ 0 _ _ _ S1
    have N1:=cR w6 _ 1 _ _ _ S1
    have N2:=cR w6 _ 2 _ _ _ S1
    have N3:=cR w6 _ 3 _ _ _ S1
    have kroom:=HKR.out w6 hd6
    go_wp2_with fail
    refine kroom.mono ?_
    rintro e w7 ⟨rfl,hb7⟩
    clear C0 C1 C2 C3 N0 N1 N2 N3 kroom
    have hb57:=hb6.trans (hb7.mono hb6.size)
    have hd7:=(hd6.below hb7).tight
    have hb07:=hb06.trans (hb7.mono (Nat.le_trans hb5.size hb6.size))
    clear S0 S1 S2 S3 S4
    have S0:=(hb57.block _ (zB R0)).trans R0
    have S1:=(hb57.block _ (zB R1)).trans R1
    have S2:=(hb57.block _ (zB R2)).trans R2
    have S3:=(hb57.block _ (zB R3)).trans R3
    have S4:=(hb57.block _ (zB R4)).trans R4
    obtain⟨oa,ob,wa,wb,HWA,HWB,s0,sa,sb,L0,L1,L2,L3,M0,M1,M2,M3,D0,D1,D2,D3,Z2,F0,F1,F2,F3,Z3,HX⟩:=exit_all (w:=w) (wx:=w7) S0 S1 S3 S4 hd7 hb07 (by omega) (by omega) (by omega) (by omega) (by omega) (by omega) (by omega)
    clear R0 R1 R2 R3 R4 S0 S1 S2 S3 S4 hd hv hd5 hv5 hb5 hs5 ht E0 hd6 hb6 hb06 hd7 hb7 hb07 hb57
    go_wp2_with fail
    refine zI [(false,0),(false,1),(true,2),(true,3),(false,4)] (Two w.heap.size (w.heap.size+1) oa ob) (by kernel_rfl) (by kernel_rfl) s0 ?_
    repeat (first | (refine zS rfl rfl ?_;simp only [Act.put,zq1,zq2,zq3]) | (refine zT rfl ?_ rfl (fun w' hw'=>?_) ?_;rotate_left;(go_simp;first | done | with_reducible rfl);(try simp only [Act.put,zq1,zq2,zq3])))
    refine zA rfl rfl fun K hK=>?_
    go_simp
    rw [← HWA.out]
    refine hK.out _ _ sa ?_
    clear hK K D0 D1 D2 D3 Z2
    refine zA rfl rfl fun K hK=>?_
    go_simp
    rw [← HWB.out]
    refine hK.out _ _ sb ?_
    clear hK K F0 F1 F2 F3 Z3
    repeat (first | (refine zS rfl rfl ?_;simp only [Act.put,zq1,zq2,zq3]) | (refine zT rfl ?_ rfl (fun w' hw'=>?_) ?_;rotate_left;(go_simp;first | done | with_reducible rfl);(try simp only [Act.put,zq1,zq2,zq3])))
    refine zN ?_
    go_wp2_with fail
    refine bodyPost_ret (results_cct rfl _ _ (w.heap.size+1+1+1) (w.heap.size+1+1+1+1) _ _ _ _ _ _ _ _ rfl rfl HX.out.1 HX.out.2.1 Tryz.underlying38 rfl zQ Tryz.underlying41 rfl size_log) rfl ?_
    exact⟨⟨_,rfl,HX.out.2.2.1⟩,HX.out.2.2.2⟩
   ·have hgt1:decide (Rm<(tk:Int))=false:=by simp;omega
    obtain⟨r,hr⟩:∃ r,r=run d (appendD d l b):=⟨_,rfl⟩
    have hF:appendP d l b=if r.2=0 then (r.1,{ l with used:=l.used+tk,count:=l.count+1 },0) else (r.1,l,r.2):=by
     unfold appendP
     rw [if_neg (by rw [← HTK.out,← HR.out];simp;omega),if_neg (by rw [← HRM.out,← HTK.out];exact hgt),← hr,← HTK.out]
    obtain⟨H,hH⟩:∃ H,H=half d:=⟨_,rfl⟩
    rw [← hH] at b5 b8
    have HHH:=zh hH
    clear hH
    obtain⟨at_,hat⟩:∃ at_,at_=l.half*H+l.used:=⟨_,rfl⟩
    have hat0:0≤at_:=by rcases b1 with h | h <;> rw [hat,h] <;> omega
    have hat1:at_≤2^40:=by rcases b1 with h | h <;> rw [hat,h] <;> omega
    have hwr0:IntKind.i64.wrap (l.half*H)=l.half*H:=by
     simp only [IntKind.wrap,IntKind.bits,IntKind.signed]
     rcases b1 with h | h <;> rw [h] <;> simp <;> omega
    have hwr1:IntKind.i64.wrap (l.half*H+l.used)=at_:=by
     rw [hat]
     simp only [IntKind.wrap,IntKind.bits,IntKind.signed]
     rcases b1 with h | h <;> rw [h] <;> simp <;> omega
    have hblen:b.length≤2^20:=by
     have h:=HTK.out
     unfold takes at h
     split at h <;> omega
    have hdo:∀ (w9:World),Below w5.heap.size w5 w9→DiskV w9.heap.size w9 (.agg #[.slice p1 d.secs.length q1,.slice p2 d.loose.length q2,.int .i64 d.fuse,.bool d.down]) d→∀ (ga:Nat),w9.heap[ga]?=some (.cells #[.int .i64 at_] 3 (0,0))→∀ (g:Nat) (w':World),Below w9.heap.size w9 w'→HandAt g w' d→w9.heap.size≤g→Calls Tryz.prog 106 (#[.pointer (some ⟨g,0,none⟩)]++#[.pointer (some ⟨ga,0,none⟩),.pointer (some ⟨w.heap.size+1+1,0,none⟩),.pointer (some ⟨w.heap.size+1,0,none⟩)]) w' fun x w''=>x=hEnd r.2∧HandAt g w'' r.1∧w'.grownBy w'' (some g):=fun w9 hb59 hd9 ga hga g w' hb' hh' hle=>by
     have hs9:=hb59.size
     have hlg:=zB hga
     have hb':Below w9.heap.size w9 w':=hb'
     have hbw:Below w5.heap.size w5 w':=hb59.trans (hb'.mono hs9)
     have:=append1_any (g:=g) (ba:=ga) (bb:=w.heap.size+1+1) (bl:=w.heap.size+1) d l at_ (.slice sa b.length sc) b w' hh' ⟨(hb'.block _ hlg).trans hga,(hbw.block _ (zB R2)).trans R2,(hbw.block _ (zB R1)).trans R1⟩ (by omega) (by have:=zB R2;omega) (by have:=zB R1;omega) ((hv5.below (hbw.mono hb5.size)).mono (by omega)) (ht.below (hb5.trans (hbw.mono hb5.size)) hT) (by omega) hblen hat0 hat1
     rw [hr]
     unfold appendD
     rw [← HHH.out,← hat]
     exact this
    have HDO:=zh hdo
    have HF:=zh hF
    clear hdo hF hr
    rw [HF.out]
    have hmf:=makeFunc_run
    have Hat:=zh hat
    clear hat
    unfold DLE logV
    go_enter Tryz.func63,Tryz.ntmps63
    go_upto_region 1 with (fail)
    rw [← HW5.out]
    go_wp2_with fail
    refine k1.mono ?_
    rintro e w6 ⟨rfl,rfl⟩
    clear k1
    go_wp2_with fail
    refine kr.mono ?_
    rintro e w6 ⟨rfl,hb6⟩
    clear C0 C1 C2 C3 N0 N1 N2 N3 kr
    have S0:=(hb6.block _ (zB R0)).trans R0
    have S1:=(hb6.block _ (zB R1)).trans R1
    have S2:=(hb6.block _ (zB R2)).trans R2
    have S3:=(hb6.block _ (zB R3)).trans R3
    have S4:=(hb6.block _ (zB R4)).trans R4
    have hd6:=(hd5.below hb6).tight
    have hb06:=hb5.trans (hb6.mono hb5.size)
    have C0:=cR w6 _ 0 _ _ _ S0
    have C1:=cR w6 _ 1 _ _ _ S0
    have C2:=cR w6 _ 2 _ _ _ S0
    have C3:=cR w6 _ 3 _ _ _ S0
    have N0:=cR w6 _ 0 _ _ _ S1
    have N1:=cR w6 _ 1 _ _ _ S1
    have N2:=cR w6 _ 2 _ _ _ S1
    have N3:=cR w6 _ 3 _ _ _ S1
    have kroom:=HKR.out w6 hd6
    go_wp2_with fail
    refine kroom.mono ?_
    rintro e w7 ⟨rfl,hb7⟩
    clear C0 C1 C2 C3 N0 N1 N2 N3 kroom
    have hb57:=hb6.trans (hb7.mono hb6.size)
    have hd7:=(hd6.below hb7).tight
    have hb07:=hb06.trans (hb7.mono (Nat.le_trans hb5.size hb6.size))
    clear S0 S1 S2 S3 S4
    have S0:=(hb57.block _ (zB R0)).trans R0
    have S1:=(hb57.block _ (zB R1)).trans R1
    have S2:=(hb57.block _ (zB R2)).trans R2
    have S3:=(hb57.block _ (zB R3)).trans R3
    have S4:=(hb57.block _ (zB R4)).trans R4
    obtain⟨oa,hoa⟩:∃ o:Obj,o = .cells #[.slice p1 d.secs.length q1,.slice p2 d.loose.length q2,.int .i64 d.fuse,.bool d.down] 38:=⟨_,rfl⟩
    obtain⟨ob,hob⟩:∃ o:Obj,o = .cells #[.int .i64 l.half,.int .i64 l.gen,.int .i64 l.used,.int .i64 l.count] 41:=⟨_,rfl⟩
    have L0:∀ w',Two w.heap.size (w.heap.size+1) oa ob w'→w'.cell? ⟨w.heap.size,0,none⟩=some (.slice p1 d.secs.length q1):=fun w' h=>by rw [hoa] at h;exact cR w' _ 0 _ _ _ h.1
    have L1:∀ w',Two w.heap.size (w.heap.size+1) oa ob w'→w'.cell? ⟨w.heap.size,1,none⟩=some (.slice p2 d.loose.length q2):=fun w' h=>by rw [hoa] at h;exact cR w' _ 1 _ _ _ h.1
    have L2:∀ w',Two w.heap.size (w.heap.size+1) oa ob w'→w'.cell? ⟨w.heap.size,2,none⟩=some (.int .i64 d.fuse):=fun w' h=>by rw [hoa] at h;exact cR w' _ 2 _ _ _ h.1
    have L3:∀ w',Two w.heap.size (w.heap.size+1) oa ob w'→w'.cell? ⟨w.heap.size,3,none⟩=some (.bool d.down):=fun w' h=>by rw [hoa] at h;exact cR w' _ 3 _ _ _ h.1
    have M0:∀ w',Two w.heap.size (w.heap.size+1) oa ob w'→w'.cell? ⟨w.heap.size+1,0,none⟩=some (.int .i64 l.half):=fun w' h=>by rw [hob] at h;exact cR w' _ 0 _ _ _ h.2
    have M2:∀ w',Two w.heap.size (w.heap.size+1) oa ob w'→w'.cell? ⟨w.heap.size+1,2,none⟩=some (.int .i64 l.used):=fun w' h=>by rw [hob] at h;exact cR w' _ 2 _ _ _ h.2
    have kh:∀ w':World,Below w7.heap.size w7 w'→Calls Tryz.prog 96 #[.agg #[.slice p1 d.secs.length q1,.slice p2 d.loose.length q2,.int .i64 d.fuse,.bool d.down]] w' fun e w''=>e = .returned (.int .i64 (H:Nat))∧Below w'.heap.size w' w'':=fun w' h=>by rw [HHH.out];exact walHalf_any _ d w' (hd7.below h)
    have s0:Two w.heap.size (w.heap.size+1) oa ob w7.drew:=by rw [hoa,hob];exact⟨S0,S1⟩
    have HRR:=zh (show _∧_∧_∧_∧_ from ⟨R0,R1,R2,R3,R4⟩)
    have HB57:=zh hb57
    have HB5:=zh hb5
    have HV5:=zh hv5
    have HDD:=zh hd7
    have HOA:=zh hoa
    have HOB:=zh hob
    clear R0 R1 R2 R3 R4 S0 S1 S2 S3 S4 hd hv hd5 hv5 hb5 hs5 ht E0 hd6 hb6 hb06 hd7 hb7 hb07 hb57 hoa hob
    go_upto_region 6 with (fail)
    go_cut [10] from 34 to 41 (fun s10 wx=>AtBox w7 at_ wx s10)
    case first =>
     refine wp_region_start (Two w.heap.size (w.heap.size+1) oa ob) (by kernel_rfl) s0 ?_
     refine wpAnyH_part [(false,0),(false,1),(false,2),(false,5),(false,6)] (by kernel_rfl) s0 ?_
     repeat (first | (refine zS rfl rfl ?_;simp only [Act.put,zq1,zq2,zq3]) | (refine zT rfl ?_ rfl (fun w' hw'=>?_) ?_;rotate_left;(go_simp;first | done | with_reducible rfl);(try simp only [Act.put,zq1,zq2,zq3])))
     refine zN ?_
     refine wpAnyH_ready (rs:=[3,8]) (by kernel_rfl) (by simp) ?_
     refine zR rfl rfl (fun K hK=>?_) (zR rfl rfl (fun K hK=>?_) AllReadyH.nil)
     ·go_simp
      refine (kh _ (zD (Below.refl _ _) 1)).mono ?_
      rintro e w8 ⟨rfl,hb8⟩
      have s8:Two w.heap.size (w.heap.size+1) oa ob w8:=⟨(hb8.block _ (zB s0.1)).trans s0.1,(hb8.block _ (zB s0.2)).trans s0.2⟩
      have hb78:Below w7.heap.size w7 w8:=(zD (Below.refl _ _) 1).trans hb8
      refine hK.out _ _ s8 ?_
      clear hK K kh
      refine wpAnyH_end [(false,4),(false,7),(true,8),(true,9)] (by kernel_rfl) s8 ?_
      repeat (first | (refine zS rfl rfl ?_;simp only [Act.put,zq1,zq2,zq3]) | (refine zT rfl ?_ rfl (fun w' hw'=>?_) ?_;rotate_left;(go_simp;first | done | with_reducible rfl);(try simp only [Act.put,zq1,zq2,zq3])))
      refine zA rfl rfl fun K hK=>?_
      go_simp
      have s9:∀ o,Two w.heap.size (w.heap.size+1) oa ob (w8.alloc o):=fun o=>⟨(allocOld (zB s8.1)).trans s8.1,(allocOld (zB s8.2)).trans s8.2⟩
      refine hK.out _ _ (s9 _) ?_
      clear hK K
      refine zA rfl rfl fun K hK=>?_
      go_simp
      refine hK.out _ _ (s9 _) ?_
      clear hK K
      have hfin:AtBox w7 at_ (w8.alloc (.cells #[.int .i64 at_] 3)) (.pointer (some ⟨w8.heap.size,0,none⟩)):=⟨_,rfl,hb78.size,hb78.alloc hb78.size _,heap_alloc_new w8 _⟩
      have HFIN:=zh hfin
      clear hfin s9
      refine zN ?_
      go_wp2_with fail
      go_meet
      case rel=>exact HFIN.out
     ·go_simp
      have hS4:Below w7.heap.size w7 (w7.alloc (.cells #[.int .i64 0] 3)).drew:=((Below.refl _ _).alloc (Nat.le_refl _) _).drew
      have s4:Two w.heap.size (w.heap.size+1) oa ob (w7.alloc (.cells #[.int .i64 0] 3)).drew:=⟨(hS4.block _ (zB s0.1)).trans s0.1,(hS4.block _ (zB s0.2)).trans s0.2⟩
      refine hK.out _ _ s4 ?_
      clear hK K
      have hG4:(w7.alloc (.cells #[.int .i64 0] 3)).drew.heap[w7.heap.size]?=some (.cells #[.int .i64 0] 3 (0,0)):=heap_alloc_new w7 _
      obtain⟨w4,hw4⟩:∃ w4,w4=(w7.alloc (.cells #[.int .i64 0] 3)).drew:=⟨_,rfl⟩
      rw [← hw4] at hS4 hG4 s4 ⊢
      clear hw4
      refine wpAnyH_end [(true,3),(false,4),(false,7),(true,9)] (by kernel_rfl) s4 ?_
      refine zA rfl rfl fun K hK=>?_
      go_simp
      refine (kh _ hS4).mono ?_
      rintro e w8 ⟨rfl,hb8⟩
      have hb78:Below w7.heap.size w7 w8:=hS4.trans (hb8.mono hS4.size)
      have s8:Two w.heap.size (w.heap.size+1) oa ob w8:=⟨(hb78.block _ (zB s0.1)).trans s0.1,(hb78.block _ (zB s0.2)).trans s0.2⟩
      have hG8:=(hb8.block _ (zB hG4)).trans hG4
      refine hK.out _ _ s8 ?_
      clear hK K kh
      repeat (first | (refine zS rfl rfl ?_;simp only [Act.put,zq1,zq2,zq3]) | (refine zT rfl ?_ rfl (fun w' hw'=>?_) ?_;rotate_left;(go_simp;first | done | with_reducible rfl);(try simp only [Act.put,zq1,zq2,zq3])))
      have A0:=cR w8 _ 0 _ _ _ hG8
      have ZA:=zF hG8
      obtain⟨wb,hwb⟩:∃ wb,wb=w8.setCell ⟨w7.heap.size,0,none⟩ (.int .i64 at_):=⟨_,rfl⟩
      have hbb:Below w7.heap.size w7 wb:=by rw [hwb];exact hb78.setCell (Nat.le_refl _) _
      have s9:Two w.heap.size (w.heap.size+1) oa ob wb:=⟨(hbb.block _ (zB s0.1)).trans s0.1,(hbb.block _ (zB s0.2)).trans s0.2⟩
      have hfin:AtBox w7 at_ wb (.pointer (some ⟨w7.heap.size,0,none⟩)):=⟨_,rfl,Nat.le_refl _,hbb,by rw [hwb];simp [World.setCell,Array.getElem?_modify,hG8]⟩
      have HFIN:=zh hfin
      have HWB:=zh hwb
      clear hfin hwb hbb hS4 hG4
      refine zA rfl rfl fun K hK=>?_
      go_simp
      rw [← HWB.out]
      refine hK.out _ _ s9 ?_
      clear hK K
      refine zN ?_
      go_wp2_with fail
      go_meet
      case rel=>exact HFIN.out
    case rest =>
     obtain⟨ga,rfl,hga,hbc,hrow⟩:=hcut
     obtain⟨R0,R1,R2,R3,R4⟩:=HRR.out
     have hb5c:Below w5.heap.size w5 wc:=HB57.out.trans (hbc.mono HB57.out.size)
     have hdc:=(HDD.out.below hbc).tight
     have S0:=(hb5c.block _ (zB R0)).trans R0
     have C0:=cR wc _ 0 _ _ _ S0
     have C1:=cR wc _ 1 _ _ _ S0
     have C2:=cR wc _ 2 _ _ _ S0
     have C3:=cR wc _ 3 _ _ _ S0
     have kw:=write_any _ #[.pointer (some ⟨ga,0,none⟩),.pointer (some ⟨w.heap.size+1+1,0,none⟩),.pointer (some ⟨w.heap.size+1,0,none⟩)] d r wc hdc cf_append (HDO.out wc hb5c hdc ga hrow)
     clear R0 R1 R2 R3 R4 S0 hga hbc hrow hdc s0 kh
     go_wp2_with fail
     refine kw.mono ?_
     rintro e w8 ⟨⟨v',rfl,hd8⟩,hb8⟩
     clear C0 C1 C2 C3 kw HDO
     obtain⟨p3,q3,p4,q4,rfl,_,_⟩:=hd8.parts
     have hb58:=hb5c.trans (hb8.mono hb5c.size)
     obtain⟨R0,R1,R2,R3,R4⟩:=HRR.out
     have S0:=(hb58.block _ (zB R0)).trans R0
     have S1:=(hb58.block _ (zB R1)).trans R1
     have S2:=(hb58.block _ (zB R2)).trans R2
     have S3:=(hb58.block _ (zB R3)).trans R3
     have S4:=(hb58.block _ (zB R4)).trans R4
     obtain⟨w9,hw9,T0,hd9,keep9,_,below9⟩:=box_put S0 hd8
     have T1:=keep9 _ _ (by omega) S1
     have T3:=keep9 _ _ (by omega) S3
     have T4:=keep9 _ _ (by omega) S4
     have hb09:=below9 _ _ (HB5.out.trans (hb58.mono HB5.out.size)) (Nat.le_refl _)
     have C0:=cR w8 _ 0 _ _ _ S0
     have C1:=cR w8 _ 1 _ _ _ S0
     have C2:=cR w8 _ 2 _ _ _ S0
     have C3:=cR w8 _ 3 _ _ _ S0
     have Z0:=zF S0
     dsimp only [put4] at hw9
     have HW9:=zh hw9
     have HT0:=zh T0
     have HT1:=zh T1
     have HT3:=zh T3
     have HT4:=zh T4
     have HD9:=zh hd9
     have HB9:=zh hb09
     clear S0 S1 S2 S3 S4 R0 R1 R2 R3 R4 hb5c hb8 hb58 hd8 T0 T1 T3 T4 hd9 hb09 hw9 keep9 below9
     go_upto_region 8 with (fail)
     rw [← HW9.out]
     clear C0 C1 C2 C3 Z0 HW9
     by_cases he:r.2=0
     ·have hne0:(r.2 != 0)=false:=by simp [he]
      rw [he] at hne0
      have hwu:IntKind.i64.wrap (l.used+(tk:Int))=l.used+tk:=by
       simp only [IntKind.wrap,IntKind.bits,IntKind.signed]
       simp
       omega
      have hwc:IntKind.i64.wrap (l.count+1)=l.count+1:=by
       simp only [IntKind.wrap,IntKind.bits,IntKind.signed]
       simp
       omega
      obtain⟨w10,hw10,U1,hd10,keep10,below10⟩:=log_put (.int .i64 (l.used+tk)) (.int .i64 (l.count+1)) HT1.out HD9.out
      have U0:=keep10 _ _ (by omega) HT0.out
      have U3:=keep10 _ _ (by omega) HT3.out
      have U4:=keep10 _ _ (by omega) HT4.out
      have hb10:=below10 _ _ HB9.out (by omega)
      have HW10:=zh hw10
      have HU0:=zh U0
      have HU1:=zh U1
      have HU3:=zh U3
      have HU4:=zh U4
      have HD10:=zh hd10
      have HB10:=zh hb10
      have N0:=cR w9 _ 0 _ _ _ HT1.out
      have N1:=cR w9 _ 1 _ _ _ HT1.out
      have N2:=cR w9 _ 2 _ _ _ HT1.out
      have N3:=cR w9 _ 3 _ _ _ HT1.out
      have Z1:=zF HT1.out
      clear hw10 U0 U1 U3 U4 hd10 hb10 keep10 below10
      go_upto_region 12 with (fail)
      rw [← HW10.out]
      clear N0 N1 N2 N3 Z1 hwu hwc
      obtain⟨oa,ob,wa,wb,HWA,HWB,s0,sa,sb,L0,L1,L2,L3,M0,M1,M2,M3,D0,D1,D2,D3,Z2,F0,F1,F2,F3,Z3,HX⟩:=exit_all (w:=w) (wx:=w10) HU0.out HU1.out HU3.out HU4.out HD10.out HB10.out (by omega) (by omega) (by omega) (by omega) (by omega) (by omega) (by omega)
      go_wp2_with fail
      refine zI [(false,0),(false,1),(true,2),(true,3),(false,4)] (Two w.heap.size (w.heap.size+1) oa ob) (by kernel_rfl) (by kernel_rfl) s0 ?_
      repeat (first | (refine zS rfl rfl ?_;simp only [Act.put,zq1,zq2,zq3]) | (refine zT rfl ?_ rfl (fun w' hw'=>?_) ?_;rotate_left;(go_simp;first | done | with_reducible rfl);(try simp only [Act.put,zq1,zq2,zq3])))
      refine zA rfl rfl fun K hK=>?_
      go_simp
      rw [← HWA.out]
      refine hK.out _ _ sa ?_
      clear hK K D0 D1 D2 D3 Z2
      refine zA rfl rfl fun K hK=>?_
      go_simp
      rw [← HWB.out]
      refine hK.out _ _ sb ?_
      clear hK K F0 F1 F2 F3 Z3
      repeat (first | (refine zS rfl rfl ?_;simp only [Act.put,zq1,zq2,zq3]) | (refine zT rfl ?_ rfl (fun w' hw'=>?_) ?_;rotate_left;(go_simp;first | done | with_reducible rfl);(try simp only [Act.put,zq1,zq2,zq3])))
      refine zN ?_
      go_wp2_with fail
      refine bodyPost_ret (results_cct rfl _ _ (w.heap.size+1+1+1) (w.heap.size+1+1+1+1) _ _ _ _ _ _ _ _ rfl rfl HX.out.1 HX.out.2.1 Tryz.underlying38 rfl zQ Tryz.underlying41 rfl size_log) rfl ?_
      exact⟨⟨_,rfl,HX.out.2.2.1⟩,HX.out.2.2.2⟩
     ·have hne0:(r.2 != 0)=true:=by simp [he]
      obtain⟨oa,ob,wa,wb,HWA,HWB,s0,sa,sb,L0,L1,L2,L3,M0,M1,M2,M3,D0,D1,D2,D3,Z2,F0,F1,F2,F3,Z3,HX⟩:=exit_all (w:=w) (wx:=w9) HT0.out HT1.out HT3.out HT4.out HD9.out HB9.out (by omega) (by omega) (by omega) (by omega) (by omega) (by omega) (by omega)
      go_wp2_with fail
      refine zI [(false,0),(false,1),(false,2),(true,3),(true,4),(false,5)] (Two w.heap.size (w.heap.size+1) oa ob) (by kernel_rfl) (by kernel_rfl) s0 ?_
      repeat (first | (refine zS rfl rfl ?_;simp only [Act.put,zq1,zq2,zq3]) | (refine zT rfl ?_ rfl (fun w' hw'=>?_) ?_;rotate_left;(go_simp;first | done | with_reducible rfl);(try simp only [Act.put,zq1,zq2,zq3])))
      refine zA rfl rfl fun K hK=>?_
      go_simp
      rw [← HWA.out]
      refine hK.out _ _ sa ?_
      clear hK K D0 D1 D2 D3 Z2
      refine zA rfl rfl fun K hK=>?_
      go_simp
      rw [← HWB.out]
      refine hK.out _ _ sb ?_
      clear hK K F0 F1 F2 F3 Z3
      repeat (first | (refine zS rfl rfl ?_;simp only [Act.put,zq1,zq2,zq3]) | (refine zT rfl ?_ rfl (fun w' hw'=>?_) ?_;rotate_left;(go_simp;first | done | with_reducible rfl);(try simp only [Act.put,zq1,zq2,zq3])))
      refine zN ?_
      go_wp2_with fail
      refine bodyPost_ret (results_cct rfl _ _ (w.heap.size+1+1+1) (w.heap.size+1+1+1+1) _ _ _ _ _ _ _ _ rfl rfl HX.out.1 HX.out.2.1 Tryz.underlying38 rfl zQ Tryz.underlying41 rfl size_log) rfl ?_
      exact⟨⟨_,rfl,HX.out.2.2.1⟩,HX.out.2.2.2⟩
end
section
open Go.RowKit WalP PackP
theorem cf_compact:∀ args w,(callFunc 111 args).run Tryz.prog w = .ok (.enter 111 args) w:=fun args w=>callFunc_run Tryz.func111 rfl rfl args w
set_option maxRecDepth 100000 in
set_option maxHeartbeats 8000000 in
theorem compact_any {B:Nat} (v lv:Value) (d:DiskP) (l:LogP) (list:List (List UInt8)) (w:World) (hd:DiskV B w v d) (hv:Pieces B w lv list) (hl0:-9223372036854775808≤l.half∧l.half≤9223372036854775807) (ht:TabAt w) (hT:1<w.heap.size)
  (hl1:∀ b∈list,b.length≤2^20) (hl2:list.length≤2^20) :
  Calls Tryz.prog 64 #[v,logV l,lv] w (DLE w (compactP d l list)):=by
 have hd:=hd.tight
 have hv:=hv.tight
 obtain⟨la,lc,rfl,_,_,_⟩:=id hv.at_
 obtain⟨p1,q1,p2,q2,rfl,_,_⟩:=hd.parts
 obtain⟨w5,hw5,hb5,hs5,R0,R1,R2,R3,R4⟩:=five w (.cells #[.slice p1 d.secs.length q1,.slice p2 d.loose.length q2,.int .i64 d.fuse,.bool d.down] 38) (.cells #[.int .i64 l.half,.int .i64 l.gen,.int .i64 l.used,.int .i64 l.count] 41) (.cells #[.slice la list.length lc] 66) (.cells #[.slice none 0 0,.slice none 0 0,.int .i64 0,.bool false] 38) (.cells #[.int .i64 0,.int .i64 0,.int .i64 0,.int .i64 0] 41)
 have hd5:=(hd.below hb5).tight
 have hv5:=hv.below hb5
 have HW5:=zh hw5
 clear hw5
 have k1:=total_any _ list w5 hv5 (by omega) (fun b hb=>Nat.le_trans (hl1 b hb) (by decide))
 have E0:=cR w5 _ 0 _ _ _ R2
 have kr:=walRight_any _ d l w5 hd5 hl0
 simp only [logV] at kr
 obtain⟨R,hR⟩:∃ R,R=rightL d l:=⟨_,rfl⟩
 rw [← hR] at kr
 have HR:=zh hR
 clear hR
 cases htot:total list with
 | none =>
  have hF:compactP d l list=(d,l,1):=by unfold compactP;rw [htot]
  rw [hF]
  have hT':totV list = .tuple #[.int .i64 0,.bool false]:=by unfold totV;rw [htot]
  rw [hT'] at k1
  clear hF kr hT' htot
  unfold DLE logV
  go_enter Tryz.func64,Tryz.ntmps64
  go_upto_region 1 with (fail)
  rw [← HW5.out]
  go_wp2_with fail
  refine k1.mono ?_
  rintro e w6 ⟨rfl,rfl⟩
  clear k1
  obtain⟨oa,ob,wa,wb,HWA,HWB,s0,sa,sb,L0,L1,L2,L3,M0,M1,M2,M3,D0,D1,D2,D3,Z2,F0,F1,F2,F3,Z3,HX⟩:=exit_all (w:=w) (wx:=w5) R0 R1 R3 R4 hd5 hb5 (by omega) (by omega) (by omega) (by omega) (by omega) (by omega) (by omega)
  clear R0 R1 R2 R3 R4 hd hv hd5 hv5 hb5 hs5 ht
  go_wp2_with fail
  refine zI [(false,0),(false,1),(true,2),(true,3),(false,4)] (Two w.heap.size (w.heap.size+1) oa ob) (by kernel_rfl) (by kernel_rfl) s0 ?_
  repeat (first | (refine zS rfl rfl ?_;simp only [Act.put,zq1,zq2,zq3]) | (refine zT rfl ?_ rfl (fun w' hw'=>?_) ?_;rotate_left;(go_simp;first | done | with_reducible rfl);(try simp only [Act.put,zq1,zq2,zq3])))
  refine zA rfl rfl fun K hK=>?_
  go_simp
  rw [← HWA.out]
  refine hK.out _ _ sa ?_
  clear hK K D0 D1 D2 D3 Z2
  refine zA rfl rfl fun K hK=>?_
  go_simp
  rw [← HWB.out]
  refine hK.out _ _ sb ?_
  clear hK K F0 F1 F2 F3 Z3
  repeat (first | (refine zS rfl rfl ?_;simp only [Act.put,zq1,zq2,zq3]) | (refine zT rfl ?_ rfl (fun w' hw'=>?_) ?_;rotate_left;(go_simp;first | done | with_reducible rfl);(try simp only [Act.put,zq1,zq2,zq3])))
  refine zN ?_
  go_wp2_with fail
  refine bodyPost_ret (results_cct rfl _ _ (w.heap.size+1+1+1) (w.heap.size+1+1+1+1) _ _ _ _ _ _ _ _ rfl rfl HX.out.1 HX.out.2.1 Tryz.underlying38 rfl zQ Tryz.underlying41 rfl size_log) rfl ?_
  exact⟨⟨_,rfl,HX.out.2.2.1⟩,HX.out.2.2.2⟩
 | some n =>
  have hT':totV list = .tuple #[.int .i64 n,.bool true]:=by unfold totV;rw [htot]
  rw [hT'] at k1
  have HNE:=zh (total_ne htot)
  have HTOT:=zh htot
  clear hT' htot
  have C0:=cR w5 _ 0 _ _ _ R0
  have C1:=cR w5 _ 1 _ _ _ R0
  have C2:=cR w5 _ 2 _ _ _ R0
  have C3:=cR w5 _ 3 _ _ _ R0
  have N0:=cR w5 _ 0 _ _ _ R1
  have N1:=cR w5 _ 1 _ _ _ R1
  have N2:=cR w5 _ 2 _ _ _ R1
  have N3:=cR w5 _ 3 _ _ _ R1
  cases R with
  | false =>
   have hF:compactP d l list=(d,l,1):=by unfold compactP;rw [HTOT.out,← HR.out];rfl
   rw [hF]
   clear hF
   unfold DLE logV
   go_enter Tryz.func64,Tryz.ntmps64
   go_upto_region 1 with (fail)
   rw [← HW5.out]
   go_wp2_with fail
   refine k1.mono ?_
   rintro e w6 ⟨rfl,rfl⟩
   clear k1
   go_wp2_with fail
   refine kr.mono ?_
   rintro e w6 ⟨rfl,hb6⟩
   clear C0 C1 C2 C3 N0 N1 N2 N3 kr
   have S0:=(hb6.block _ (zB R0)).trans R0
   have S1:=(hb6.block _ (zB R1)).trans R1
   have S2:=(hb6.block _ (zB R2)).trans R2
   have S3:=(hb6.block _ (zB R3)).trans R3
   have S4:=(hb6.block _ (zB R4)).trans R4
   have hd6:=(hd5.below hb6).tight
   have hb06:=hb5.trans (hb6.mono hb5.size)
   obtain⟨oa,ob,wa,wb,HWA,HWB,s0,sa,sb,L0,L1,L2,L3,M0,M1,M2,M3,D0,D1,D2,D3,Z2,F0,F1,F2,F3,Z3,HX⟩:=exit_all (w:=w) (wx:=w6) S0 S1 S3 S4 hd6 hb06 (by omega) (by omega) (by omega) (by omega) (by omega) (by omega) (by omega)
   clear R0 R1 R2 R3 R4 S0 S1 S2 S3 S4 hd hv hd5 hv5 hb5 hs5 ht E0 hd6 hb6 hb06
   go_wp2_with fail
   refine zI [(false,0),(false,1),(true,2),(true,3),(false,4)] (Two w.heap.size (w.heap.size+1) oa ob) (by kernel_rfl) (by kernel_rfl) s0 ?_
   repeat (first | (refine zS rfl rfl ?_;simp only [Act.put,zq1,zq2,zq3]) | (refine zT rfl ?_ rfl (fun w' hw'=>?_) ?_;rotate_left;(go_simp;first | done | with_reducible rfl);(try simp only [Act.put,zq1,zq2,zq3])))
   refine zA rfl rfl fun K hK=>?_
   go_simp
   rw [← HWA.out]
   refine hK.out _ _ sa ?_
   clear hK K D0 D1 D2 D3 Z2
   refine zA rfl rfl fun K hK=>?_
   go_simp
   rw [← HWB.out]
   refine hK.out _ _ sb ?_
   clear hK K F0 F1 F2 F3 Z3
   repeat (first | (refine zS rfl rfl ?_;simp only [Act.put,zq1,zq2,zq3]) | (refine zT rfl ?_ rfl (fun w' hw'=>?_) ?_;rotate_left;(go_simp;first | done | with_reducible rfl);(try simp only [Act.put,zq1,zq2,zq3])))
   refine zN ?_
   go_wp2_with fail
   refine bodyPost_ret (results_cct rfl _ _ (w.heap.size+1+1+1) (w.heap.size+1+1+1+1) _ _ _ _ _ _ _ _ rfl rfl HX.out.1 HX.out.2.1 Tryz.underlying38 rfl zQ Tryz.underlying41 rfl size_log) rfl ?_
   exact⟨⟨_,rfl,HX.out.2.2.1⟩,HX.out.2.2.2⟩
  | true =>
   obtain⟨b1,b2,b3,b4,b5,b6,b7,b8⟩:=rightL_bounds HR.out.symm
   obtain⟨H,hH⟩:∃ H,H=half d:=⟨_,rfl⟩
   rw [← hH] at b5 b8
   have HHH:=zh hH
   clear hH
   have kh:∀ w':World,DiskV w'.heap.size w' (.agg #[.slice p1 d.secs.length q1,.slice p2 d.loose.length q2,.int .i64 d.fuse,.bool d.down]) d→Calls Tryz.prog 96 #[.agg #[.slice p1 d.secs.length q1,.slice p2 d.loose.length q2,.int .i64 d.fuse,.bool d.down]] w' fun e w''=>e = .returned (.int .i64 (H:Nat))∧Below w'.heap.size w' w'':=fun w' h=>by rw [HHH.out];exact walHalf_any _ d w' h
   have KH:=zh kh
   clear kh
   by_cases hgt:H<n
   ·have hgt1:decide ((H:Int)<(n:Int))=true:=by simp;omega
    have hF:compactP d l list=(d,l,8):=by
     unfold compactP;rw [HTOT.out]
     simp only [← HR.out,if_true]
     rw [if_pos (by rw [← HHH.out];exact hgt)]
    rw [hF]
    clear hF b1 b2 b3 b4 b5 b6 b7 b8
    unfold DLE logV
    go_enter Tryz.func64,Tryz.ntmps64
    go_upto_region 1 with (fail)
    rw [← HW5.out]
    go_wp2_with fail
    refine k1.mono ?_
    rintro e w6 ⟨rfl,rfl⟩
    clear k1
    go_wp2_with fail
    refine kr.mono ?_
    rintro e w6 ⟨rfl,hb6⟩
    clear C0 C1 C2 C3 N0 N1 N2 N3 kr
    have S0:=(hb6.block _ (zB R0)).trans R0
    have S1:=(hb6.block _ (zB R1)).trans R1
    have S2:=(hb6.block _ (zB R2)).trans R2
    have S3:=(hb6.block _ (zB R3)).trans R3
    have S4:=(hb6.block _ (zB R4)).trans R4
    have hd6:=(hd5.below hb6).tight
    have hb06:=hb5.trans (hb6.mono hb5.size)
    have C0:=cR w6 _ 0 _ _ _ S0
    have C1:=cR w6 _ 1 _ _ _ S0
    have C2:=cR w6 _ 2 _ _ _ S0
    have C3:=cR w6 _ 3 _ _ _ S0
    have kh:=KH.out w6 hd6
    go_wp2_with fail
    refine kh.mono ?_
    rintro e w7 ⟨rfl,hb7⟩
    clear C0 C1 C2 C3 kh
    have hb57:=hb6.trans (hb7.mono hb6.size)
    have hd7:=(hd6.below hb7).tight
    have hb07:=hb06.trans (hb7.mono (Nat.le_trans hb5.size hb6.size))
    clear S0 S1 S2 S3 S4
    have S0:=(hb57.block _ (zB R0)).trans R0
    have S1:=(hb57.block _ (zB R1)).trans R1
    have S2:=(hb57.block _ (zB R2)).trans R2
    have S3:=(hb57.block _ (zB R3)).trans R3
    have S4:=(hb57.block _ (zB R4)).trans R4
    obtain⟨oa,ob,wa,wb,HWA,HWB,s0,sa,sb,L0,L1,L2,L3,M0,M1,M2,M3,D0,D1,D2,D3,Z2,F0,F1,F2,F3,Z3,HX⟩:=exit_all (w:=w) (wx:=w7) S0 S1 S3 S4 hd7 hb07 (by omega) (by omega) (by omega) (by omega) (by omega) (by omega) (by omega)
    clear R0 R1 R2 R3 R4 S0 S1 S2 S3 S4 hd hv hd5 hv5 hb5 hs5 ht E0 hd6 hb6 hb06 hd7 hb7 hb07 hb57
    go_wp2_with fail
    refine zI [(false,0),(false,1),(true,2),(true,3),(false,4)] (Two w.heap.size (w.heap.size+1) oa ob) (by kernel_rfl) (by kernel_rfl) s0 ?_
    repeat (first | (refine zS rfl rfl ?_;simp only [Act.put,zq1,zq2,zq3]) | (refine zT rfl ?_ rfl (fun w' hw'=>?_) ?_;rotate_left;(go_simp;first | done | with_reducible rfl);(try simp only [Act.put,zq1,zq2,zq3])))
    refine zA rfl rfl fun K hK=>?_
    go_simp
    rw [← HWA.out]
    refine hK.out _ _ sa ?_
    clear hK K D0 D1 D2 D3 Z2
    refine zA rfl rfl fun K hK=>?_
    go_simp
    rw [← HWB.out]
    refine hK.out _ _ sb ?_
    clear hK K F0 F1 F2 F3 Z3
    repeat (first | (refine zS rfl rfl ?_;simp only [Act.put,zq1,zq2,zq3]) | (refine zT rfl ?_ rfl (fun w' hw'=>?_) ?_;rotate_left;(go_simp;first | done | with_reducible rfl);(try simp only [Act.put,zq1,zq2,zq3])))
    refine zN ?_
    go_wp2_with fail
    refine bodyPost_ret (results_cct rfl _ _ (w.heap.size+1+1+1) (w.heap.size+1+1+1+1) _ _ _ _ _ _ _ _ rfl rfl HX.out.1 HX.out.2.1 Tryz.underlying38 rfl zQ Tryz.underlying41 rfl size_log) rfl ?_
    exact⟨⟨_,rfl,HX.out.2.2.1⟩,HX.out.2.2.2⟩
   ·have hgt1:decide ((H:Int)<(n:Int))=false:=by simp;omega
    by_cases hg40:l.gen=1099511627776
    ·have hg41:(l.gen == 1099511627776)=true:=by simp [hg40]
     have hF:compactP d l list=(d,l,15):=by
      unfold compactP;rw [HTOT.out]
      simp only [← HR.out,if_true]
      rw [if_neg (by rw [← HHH.out];exact hgt),if_pos hg40]
     rw [hF]
     clear hF b1 b2 b3 b4 b5 b6 b7 b8 hg40
     unfold DLE logV
     go_enter Tryz.func64,Tryz.ntmps64
     go_upto_region 1 with (fail)
     rw [← HW5.out]
     go_wp2_with fail
     refine k1.mono ?_
     rintro e w6 ⟨rfl,rfl⟩
     clear k1
     go_wp2_with fail
     refine kr.mono ?_
     rintro e w6 ⟨rfl,hb6⟩
     clear C0 C1 C2 C3 N0 N1 N2 N3 kr
     have S0:=(hb6.block _ (zB R0)).trans R0
     have S1:=(hb6.block _ (zB R1)).trans R1
     have S2:=(hb6.block _ (zB R2)).trans R2
     have S3:=(hb6.block _ (zB R3)).trans R3
     have S4:=(hb6.block _ (zB R4)).trans R4
     have hd6:=(hd5.below hb6).tight
     have hb06:=hb5.trans (hb6.mono hb5.size)
     have C0:=cR w6 _ 0 _ _ _ S0
     have C1:=cR w6 _ 1 _ _ _ S0
     have C2:=cR w6 _ 2 _ _ _ S0
     have C3:=cR w6 _ 3 _ _ _ S0
     have kh:=KH.out w6 hd6
     go_wp2_with fail
     refine kh.mono ?_
     rintro e w7 ⟨rfl,hb7⟩
     clear C0 C1 C2 C3 kh
     have hb57:=hb6.trans (hb7.mono hb6.size)
     have hd7:=(hd6.below hb7).tight
     have hb07:=hb06.trans (hb7.mono (Nat.le_trans hb5.size hb6.size))
     clear S0 S1 S2 S3 S4
     have S0:=(hb57.block _ (zB R0)).trans R0
     have S1:=(hb57.block _ (zB R1)).trans R1
     have S2:=(hb57.block _ (zB R2)).trans R2
     have S3:=(hb57.block _ (zB R3)).trans R3
     have S4:=(hb57.block _ (zB R4)).trans R4
     have N0:=cR w7 _ 0 _ _ _ S1
     have N1:=cR w7 _ 1 _ _ _ S1
     have N2:=cR w7 _ 2 _ _ _ S1
     have N3:=cR w7 _ 3 _ _ _ S1
     obtain⟨oa,ob,wa,wb,HWA,HWB,s0,sa,sb,L0,L1,L2,L3,M0,M1,M2,M3,D0,D1,D2,D3,Z2,F0,F1,F2,F3,Z3,HX⟩:=exit_all (w:=w) (wx:=w7) S0 S1 S3 S4 hd7 hb07 (by omega) (by omega) (by omega) (by omega) (by omega) (by omega) (by omega)
     clear R0 R1 R2 R3 R4 S0 S1 S2 S3 S4 hd hv hd5 hv5 hb5 hs5 ht E0 hd6 hb6 hb06 hd7 hb7 hb07 hb57
     go_wp2_with fail
     refine zI [(false,0),(false,1),(true,2),(true,3),(false,4)] (Two w.heap.size (w.heap.size+1) oa ob) (by kernel_rfl) (by kernel_rfl) s0 ?_
     repeat (first | (refine zS rfl rfl ?_;simp only [Act.put,zq1,zq2,zq3]) | (refine zT rfl ?_ rfl (fun w' hw'=>?_) ?_;rotate_left;(go_simp;first | done | with_reducible rfl);(try simp only [Act.put,zq1,zq2,zq3])))
     refine zA rfl rfl fun K hK=>?_
     go_simp
     rw [← HWA.out]
     refine hK.out _ _ sa ?_
     clear hK K D0 D1 D2 D3 Z2
     refine zA rfl rfl fun K hK=>?_
     go_simp
     rw [← HWB.out]
     refine hK.out _ _ sb ?_
     clear hK K F0 F1 F2 F3 Z3
     repeat (first | (refine zS rfl rfl ?_;simp only [Act.put,zq1,zq2,zq3]) | (refine zT rfl ?_ rfl (fun w' hw'=>?_) ?_;rotate_left;(go_simp;first | done | with_reducible rfl);(try simp only [Act.put,zq1,zq2,zq3])))
     refine zN ?_
     go_wp2_with fail
     refine bodyPost_ret (results_cct rfl _ _ (w.heap.size+1+1+1) (w.heap.size+1+1+1+1) _ _ _ _ _ _ _ _ rfl rfl HX.out.1 HX.out.2.1 Tryz.underlying38 rfl zQ Tryz.underlying41 rfl size_log) rfl ?_
     exact⟨⟨_,rfl,HX.out.2.2.1⟩,HX.out.2.2.2⟩
    ·have hg41:(l.gen == 1099511627776)=false:=by simp [hg40]
     obtain⟨r,hr⟩:∃ r,r=run d (layD (half d) (1-l.half) (l.gen+1) list):=⟨_,rfl⟩
     have hF:compactP d l list=if r.2=0 then (r.1,⟨1-l.half,l.gen+1,n,list.length⟩,0) else (r.1,l,r.2):=by
      unfold compactP;rw [HTOT.out]
      simp only [← HR.out,if_true]
      rw [if_neg (by rw [← HHH.out];exact hgt),if_neg hg40,← hr]
     have hw1:IntKind.i64.wrap (1-l.half)=1-l.half:=by
      simp only [IntKind.wrap,IntKind.bits,IntKind.signed]
      rcases b1 with h | h <;> rw [h] <;> decide
     have hw2:IntKind.i64.wrap (l.gen+1)=l.gen+1:=by
      simp only [IntKind.wrap,IntKind.bits,IntKind.signed]
      simp
      omega
     have hdo:∀ (w9:World),Below w5.heap.size w5 w9→∀ (ga:Nat),w9.heap[ga]?=some (.cells #[.int .i64 (1-l.half),.int .i64 (l.gen+1),.int .i64 n,.int .i64 list.length] 41 (0,0))→∀ (g:Nat) (w':World),Below w9.heap.size w9 w'→HandAt g w' d→w9.heap.size≤g→Calls Tryz.prog 111 (#[.pointer (some ⟨g,0,none⟩)]++#[.pointer (some ⟨ga,0,none⟩),.pointer (some ⟨w.heap.size+1+1,0,none⟩)]) w' fun x w''=>x=hEnd r.2∧HandAt g w'' r.1∧w'.grownBy w'' (some g):=fun w9 hb59 ga hga g w' hb' hh' hle=>by
      have hs9:=hb59.size
      have hlg:=zB hga
      have hb':Below w9.heap.size w9 w':=hb'
      have hbw:Below w5.heap.size w5 w':=hb59.trans (hb'.mono hs9)
      rw [hr]
      exact compact1_any (g:=g) (bn:=ga) (bl:=w.heap.size+1+1) d ⟨1-l.half,l.gen+1,n,list.length⟩ _ list w' hh' ((hb'.block _ hlg).trans hga) ((hbw.block _ (zB R2)).trans R2) ((hv5.below (hbw.mono hb5.size)).mono (by omega)) (ht.below (hb5.trans (hbw.mono hb5.size)) hT) (by omega) (by rcases b1 with h | h <;> simp only [h] <;> decide) (by rw [← HHH.out];omega) hl1 hl2 HNE.out
     have HDO:=zh hdo
     have HF:=zh hF
     clear hdo hF hr b1 b2 b3 b4 b5 b6 b7 b8 hg40
     rw [HF.out]
     have hmf:=makeFunc_run
     unfold DLE logV
     go_enter Tryz.func64,Tryz.ntmps64
     go_upto_region 1 with (fail)
     rw [← HW5.out]
     go_wp2_with fail
     refine k1.mono ?_
     rintro e w6 ⟨rfl,rfl⟩
     clear k1
     go_wp2_with fail
     refine kr.mono ?_
     rintro e w6 ⟨rfl,hb6⟩
     clear C0 C1 C2 C3 N0 N1 N2 N3 kr
     have S0:=(hb6.block _ (zB R0)).trans R0
     have S1:=(hb6.block _ (zB R1)).trans R1
     have S2:=(hb6.block _ (zB R2)).trans R2
     have S3:=(hb6.block _ (zB R3)).trans R3
     have S4:=(hb6.block _ (zB R4)).trans R4
     have hd6:=(hd5.below hb6).tight
     have hb06:=hb5.trans (hb6.mono hb5.size)
     have C0:=cR w6 _ 0 _ _ _ S0
     have C1:=cR w6 _ 1 _ _ _ S0
     have C2:=cR w6 _ 2 _ _ _ S0
     have C3:=cR w6 _ 3 _ _ _ S0
     have kh:=KH.out w6 hd6
     go_wp2_with fail
     refine kh.mono ?_
     rintro e w7 ⟨rfl,hb7⟩
     clear C0 C1 C2 C3 kh
     have hb57:=hb6.trans (hb7.mono hb6.size)
     have hd7:=(hd6.below hb7).tight
     have hb07:=hb06.trans (hb7.mono (Nat.le_trans hb5.size hb6.size))
     clear S0 S1 S2 S3 S4
     have S0:=(hb57.block _ (zB R0)).trans R0
     have S1:=(hb57.block _ (zB R1)).trans R1
     have S2:=(hb57.block _ (zB R2)).trans R2
     have S3:=(hb57.block _ (zB R3)).trans R3
     have S4:=(hb57.block _ (zB R4)).trans R4
     have N0:=cR w7 _ 0 _ _ _ S1
     have N1:=cR w7 _ 1 _ _ _ S1
     have N2:=cR w7 _ 2 _ _ _ S1
     have N3:=cR w7 _ 3 _ _ _ S1
     obtain⟨wc,hwc⟩:∃ wc,wc=w7.alloc (.cells #[.int .i64 (1-l.half),.int .i64 (l.gen+1),.int .i64 n,.int .i64 list.length] 41):=⟨_,rfl⟩
     have hbc:Below w7.heap.size w7 wc:=by rw [hwc];exact Below.alloc (Below.refl _ _) (Nat.le_refl _) _
     have hrow:wc.heap[w7.heap.size]?=some (.cells #[.int .i64 (1-l.half),.int .i64 (l.gen+1),.int .i64 n,.int .i64 list.length] 41 (0,0)):=by rw [hwc];exact heap_alloc_new w7 _
     have hb5c:Below w5.heap.size w5 wc:=hb57.trans (hbc.mono hb57.size)
     have hdc:=(hd7.below hbc).tight
     have HWC:=zh hwc
     have HRR:=zh (show _∧_∧_∧_∧_ from ⟨R0,R1,R2,R3,R4⟩)
     have HB5:=zh hb5
     obtain⟨gn,hgn⟩:∃ gn,gn=w7.heap.size:=⟨_,rfl⟩
     rw [← hgn] at hrow
     have gne:w5.heap.size≤gn:=by rw [hgn];exact hb57.size
     have HGN:=zh hgn
     clear hgn S0 S2 S3 S4 hwc
     have E7:=cR w7 _ 0 _ _ _ ((hb57.block _ (zB R2)).trans R2)
     clear R0 R1 R2 R3 R4 hd hv hd5 hv5 ht E0 hd6 hb6 hb06 hd7 hb7 hb07 hb57 hbc S1
     go_upto_region 9 with (fail)
     rw [← HWC.out,← HGN.out]
     clear N0 N1 N2 N3 E7 hw1 hw2
     obtain⟨R0,R1,R2,R3,R4⟩:=HRR.out
     have S0:=(hb5c.block _ (zB R0)).trans R0
     have C0:=cR wc _ 0 _ _ _ S0
     have C1:=cR wc _ 1 _ _ _ S0
     have C2:=cR wc _ 2 _ _ _ S0
     have C3:=cR wc _ 3 _ _ _ S0
     have kw:=write_any _ #[.pointer (some ⟨gn,0,none⟩),.pointer (some ⟨w.heap.size+1+1,0,none⟩)] d r wc hdc cf_compact (HDO.out wc hb5c gn hrow)
     clear R0 R1 R2 R3 R4 S0 hdc
     go_wp2_with fail
     refine kw.mono ?_
     rintro e w8 ⟨⟨v',rfl,hd8⟩,hb8⟩
     clear C0 C1 C2 C3 kw HDO
     obtain⟨p3,q3,p4,q4,rfl,_,_⟩:=hd8.parts
     have hb58:=hb5c.trans (hb8.mono hb5c.size)
     have S5:=(hb8.block _ (zB hrow)).trans hrow
     obtain⟨R0,R1,R2,R3,R4⟩:=HRR.out
     have S0:=(hb58.block _ (zB R0)).trans R0
     have S1:=(hb58.block _ (zB R1)).trans R1
     have S2:=(hb58.block _ (zB R2)).trans R2
     have S3:=(hb58.block _ (zB R3)).trans R3
     have S4:=(hb58.block _ (zB R4)).trans R4
     obtain⟨w9,hw9,T0,hd9,keep9,_,below9⟩:=box_put S0 hd8
     have T1:=keep9 _ _ (by omega) S1
     have T3:=keep9 _ _ (by omega) S3
     have T4:=keep9 _ _ (by omega) S4
     have T5:=keep9 _ _ (by omega) S5
     have hb09:=below9 _ _ (HB5.out.trans (hb58.mono HB5.out.size)) (Nat.le_refl _)
     have C0:=cR w8 _ 0 _ _ _ S0
     have C1:=cR w8 _ 1 _ _ _ S0
     have C2:=cR w8 _ 2 _ _ _ S0
     have C3:=cR w8 _ 3 _ _ _ S0
     have Z0:=zF S0
     dsimp only [put4] at hw9
     have HW9:=zh hw9
     have HT0:=zh T0
     have HT1:=zh T1
     have HT3:=zh T3
     have HT4:=zh T4
     have HT5:=zh T5
     have HD9:=zh hd9
     have HB9:=zh hb09
     clear S0 S1 S2 S3 S4 S5 R0 R1 R2 R3 R4 hb5c hb8 hb58 hd8 T0 T1 T3 T4 T5 hd9 hb09 hw9 keep9 below9 hrow
     go_upto_region 10 with (fail)
     rw [← HW9.out]
     clear C0 C1 C2 C3 Z0 HW9
     by_cases he:r.2=0
     ·have hne0:(r.2 != 0)=false:=by simp [he]
      rw [he] at hne0
      obtain⟨oa,ob,wa,wb,HWA,HWB,s0,sa,sb,L0,L1,L2,L3,M0,M1,M2,M3,D0,D1,D2,D3,Z2,F0,F1,F2,F3,Z3,HX⟩:=exit_all (w:=w) (wx:=w9) HT0.out HT5.out HT3.out HT4.out HD9.out HB9.out (by omega) (by omega) (by omega) (by omega) (by omega) (by omega) (by omega)
      go_wp2_with fail
      refine zI [(false,0),(false,1),(true,2),(true,3),(false,4)] (Two w.heap.size gn oa ob) (by kernel_rfl) (by kernel_rfl) s0 ?_
      repeat (first | (refine zS rfl rfl ?_;simp only [Act.put,zq1,zq2,zq3]) | (refine zT rfl ?_ rfl (fun w' hw'=>?_) ?_;rotate_left;(go_simp;first | done | with_reducible rfl);(try simp only [Act.put,zq1,zq2,zq3])))
      refine zA rfl rfl fun K hK=>?_
      go_simp
      rw [← HWA.out]
      refine hK.out _ _ sa ?_
      clear hK K D0 D1 D2 D3 Z2
      refine zA rfl rfl fun K hK=>?_
      go_simp
      rw [← HWB.out]
      refine hK.out _ _ sb ?_
      clear hK K F0 F1 F2 F3 Z3
      repeat (first | (refine zS rfl rfl ?_;simp only [Act.put,zq1,zq2,zq3]) | (refine zT rfl ?_ rfl (fun w' hw'=>?_) ?_;rotate_left;(go_simp;first | done | with_reducible rfl);(try simp only [Act.put,zq1,zq2,zq3])))
      refine zN ?_
      go_wp2_with fail
      refine bodyPost_ret (results_cct rfl _ _ (w.heap.size+1+1+1) (w.heap.size+1+1+1+1) _ _ _ _ _ _ _ _ rfl rfl HX.out.1 HX.out.2.1 Tryz.underlying38 rfl zQ Tryz.underlying41 rfl size_log) rfl ?_
      exact⟨⟨_,rfl,HX.out.2.2.1⟩,HX.out.2.2.2⟩
     ·have hne0:(r.2 != 0)=true:=by simp [he]
      obtain⟨oa,ob,wa,wb,HWA,HWB,s0,sa,sb,L0,L1,L2,L3,M0,M1,M2,M3,D0,D1,D2,D3,Z2,F0,F1,F2,F3,Z3,HX⟩:=exit_all (w:=w) (wx:=w9) HT0.out HT1.out HT3.out HT4.out HD9.out HB9.out (by omega) (by omega) (by omega) (by omega) (by omega) (by omega) (by omega)
      go_wp2_with fail
      refine zI [(false,0),(false,1),(false,2),(true,3),(true,4),(false,5)] (Two w.heap.size (w.heap.size+1) oa ob) (by kernel_rfl) (by kernel_rfl) s0 ?_
      repeat (first | (refine zS rfl rfl ?_;simp only [Act.put,zq1,zq2,zq3]) | (refine zT rfl ?_ rfl (fun w' hw'=>?_) ?_;rotate_left;(go_simp;first | done | with_reducible rfl);(try simp only [Act.put,zq1,zq2,zq3])))
      refine zA rfl rfl fun K hK=>?_
      go_simp
      rw [← HWA.out]
      refine hK.out _ _ sa ?_
      clear hK K D0 D1 D2 D3 Z2
      refine zA rfl rfl fun K hK=>?_
      go_simp
      rw [← HWB.out]
      refine hK.out _ _ sb ?_
      clear hK K F0 F1 F2 F3 Z3
      repeat (first | (refine zS rfl rfl ?_;simp only [Act.put,zq1,zq2,zq3]) | (refine zT rfl ?_ rfl (fun w' hw'=>?_) ?_;rotate_left;(go_simp;first | done | with_reducible rfl);(try simp only [Act.put,zq1,zq2,zq3])))
      refine zN ?_
      go_wp2_with fail
      refine bodyPost_ret (results_cct rfl _ _ (w.heap.size+1+1+1) (w.heap.size+1+1+1+1) _ _ _ _ _ _ _ _ rfl rfl HX.out.1 HX.out.2.1 Tryz.underlying38 rfl zQ Tryz.underlying41 rfl size_log) rfl ?_
      exact⟨⟨_,rfl,HX.out.2.2.1⟩,HX.out.2.2.2⟩
end
section
open Go.RowKit WalP PackP
theorem bytes_of_row {g:Nat} {w:World} {bs:List UInt8} {t:TypeId} {fz:Nat×Nat} (i n cap:Nat) (hg:w.heap[g]?=some (.cells (u8s bs).toArray t fz)) (hn:i+n≤bs.length) (hcap:n≤cap) (hm:cap≤maxLen) :
  Bytes w.heap.size w (.slice (some ⟨g,i,none⟩) n cap) ((bs.drop i).take n):=by
 have hl:((bs.drop i).take n).length=n:=by rw [List.length_take,List.length_drop];omega
 refine⟨by rw [zL];omega,_,cap,by rw [hl],by omega,hm,fun _=>⟨g,i,rfl,zB hg,fun k u hk=>?_⟩⟩
 rw [cR w g (i+k) _ _ _ hg]
 have h1:k<n:=by
  have:=List.getElem?_eq_some_iff.1 hk
  obtain⟨h,_⟩:=this
  rw [zL,hl] at h
  exact h
 have:(u8s bs)[i+k]?=some u:=by
  rw [← hk]
  unfold u8s
  rw [List.getElem?_map,List.getElem?_map,List.getElem?_take_of_lt h1,List.getElem?_drop]
 simpa using this
theorem results_ctM {P:Program} {fn:Func} {p u:Tmp} {tp:TypeId} (h:fn.results=#[.cell p tp,.tmp u]) (tmps:Array Value) (w:World) (gp:Nat) (t1:TypeId) (c1:Array Value) (f1:Nat×Nat) (d1:TypeDesc)
  (hp:tmps.getD p undef = .pointer (some ⟨gp,0,none⟩)) (hg1:w.heap[gp]?=some (.cells c1 t1 f1))
  (hu1:P.underlying tp=some d1) (hd1:(match d1 with | .struct _ | .array _ _=>true | _=>false)=true) (hi1:(P.info? tp).map (·.size)=some c1.size) :
  (results fn tmps).run P w = .ok (.tuple #[.agg c1,tmps.getD u undef]) w:=by
 have hp':tmps[p]?.getD undef = .pointer (some ⟨gp,0,none⟩):=by simpa using hp
 simp [results,h,hp',asAddr,run_loadVar_row w gp t1 tp c1 f1 d1 hg1 hu1 hd1 hi1]
theorem size_mark:(Tryz.prog.info? 145).map (·.size)=some 4:=by kernel_rfl
theorem wrap32 (x:Int):IntKind.u32.wrap x=x%4294967296:=by simp [IntKind.wrap,IntKind.bits,IntKind.signed]
theorem wread_end {w wy:World} {g1:Nat} {S:World→Prop} {z0 z1 z2 z3:Value} (T:wy.heap[g1]?=some (.cells #[z0,z1,z2,z3] 145 (0,0))) (hb:Below w.heap.size w wy) (h1:w.heap.size≤g1)
  (hS:∀ wx:World,(∀ k,k≠g1→wx.heap[k]?=wy.heap[k]?)→S wx) (a b c D:Int) :
  ∃ wz,Hid (wz=(((wy.setCell ⟨g1,0,none⟩ (.int .i64 a)).setCell ⟨g1,1,none⟩ (.int .i64 b)).setCell ⟨g1,2,none⟩ (.int .i64 c)).setCell ⟨g1,3,none⟩ (.int .u32 D))∧S wz ∧
   wy.cell? ⟨g1,0,none⟩=some z0∧wy.cell? ⟨g1,1,none⟩=some z1∧wy.cell? ⟨g1,2,none⟩=some z2∧wy.cell? ⟨g1,3,none⟩=some z3∧(∀ o,wy.frozen? ⟨g1,o,none⟩=false) ∧
   Hid (wz.heap[g1]?=some (.cells #[.int .i64 a,.int .i64 b,.int .i64 c,.int .u32 D] 145 (0,0))∧Below w.heap.size w wz) :=
 ⟨put4 wy g1 (.int .i64 a) (.int .i64 b) (.int .i64 c) (.int .u32 D),zh rfl,hS _ (fun k hk=>(setFar (Ne.symm hk) _ _).trans ((setFar (Ne.symm hk) _ _).trans ((setFar (Ne.symm hk) _ _).trans (setFar (Ne.symm hk) _ _)))),
  cR wy _ 0 _ _ _ T,cR wy _ 1 _ _ _ T,cR wy _ 2 _ _ _ T,cR wy _ 3 _ _ _ T,zF T,zh ⟨put4_heap T _ _ _ _,put4_below hb h1 _ _ _ _⟩⟩
set_option maxRecDepth 100000 in
set_option maxHeartbeats 4000000 in
theorem wread_any {s:List UInt8} (hs:s.length=64) (w:World) :
  Calls Tryz.prog 132 #[.agg (u8s s).toArray] w fun e w'=>e = .returned (.tuple #[markV (readMark s).1.gen (readMark s).1.number (readMark s).1.length (readMark s).1.sum,.bool (readMark s).2])∧Below w.heap.size w w':=by
 obtain⟨r0,hr0⟩:∃ r0:RS,r0=⟨(s.drop 4).take 32,0⟩:=⟨_,rfl⟩
 obtain⟨a,ha⟩:∃ a,a=r0.num.2:=⟨_,rfl⟩
 obtain⟨r1,hr1⟩:∃ r,r=r0.num.1:=⟨_,rfl⟩
 obtain⟨b,hb⟩:∃ a,a=r1.num.2:=⟨_,rfl⟩
 obtain⟨r2,hr2⟩:∃ r,r=r1.num.1:=⟨_,rfl⟩
 obtain⟨c,hc⟩:∃ a,a=r2.num.2:=⟨_,rfl⟩
 obtain⟨r3,hr3⟩:∃ r,r=r2.num.1:=⟨_,rfl⟩
 obtain⟨D0,hD0⟩:∃ a,a=r3.num.2:=⟨_,rfl⟩
 obtain⟨r4,hr4⟩:∃ r,r=r3.num.1:=⟨_,rfl⟩
 obtain⟨D,hD⟩:∃ D,IntKind.u32.wrap D0=D:=⟨_,rfl⟩
 have hDm:D0%4294967296=D:=by rw [← hD,wrap32]
 have hD1:0≤D:=by omega
 have hD2:D<2^32:=by omega
 have hM:(readMark s).1=⟨a,b,c,D⟩:=by rw [← hDm,ha,hb,hc,hD0,hr3,hr2,hr1,hr0];rfl
 have hO:(readMark s).2=(decide (r4.e=0)&&decide (s=markS a b c D)&&decide (1≤a)&&decide (a≤1099511627776)&&decide (0<takesZ c)):=by rw [← hDm,ha,hb,hc,hD0,hr4,hr3,hr2,hr1,hr0];rfl
 have HMK:=zh (show markV (readMark s).1.gen (readMark s).1.number (readMark s).1.length (readMark s).1.sum = .agg #[.int .i64 a,.int .i64 b,.int .i64 c,.int .u32 D] by rw [hM];rfl)
 have HOK:=zh hO
 clear hM hO hDm
 obtain⟨X,hX⟩:∃ X,X=(u8s s).toArray:=⟨_,rfl⟩
 have hXs:X.size=64:=by rw [hX];simp [zL,hs]
 have hXo:∀ v∈X.toList,v.oneCell'=true:=by rw [hX];exact oneCell_u8s _
 obtain⟨w2,hw2⟩:∃ w2,w2=(w.alloc (.cells X 94)).alloc (.cells #[.int .i64 0,.int .i64 0,.int .i64 0,.int .u32 0] 145):=⟨_,rfl⟩
 have hs1:(w.alloc (.cells X 94)).heap.size=w.heap.size+1:=by simp
 have hb1:Below w.heap.size w (w.alloc (.cells X 94)):=Below.alloc (Below.refl _ _) (Nat.le_refl _) _
 have hb2':Below (w.heap.size+1) (w.alloc (.cells X 94)) w2:=by rw [hw2,← hs1];exact Below.alloc (Below.refl _ _) (Nat.le_refl _) _
 have G0:w2.heap[w.heap.size]?=some (.cells X 94 (0,0)):=(hb2'.block _ (by omega)).trans (heap_alloc_new w _)
 have G1:w2.heap[w.heap.size+1]?=some (.cells #[.int .i64 0,.int .i64 0,.int .i64 0,.int .u32 0] 145 (0,0)):=by rw [hw2,← hs1];exact heap_alloc_new _ _
 have hb2:Below w.heap.size w w2:=hb1.trans (hb2'.mono (by omega))
 have kf:=from_at w2.heap.size w2.heap.size (.slice (some ⟨w.heap.size,4,none⟩) 32 60) _ w2 (bytes_of_row (bs:=s) 4 32 60 (hX▸G0) (by omega) (by omega) (by decide)) (Nat.le_refl _)
 rw [← hr0] at kf
 rw [← hX]
 have HX:=zh hX
 have HW2:=zh hw2
 have HHS:=zh hs
 clear hX hw2 hb1 hb2' hs1 hr0 hs
 go_enter Tryz.func132,Tryz.ntmps132
 go_upto_region 1 with (fail)
 rw [← HW2.out]
 go_wp2_with fail
 refine kf.mono ?_
 rintro e w3 ⟨rfl,hR0,hb3⟩
 obtain⟨g,hg⟩:∃ g,g=w2.heap.size:=⟨_,rfl⟩
 rw [← hg] at hR0 hb3 ⊢
 have k1:=rnum_any g g w3 r0 hR0
 rw [← ha,← hr1] at k1
 have hgs:g<w3.heap.size:=by obtain⟨_,h,_⟩:=hR0;exact zB h
 have hgl:w.heap.size+1<g:=by rw [hg];exact zB G1
 have HG:=zh hg
 clear kf ha hr1 hg hR0
 go_wp2_with fail
 refine k1.mono ?_
 rintro e w4 ⟨rfl,hR1,ho1⟩
 have k2:=rnum_any g g w4 r1 hR1
 rw [← hb,← hr2] at k2
 clear k1 hb hr2 hR1
 go_wp2_with fail
 refine k2.mono ?_
 rintro e w5 ⟨rfl,hR2,ho2⟩
 have k3:=rnum_any g g w5 r2 hR2
 rw [← hc,← hr3] at k3
 clear k2 hc hr3 hR2
 go_wp2_with fail
 refine k3.mono ?_
 rintro e w6 ⟨rfl,hR3,ho3⟩
 have k4:=rnum_any g g w6 r3 hR3
 rw [← hD0,← hr4] at k4
 clear k3 hD0 hr4 hR3
 go_wp2_with fail
 refine k4.mono ?_
 rintro e w7 ⟨rfl,hR4,ho4⟩
 clear k4
 have ho:=zO (zO (zO ho1 ho2) ho3) ho4
 have hb37:Below g w3 w7:=below_hand ho hgs
 have hb27:Below g w2 w7:=hb3.trans hb37
 have G0:=(hb27.block _ (by omega)).trans G0
 have G1:=(hb27.block _ (by omega)).trans G1
 have hb07:Below w.heap.size w w7:=hb2.trans (hb27.mono (by omega))
 have hR4t:=hR4
 clear ho1 ho2 ho3 ho4 ho hb3 hb37 hb27 hb2
 obtain⟨g9,hg9⟩:∃ g9,g9=w7.heap.size:=⟨_,rfl⟩
 obtain⟨w8,hw8⟩:∃ w8,w8=w7.alloc (.cells #[.int .i64 a,.int .i64 b,.int .i64 c,.int .u32 D] 145):=⟨_,rfl⟩
 have hb78:Below w7.heap.size w7 w8:=by rw [hw8];exact Below.alloc (Below.refl _ _) (Nat.le_refl _) _
 have G9:w8.heap[g9]?=some (.cells #[.int .i64 a,.int .i64 b,.int .i64 c,.int .u32 D] 145 (0,0)):=by rw [hw8,hg9];exact heap_alloc_new w7 _
 have l0:=zB G0
 have l1:=zB G1
 have G0:=(hb78.block _ l0).trans G0
 have G1:=(hb78.block _ l1).trans G1
 have hb08:Below w.heap.size w w8:=hb07.trans (hb78.mono hb07.size)
 have hR8:RdAt 118 g g w8 r4:=hR4.far (row:=none) ⟨hb78.os,hb78.tape,hb78.output,hb78.size,fun k hk _=>hb78.block k hk⟩ (fun k h=>by cases h)
 have hn09:w.heap.size≠g9:=by omega
 have hn19:w.heap.size+1≠g9:=by omega
 have HW8:=zh hw8
 have HG9:=zh hg9
 clear hw8 hg9 hb78 hb07 hR4 hR4t l0 l1
 go_upto_region 4 with (fail)
 rw [← HW8.out,← HG9.out]
 obtain⟨oX,hoX⟩:∃ o:Obj,o = .cells X 94 (0,0):=⟨_,rfl⟩
 obtain⟨oM,hoM⟩:∃ o:Obj,o = .cells #[.int .i64 a,.int .i64 b,.int .i64 c,.int .u32 D] 145 (0,0):=⟨_,rfl⟩
 have s8:Two w.heap.size g9 oX oM w8:=by rw [hoX,hoM];exact⟨G0,G9⟩
 have M0:∀ w',Two w.heap.size g9 oX oM w'→w'.cell? ⟨g9,0,none⟩=some (.int .i64 a):=fun w' h=>by rw [hoM] at h;exact cR w' _ 0 _ _ _ h.2
 have M1:∀ w',Two w.heap.size g9 oX oM w'→w'.cell? ⟨g9,1,none⟩=some (.int .i64 b):=fun w' h=>by rw [hoM] at h;exact cR w' _ 1 _ _ _ h.2
 have M2:∀ w',Two w.heap.size g9 oX oM w'→w'.cell? ⟨g9,2,none⟩=some (.int .i64 c):=fun w' h=>by rw [hoM] at h;exact cR w' _ 2 _ _ _ h.2
 have M3:∀ w',Two w.heap.size g9 oX oM w'→w'.cell? ⟨g9,3,none⟩=some (.int .u32 D):=fun w' h=>by rw [hoM] at h;exact cR w' _ 3 _ _ _ h.2
 have hlX:∀ w',Two w.heap.size g9 oX oM w'→(loadVar 94 ⟨w.heap.size,0,none⟩).run Tryz.prog w' = .ok (.agg X) w':=fun w' h=>by
  rw [hoX] at h
  exact run_loadVar_row (P:=Tryz.prog) w' w.heap.size 94 94 X (0,0) _ h.1 Tryz.underlying94 rfl (by rw [hXs];exact size_sector)
 obtain⟨wd,hwd⟩:∃ wd,wd=w8.drew:=⟨_,rfl⟩
 have sd:Two w.heap.size g9 oX oM wd:=by rw [hwd];exact s8
 have s8':Two w.heap.size g9 oX oM w8.drew:=s8
 have G1d:wd.heap[w.heap.size+1]?=some (.cells #[.int .i64 0,.int .i64 0,.int .i64 0,.int .u32 0] 145 (0,0)):=by rw [hwd];exact G1
 have hb0d:Below w.heap.size w wd:=by rw [hwd];exact zD hb08 1
 have hRd:RdAt 118 g g wd r4:=by rw [hwd];exact hR8
 have ke:=rerr_any g g wd r4 hRd
 have HWD:=zh hwd
 have HG1:=zh G1d
 have HBD:=zh hb0d
 clear hoX hoM s8 hwd hRd hR8 G0 G1 G9 hb08 G1d hb0d
 by_cases e0:r4.e=0
 ·have en:(r4.e == 0)=true:=by simp [e0]
  have ks:=sector_any a b c D wd hD1 hD2
  simp only [markV] at ks
  have hml:(markS a b c D).length=64:=length_markS _ _ _ _
  obtain⟨mk,hmk⟩:∃ m,m=markS a b c D:=⟨_,rfl⟩
  rw [← hmk] at ks hml
  obtain⟨Y,hY⟩:∃ Y,Y=(u8s mk).toArray:=⟨_,rfl⟩
  rw [← hY] at ks
  obtain⟨q,hq⟩:∃ q,q=decide (s=mk):=⟨_,rfl⟩
  have hE:∀ w,(Op.equalIn 10000 94 (.agg X) (.agg Y)).run Tryz.prog w = .ok q w:=fun w=>by
   rw [HX.out,hY,hq]
   exact equal44 HHS.out hml w
  have HQ:=zh (show q=decide (s=markS a b c D) by rw [hq,hmk])
  have hXo':∀ v∈X.toList,v.oneCell'=true:=hXo
  clear hY hq hmk hml
  by_cases e1:s=markS a b c D
  ·have hqt:q=true:=by rw [HQ.out];simp [← e1]
   subst hqt
   have E1:=zh e1
   clear e1
   by_cases e2:1≤a
   ·have ea:decide (1≤a)=true:=by simp [e2]
    by_cases e3:a≤1099511627776
    ·by_cases e4:0<takesZ c
     ·have eb:decide (a≤1099511627776)=true:=by simp [e3]
      have ec:decide (0<takesZ c)=true:=by simp [e4]
      refine zI [(false,0),(false,1),(true,2),(false,3),(false,4),(false,5),(false,6),(true,7),(false,8),(false,9),(false,10),(false,11),(false,12),(false,13),(false,14),(false,15),(false,16),(false,17),(false,18),(false,19),(true,20),(false,21),(false,22),(true,23),(false,24)] (Two w.heap.size g9 oX oM) (by kernel_rfl) (by kernel_rfl) s8' ?_
      rw [← HWD.out]
      repeat (first | (refine zS rfl rfl ?_;simp only [Act.put,zq1,zq2,zq3]) | (refine zT rfl ?_ rfl (fun w' hw'=>?_) ?_;rotate_left;(go_simp;first | done | with_reducible rfl);(try simp only [Act.put,zq1,zq2,zq3])))
      refine zA rfl rfl fun K hK=>?_
      go_simp
      refine ke.mono ?_
      rintro e wx ⟨rfl,rfl⟩
      refine hK.out _ _ sd ?_
      clear hK K ke
      repeat (first | (refine zS rfl rfl ?_;simp only [Act.put,zq1,zq2,zq3]) | (refine zT rfl ?_ rfl (fun w' hw'=>?_) ?_;rotate_left;(go_simp;first | done | with_reducible rfl);(try simp only [Act.put,zq1,zq2,zq3])))
      refine heldI_load rfl (.tmp 1) 94 rfl rfl rfl hlX ?_
      simp only [Act.put,zq1,zq2,zq3]
      repeat (first | (refine zS rfl rfl ?_;simp only [Act.put,zq1,zq2,zq3]) | (refine zT rfl ?_ rfl (fun w' hw'=>?_) ?_;rotate_left;(go_simp;first | done | with_reducible rfl);(try simp only [Act.put,zq1,zq2,zq3])))
      refine zA rfl rfl fun K hK=>?_
      go_simp
      refine ks.mono ?_
      rintro e wy ⟨rfl,hby⟩
      have sy:Two w.heap.size g9 oX oM wy:=⟨(hby.block _ (zB sd.1)).trans sd.1,(hby.block _ (zB sd.2)).trans sd.2⟩
      have HBY:=zh (HBD.out.trans (hby.mono HBD.out.size))
      have HGY:=zh ((hby.block _ (zB HG1.out)).trans HG1.out)
      refine hK.out _ _ sy ?_
      clear hK K ks hby
      repeat (first | (refine zS rfl rfl ?_;simp only [Act.put,zq1,zq2,zq3]) | (refine zT rfl ?_ rfl (fun w' hw'=>?_) ?_;rotate_left;(go_simp;first | done | with_reducible rfl);(try simp only [Act.put,zq1,zq2,zq3])))
      have kt:=takes_any c wy
      refine zA rfl rfl fun K hK=>?_
      go_simp
      refine kt.mono ?_
      rintro e wx ⟨rfl,rfl⟩
      refine hK.out _ _ sy ?_
      clear hK K kt
      repeat (first | (refine zS rfl rfl ?_;simp only [Act.put,zq1,zq2,zq3]) | (refine zT rfl ?_ rfl (fun w' hw'=>?_) ?_;rotate_left;(go_simp;first | done | with_reducible rfl);(try simp only [Act.put,zq1,zq2,zq3])))
      obtain⟨wz,HWZ,sz,N0,N1,N2,N3,Z1,HZ⟩:=wread_end (w:=w) (g1:=w.heap.size+1) (S:=Two w.heap.size g9 oX oM) HGY.out HBY.out (by omega) (fun wx hk=>⟨(hk _ (by omega)).trans sy.1,(hk _ (by omega)).trans sy.2⟩) a b c D
      have okf:(readMark s).2=true:=by rw [HOK.out];simp [e0,e2,e3,e4,E1.out]
      clear sy
      refine zA rfl rfl fun K hK=>?_
      go_simp
      rw [← HWZ.out]
      refine hK.out _ _ sz ?_
      clear hK K
      repeat (first | (refine zS rfl rfl ?_;simp only [Act.put,zq1,zq2,zq3]) | (refine zT rfl ?_ rfl (fun w' hw'=>?_) ?_;rotate_left;(go_simp;first | done | with_reducible rfl);(try simp only [Act.put,zq1,zq2,zq3])))
      refine zN ?_
      go_wp2_with fail
      refine bodyPost_ret (v:=.tuple #[.agg #[.int .i64 a,.int .i64 b,.int .i64 c,.int .u32 D],.bool true]) ?_ rfl ?_
      ·exact results_ctM (p:=2) (u:=3) (tp:=145) rfl _ _ (w.heap.size+1) _ _ _ _ rfl HZ.out.1 Tryz.underlying145 rfl size_mark
      ·rw [HMK.out]
       try rw [okf]
       exact⟨rfl,HZ.out.2⟩
     ·have eb:decide (a≤1099511627776)=true:=by simp [e3]
      have ec:decide (0<takesZ c)=false:=by simp [e4]
      refine zI [(false,0),(false,1),(true,2),(false,3),(false,4),(false,5),(false,6),(true,7),(false,8),(false,9),(false,10),(false,11),(false,12),(false,13),(false,14),(false,15),(false,16),(false,17),(false,18),(false,19),(true,20),(false,21),(false,22),(true,23),(false,24)] (Two w.heap.size g9 oX oM) (by kernel_rfl) (by kernel_rfl) s8' ?_
      rw [← HWD.out]
      repeat (first | (refine zS rfl rfl ?_;simp only [Act.put,zq1,zq2,zq3]) | (refine zT rfl ?_ rfl (fun w' hw'=>?_) ?_;rotate_left;(go_simp;first | done | with_reducible rfl);(try simp only [Act.put,zq1,zq2,zq3])))
      refine zA rfl rfl fun K hK=>?_
      go_simp
      refine ke.mono ?_
      rintro e wx ⟨rfl,rfl⟩
      refine hK.out _ _ sd ?_
      clear hK K ke
      repeat (first | (refine zS rfl rfl ?_;simp only [Act.put,zq1,zq2,zq3]) | (refine zT rfl ?_ rfl (fun w' hw'=>?_) ?_;rotate_left;(go_simp;first | done | with_reducible rfl);(try simp only [Act.put,zq1,zq2,zq3])))
      refine heldI_load rfl (.tmp 1) 94 rfl rfl rfl hlX ?_
      simp only [Act.put,zq1,zq2,zq3]
      repeat (first | (refine zS rfl rfl ?_;simp only [Act.put,zq1,zq2,zq3]) | (refine zT rfl ?_ rfl (fun w' hw'=>?_) ?_;rotate_left;(go_simp;first | done | with_reducible rfl);(try simp only [Act.put,zq1,zq2,zq3])))
      refine zA rfl rfl fun K hK=>?_
      go_simp
      refine ks.mono ?_
      rintro e wy ⟨rfl,hby⟩
      have sy:Two w.heap.size g9 oX oM wy:=⟨(hby.block _ (zB sd.1)).trans sd.1,(hby.block _ (zB sd.2)).trans sd.2⟩
      have HBY:=zh (HBD.out.trans (hby.mono HBD.out.size))
      have HGY:=zh ((hby.block _ (zB HG1.out)).trans HG1.out)
      refine hK.out _ _ sy ?_
      clear hK K ks hby
      repeat (first | (refine zS rfl rfl ?_;simp only [Act.put,zq1,zq2,zq3]) | (refine zT rfl ?_ rfl (fun w' hw'=>?_) ?_;rotate_left;(go_simp;first | done | with_reducible rfl);(try simp only [Act.put,zq1,zq2,zq3])))
      have kt:=takes_any c wy
      refine zA rfl rfl fun K hK=>?_
      go_simp
      refine kt.mono ?_
      rintro e wx ⟨rfl,rfl⟩
      refine hK.out _ _ sy ?_
      clear hK K kt
      repeat (first | (refine zS rfl rfl ?_;simp only [Act.put,zq1,zq2,zq3]) | (refine zT rfl ?_ rfl (fun w' hw'=>?_) ?_;rotate_left;(go_simp;first | done | with_reducible rfl);(try simp only [Act.put,zq1,zq2,zq3])))
      obtain⟨wz,HWZ,sz,N0,N1,N2,N3,Z1,HZ⟩:=wread_end (w:=w) (g1:=w.heap.size+1) (S:=Two w.heap.size g9 oX oM) HGY.out HBY.out (by omega) (fun wx hk=>⟨(hk _ (by omega)).trans sy.1,(hk _ (by omega)).trans sy.2⟩) a b c D
      have okf:(readMark s).2=false:=by rw [HOK.out];simp [e4]
      clear sy
      refine zA rfl rfl fun K hK=>?_
      go_simp
      rw [← HWZ.out]
      refine hK.out _ _ sz ?_
      clear hK K
      repeat (first | (refine zS rfl rfl ?_;simp only [Act.put,zq1,zq2,zq3]) | (refine zT rfl ?_ rfl (fun w' hw'=>?_) ?_;rotate_left;(go_simp;first | done | with_reducible rfl);(try simp only [Act.put,zq1,zq2,zq3])))
      refine zN ?_
      go_wp2_with fail
      refine bodyPost_ret (v:=.tuple #[.agg #[.int .i64 a,.int .i64 b,.int .i64 c,.int .u32 D],.bool false]) ?_ rfl ?_
      ·exact results_ctM (p:=2) (u:=3) (tp:=145) rfl _ _ (w.heap.size+1) _ _ _ _ rfl HZ.out.1 Tryz.underlying145 rfl size_mark
      ·rw [HMK.out]
       try rw [okf]
       exact⟨rfl,HZ.out.2⟩
    ·have eb:decide (a≤1099511627776)=false:=by simp [e3]
     refine zI [(false,0),(false,1),(true,2),(false,3),(false,4),(false,5),(false,6),(true,7),(false,8),(false,9),(false,10),(false,11),(false,12),(false,13),(false,14),(false,15),(false,16),(false,17),(false,18),(false,19),(true,20),(false,21),(false,22),(true,23),(false,24)] (Two w.heap.size g9 oX oM) (by kernel_rfl) (by kernel_rfl) s8' ?_
     rw [← HWD.out]
     repeat (first | (refine zS rfl rfl ?_;simp only [Act.put,zq1,zq2,zq3]) | (refine zT rfl ?_ rfl (fun w' hw'=>?_) ?_;rotate_left;(go_simp;first | done | with_reducible rfl);(try simp only [Act.put,zq1,zq2,zq3])))
     refine zA rfl rfl fun K hK=>?_
     go_simp
     refine ke.mono ?_
     rintro e wx ⟨rfl,rfl⟩
     refine hK.out _ _ sd ?_
     clear hK K ke
     repeat (first | (refine zS rfl rfl ?_;simp only [Act.put,zq1,zq2,zq3]) | (refine zT rfl ?_ rfl (fun w' hw'=>?_) ?_;rotate_left;(go_simp;first | done | with_reducible rfl);(try simp only [Act.put,zq1,zq2,zq3])))
     refine heldI_load rfl (.tmp 1) 94 rfl rfl rfl hlX ?_
     simp only [Act.put,zq1,zq2,zq3]
     repeat (first | (refine zS rfl rfl ?_;simp only [Act.put,zq1,zq2,zq3]) | (refine zT rfl ?_ rfl (fun w' hw'=>?_) ?_;rotate_left;(go_simp;first | done | with_reducible rfl);(try simp only [Act.put,zq1,zq2,zq3])))
     refine zA rfl rfl fun K hK=>?_
     go_simp
     refine ks.mono ?_
     rintro e wy ⟨rfl,hby⟩
     have sy:Two w.heap.size g9 oX oM wy:=⟨(hby.block _ (zB sd.1)).trans sd.1,(hby.block _ (zB sd.2)).trans sd.2⟩
     have HBY:=zh (HBD.out.trans (hby.mono HBD.out.size))
     have HGY:=zh ((hby.block _ (zB HG1.out)).trans HG1.out)
     refine hK.out _ _ sy ?_
     clear hK K ks hby
     repeat (first | (refine zS rfl rfl ?_;simp only [Act.put,zq1,zq2,zq3]) | (refine zT rfl ?_ rfl (fun w' hw'=>?_) ?_;rotate_left;(go_simp;first | done | with_reducible rfl);(try simp only [Act.put,zq1,zq2,zq3])))
     refine heldI_pass rfl rfl sy ?_
     simp only [Act.put,zq1,zq2,zq3]
     repeat (first | (refine zS rfl rfl ?_;simp only [Act.put,zq1,zq2,zq3]) | (refine zT rfl ?_ rfl (fun w' hw'=>?_) ?_;rotate_left;(go_simp;first | done | with_reducible rfl);(try simp only [Act.put,zq1,zq2,zq3])))
     obtain⟨wz,HWZ,sz,N0,N1,N2,N3,Z1,HZ⟩:=wread_end (w:=w) (g1:=w.heap.size+1) (S:=Two w.heap.size g9 oX oM) HGY.out HBY.out (by omega) (fun wx hk=>⟨(hk _ (by omega)).trans sy.1,(hk _ (by omega)).trans sy.2⟩) a b c D
     have okf:(readMark s).2=false:=by rw [HOK.out];simp [e3]
     clear sy
     refine zA rfl rfl fun K hK=>?_
     go_simp
     rw [← HWZ.out]
     refine hK.out _ _ sz ?_
     clear hK K
     repeat (first | (refine zS rfl rfl ?_;simp only [Act.put,zq1,zq2,zq3]) | (refine zT rfl ?_ rfl (fun w' hw'=>?_) ?_;rotate_left;(go_simp;first | done | with_reducible rfl);(try simp only [Act.put,zq1,zq2,zq3])))
     refine zN ?_
     go_wp2_with fail
     refine bodyPost_ret (v:=.tuple #[.agg #[.int .i64 a,.int .i64 b,.int .i64 c,.int .u32 D],.bool false]) ?_ rfl ?_
     ·exact results_ctM (p:=2) (u:=3) (tp:=145) rfl _ _ (w.heap.size+1) _ _ _ _ rfl HZ.out.1 Tryz.underlying145 rfl size_mark
     ·rw [HMK.out]
      try rw [okf]
      exact⟨rfl,HZ.out.2⟩
   ·have ea:decide (1≤a)=false:=by simp [e2]
    refine zI [(false,0),(false,1),(true,2),(false,3),(false,4),(false,5),(false,6),(true,7),(false,8),(false,9),(false,10),(false,11),(false,12),(false,13),(false,14),(false,15),(false,16),(false,17),(false,18),(false,19),(true,20),(false,21),(false,22),(true,23),(false,24)] (Two w.heap.size g9 oX oM) (by kernel_rfl) (by kernel_rfl) s8' ?_
    rw [← HWD.out]
    repeat (first | (refine zS rfl rfl ?_;simp only [Act.put,zq1,zq2,zq3]) | (refine zT rfl ?_ rfl (fun w' hw'=>?_) ?_;rotate_left;(go_simp;first | done | with_reducible rfl);(try simp only [Act.put,zq1,zq2,zq3])))
    refine zA rfl rfl fun K hK=>?_
    go_simp
    refine ke.mono ?_
    rintro e wx ⟨rfl,rfl⟩
    refine hK.out _ _ sd ?_
    clear hK K ke
    repeat (first | (refine zS rfl rfl ?_;simp only [Act.put,zq1,zq2,zq3]) | (refine zT rfl ?_ rfl (fun w' hw'=>?_) ?_;rotate_left;(go_simp;first | done | with_reducible rfl);(try simp only [Act.put,zq1,zq2,zq3])))
    refine heldI_load rfl (.tmp 1) 94 rfl rfl rfl hlX ?_
    simp only [Act.put,zq1,zq2,zq3]
    repeat (first | (refine zS rfl rfl ?_;simp only [Act.put,zq1,zq2,zq3]) | (refine zT rfl ?_ rfl (fun w' hw'=>?_) ?_;rotate_left;(go_simp;first | done | with_reducible rfl);(try simp only [Act.put,zq1,zq2,zq3])))
    refine zA rfl rfl fun K hK=>?_
    go_simp
    refine ks.mono ?_
    rintro e wy ⟨rfl,hby⟩
    have sy:Two w.heap.size g9 oX oM wy:=⟨(hby.block _ (zB sd.1)).trans sd.1,(hby.block _ (zB sd.2)).trans sd.2⟩
    have HBY:=zh (HBD.out.trans (hby.mono HBD.out.size))
    have HGY:=zh ((hby.block _ (zB HG1.out)).trans HG1.out)
    refine hK.out _ _ sy ?_
    clear hK K ks hby
    repeat (first | (refine zS rfl rfl ?_;simp only [Act.put,zq1,zq2,zq3]) | (refine zT rfl ?_ rfl (fun w' hw'=>?_) ?_;rotate_left;(go_simp;first | done | with_reducible rfl);(try simp only [Act.put,zq1,zq2,zq3])))
    refine heldI_pass rfl rfl sy ?_
    simp only [Act.put,zq1,zq2,zq3]
    repeat (first | (refine zS rfl rfl ?_;simp only [Act.put,zq1,zq2,zq3]) | (refine zT rfl ?_ rfl (fun w' hw'=>?_) ?_;rotate_left;(go_simp;first | done | with_reducible rfl);(try simp only [Act.put,zq1,zq2,zq3])))
    obtain⟨wz,HWZ,sz,N0,N1,N2,N3,Z1,HZ⟩:=wread_end (w:=w) (g1:=w.heap.size+1) (S:=Two w.heap.size g9 oX oM) HGY.out HBY.out (by omega) (fun wx hk=>⟨(hk _ (by omega)).trans sy.1,(hk _ (by omega)).trans sy.2⟩) a b c D
    have okf:(readMark s).2=false:=by rw [HOK.out];simp [e2]
    clear sy
    refine zA rfl rfl fun K hK=>?_
    go_simp
    rw [← HWZ.out]
    refine hK.out _ _ sz ?_
    clear hK K
    repeat (first | (refine zS rfl rfl ?_;simp only [Act.put,zq1,zq2,zq3]) | (refine zT rfl ?_ rfl (fun w' hw'=>?_) ?_;rotate_left;(go_simp;first | done | with_reducible rfl);(try simp only [Act.put,zq1,zq2,zq3])))
    refine zN ?_
    go_wp2_with fail
    refine bodyPost_ret (v:=.tuple #[.agg #[.int .i64 a,.int .i64 b,.int .i64 c,.int .u32 D],.bool false]) ?_ rfl ?_
    ·exact results_ctM (p:=2) (u:=3) (tp:=145) rfl _ _ (w.heap.size+1) _ _ _ _ rfl HZ.out.1 Tryz.underlying145 rfl size_mark
    ·rw [HMK.out]
     try rw [okf]
     exact⟨rfl,HZ.out.2⟩
  ·have hqf:q=false:=by rw [HQ.out];simp [e1]
   subst hqf
   refine zI [(false,0),(false,1),(true,2),(false,3),(false,4),(false,5),(false,6),(true,7),(false,8),(false,9),(false,10),(false,11),(false,12),(false,13),(false,14),(false,15),(false,16),(false,17),(false,18),(false,19),(true,20),(false,21),(false,22),(true,23),(false,24)] (Two w.heap.size g9 oX oM) (by kernel_rfl) (by kernel_rfl) s8' ?_
   rw [← HWD.out]
   repeat (first | (refine zS rfl rfl ?_;simp only [Act.put,zq1,zq2,zq3]) | (refine zT rfl ?_ rfl (fun w' hw'=>?_) ?_;rotate_left;(go_simp;first | done | with_reducible rfl);(try simp only [Act.put,zq1,zq2,zq3])))
   refine zA rfl rfl fun K hK=>?_
   go_simp
   refine ke.mono ?_
   rintro e wx ⟨rfl,rfl⟩
   refine hK.out _ _ sd ?_
   clear hK K ke
   repeat (first | (refine zS rfl rfl ?_;simp only [Act.put,zq1,zq2,zq3]) | (refine zT rfl ?_ rfl (fun w' hw'=>?_) ?_;rotate_left;(go_simp;first | done | with_reducible rfl);(try simp only [Act.put,zq1,zq2,zq3])))
   refine heldI_load rfl (.tmp 1) 94 rfl rfl rfl hlX ?_
   simp only [Act.put,zq1,zq2,zq3]
   repeat (first | (refine zS rfl rfl ?_;simp only [Act.put,zq1,zq2,zq3]) | (refine zT rfl ?_ rfl (fun w' hw'=>?_) ?_;rotate_left;(go_simp;first | done | with_reducible rfl);(try simp only [Act.put,zq1,zq2,zq3])))
   refine zA rfl rfl fun K hK=>?_
   go_simp
   refine ks.mono ?_
   rintro e wy ⟨rfl,hby⟩
   have sy:Two w.heap.size g9 oX oM wy:=⟨(hby.block _ (zB sd.1)).trans sd.1,(hby.block _ (zB sd.2)).trans sd.2⟩
   have HBY:=zh (HBD.out.trans (hby.mono HBD.out.size))
   have HGY:=zh ((hby.block _ (zB HG1.out)).trans HG1.out)
   refine hK.out _ _ sy ?_
   clear hK K ks hby
   repeat (first | (refine zS rfl rfl ?_;simp only [Act.put,zq1,zq2,zq3]) | (refine zT rfl ?_ rfl (fun w' hw'=>?_) ?_;rotate_left;(go_simp;first | done | with_reducible rfl);(try simp only [Act.put,zq1,zq2,zq3])))
   refine heldI_pass rfl rfl sy ?_
   simp only [Act.put,zq1,zq2,zq3]
   repeat (first | (refine zS rfl rfl ?_;simp only [Act.put,zq1,zq2,zq3]) | (refine zT rfl ?_ rfl (fun w' hw'=>?_) ?_;rotate_left;(go_simp;first | done | with_reducible rfl);(try simp only [Act.put,zq1,zq2,zq3])))
   obtain⟨wz,HWZ,sz,N0,N1,N2,N3,Z1,HZ⟩:=wread_end (w:=w) (g1:=w.heap.size+1) (S:=Two w.heap.size g9 oX oM) HGY.out HBY.out (by omega) (fun wx hk=>⟨(hk _ (by omega)).trans sy.1,(hk _ (by omega)).trans sy.2⟩) a b c D
   have okf:(readMark s).2=false:=by rw [HOK.out];simp [e1]
   clear sy
   refine zA rfl rfl fun K hK=>?_
   go_simp
   rw [← HWZ.out]
   refine hK.out _ _ sz ?_
   clear hK K
   repeat (first | (refine zS rfl rfl ?_;simp only [Act.put,zq1,zq2,zq3]) | (refine zT rfl ?_ rfl (fun w' hw'=>?_) ?_;rotate_left;(go_simp;first | done | with_reducible rfl);(try simp only [Act.put,zq1,zq2,zq3])))
   refine zN ?_
   go_wp2_with fail
   refine bodyPost_ret (v:=.tuple #[.agg #[.int .i64 a,.int .i64 b,.int .i64 c,.int .u32 D],.bool false]) ?_ rfl ?_
   ·exact results_ctM (p:=2) (u:=3) (tp:=145) rfl _ _ (w.heap.size+1) _ _ _ _ rfl HZ.out.1 Tryz.underlying145 rfl size_mark
   ·rw [HMK.out]
    try rw [okf]
    exact⟨rfl,HZ.out.2⟩
 ·have en:(r4.e == 0)=false:=by simp [e0]
  refine zI [(false,0),(false,1),(true,2),(false,3),(false,4),(false,5),(false,6),(true,7),(false,8),(false,9),(false,10),(false,11),(false,12),(false,13),(false,14),(false,15),(false,16),(false,17),(false,18),(false,19),(true,20),(false,21),(false,22),(true,23),(false,24)] (Two w.heap.size g9 oX oM) (by kernel_rfl) (by kernel_rfl) s8' ?_
  rw [← HWD.out]
  repeat (first | (refine zS rfl rfl ?_;simp only [Act.put,zq1,zq2,zq3]) | (refine zT rfl ?_ rfl (fun w' hw'=>?_) ?_;rotate_left;(go_simp;first | done | with_reducible rfl);(try simp only [Act.put,zq1,zq2,zq3])))
  refine zA rfl rfl fun K hK=>?_
  go_simp
  refine ke.mono ?_
  rintro e wx ⟨rfl,rfl⟩
  refine hK.out _ _ sd ?_
  clear hK K ke
  repeat (first | (refine zS rfl rfl ?_;simp only [Act.put,zq1,zq2,zq3]) | (refine zT rfl ?_ rfl (fun w' hw'=>?_) ?_;rotate_left;(go_simp;first | done | with_reducible rfl);(try simp only [Act.put,zq1,zq2,zq3])))
  refine heldI_pass rfl rfl sd ?_
  simp only [Act.put,zq1,zq2,zq3]
  repeat (first | (refine zS rfl rfl ?_;simp only [Act.put,zq1,zq2,zq3]) | (refine zT rfl ?_ rfl (fun w' hw'=>?_) ?_;rotate_left;(go_simp;first | done | with_reducible rfl);(try simp only [Act.put,zq1,zq2,zq3])))
  refine heldI_pass rfl rfl sd ?_
  simp only [Act.put,zq1,zq2,zq3]
  repeat (first | (refine zS rfl rfl ?_;simp only [Act.put,zq1,zq2,zq3]) | (refine zT rfl ?_ rfl (fun w' hw'=>?_) ?_;rotate_left;(go_simp;first | done | with_reducible rfl);(try simp only [Act.put,zq1,zq2,zq3])))
  obtain⟨wz,HWZ,sz,N0,N1,N2,N3,Z1,HZ⟩:=wread_end (w:=w) (g1:=w.heap.size+1) (S:=Two w.heap.size g9 oX oM) HG1.out HBD.out (by omega) (fun wx hk=>⟨(hk _ (by omega)).trans sd.1,(hk _ (by omega)).trans sd.2⟩) a b c D
  have okf:(readMark s).2=false:=by rw [HOK.out];simp [e0]
  clear sd
  refine zA rfl rfl fun K hK=>?_
  go_simp
  rw [← HWZ.out]
  refine hK.out _ _ sz ?_
  clear hK K
  repeat (first | (refine zS rfl rfl ?_;simp only [Act.put,zq1,zq2,zq3]) | (refine zT rfl ?_ rfl (fun w' hw'=>?_) ?_;rotate_left;(go_simp;first | done | with_reducible rfl);(try simp only [Act.put,zq1,zq2,zq3])))
  refine zN ?_
  go_wp2_with fail
  refine bodyPost_ret (v:=.tuple #[.agg #[.int .i64 a,.int .i64 b,.int .i64 c,.int .u32 D],.bool false]) ?_ rfl ?_
  ·exact results_ctM (p:=2) (u:=3) (tp:=145) rfl _ _ (w.heap.size+1) _ _ _ _ rfl HZ.out.1 Tryz.underlying145 rfl size_mark
  ·rw [HMK.out]
   try rw [okf]
   exact⟨rfl,HZ.out.2⟩
end
end Go.Proofs.YtaijompnohkmaaaGreatDoor
