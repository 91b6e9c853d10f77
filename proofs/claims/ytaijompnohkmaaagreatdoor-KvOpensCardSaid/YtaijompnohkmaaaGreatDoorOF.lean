/- Layer 5 (wal): Format. -/
import Derived.Test.YtaijompnohkmaaaGreatDoorOE
set_option linter.unusedSimpArgs false
set_option linter.unusedVariables false
namespace Go.Proofs.YtaijompnohkmaaaGreatDoor
section
open Go.RowKit WalP PackP
theorem results_cct {P:Program} {fn:Func} {p q u:Tmp} {tp tq:TypeId} (h:fn.results=#[.cell p tp,.cell q tq,.tmp u]) (tmps:Array Value) (w:World) (gp gq:Nat) (t1 t2:TypeId) (c1 c2:Array Value) (f1 f2:Nat×Nat) (d1 d2:TypeDesc)
  (hp:tmps.getD p undef = .pointer (some ⟨gp,0,none⟩)) (hq:tmps.getD q undef = .pointer (some ⟨gq,0,none⟩)) (hg1:w.heap[gp]?=some (.cells c1 t1 f1)) (hg2:w.heap[gq]?=some (.cells c2 t2 f2))
  (hu1:P.underlying tp=some d1) (hd1:(match d1 with | .struct _ | .array _ _=>true | _=>false)=true) (hi1:(P.info? tp).map (·.size)=some c1.size)
  (hu2:P.underlying tq=some d2) (hd2:(match d2 with | .struct _ | .array _ _=>true | _=>false)=true) (hi2:(P.info? tq).map (·.size)=some c2.size) :
  (results fn tmps).run P w = .ok (.tuple #[.agg c1,.agg c2,tmps.getD u undef]) w:=by
 have hp':tmps[p]?.getD undef = .pointer (some ⟨gp,0,none⟩):=by simpa using hp
 have hq':tmps[q]?.getD undef = .pointer (some ⟨gq,0,none⟩):=by simpa using hq
 simp [results,h,hp',hq',asAddr,run_loadVar_row w gp t1 tp c1 f1 d1 hg1 hu1 hd1 hi1,run_loadVar_row w gq t2 tq c2 f2 d2 hg2 hu2 hd2 hi2]
theorem size_log:(Tryz.prog.info? 41).map (·.size)=some 4:=by kernel_rfl
theorem exit_dl {w wx:World} {G2 G3:Nat} {a0 a1 a2 a3 b0 b1 b2 b3 x0 x1 x2 x3:Value} {d:DiskP} (y0 y1 y2 y3:Value) (Q2:wx.heap[G2]?=some (.cells #[a0,a1,a2,a3] 38 (0,0))) (Q3:wx.heap[G3]?=some (.cells #[b0,b1,b2,b3] 41 (0,0)))
  (hd:DiskV wx.heap.size wx (.agg #[x0,x1,x2,x3]) d) (hne:G2≠G3) (hb:Below w.heap.size w wx) (h2:w.heap.size≤G2) (h3:w.heap.size≤G3) :
  (put4 (put4 wx G2 x0 x1 x2 x3) G3 y0 y1 y2 y3).heap[G2]?=some (.cells #[x0,x1,x2,x3] 38 (0,0))∧(put4 (put4 wx G2 x0 x1 x2 x3) G3 y0 y1 y2 y3).heap[G3]?=some (.cells #[y0,y1,y2,y3] 41 (0,0)) ∧
  DiskV (put4 (put4 wx G2 x0 x1 x2 x3) G3 y0 y1 y2 y3).heap.size (put4 (put4 wx G2 x0 x1 x2 x3) G3 y0 y1 y2 y3) (.agg #[x0,x1,x2,x3]) d∧Below w.heap.size w (put4 (put4 wx G2 x0 x1 x2 x3) G3 y0 y1 y2 y3):=by
 have q2:=put4_heap Q2 x0 x1 x2 x3
 have q3:(put4 wx G2 x0 x1 x2 x3).heap[G3]?=_:=put4_far Q3 hne x0 x1 x2 x3
 have e1:=put4_diskV hd (hd.slFar Q2 (by simp)) x0 x1 x2 x3
 have e2:=put4_diskV e1 (e1.slFar q3 (by simp)) y0 y1 y2 y3
 refine⟨put4_far q2 (Ne.symm hne) y0 y1 y2 y3,put4_heap q3 y0 y1 y2 y3,?_,put4_below (put4_below hb h2 _ _ _ _) h3 _ _ _ _⟩
 simpa [put4,World.setCell] using e2
theorem four (w:World) (o0 o1 o2 o3:Obj):∃ w4,w4=(((w.alloc o0).alloc o1).alloc o2).alloc o3∧Below w.heap.size w w4∧w4.heap.size=w.heap.size+4∧w4.heap[w.heap.size]?=some o0∧w4.heap[w.heap.size+1]?=some o1∧w4.heap[w.heap.size+1+1]?=some o2∧w4.heap[w.heap.size+1+1+1]?=some o3:=by
 refine⟨_,rfl,Below.alloc (Below.alloc (Below.alloc (Below.alloc (Below.refl _ _) (Nat.le_refl _) _) (by simp) _) (by simp;omega) _) (by simp;omega) _,by simp,?_,?_,?_,?_⟩
 all_goals
  simp only [alloc_heap,alloc_size]
  repeat (first | rw [if_pos trivial] | rw [if_neg (by omega)])
theorem cf_format:∀ args w,(callFunc 98 args).run Tryz.prog w = .ok (.enter 98 args) w:=fun args w=>callFunc_run Tryz.func98 rfl rfl args w
def DLE (w:World) (r:DiskP×LogP×Int) (e:Ending) (w':World):Prop :=
 (∃ v',e = .returned (.tuple #[v',logV r.2.1,.int .i64 r.2.2])∧DiskV w'.heap.size w' v' r.1)∧Below w.heap.size w w'
theorem Pieces.tight {B:Nat} {w:World} {v:Value} {ls:List (List UInt8)} (h:Pieces B w v ls):Pieces w.heap.size w v ls:=by
 obtain⟨vs,h1,h2⟩:=h
 exact⟨vs,h1.tight (by decide),fun k hk=>let ⟨u,h3,h4⟩:=h2 k hk;⟨u,h3,h4.tight⟩⟩
theorem Pieces.mono {B B':Nat} {w:World} {v:Value} {ls:List (List UInt8)} (h:Pieces B w v ls) (hB:B≤B'):Pieces B' w v ls:=by
 obtain⟨vs,h1,h2⟩:=h
 exact⟨vs,h1.mono hB,fun k hk=>let ⟨u,h3,h4⟩:=h2 k hk;⟨u,h3,h4.mono hB⟩⟩
theorem right_half {d:DiskP} (h:rightB d=true):half d≤2048:=by
 unfold rightB at h
 simp only [Bool.and_eq_true,decide_eq_true_eq] at h
 unfold half
 omega
theorem total_ne {list:List (List UInt8)} {n:Nat} (h:total list=some n):list≠[]:=by
 intro e
 rw [e] at h
 simp [total] at h
theorem box_put {w:World} {G:Nat} {a0 a1 a2 a3 x0 x1 x2 x3:Value} {d:DiskP} (T:w.heap[G]?=some (.cells #[a0,a1,a2,a3] 38 (0,0))) (hd:DiskV w.heap.size w (.agg #[x0,x1,x2,x3]) d) :
  ∃ w9,w9=put4 w G x0 x1 x2 x3∧w9.heap[G]?=some (.cells #[x0,x1,x2,x3] 38 (0,0))∧DiskV w9.heap.size w9 (.agg #[x0,x1,x2,x3]) d∧(∀ k o,k≠G→w.heap[k]?=some o→w9.heap[k]?=some o)∧w9.heap.size=w.heap.size∧(∀ B w0,Below B w0 w→B≤G→Below B w0 w9):=by
 have e:=put4_diskV hd (hd.slFar T (by simp)) x0 x1 x2 x3
 have hz:(put4 w G x0 x1 x2 x3).heap.size=w.heap.size:=by simp [put4,World.setCell]
 refine⟨_,rfl,put4_heap T _ _ _ _,by rw [hz];exact e,fun k o hk h=>put4_far h (Ne.symm hk) _ _ _ _,hz,fun B w0 hb hB=>put4_below hb hB _ _ _ _⟩
set_option maxRecDepth 100000 in
set_option maxHeartbeats 4000000 in
theorem format_any {B:Nat} (v lv:Value) (d:DiskP) (list:List (List UInt8)) (w:World) (hd:DiskV B w v d) (hv:Pieces B w lv list) (ht:TabAt w) (hT:1<w.heap.size)
  (hl1:∀ b∈list,b.length≤2^20) (hl2:list.length≤2^20) :
  Calls Tryz.prog 61 #[v,lv] w (DLE w (formatP d list)):=by
 have hd:=hd.tight
 have hv:=hv.tight
 obtain⟨la,lc,rfl,_,_,_⟩:=id hv.at_
 obtain⟨p1,q1,p2,q2,rfl,_,_⟩:=hd.parts
 obtain⟨w4,hw4,hb4,hs4,R0,R1,R2,R3⟩:=four w (.cells #[.slice p1 d.secs.length q1,.slice p2 d.loose.length q2,.int .i64 d.fuse,.bool d.down] 38) (.cells #[.slice la list.length lc] 66) (.cells #[.slice none 0 0,.slice none 0 0,.int .i64 0,.bool false] 38) (.cells #[.int .i64 0,.int .i64 0,.int .i64 0,.int .i64 0] 41)
 have hd4:=(hd.below hb4).tight
 have hv4:=hv.below hb4
 have k1:=total_any _ list w4 hv4 (by omega) (fun b hb=>Nat.le_trans (hl1 b hb) (by decide))
 have E1:=cR w4 _ 0 _ _ _ R1
 have HW4:=zh hw4
 have n23:w.heap.size+1+1≠w.heap.size+1+1+1:=by omega
 have l2:w.heap.size≤w.heap.size+1+1:=by omega
 have l3:w.heap.size≤w.heap.size+1+1+1:=by omega
 clear hw4
 cases htot:total list with
 | none =>
  have hF:formatP d list=(d,log0,1):=by unfold formatP;rw [htot]
  rw [hF]
  have hT':totV list = .tuple #[.int .i64 0,.bool false]:=by unfold totV;rw [htot]
  rw [hT'] at k1
  clear hF hT' htot
  have S0:=R0
  have S2:=R2
  have S3:=R3
  have C0:=cR w4 _ 0 _ _ _ S0
  have C1:=cR w4 _ 1 _ _ _ S0
  have C2:=cR w4 _ 2 _ _ _ S0
  have C3:=cR w4 _ 3 _ _ _ S0
  have D0:=cR w4 _ 0 _ _ _ S2
  have D1:=cR w4 _ 1 _ _ _ S2
  have D2:=cR w4 _ 2 _ _ _ S2
  have D3:=cR w4 _ 3 _ _ _ S2
  have F0:=cR w4 _ 0 _ _ _ S3
  have F1:=cR w4 _ 1 _ _ _ S3
  have F2:=cR w4 _ 2 _ _ _ S3
  have F3:=cR w4 _ 3 _ _ _ S3
  have Z2:=zF S2
  have Z3:=zF S3
  have HX:=zh (exit_dl (.int .i64 0) (.int .i64 0) (.int .i64 0) (.int .i64 0) S2 S3 hd4 n23 hb4 l2 l3)
  clear S0 S2 S3 R0 R1 R2 R3 hd hv hd4 hv4 hb4 ht
  unfold DLE logV log0
  go_enter Tryz.func61,Tryz.ntmps61
  go_upto_region 1 with (fail)
  rw [← HW4.out]
  go_wp2_with fail
  refine k1.mono ?_
  rintro e w5 ⟨rfl,rfl⟩
  go_wp2_with fail
  refine bodyPost_ret (results_cct rfl _ _ (w.heap.size+1+1) (w.heap.size+1+1+1) _ _ _ _ _ _ _ _ rfl rfl HX.out.1 HX.out.2.1 Tryz.underlying38 rfl zQ Tryz.underlying41 rfl size_log) rfl ?_
  exact⟨⟨_,rfl,HX.out.2.2.1⟩,HX.out.2.2.2⟩
 | some n =>
  have hT':totV list = .tuple #[.int .i64 n,.bool true]:=by unfold totV;rw [htot]
  rw [hT'] at k1
  have hne:=total_ne htot
  have C0:=cR w4 _ 0 _ _ _ R0
  have C1:=cR w4 _ 1 _ _ _ R0
  have C2:=cR w4 _ 2 _ _ _ R0
  have C3:=cR w4 _ 3 _ _ _ R0
  have kr:=right_any _ d w4 hd4
  obtain⟨R,hR⟩:∃ R,R=rightB d:=⟨_,rfl⟩
  rw [← hR] at kr
  cases R with
  | false =>
   have hF:formatP d list=(d,log0,1):=by unfold formatP;rw [htot,← hR];rfl
   rw [hF]
   clear hF hT' htot hR
   unfold DLE logV log0
   go_enter Tryz.func61,Tryz.ntmps61
   go_upto_region 1 with (fail)
   rw [← HW4.out]
   go_wp2_with fail
   refine k1.mono ?_
   rintro e w5 ⟨rfl,rfl⟩
   clear k1
   go_wp2_with fail
   refine kr.mono ?_
   rintro e w6 ⟨rfl,hb6⟩
   clear C0 C1 C2 C3 kr E1
   have S0:=(hb6.block _ (zB R0)).trans R0
   have S2:=(hb6.block _ (zB R2)).trans R2
   have S3:=(hb6.block _ (zB R3)).trans R3
   have hd6:=(hd4.below hb6).tight
   have hb46:=hb4.trans (hb6.mono hb4.size)
   have C0:=cR w6 _ 0 _ _ _ S0
   have C1:=cR w6 _ 1 _ _ _ S0
   have C2:=cR w6 _ 2 _ _ _ S0
   have C3:=cR w6 _ 3 _ _ _ S0
   have D0:=cR w6 _ 0 _ _ _ S2
   have D1:=cR w6 _ 1 _ _ _ S2
   have D2:=cR w6 _ 2 _ _ _ S2
   have D3:=cR w6 _ 3 _ _ _ S2
   have F0:=cR w6 _ 0 _ _ _ S3
   have F1:=cR w6 _ 1 _ _ _ S3
   have F2:=cR w6 _ 2 _ _ _ S3
   have F3:=cR w6 _ 3 _ _ _ S3
   have Z2:=zF S2
   have Z3:=zF S3
   have HX:=zh (exit_dl (.int .i64 0) (.int .i64 0) (.int .i64 0) (.int .i64 0) S2 S3 hd6 n23 hb46 l2 l3)
   clear S0 S2 S3 R0 R1 R2 R3 hd hv hd4 hv4 hb4 ht hb6 hd6 hb46
   go_wp2_with fail
   refine bodyPost_ret (results_cct rfl _ _ (w.heap.size+1+1) (w.heap.size+1+1+1) _ _ _ _ _ _ _ _ rfl rfl HX.out.1 HX.out.2.1 Tryz.underlying38 rfl zQ Tryz.underlying41 rfl size_log) rfl ?_
   exact⟨⟨_,rfl,HX.out.2.2.1⟩,HX.out.2.2.2⟩
  | true =>
   have hh:=right_half hR.symm
   obtain⟨H,hH⟩:∃ H,H=half d:=⟨_,rfl⟩
   have HHH:=zh hH
   have HRR:=zh hR
   have HTOT:=zh htot
   have HNE:=zh hne
   rw [← hH] at hh
   clear hH hR htot hne hT'
   by_cases hgt:H<n
   ·have hF:formatP d list=(d,log0,8):=by
     unfold formatP;rw [HTOT.out]
     simp only [← HRR.out,if_true]
     rw [if_pos (by rw [← HHH.out];exact hgt)]
    rw [hF]
    have hgt1:decide ((H:Int)<(n:Int))=true:=by simp;omega
    clear hF
    unfold DLE logV log0
    go_enter Tryz.func61,Tryz.ntmps61
    go_upto_region 1 with (fail)
    rw [← HW4.out]
    go_wp2_with fail
    refine k1.mono ?_
    rintro e w5 ⟨rfl,rfl⟩
    clear k1
    go_wp2_with fail
    refine kr.mono ?_
    rintro e w6 ⟨rfl,hb6⟩
    clear C0 C1 C2 C3 kr E1
    have S0:=(hb6.block _ (zB R0)).trans R0
    have S1:=(hb6.block _ (zB R1)).trans R1
    have S2:=(hb6.block _ (zB R2)).trans R2
    have S3:=(hb6.block _ (zB R3)).trans R3
    have hd6:=(hd4.below hb6).tight
    have hb46:=hb4.trans (hb6.mono hb4.size)
    have C0:=cR w6 _ 0 _ _ _ S0
    have C1:=cR w6 _ 1 _ _ _ S0
    have C2:=cR w6 _ 2 _ _ _ S0
    have C3:=cR w6 _ 3 _ _ _ S0
    have kh:=walHalf_any _ d w6 hd6
    rw [← HHH.out] at kh
    go_wp2_with fail
    refine kh.mono ?_
    rintro e w7 ⟨rfl,hb7⟩
    clear C0 C1 C2 C3 kh
    have hb67:=hb6.trans (hb7.mono hb6.size)
    have hb47:=hb46.trans (hb7.mono (Nat.le_trans hb4.size hb6.size))
    have hd7:=(hd6.below hb7).tight
    clear S0 S1 S2 S3
    have S0:=(hb67.block _ (zB R0)).trans R0
    have S1:=(hb67.block _ (zB R1)).trans R1
    have S2:=(hb67.block _ (zB R2)).trans R2
    have S3:=(hb67.block _ (zB R3)).trans R3
    have C0:=cR w7 _ 0 _ _ _ S0
    have C1:=cR w7 _ 1 _ _ _ S0
    have C2:=cR w7 _ 2 _ _ _ S0
    have C3:=cR w7 _ 3 _ _ _ S0
    have D0:=cR w7 _ 0 _ _ _ S2
    have D1:=cR w7 _ 1 _ _ _ S2
    have D2:=cR w7 _ 2 _ _ _ S2
    have D3:=cR w7 _ 3 _ _ _ S2
    have F0:=cR w7 _ 0 _ _ _ S3
    have F1:=cR w7 _ 1 _ _ _ S3
    have F2:=cR w7 _ 2 _ _ _ S3
    have F3:=cR w7 _ 3 _ _ _ S3
    have Z2:=zF S2
    have Z3:=zF S3
    have HX:=zh (exit_dl (.int .i64 0) (.int .i64 0) (.int .i64 0) (.int .i64 0) S2 S3 hd7 n23 hb47 l2 l3)
    clear S0 S2 S3 R0 R1 R2 R3 S1 hd hv hd4 hv4 hb4 ht hb6 hb7 hb67 hd6 hd7 hb46 hb47
    go_wp2_with fail
    refine bodyPost_ret (results_cct rfl _ _ (w.heap.size+1+1) (w.heap.size+1+1+1) _ _ _ _ _ _ _ _ rfl rfl HX.out.1 HX.out.2.1 Tryz.underlying38 rfl zQ Tryz.underlying41 rfl size_log) rfl ?_
    exact⟨⟨_,rfl,HX.out.2.2.1⟩,HX.out.2.2.2⟩
   ·have hgt1:decide ((H:Int)<(n:Int))=false:=by simp;omega
    obtain⟨r,hr⟩:∃ r,r=run d (.put (half d) zeroS :: layD (half d) 0 1 list):=⟨_,rfl⟩
    have hF:formatP d list=if r.2=0 then (r.1,⟨0,1,n,list.length⟩,0) else (r.1,log0,r.2):=by
     unfold formatP;rw [HTOT.out]
     simp only [← HRR.out,if_true]
     rw [if_neg (by rw [← HHH.out];omega),← hr]
    have hdo:∀ (w7:World),Below w4.heap.size w4 w7→BoxD w.heap.size w7 d→∀ (g:Nat) (w':World),Below w7.heap.size w7 w'→HandAt g w' d→w7.heap.size≤g→Calls Tryz.prog 98 (#[.pointer (some ⟨g,0,none⟩)]++#[.pointer (some ⟨w.heap.size,0,none⟩),.pointer (some ⟨w.heap.size+1,0,none⟩)]) w' fun x w''=>x=hEnd r.2∧HandAt g w'' r.1∧w'.grownBy w'' (some g):=fun w7 hb47 hbx g w' hb' hh' hle=>by
     have hs7:=hb47.size
     have hb':Below w7.heap.size w7 w':=hb'
     have hbw:Below w4.heap.size w4 w':=hb47.trans (hb'.mono hs7)
     rw [hr]
     exact format1_any d _ list w' hh' (hbx.below hb') ((hbw.block _ (zB R1)).trans R1) ((hv4.below (hbw.mono hb4.size)).mono (by omega)) (by have:=zB R1;omega) (ht.below (hb4.trans (hbw.mono hb4.size)) hT) (by omega) (by have:=right_half HRR.out.symm;omega) hl1 hl2 HNE.out
    have HDO:=zh hdo
    have HF:=zh hF
    have HV4:=zh hv4
    clear hdo hF hr
    rw [HF.out]
    have hmf:=makeFunc_run
    unfold DLE logV log0
    go_enter Tryz.func61,Tryz.ntmps61
    go_upto_region 1 with (fail)
    rw [← HW4.out]
    go_wp2_with fail
    refine k1.mono ?_
    rintro e w5 ⟨rfl,rfl⟩
    clear k1
    go_wp2_with fail
    refine kr.mono ?_
    rintro e w6 ⟨rfl,hb6⟩
    clear C0 C1 C2 C3 kr E1
    have S0:=(hb6.block _ (zB R0)).trans R0
    have S1:=(hb6.block _ (zB R1)).trans R1
    have S2:=(hb6.block _ (zB R2)).trans R2
    have S3:=(hb6.block _ (zB R3)).trans R3
    have hd6:=(hd4.below hb6).tight
    have hb46:=hb4.trans (hb6.mono hb4.size)
    have C0:=cR w6 _ 0 _ _ _ S0
    have C1:=cR w6 _ 1 _ _ _ S0
    have C2:=cR w6 _ 2 _ _ _ S0
    have C3:=cR w6 _ 3 _ _ _ S0
    have kh:=walHalf_any _ d w6 hd6
    rw [← HHH.out] at kh
    go_wp2_with fail
    refine kh.mono ?_
    rintro e w7 ⟨rfl,hb7⟩
    clear C0 C1 C2 C3 kh
    have hb67:=hb6.trans (hb7.mono hb6.size)
    have hb47:=hb46.trans (hb7.mono (Nat.le_trans hb4.size hb6.size))
    have hd7:=(hd6.below hb7).tight
    clear S0 S1 S2 S3
    have S0:=(hb67.block _ (zB R0)).trans R0
    have S1:=(hb67.block _ (zB R1)).trans R1
    have S2:=(hb67.block _ (zB R2)).trans R2
    have S3:=(hb67.block _ (zB R3)).trans R3
    have hbx:BoxD w.heap.size w7 d:=⟨_,S0,hd7⟩
    have C0:=cR w7 _ 0 _ _ _ S0
    have C1:=cR w7 _ 1 _ _ _ S0
    have C2:=cR w7 _ 2 _ _ _ S0
    have C3:=cR w7 _ 3 _ _ _ S0
    have kw:=write_any _ #[.pointer (some ⟨w.heap.size,0,none⟩),.pointer (some ⟨w.heap.size+1,0,none⟩)] d r w7 hd7 cf_format (HDO.out w7 hb67 hbx)
    clear hbx
    go_wp2_with fail
    refine kw.mono ?_
    rintro e w8 ⟨⟨v',rfl,hd8⟩,hb8⟩
    clear C0 C1 C2 C3 kw HDO
    obtain⟨p3,q3,p4,q4,rfl,_,_⟩:=hd8.parts
    have hb48:=hb67.trans (hb8.mono hb67.size)
    clear S0 S1 S2 S3
    have S0:=(hb48.block _ (zB R0)).trans R0
    have S1:=(hb48.block _ (zB R1)).trans R1
    have S2:=(hb48.block _ (zB R2)).trans R2
    have S3:=(hb48.block _ (zB R3)).trans R3
    obtain⟨w9,hw9,T0,hd9,keep9,_,below9⟩:=box_put S0 hd8
    have T1:=keep9 _ _ (by omega) S1
    have T2:=keep9 _ _ (by omega) S2
    have T3:=keep9 _ _ (by omega) S3
    have hb09:=below9 _ _ (hb4.trans (hb48.mono hb4.size)) (Nat.le_refl _)
    have C0:=cR w8 _ 0 _ _ _ S0
    have C1:=cR w8 _ 1 _ _ _ S0
    have C2:=cR w8 _ 2 _ _ _ S0
    have C3:=cR w8 _ 3 _ _ _ S0
    have Z0:=zF S0
    dsimp only [put4] at hw9
    have HW9:=zh hw9
    have HT0:=zh T0
    have HT1:=zh T1
    have HT2:=zh T2
    have HT3:=zh T3
    have HD9:=zh hd9
    have HB9:=zh hb09
    clear S0 S1 S2 S3 R0 R1 R2 R3 hd hv hd4 hv4 hb4 ht hb6 hb7 hb67 hd6 hd7 hb46 hb47 hb8 hb48 hd8 T0 T1 T2 T3 hd9 hb09 hw9 keep9 below9
    go_upto_region 7 with (fail)
    rw [← HW9.out]
    clear C0 C1 C2 C3 Z0
    have C0:=cR w9 _ 0 _ _ _ HT0.out
    have C1:=cR w9 _ 1 _ _ _ HT0.out
    have C2:=cR w9 _ 2 _ _ _ HT0.out
    have C3:=cR w9 _ 3 _ _ _ HT0.out
    by_cases he:r.2=0
    ·have hne0:(r.2 != 0)=false:=by simp [he]
     obtain⟨oa,hoa⟩:∃ o:Obj,o = .cells #[.slice p3 r.1.secs.length q3,.slice p4 r.1.loose.length q4,.int .i64 r.1.fuse,.bool r.1.down] 38 (0,0):=⟨_,rfl⟩
     obtain⟨ob,hob⟩:∃ o:Obj,o = .cells #[.slice la list.length lc] 66 (0,0):=⟨_,rfl⟩
     have L0:∀ w',Rows3 w.heap.size (w.heap.size+1) (w.heap.size+1) oa ob ob w'→w'.cell? ⟨w.heap.size,0,none⟩=some (.slice p3 r.1.secs.length q3):=fun w' h=>by rw [hoa] at h;exact cR w' _ 0 _ _ _ h.1
     have L1:∀ w',Rows3 w.heap.size (w.heap.size+1) (w.heap.size+1) oa ob ob w'→w'.cell? ⟨w.heap.size,1,none⟩=some (.slice p4 r.1.loose.length q4):=fun w' h=>by rw [hoa] at h;exact cR w' _ 1 _ _ _ h.1
     have L2:∀ w',Rows3 w.heap.size (w.heap.size+1) (w.heap.size+1) oa ob ob w'→w'.cell? ⟨w.heap.size,2,none⟩=some (.int .i64 r.1.fuse):=fun w' h=>by rw [hoa] at h;exact cR w' _ 2 _ _ _ h.1
     have L3:∀ w',Rows3 w.heap.size (w.heap.size+1) (w.heap.size+1) oa ob ob w'→w'.cell? ⟨w.heap.size,3,none⟩=some (.bool r.1.down):=fun w' h=>by rw [hoa] at h;exact cR w' _ 3 _ _ _ h.1
     have L4:∀ w',Rows3 w.heap.size (w.heap.size+1) (w.heap.size+1) oa ob ob w'→w'.cell? ⟨w.heap.size+1,0,none⟩=some (.slice la list.length lc):=fun w' h=>by rw [hob] at h;exact cR w' _ 0 _ _ _ h.2.1
     have s0:Rows3 w.heap.size (w.heap.size+1) (w.heap.size+1) oa ob ob w9.drew:=by rw [hoa,hob];exact⟨HT0.out,HT1.out,HT1.out⟩
     have T2':w9.drew.heap[w.heap.size+1+1]?=some (.cells #[.slice none 0 0,.slice none 0 0,.int .i64 0,.bool false] 38 (0,0)):=HT2.out
     have T3':w9.drew.heap[w.heap.size+1+1+1]?=some (.cells #[.int .i64 0,.int .i64 0,.int .i64 0,.int .i64 0] 41 (0,0)):=HT3.out
     have hX:=exit_dl (.int .i64 0) (.int .i64 1) (.int .i64 n) (.int .i64 list.length) T2' T3' (show DiskV w9.drew.heap.size w9.drew _ _ from HD9.out) n23 (zD HB9.out 1) l2 l3
     obtain⟨wa,hwa⟩:∃ wa,wa=put4 w9.drew (w.heap.size+1+1) (.slice p3 r.1.secs.length q3) (.slice p4 r.1.loose.length q4) (.int .i64 r.1.fuse) (.bool r.1.down):=⟨_,rfl⟩
     rw [← hwa] at hX
     obtain⟨wb,hwb⟩:∃ wb,wb=put4 wa (w.heap.size+1+1+1) (.int .i64 0) (.int .i64 1) (.int .i64 n) (.int .i64 list.length):=⟨_,rfl⟩
     rw [← hwb] at hX
     have HX:=zh hX
     have sa:Rows3 w.heap.size (w.heap.size+1) (w.heap.size+1) oa ob ob wa:=by
      rw [hwa];exact⟨put4_far s0.1 (by omega) _ _ _ _,put4_far s0.2.1 (by omega) _ _ _ _,put4_far s0.2.2 (by omega) _ _ _ _⟩
     have sb:Rows3 w.heap.size (w.heap.size+1) (w.heap.size+1) oa ob ob wb:=by
      rw [hwb];exact⟨put4_far sa.1 (by omega) _ _ _ _,put4_far sa.2.1 (by omega) _ _ _ _,put4_far sa.2.2 (by omega) _ _ _ _⟩
     have T3a:wa.heap[w.heap.size+1+1+1]?=some (.cells #[.int .i64 0,.int .i64 0,.int .i64 0,.int .i64 0] 41 (0,0)):=by rw [hwa];exact put4_far T3' n23 _ _ _ _
     have D0:=cR w9 _ 0 _ _ _ HT2.out
     have D1:=cR w9 _ 1 _ _ _ HT2.out
     have D2:=cR w9 _ 2 _ _ _ HT2.out
     have D3:=cR w9 _ 3 _ _ _ HT2.out
     have Z2:=zF HT2.out
     have F0:=cR wa _ 0 _ _ _ T3a
     have F1:=cR wa _ 1 _ _ _ T3a
     have F2:=cR wa _ 2 _ _ _ T3a
     have F3:=cR wa _ 3 _ _ _ T3a
     have Z3:=zF T3a
     replace hwa:wa=(put4 w9 (w.heap.size+1+1) (.slice p3 r.1.secs.length q3) (.slice p4 r.1.loose.length q4) (.int .i64 r.1.fuse) (.bool r.1.down)).drew:=hwa
     rw [he] at hne0
     dsimp only [put4] at hwa hwb
     have HWA:=zh hwa
     have HWB:=zh hwb
     clear hoa hob T2' T3' T3a hwa hwb hX
     go_wp2_with fail
     refine zI [(false,0),(false,1),(false,2),(false,3),(false,4),(true,5),(true,6),(false,7)] (Rows3 w.heap.size (w.heap.size+1) (w.heap.size+1) oa ob ob) (by kernel_rfl) (by kernel_rfl) s0 ?_
     repeat (first | (refine zS rfl rfl ?_;simp only [Act.put,zq1,zq2,zq3]) | (refine zT rfl ?_ rfl (fun w' hw'=>?_) ?_;rotate_left;(go_simp;first | done | with_reducible rfl);(try simp only [Act.put,zq1,zq2,zq3])))
     refine zA rfl rfl fun K hK=>?_
     go_simp
     rw [← HWA.out]
     refine hK.out _ _ sa ?_
     clear hK K D0 D1 D2 D3 Z2
     refine zA rfl rfl fun K hK=>?_
     go_simp
     rw [← HWB.out]
     refine hK.out _ _ sb ?_
     clear hK K F0 F1 F2 F3 Z3
     repeat (first | (refine zS rfl rfl ?_;simp only [Act.put,zq1,zq2,zq3]) | (refine zT rfl ?_ rfl (fun w' hw'=>?_) ?_;rotate_left;(go_simp;first | done | with_reducible rfl);(try simp only [Act.put,zq1,zq2,zq3])))
     refine zN ?_
     go_wp2_with fail
     refine bodyPost_ret (results_cct rfl _ _ (w.heap.size+1+1) (w.heap.size+1+1+1) _ _ _ _ _ _ _ _ rfl rfl HX.out.1 HX.out.2.1 Tryz.underlying38 rfl zQ Tryz.underlying41 rfl size_log) rfl ?_
     exact⟨⟨_,rfl,HX.out.2.2.1⟩,HX.out.2.2.2⟩
    ·have hne0:(r.2 != 0)=true:=by simp [he]
     have D0:=cR w9 _ 0 _ _ _ HT2.out
     have D1:=cR w9 _ 1 _ _ _ HT2.out
     have D2:=cR w9 _ 2 _ _ _ HT2.out
     have D3:=cR w9 _ 3 _ _ _ HT2.out
     have F0:=cR w9 _ 0 _ _ _ HT3.out
     have F1:=cR w9 _ 1 _ _ _ HT3.out
     have F2:=cR w9 _ 2 _ _ _ HT3.out
     have F3:=cR w9 _ 3 _ _ _ HT3.out
     have Z2:=zF HT2.out
     have Z3:=zF HT3.out
     have HX:=zh (exit_dl (.int .i64 0) (.int .i64 0) (.int .i64 0) (.int .i64 0) HT2.out HT3.out HD9.out n23 HB9.out l2 l3)
     go_wp2_with fail
     refine bodyPost_ret (results_cct rfl _ _ (w.heap.size+1+1) (w.heap.size+1+1+1) _ _ _ _ _ _ _ _ rfl rfl HX.out.1 HX.out.2.1 Tryz.underlying38 rfl zQ Tryz.underlying41 rfl size_log) rfl ?_
     exact⟨⟨_,rfl,HX.out.2.2.1⟩,HX.out.2.2.2⟩
end
section
open Go.RowKit WalP PackP
def Two (a b:Nat) (x y:Obj) (w:World):Prop:=w.heap[a]?=some x∧w.heap[b]?=some y
theorem exit_all {w wx:World} {ga gb gc ge:Nat} {x0 x1 x2 x3 y0 y1 y2 y3:Value} {d:DiskP} (A:wx.heap[ga]?=some (.cells #[x0,x1,x2,x3] 38 (0,0))) (B:wx.heap[gb]?=some (.cells #[y0,y1,y2,y3] 41 (0,0)))
  (C:wx.heap[gc]?=some (.cells #[.slice none 0 0,.slice none 0 0,.int .i64 0,.bool false] 38 (0,0))) (E:wx.heap[ge]?=some (.cells #[.int .i64 0,.int .i64 0,.int .i64 0,.int .i64 0] 41 (0,0)))
  (hd:DiskV wx.heap.size wx (.agg #[x0,x1,x2,x3]) d) (hb:Below w.heap.size w wx) (hc:w.heap.size≤gc) (he:w.heap.size≤ge) (nce:gc≠ge) (nca:gc≠ga) (ncb:gc≠gb) (nea:ge≠ga) (neb:ge≠gb) :
  ∃ oa ob wa wb,Hid (wa=((((wx.setCell ⟨gc,0,none⟩ x0).setCell ⟨gc,1,none⟩ x1).setCell ⟨gc,2,none⟩ x2).setCell ⟨gc,3,none⟩ x3).drew)∧Hid (wb=(((wa.setCell ⟨ge,0,none⟩ y0).setCell ⟨ge,1,none⟩ y1).setCell ⟨ge,2,none⟩ y2).setCell ⟨ge,3,none⟩ y3)∧Two ga gb oa ob wx.drew∧Two ga gb oa ob wa∧Two ga gb oa ob wb ∧
   (∀ w',Two ga gb oa ob w'→w'.cell? ⟨ga,0,none⟩=some x0)∧(∀ w',Two ga gb oa ob w'→w'.cell? ⟨ga,1,none⟩=some x1)∧(∀ w',Two ga gb oa ob w'→w'.cell? ⟨ga,2,none⟩=some x2)∧(∀ w',Two ga gb oa ob w'→w'.cell? ⟨ga,3,none⟩=some x3) ∧
   (∀ w',Two ga gb oa ob w'→w'.cell? ⟨gb,0,none⟩=some y0)∧(∀ w',Two ga gb oa ob w'→w'.cell? ⟨gb,1,none⟩=some y1)∧(∀ w',Two ga gb oa ob w'→w'.cell? ⟨gb,2,none⟩=some y2)∧(∀ w',Two ga gb oa ob w'→w'.cell? ⟨gb,3,none⟩=some y3) ∧
   wx.cell? ⟨gc,0,none⟩=some (.slice none 0 0)∧wx.cell? ⟨gc,1,none⟩=some (.slice none 0 0)∧wx.cell? ⟨gc,2,none⟩=some (.int .i64 0)∧wx.cell? ⟨gc,3,none⟩=some (.bool false)∧(∀ o,wx.frozen? ⟨gc,o,none⟩=false) ∧
   wa.cell? ⟨ge,0,none⟩=some (.int .i64 0)∧wa.cell? ⟨ge,1,none⟩=some (.int .i64 0)∧wa.cell? ⟨ge,2,none⟩=some (.int .i64 0)∧wa.cell? ⟨ge,3,none⟩=some (.int .i64 0)∧(∀ o,wa.frozen? ⟨ge,o,none⟩=false) ∧
   Hid (wb.heap[gc]?=some (.cells #[x0,x1,x2,x3] 38 (0,0))∧wb.heap[ge]?=some (.cells #[y0,y1,y2,y3] 41 (0,0))∧DiskV wb.heap.size wb (.agg #[x0,x1,x2,x3]) d∧Below w.heap.size w wb):=by
 have C':wx.drew.heap[gc]?=some (.cells #[.slice none 0 0,.slice none 0 0,.int .i64 0,.bool false] 38 (0,0)):=C
 have E':wx.drew.heap[ge]?=some (.cells #[.int .i64 0,.int .i64 0,.int .i64 0,.int .i64 0] 41 (0,0)):=E
 have s0:Two ga gb (.cells #[x0,x1,x2,x3] 38 (0,0)) (.cells #[y0,y1,y2,y3] 41 (0,0)) wx.drew:=⟨A,B⟩
 have sa:Two ga gb (.cells #[x0,x1,x2,x3] 38 (0,0)) (.cells #[y0,y1,y2,y3] 41 (0,0)) (put4 wx.drew gc x0 x1 x2 x3):=⟨put4_far s0.1 nca _ _ _ _,put4_far s0.2 ncb _ _ _ _⟩
 have sb:Two ga gb (.cells #[x0,x1,x2,x3] 38 (0,0)) (.cells #[y0,y1,y2,y3] 41 (0,0)) (put4 (put4 wx.drew gc x0 x1 x2 x3) ge y0 y1 y2 y3):=⟨put4_far sa.1 nea _ _ _ _,put4_far sa.2 neb _ _ _ _⟩
 have Ea:(put4 wx.drew gc x0 x1 x2 x3).heap[ge]?=some (.cells #[.int .i64 0,.int .i64 0,.int .i64 0,.int .i64 0] 41 (0,0)):=put4_far E' nce _ _ _ _
 exact⟨_,_,put4 wx.drew gc x0 x1 x2 x3,put4 (put4 wx.drew gc x0 x1 x2 x3) ge y0 y1 y2 y3,zh rfl,zh rfl,s0,sa,sb,
  fun w' h=>cR w' _ 0 _ _ _ h.1,fun w' h=>cR w' _ 1 _ _ _ h.1,fun w' h=>cR w' _ 2 _ _ _ h.1,fun w' h=>cR w' _ 3 _ _ _ h.1,
  fun w' h=>cR w' _ 0 _ _ _ h.2,fun w' h=>cR w' _ 1 _ _ _ h.2,fun w' h=>cR w' _ 2 _ _ _ h.2,fun w' h=>cR w' _ 3 _ _ _ h.2,
  cR wx _ 0 _ _ _ C,cR wx _ 1 _ _ _ C,cR wx _ 2 _ _ _ C,cR wx _ 3 _ _ _ C,zF C,
  cR _ _ 0 _ _ _ Ea,cR _ _ 1 _ _ _ Ea,cR _ _ 2 _ _ _ Ea,cR _ _ 3 _ _ _ Ea,zF Ea,
  zh (exit_dl y0 y1 y2 y3 C' E' hd nce (zD hb 1) hc he)⟩
theorem five (w:World) (o0 o1 o2 o3 o4:Obj):∃ w5,w5=((((w.alloc o0).alloc o1).alloc o2).alloc o3).alloc o4∧Below w.heap.size w w5∧w5.heap.size=w.heap.size+5∧w5.heap[w.heap.size]?=some o0∧w5.heap[w.heap.size+1]?=some o1∧w5.heap[w.heap.size+1+1]?=some o2∧w5.heap[w.heap.size+1+1+1]?=some o3∧w5.heap[w.heap.size+1+1+1+1]?=some o4:=by
 refine⟨_,rfl,Below.alloc (Below.alloc (Below.alloc (Below.alloc (Below.alloc (Below.refl _ _) (Nat.le_refl _) _) (by simp) _) (by simp;omega) _) (by simp;omega) _) (by simp;omega) _,by simp,?_,?_,?_,?_,?_⟩
 all_goals
  simp only [alloc_heap,alloc_size]
  repeat (first | rw [if_pos trivial] | rw [if_neg (by omega)])
def AtBox (w7:World) (at_:Int) (wx:World) (v:Value):Prop:=∃ ga,v = .pointer (some ⟨ga,0,none⟩)∧w7.heap.size≤ga∧Below w7.heap.size w7 wx∧wx.heap[ga]?=some (.cells #[.int .i64 at_] 3 (0,0))
theorem allocOld {w:World} {o:Obj} {k:Nat} (h:k<w.heap.size):(w.alloc o).heap[k]?=w.heap[k]?:=by rw [alloc_heap,if_neg (by omega)]
theorem log_put {w:World} {G:Nat} {y0 y1 y2 y3 v:Value} (z2 z3:Value) {d:DiskP} (T:w.heap[G]?=some (.cells #[y0,y1,y2,y3] 41 (0,0))) (hd:DiskV w.heap.size w v d) :
  ∃ w9,w9=(w.setCell ⟨G,2,none⟩ z2).setCell ⟨G,3,none⟩ z3∧w9.heap[G]?=some (.cells #[y0,y1,z2,z3] 41 (0,0))∧DiskV w9.heap.size w9 v d∧(∀ k o,k≠G→w.heap[k]?=some o→w9.heap[k]?=some o)∧(∀ B w0,Below B w0 w→B≤G→Below B w0 w9):=by
 have e1:=hd.setFar (p:=⟨G,2,none⟩) (hd.slFar T (by simp)) z2
 have T1:(w.setCell ⟨G,2,none⟩ z2).heap[G]?=some (.cells #[y0,y1,z2,y3] 41 (0,0)):=by simp [World.setCell,Array.getElem?_modify,T]
 have e2:=e1.setFar (p:=⟨G,3,none⟩) (e1.slFar T1 (by simp)) z3
 have hz:((w.setCell ⟨G,2,none⟩ z2).setCell ⟨G,3,none⟩ z3).heap.size=w.heap.size:=by simp [World.setCell]
 refine⟨_,rfl,by simp [World.setCell,Array.getElem?_modify,T],by rw [hz];exact e2,fun k o hk h=>(setFar (Ne.symm hk) _ _).trans ((setFar (Ne.symm hk) _ _).trans h),fun B w0 hb hB=>(hb.setCell (p:=⟨G,2,none⟩) hB _).setCell (p:=⟨G,3,none⟩) hB _⟩
theorem cf_append:∀ args w,(callFunc 106 args).run Tryz.prog w = .ok (.enter 106 args) w:=fun args w=>callFunc_run Tryz.func106 rfl rfl args w
theorem rightL_bounds {d:DiskP} {l:LogP} (h:rightL d l=true):(l.half=0∨l.half=1)∧1≤l.gen∧l.gen≤1099511627776∧2≤l.used∧l.used≤(half d:Nat)∧1≤l.count∧l.count≤l.used∧half d≤2048:=by
 unfold rightL at h
 simp only [Bool.and_eq_true,Bool.or_eq_true,decide_eq_true_eq] at h
 have:=right_half h.1.1.1.1.1.1.1
 omega
set_option maxRecDepth 100000 in
set_option maxHeartbeats 8000000 in
theorem append_any {B:Nat} (v bv:Value) (d:DiskP) (l:LogP) (b:List UInt8) (w:World) (hd:DiskV B w v d) (hv:Bytes B w bv b) (hl0:-9223372036854775808≤l.half∧l.half≤9223372036854775807) (ht:TabAt w) (hT:1<w.heap.size) :
  Calls Tryz.prog 63 #[v,logV l,bv] w (DLE w (appendP d l b)):=by
 have hd:=hd.tight
 have hv:=hv.tight
 obtain⟨sa,sc,rfl⟩:=hv.form
 obtain⟨p1,q1,p2,q2,rfl,_,_⟩:=hd.parts
 obtain⟨w5,hw5,hb5,hs5,R0,R1,R2,R3,R4⟩:=five w (.cells #[.slice p1 d.secs.length q1,.slice p2 d.loose.length q2,.int .i64 d.fuse,.bool d.down] 38) (.cells #[.int .i64 l.half,.int .i64 l.gen,.int .i64 l.used,.int .i64 l.count] 41) (.cells #[.slice sa b.length sc] 23) (.cells #[.slice none 0 0,.slice none 0 0,.int .i64 0,.bool false] 38) (.cells #[.int .i64 0,.int .i64 0,.int .i64 0,.int .i64 0] 41)
 have hd5:=(hd.below hb5).tight
 have hv5:=hv.below hb5
 have HW5:=zh hw5
 clear hw5
 have k1:=takes_any (b.length:Int) w5
 rw [takesZ_nat] at k1
 obtain⟨tk,htk⟩:∃ tk,tk=takes b.length:=⟨_,rfl⟩
 rw [← htk] at k1
 have HTK:=zh htk
 have E0:=cR w5 _ 0 _ _ _ R2
 have kr:=walRight_any _ d l w5 hd5 hl0
 simp only [logV] at kr
 obtain⟨R,hR⟩:∃ R,R=rightL d l:=⟨_,rfl⟩
 rw [← hR] at kr
 have HR:=zh hR
 clear htk hR
 by_cases ht0:tk=0
 ·subst ht0
  have hF:appendP d l b=(d,l,1):=by unfold appendP;rw [if_pos (.inl HTK.out.symm)]
  rw [hF]
  have hd55:=hd5
  clear hF kr
  unfold DLE logV
  go_enter Tryz.func63,Tryz.ntmps63
  go_upto_region 1 with (fail)
  rw [← HW5.out]
  go_wp2_with fail
  refine k1.mono ?_
  rintro e w6 ⟨rfl,rfl⟩
  clear k1
  obtain⟨oa,ob,wa,wb,HWA,HWB,s0,sa,sb,L0,L1,L2,L3,M0,M1,M2,M3,D0,D1,D2,D3,Z2,F0,F1,F2,F3,Z3,HX⟩:=exit_all (w:=w) (wx:=w5) R0 R1 R3 R4 hd5 hb5 (by omega) (by omega) (by omega) (by omega) (by omega) (by omega) (by omega)
  clear R0 R1 R2 R3 R4 hd hv hd5 hv5 hb5 hs5 hd55 ht
  go_wp2_with fail
  refine zI [(false,0),(false,1),(true,2),(true,3),(false,4)] (Two w.heap.size (w.heap.size+1) oa ob) (by kernel_rfl) (by kernel_rfl) s0 ?_
  repeat (first | (refine zS rfl rfl ?_;simp only [Act.put,zq1,zq2,zq3]) | (refine zT rfl ?_ rfl (fun w' hw'=>?_) ?_;rotate_left;(go_simp;first | done | with_reducible rfl);(try simp only [Act.put,zq1,zq2,zq3])))
  refine zA rfl rfl fun K hK=>?_
  go_simp
  rw [← HWA.out]
  refine hK.out _ _ sa ?_
  clear hK K D0 D1 D2 D3 Z2
  refine zA rfl rfl fun K hK=>?_
  go_simp
  rw [← HWB.out]
  refine hK.out _ _ sb ?_
  clear hK K F0 F1 F2 F3 Z3
  repeat (first | (refine zS rfl rfl ?_;simp only [Act.put,zq1,zq2,zq3]) | (refine zT rfl ?_ rfl (fun w' hw'=>?_) ?_;rotate_left;(go_simp;first | done | with_reducible rfl);(try simp only [Act.put,zq1,zq2,zq3])))
  refine zN ?_
  go_wp2_with fail
  refine bodyPost_ret (results_cct rfl _ _ (w.heap.size+1+1+1) (w.heap.size+1+1+1+1) _ _ _ _ _ _ _ _ rfl rfl HX.out.1 HX.out.2.1 Tryz.underlying38 rfl zQ Tryz.underlying41 rfl size_log) rfl ?_
  exact⟨⟨_,rfl,HX.out.2.2.1⟩,HX.out.2.2.2⟩
 ·have t0:decide ((tk:Int)=0)=false:=by simp;omega
  have C0:=cR w5 _ 0 _ _ _ R0
  have C1:=cR w5 _ 1 _ _ _ R0
  have C2:=cR w5 _ 2 _ _ _ R0
  have C3:=cR w5 _ 3 _ _ _ R0
  have N0:=cR w5 _ 0 _ _ _ R1
  have N1:=cR w5 _ 1 _ _ _ R1
  have N2:=cR w5 _ 2 _ _ _ R1
  have N3:=cR w5 _ 3 _ _ _ R1
  cases R with
  | false =>
   have hF:appendP d l b=(d,l,1):=by unfold appendP;rw [if_pos (.inr HR.out.symm)]
   rw [hF]
   clear hF
   unfold DLE logV
   go_enter Tryz.func63,Tryz.ntmps63
   go_upto_region 1 with (fail)
   rw [← HW5.out]
   go_wp2_with fail
   refine k1.mono ?_
   rintro e w6 ⟨rfl,rfl⟩
   clear k1
   go_wp2_with fail
   refine kr.mono ?_
   rintro e w6 ⟨rfl,hb6⟩
   clear C0 C1 C2 C3 N0 N1 N2 N3 kr
   have S0:=(hb6.block _ (zB R0)).trans R0
   have S1:=(hb6.block _ (zB R1)).trans R1
   have S2:=(hb6.block _ (zB R2)).trans R2
   have S3:=(hb6.block _ (zB R3)).trans R3
   have S4:=(hb6.block _ (zB R4)).trans R4
   have hd6:=(hd5.below hb6).tight
   have hb06:=hb5.trans (hb6.mono hb5.size)
   obtain⟨oa,ob,wa,wb,HWA,HWB,s0,sa,sb,L0,L1,L2,L3,M0,M1,M2,M3,D0,D1,D2,D3,Z2,F0,F1,F2,F3,Z3,HX⟩:=exit_all (w:=w) (wx:=w6) S0 S1 S3 S4 hd6 hb06 (by omega) (by omega) (by omega) (by omega) (by omega) (by omega) (by omega)
   clear R0 R1 R2 R3 R4 S0 S1 S2 S3 S4 hd hv hd5 hv5 hb5 hs5 ht E0 hd6 hb6 hb06
   go_wp2_with fail
   refine zI [(false,0),(false,1),(true,2),(true,3),(false,4)] (Two w.heap.size (w.heap.size+1) oa ob) (by kernel_rfl) (by kernel_rfl) s0 ?_
   repeat (first | (refine zS rfl rfl ?_;simp only [Act.put,zq1,zq2,zq3]) | (refine zT rfl ?_ rfl (fun w' hw'=>?_) ?_;rotate_left;(go_simp;first | done | with_reducible rfl);(try simp only [Act.put,zq1,zq2,zq3])))
   refine zA rfl rfl fun K hK=>?_
   go_simp
   rw [← HWA.out]
   refine hK.out _ _ sa ?_
   clear hK K D0 D1 D2 D3 Z2
   refine zA rfl rfl fun K hK=>?_
   go_simp
   rw [← HWB.out]
   refine hK.out _ _ sb ?_
   clear hK K F0 F1 F2 F3 Z3
   repeat (first | (refine zS rfl rfl ?_;simp only [Act.put,zq1,zq2,zq3]) | (refine zT rfl ?_ rfl (fun w' hw'=>?_) ?_;rotate_left;(go_simp;first | done | with_reducible rfl);(try simp only [Act.put,zq1,zq2,zq3])))
   refine zN ?_
   go_wp2_with fail
   refine bodyPost_ret (results_cct rfl _ _ (w.heap.size+1+1+1) (w.heap.size+1+1+1+1) _ _ _ _ _ _ _ _ rfl rfl HX.out.1 HX.out.2.1 Tryz.underlying38 rfl zQ Tryz.underlying41 rfl size_log) rfl ?_
   exact⟨⟨_,rfl,HX.out.2.2.1⟩,HX.out.2.2.2⟩
  | true =>
   obtain⟨b1,b2,b3,b4,b5,b6,b7,b8⟩:=rightL_bounds HR.out.symm
   obtain⟨Rm,hRm⟩:∃ Rm,Rm=roomP d l:=⟨_,rfl⟩
   have kroom:∀ w6:World,DiskV w6.heap.size w6 (.agg #[.slice p1 d.secs.length q1,.slice p2 d.loose.length q2,.int .i64 d.fuse,.bool d.down]) d→Calls Tryz.prog 105 #[.agg #[.slice p1 d.secs.length q1,.slice p2 d.loose.length q2,.int .i64 d.fuse,.bool d.down],.agg #[.int .i64 l.half,.int .i64 l.gen,.int .i64 l.used,.int .i64 l.count]] w6 fun e w'=>e = .returned (.int .i64 Rm)∧Below w6.heap.size w6 w':=fun w6 h=>by
    have:=room_any _ d l w6 h hl0
    rw [← hRm] at this
    exact this
   have HRM:=zh hRm
   have HKR:=zh kroom
   have htk95:tk≤95:=by rw [HTK.out];exact takes_le _
   clear hRm kroom
   by_cases hgt:Rm<(tk:Int)
   ·have hgt1:decide (Rm<(tk:Int))=true:=by simp;omega
    have hF:appendP d l b=(d,l,8):=by
     unfold appendP
     rw [if_neg (by rw [← HTK.out,← HR.out];simp;omega),if_pos (by rw [← HRM.out,← HTK.out];exact hgt)]
    rw [hF]
    clear hF b1 b2 b3 b4 b5 b6 b7 b8
    unfold DLE logV
    go_enter Tryz.func63,Tryz.ntmps63
    go_upto_region 1 with (fail)
    rw [← HW5.out]
    go_wp2_with fail
    refine k1.mono ?_
    rintro e w6 ⟨rfl,rfl⟩
    clear k1
    go_wp2_with fail
    refine kr.mono ?_
    rintro e w6 ⟨rfl,hb6⟩
    clear C0 C1 C2 C3 N0 N1 N2 N3 kr
    have S0:=(hb6.block _ (zB R0)).trans R0
    have S1:=(hb6.block _ (zB R1)).trans R1
    have S2:=(hb6.block _ (zB R2)).trans R2
    have S3:=(hb6.block _ (zB R3)).trans R3
    have S4:=(hb6.block _ (zB R4)).trans R4
    have hd6:=(hd5.below hb6).tight
    have hb06:=hb5.trans (hb6.mono hb5.size)
    have C0:=cR w6 _ 0 _ _ _ S0
    have C1:=cR w6 _ 1 _ _ _ S0
    have C2:=cR w6 _ 2 _ _ _ S0
    have C3:=cR w6 _ 3 _ _ _ S0
    have N0:=cR w6 _ 0 _ _ _ S1
    have N1:=cR w6 _ 1 _ _ _ S1
    have N2:=cR w6 _ 2 _ _ _ S1
    have N3:=cR w6 _ 3 _ _ _ S1
    have kroom:=HKR.out w6 hd6
    go_wp2_with fail
    refine kroom.mono ?_
    rintro e w7 ⟨rfl,hb7⟩
    clear C0 C1 C2 C3 N0 N1 N2 N3 kroom
    have hb57:=hb6.trans (hb7.mono hb6.size)
    have hd7:=(hd6.below hb7).tight
    have hb07:=hb06.trans (hb7.mono (Nat.le_trans hb5.size hb6.size))
    clear S0 S1 S2 S3 S4
    have S0:=(hb57.block _ (zB R0)).trans R0
    have S1:=(hb57.block _ (zB R1)).trans R1
    have S2:=(hb57.block _ (zB R2)).trans R2
    have S3:=(hb57.block _ (zB R3)).trans R3
    have S4:=(hb57.block _ (zB R4)).trans R4
    obtain⟨oa,ob,wa,wb,HWA,HWB,s0,sa,sb,L0,L1,L2,L3,M0,M1,M2,M3,D0,D1,D2,D3,Z2,F0,F1,F2,F3,Z3,HX⟩:=exit_all (w:=w) (wx:=w7) S0 S1 S3 S4 hd7 hb07 (by omega) (by omega) (by omega) (by omega) (by omega) (by omega) (by omega)
    clear R0 R1 R2 R3 R4 S0 S1 S2 S3 S4 hd hv hd5 hv5 hb5 hs5 ht E0 hd6 hb6 hb06 hd7 hb7 hb07 hb57
    go_wp2_with fail
    refine zI [(false,0),(false,1),(true,2),(true,3),(false,4)] (Two w.heap.size (w.heap.size+1) oa ob) (by kernel_rfl) (by kernel_rfl) s0 ?_
    repeat (first | (refine zS rfl rfl ?_;simp only [Act.put,zq1,zq2,zq3]) | (refine zT rfl ?_ rfl (fun w' hw'=>?_) ?_;rotate_left;(go_simp;first | done | with_reducible rfl);(try simp only [Act.put,zq1,zq2,zq3])))
    refine zA rfl rfl fun K hK=>?_
    go_simp
    rw [← HWA.out]
    refine hK.out _ _ sa ?_
    clear hK K D0 D1 D2 D3 Z2
    refine zA rfl rfl fun K hK=>?_
    go_simp
    rw [← HWB.out]
    refine hK.out _ _ sb ?_
    clear hK K F0 F1 F2 F3 Z3
    repeat (first | (refine zS rfl rfl ?_;simp only [Act.put,zq1,zq2,zq3]) | (refine zT rfl ?_ rfl (fun w' hw'=>?_) ?_;rotate_left;(go_simp;first | done | with_reducible rfl);(try simp only [Act.put,zq1,zq2,zq3])))
    refine zN ?_
    go_wp2_with fail
    refine bodyPost_ret (results_cct rfl _ _ (w.heap.size+1+1+1) (w.heap.size+1+1+1+1) _ _ _ _ _ _ _ _ rfl rfl HX.out.1 HX.out.2.1 Tryz.underlying38 rfl zQ Tryz.underlying41 rfl size_log) rfl ?_
    exact⟨⟨_,rfl,HX.out.2.2.1⟩,HX.out.2.2.2⟩
   ·have hgt1:decide (Rm<(tk:Int))=false:=by simp;omega
    obtain⟨r,hr⟩:∃ r,r=run d (appendD d l b):=⟨_,rfl⟩
    have hF:appendP d l b=if r.2=0 then (r.1,{ l with used:=l.used+tk,count:=l.count+1 },0) else (r.1,l,r.2):=by
     unfold appendP
     rw [if_neg (by rw [← HTK.out,← HR.out];simp;omega),if_neg (by rw [← HRM.out,← HTK.out];exact hgt),← hr,← HTK.out]
    obtain⟨H,hH⟩:∃ H,H=half d:=⟨_,rfl⟩
    rw [← hH] at b5 b8
    have HHH:=zh hH
    clear hH
    obtain⟨at_,hat⟩:∃ at_,at_=l.half*H+l.used:=⟨_,rfl⟩
    have hat0:0≤at_:=by rcases b1 with h | h <;> rw [hat,h] <;> omega
    have hat1:at_≤2^40:=by rcases b1 with h | h <;> rw [hat,h] <;> omega
    have hwr0:IntKind.i64.wrap (l.half*H)=l.half*H:=by
     simp only [IntKind.wrap,IntKind.bits,IntKind.signed]
     rcases b1 with h | h <;> rw [h] <;> simp <;> omega
    have hwr1:IntKind.i64.wrap (l.half*H+l.used)=at_:=by
     rw [hat]
     simp only [IntKind.wrap,IntKind.bits,IntKind.signed]
     rcases b1 with h | h <;> rw [h] <;> simp <;> omega
    have hblen:b.length≤2^20:=by
     have h:=HTK.out
     unfold takes at h
     split at h <;> omega
    have hdo:∀ (w9:World),Below w5.heap.size w5 w9→DiskV w9.heap.size w9 (.agg #[.slice p1 d.secs.length q1,.slice p2 d.loose.length q2,.int .i64 d.fuse,.bool d.down]) d→∀ (ga:Nat),w9.heap[ga]?=some (.cells #[.int .i64 at_] 3 (0,0))→∀ (g:Nat) (w':World),Below w9.heap.size w9 w'→HandAt g w' d→w9.heap.size≤g→Calls Tryz.prog 106 (#[.pointer (some ⟨g,0,none⟩)]++#[.pointer (some ⟨ga,0,none⟩),.pointer (some ⟨w.heap.size+1+1,0,none⟩),.pointer (some ⟨w.heap.size+1,0,none⟩)]) w' fun x w''=>x=hEnd r.2∧HandAt g w'' r.1∧w'.grownBy w'' (some g):=fun w9 hb59 hd9 ga hga g w' hb' hh' hle=>by
     have hs9:=hb59.size
     have hlg:=zB hga
     have hb':Below w9.heap.size w9 w':=hb'
     have hbw:Below w5.heap.size w5 w':=hb59.trans (hb'.mono hs9)
     have:=append1_any (g:=g) (ba:=ga) (bb:=w.heap.size+1+1) (bl:=w.heap.size+1) d l at_ (.slice sa b.length sc) b w' hh' ⟨(hb'.block _ hlg).trans hga,(hbw.block _ (zB R2)).trans R2,(hbw.block _ (zB R1)).trans R1⟩ (by omega) (by have:=zB R2;omega) (by have:=zB R1;omega) ((hv5.below (hbw.mono hb5.size)).mono (by omega)) (ht.below (hb5.trans (hbw.mono hb5.size)) hT) (by omega) hblen hat0 hat1
     rw [hr]
     unfold appendD
     rw [← HHH.out,← hat]
     exact this
    have HDO:=zh hdo
    have HF:=zh hF
    clear hdo hF hr
    rw [HF.out]
    have hmf:=makeFunc_run
    have Hat:=zh hat
    clear hat
    unfold DLE logV
    go_enter Tryz.func63,Tryz.ntmps63
    go_upto_region 1 with (fail)
    rw [← HW5.out]
    go_wp2_with fail
    refine k1.mono ?_
    rintro e w6 ⟨rfl,rfl⟩
    clear k1
    go_wp2_with fail
    refine kr.mono ?_
    rintro e w6 ⟨rfl,hb6⟩
    clear C0 C1 C2 C3 N0 N1 N2 N3 kr
    have S0:=(hb6.block _ (zB R0)).trans R0
    have S1:=(hb6.block _ (zB R1)).trans R1
    have S2:=(hb6.block _ (zB R2)).trans R2
    have S3:=(hb6.block _ (zB R3)).trans R3
    have S4:=(hb6.block _ (zB R4)).trans R4
    have hd6:=(hd5.below hb6).tight
    have hb06:=hb5.trans (hb6.mono hb5.size)
    have C0:=cR w6 _ 0 _ _ _ S0
    have C1:=cR w6 _ 1 _ _ _ S0
    have C2:=cR w6 _ 2 _ _ _ S0
    have C3:=cR w6 _ 3 _ _ _ S0
    have N0:=cR w6 _ 0 _ _ _ S1
    have N1:=cR w6 _ 1 _ _ _ S1
    have N2:=cR w6 _ 2 _ _ _ S1
    have N3:=cR w6 _ 3 _ _ _ S1
    have kroom:=HKR.out w6 hd6
    go_wp2_with fail
    refine kroom.mono ?_
    rintro e w7 ⟨rfl,hb7⟩
    clear C0 C1 C2 C3 N0 N1 N2 N3 kroom
    have hb57:=hb6.trans (hb7.mono hb6.size)
    have hd7:=(hd6.below hb7).tight
    have hb07:=hb06.trans (hb7.mono (Nat.le_trans hb5.size hb6.size))
    clear S0 S1 S2 S3 S4
    have S0:=(hb57.block _ (zB R0)).trans R0
    have S1:=(hb57.block _ (zB R1)).trans R1
    have S2:=(hb57.block _ (zB R2)).trans R2
    have S3:=(hb57.block _ (zB R3)).trans R3
    have S4:=(hb57.block _ (zB R4)).trans R4
    obtain⟨oa,hoa⟩:∃ o:Obj,o = .cells #[.slice p1 d.secs.length q1,.slice p2 d.loose.length q2,.int .i64 d.fuse,.bool d.down] 38:=⟨_,rfl⟩
    obtain⟨ob,hob⟩:∃ o:Obj,o = .cells #[.int .i64 l.half,.int .i64 l.gen,.int .i64 l.used,.int .i64 l.count] 41:=⟨_,rfl⟩
    have L0:∀ w',Two w.heap.size (w.heap.size+1) oa ob w'→w'.cell? ⟨w.heap.size,0,none⟩=some (.slice p1 d.secs.length q1):=fun w' h=>by rw [hoa] at h;exact cR w' _ 0 _ _ _ h.1
    have L1:∀ w',Two w.heap.size (w.heap.size+1) oa ob w'→w'.cell? ⟨w.heap.size,1,none⟩=some (.slice p2 d.loose.length q2):=fun w' h=>by rw [hoa] at h;exact cR w' _ 1 _ _ _ h.1
    have L2:∀ w',Two w.heap.size (w.heap.size+1) oa ob w'→w'.cell? ⟨w.heap.size,2,none⟩=some (.int .i64 d.fuse):=fun w' h=>by rw [hoa] at h;exact cR w' _ 2 _ _ _ h.1
    have L3:∀ w',Two w.heap.size (w.heap.size+1) oa ob w'→w'.cell? ⟨w.heap.size,3,none⟩=some (.bool d.down):=fun w' h=>by rw [hoa] at h;exact cR w' _ 3 _ _ _ h.1
    have M0:∀ w',Two w.heap.size (w.heap.size+1) oa ob w'→w'.cell? ⟨w.heap.size+1,0,none⟩=some (.int .i64 l.half):=fun w' h=>by rw [hob] at h;exact cR w' _ 0 _ _ _ h.2
    have M2:∀ w',Two w.heap.size (w.heap.size+1) oa ob w'→w'.cell? ⟨w.heap.size+1,2,none⟩=some (.int .i64 l.used):=fun w' h=>by rw [hob] at h;exact cR w' _ 2 _ _ _ h.2
    have kh:∀ w':World,Below w7.heap.size w7 w'→Calls Tryz.prog 96 #[.agg #[.slice p1 d.secs.length q1,.slice p2 d.loose.length q2,.int .i64 d.fuse,.bool d.down]] w' fun e w''=>e = .returned (.int .i64 (H:Nat))∧Below w'.heap.size w' w'':=fun w' h=>by rw [HHH.out];exact walHalf_any _ d w' (hd7.below h)
    have s0:Two w.heap.size (w.heap.size+1) oa ob w7.drew:=by rw [hoa,hob];exact⟨S0,S1⟩
    have HRR:=zh (show _∧_∧_∧_∧_ from ⟨R0,R1,R2,R3,R4⟩)
    have HB57:=zh hb57
    have HB5:=zh hb5
    have HV5:=zh hv5
    have HDD:=zh hd7
    have HOA:=zh hoa
    have HOB:=zh hob
    clear R0 R1 R2 R3 R4 S0 S1 S2 S3 S4 hd hv hd5 hv5 hb5 hs5 ht E0 hd6 hb6 hb06 hd7 hb7 hb07 hb57 hoa hob
    go_upto_region 6 with (fail)
    go_cut [10] from 34 to 41 (fun s10 wx=>AtBox w7 at_ wx s10)
    case first =>
     refine wp_region_start (Two w.heap.size (w.heap.size+1) oa ob) (by kernel_rfl) s0 ?_
     refine wpAnyH_part [(false,0),(false,1),(false,2),(false,5),(false,6)] (by kernel_rfl) s0 ?_
     repeat (first | (refine zS rfl rfl ?_;simp only [Act.put,zq1,zq2,zq3]) | (refine zT rfl ?_ rfl (fun w' hw'=>?_) ?_;rotate_left;(go_simp;first | done | with_reducible rfl);(try simp only [Act.put,zq1,zq2,zq3])))
     refine zN ?_
     refine wpAnyH_ready (rs:=[3,8]) (by kernel_rfl) (by simp) ?_
     refine zR rfl rfl (fun K hK=>?_) (zR rfl rfl (fun K hK=>?_) AllReadyH.nil)
     ·go_simp
      refine (kh _ (zD (Below.refl _ _) 1)).mono ?_
      rintro e w8 ⟨rfl,hb8⟩
      have s8:Two w.heap.size (w.heap.size+1) oa ob w8:=⟨(hb8.block _ (zB s0.1)).trans s0.1,(hb8.block _ (zB s0.2)).trans s0.2⟩
      have hb78:Below w7.heap.size w7 w8:=(zD (Below.refl _ _) 1).trans hb8
      refine hK.out _ _ s8 ?_
      clear hK K kh
      refine wpAnyH_end [(false,4),(false,7),(true,8),(true,9)] (by kernel_rfl) s8 ?_
      repeat (first | (refine zS rfl rfl ?_;simp only [Act.put,zq1,zq2,zq3]) | (refine zT rfl ?_ rfl (fun w' hw'=>?_) ?_;rotate_left;(go_simp;first | done | with_reducible rfl);(try simp only [Act.put,zq1,zq2,zq3])))
      refine zA rfl rfl fun K hK=>?_
      go_simp
      have s9:∀ o,Two w.heap.size (w.heap.size+1) oa ob (w8.alloc o):=fun o=>⟨(allocOld (zB s8.1)).trans s8.1,(allocOld (zB s8.2)).trans s8.2⟩
      refine hK.out _ _ (s9 _) ?_
      clear hK K
      refine zA rfl rfl fun K hK=>?_
      go_simp
      refine hK.out _ _ (s9 _) ?_
      clear hK K
      have hfin:AtBox w7 at_ (w8.alloc (.cells #[.int .i64 at_] 3)) (.pointer (some ⟨w8.heap.size,0,none⟩)):=⟨_,rfl,hb78.size,hb78.alloc hb78.size _,heap_alloc_new w8 _⟩
      have HFIN:=zh hfin
      clear hfin s9
      refine zN ?_
      go_wp2_with fail
      go_meet
      case rel=>exact HFIN.out
     ·go_simp
      have hS4:Below w7.heap.size w7 (w7.alloc (.cells #[.int .i64 0] 3)).drew:=((Below.refl _ _).alloc (Nat.le_refl _) _).drew
      have s4:Two w.heap.size (w.heap.size+1) oa ob (w7.alloc (.cells #[.int .i64 0] 3)).drew:=⟨(hS4.block _ (zB s0.1)).trans s0.1,(hS4.block _ (zB s0.2)).trans s0.2⟩
      refine hK.out _ _ s4 ?_
      clear hK K
      have hG4:(w7.alloc (.cells #[.int .i64 0] 3)).drew.heap[w7.heap.size]?=some (.cells #[.int .i64 0] 3 (0,0)):=heap_alloc_new w7 _
      obtain⟨w4,hw4⟩:∃ w4,w4=(w7.alloc (.cells #[.int .i64 0] 3)).drew:=⟨_,rfl⟩
      rw [← hw4] at hS4 hG4 s4 ⊢
      clear hw4
      refine wpAnyH_end [(true,3),(false,4),(false,7),(true,9)] (by kernel_rfl) s4 ?_
      refine zA rfl rfl fun K hK=>?_
      go_simp
      refine (kh _ hS4).mono ?_
      rintro e w8 ⟨rfl,hb8⟩
      have hb78:Below w7.heap.size w7 w8:=hS4.trans (hb8.mono hS4.size)
      have s8:Two w.heap.size (w.heap.size+1) oa ob w8:=⟨(hb78.block _ (zB s0.1)).trans s0.1,(hb78.block _ (zB s0.2)).trans s0.2⟩
      have hG8:=(hb8.block _ (zB hG4)).trans hG4
      refine hK.out _ _ s8 ?_
      clear hK K kh
      repeat (first | (refine zS rfl rfl ?_;simp only [Act.put,zq1,zq2,zq3]) | (refine zT rfl ?_ rfl (fun w' hw'=>?_) ?_;rotate_left;(go_simp;first | done | with_reducible rfl);(try simp only [Act.put,zq1,zq2,zq3])))
      have A0:=cR w8 _ 0 _ _ _ hG8
      have ZA:=zF hG8
      obtain⟨wb,hwb⟩:∃ wb,wb=w8.setCell ⟨w7.heap.size,0,none⟩ (.int .i64 at_):=⟨_,rfl⟩
      have hbb:Below w7.heap.size w7 wb:=by rw [hwb];exact hb78.setCell (Nat.le_refl _) _
      have s9:Two w.heap.size (w.heap.size+1) oa ob wb:=⟨(hbb.block _ (zB s0.1)).trans s0.1,(hbb.block _ (zB s0.2)).trans s0.2⟩
      have hfin:AtBox w7 at_ wb (.pointer (some ⟨w7.heap.size,0,none⟩)):=⟨_,rfl,Nat.le_refl _,hbb,by rw [hwb];simp [World.setCell,Array.getElem?_modify,hG8]⟩
      have HFIN:=zh hfin
      have HWB:=zh hwb
      clear hfin hwb hbb hS4 hG4
      refine zA rfl rfl fun K hK=>?_
      go_simp
      rw [← HWB.out]
      refine hK.out _ _ s9 ?_
      clear hK K
      refine zN ?_
      go_wp2_with fail
      go_meet
      case rel=>exact HFIN.out
    case rest =>
     obtain⟨ga,rfl,hga,hbc,hrow⟩:=hcut
     obtain⟨R0,R1,R2,R3,R4⟩:=HRR.out
     have hb5c:Below w5.heap.size w5 wc:=HB57.out.trans (hbc.mono HB57.out.size)
     have hdc:=(HDD.out.below hbc).tight
     have S0:=(hb5c.block _ (zB R0)).trans R0
     have C0:=cR wc _ 0 _ _ _ S0
     have C1:=cR wc _ 1 _ _ _ S0
     have C2:=cR wc _ 2 _ _ _ S0
     have C3:=cR wc _ 3 _ _ _ S0
     have kw:=write_any _ #[.pointer (some ⟨ga,0,none⟩),.pointer (some ⟨w.heap.size+1+1,0,none⟩),.pointer (some ⟨w.heap.size+1,0,none⟩)] d r wc hdc cf_append (HDO.out wc hb5c hdc ga hrow)
     clear R0 R1 R2 R3 R4 S0 hga hbc hrow hdc s0 kh
     go_wp2_with fail
     refine kw.mono ?_
     rintro e w8 ⟨⟨v',rfl,hd8⟩,hb8⟩
     clear C0 C1 C2 C3 kw HDO
     obtain⟨p3,q3,p4,q4,rfl,_,_⟩:=hd8.parts
     have hb58:=hb5c.trans (hb8.mono hb5c.size)
     obtain⟨R0,R1,R2,R3,R4⟩:=HRR.out
     have S0:=(hb58.block _ (zB R0)).trans R0
     have S1:=(hb58.block _ (zB R1)).trans R1
     have S2:=(hb58.block _ (zB R2)).trans R2
     have S3:=(hb58.block _ (zB R3)).trans R3
     have S4:=(hb58.block _ (zB R4)).trans R4
     obtain⟨w9,hw9,T0,hd9,keep9,_,below9⟩:=box_put S0 hd8
     have T1:=keep9 _ _ (by omega) S1
     have T3:=keep9 _ _ (by omega) S3
     have T4:=keep9 _ _ (by omega) S4
     have hb09:=below9 _ _ (HB5.out.trans (hb58.mono HB5.out.size)) (Nat.le_refl _)
     have C0:=cR w8 _ 0 _ _ _ S0
     have C1:=cR w8 _ 1 _ _ _ S0
     have C2:=cR w8 _ 2 _ _ _ S0
     have C3:=cR w8 _ 3 _ _ _ S0
     have Z0:=zF S0
     dsimp only [put4] at hw9
     have HW9:=zh hw9
     have HT0:=zh T0
     have HT1:=zh T1
     have HT3:=zh T3
     have HT4:=zh T4
     have HD9:=zh hd9
     have HB9:=zh hb09
     clear S0 S1 S2 S3 S4 R0 R1 R2 R3 R4 hb5c hb8 hb58 hd8 T0 T1 T3 T4 hd9 hb09 hw9 keep9 below9
     go_upto_region 8 with (fail)
     rw [← HW9.out]
     clear C0 C1 C2 C3 Z0 HW9
     by_cases he:r.2=0
     ·have hne0:(r.2 != 0)=false:=by simp [he]
      rw [he] at hne0
      have hwu:IntKind.i64.wrap (l.used+(tk:Int))=l.used+tk:=by
       simp only [IntKind.wrap,IntKind.bits,IntKind.signed]
       simp
       omega
      have hwc:IntKind.i64.wrap (l.count+1)=l.count+1:=by
       simp only [IntKind.wrap,IntKind.bits,IntKind.signed]
       simp
       omega
      obtain⟨w10,hw10,U1,hd10,keep10,below10⟩:=log_put (.int .i64 (l.used+tk)) (.int .i64 (l.count+1)) HT1.out HD9.out
      have U0:=keep10 _ _ (by omega) HT0.out
      have U3:=keep10 _ _ (by omega) HT3.out
      have U4:=keep10 _ _ (by omega) HT4.out
      have hb10:=below10 _ _ HB9.out (by omega)
      have HW10:=zh hw10
      have HU0:=zh U0
      have HU1:=zh U1
      have HU3:=zh U3
      have HU4:=zh U4
      have HD10:=zh hd10
      have HB10:=zh hb10
      have N0:=cR w9 _ 0 _ _ _ HT1.out
      have N1:=cR w9 _ 1 _ _ _ HT1.out
      have N2:=cR w9 _ 2 _ _ _ HT1.out
      have N3:=cR w9 _ 3 _ _ _ HT1.out
      have Z1:=zF HT1.out
      clear hw10 U0 U1 U3 U4 hd10 hb10 keep10 below10
      go_upto_region 12 with (fail)
      rw [← HW10.out]
      clear N0 N1 N2 N3 Z1 hwu hwc
      obtain⟨oa,ob,wa,wb,HWA,HWB,s0,sa,sb,L0,L1,L2,L3,M0,M1,M2,M3,D0,D1,D2,D3,Z2,F0,F1,F2,F3,Z3,HX⟩:=exit_all (w:=w) (wx:=w10) HU0.out HU1.out HU3.out HU4.out HD10.out HB10.out (by omega) (by omega) (by omega) (by omega) (by omega) (by omega) (by omega)
      go_wp2_with fail
      refine zI [(false,0),(false,1),(true,2),(true,3),(false,4)] (Two w.heap.size (w.heap.size+1) oa ob) (by kernel_rfl) (by kernel_rfl) s0 ?_
      repeat (first | (refine zS rfl rfl ?_;simp only [Act.put,zq1,zq2,zq3]) | (refine zT rfl ?_ rfl (fun w' hw'=>?_) ?_;rotate_left;(go_simp;first | done | with_reducible rfl);(try simp only [Act.put,zq1,zq2,zq3])))
      refine zA rfl rfl fun K hK=>?_
      go_simp
      rw [← HWA.out]
      refine hK.out _ _ sa ?_
      clear hK K D0 D1 D2 D3 Z2
      refine zA rfl rfl fun K hK=>?_
      go_simp
      rw [← HWB.out]
      refine hK.out _ _ sb ?_
      clear hK K F0 F1 F2 F3 Z3
      repeat (first | (refine zS rfl rfl ?_;simp only [Act.put,zq1,zq2,zq3]) | (refine zT rfl ?_ rfl (fun w' hw'=>?_) ?_;rotate_left;(go_simp;first | done | with_reducible rfl);(try simp only [Act.put,zq1,zq2,zq3])))
      refine zN ?_
      go_wp2_with fail
      refine bodyPost_ret (results_cct rfl _ _ (w.heap.size+1+1+1) (w.heap.size+1+1+1+1) _ _ _ _ _ _ _ _ rfl rfl HX.out.1 HX.out.2.1 Tryz.underlying38 rfl zQ Tryz.underlying41 rfl size_log) rfl ?_
      exact⟨⟨_,rfl,HX.out.2.2.1⟩,HX.out.2.2.2⟩
     ·have hne0:(r.2 != 0)=true:=by simp [he]
      obtain⟨oa,ob,wa,wb,HWA,HWB,s0,sa,sb,L0,L1,L2,L3,M0,M1,M2,M3,D0,D1,D2,D3,Z2,F0,F1,F2,F3,Z3,HX⟩:=exit_all (w:=w) (wx:=w9) HT0.out HT1.out HT3.out HT4.out HD9.out HB9.out (by omega) (by omega) (by omega) (by omega) (by omega) (by omega) (by omega)
      go_wp2_with fail
      refine zI [(false,0),(false,1),(false,2),(true,3),(true,4),(false,5)] (Two w.heap.size (w.heap.size+1) oa ob) (by kernel_rfl) (by kernel_rfl) s0 ?_
      repeat (first | (refine zS rfl rfl ?_;simp only [Act.put,zq1,zq2,zq3]) | (refine zT rfl ?_ rfl (fun w' hw'=>?_) ?_;rotate_left;(go_simp;first | done | with_reducible rfl);(try simp only [Act.put,zq1,zq2,zq3])))
      refine zA rfl rfl fun K hK=>?_
      go_simp
      rw [← HWA.out]
      refine hK.out _ _ sa ?_
      clear hK K D0 D1 D2 D3 Z2
      refine zA rfl rfl fun K hK=>?_
      go_simp
      rw [← HWB.out]
      refine hK.out _ _ sb ?_
      clear hK K F0 F1 F2 F3 Z3
      repeat (first | (refine zS rfl rfl ?_;simp only [Act.put,zq1,zq2,zq3]) | (refine zT rfl ?_ rfl (fun w' hw'=>?_) ?_;rotate_left;(go_simp;first | done | with_reducible rfl);(try simp only [Act.put,zq1,zq2,zq3])))
      refine zN ?_
      go_wp2_with fail
      refine bodyPost_ret (results_cct rfl _ _ (w.heap.size+1+1+1) (w.heap.size+1+1+1+1) _ _ _ _ _ _ _ _ rfl rfl HX.out.1 HX.out.2.1 Tryz.underlying38 rfl zQ Tryz.underlying41 rfl size_log) rfl ?_
      exact⟨⟨_,rfl,HX.out.2.2.1⟩,HX.out.2.2.2⟩
end
section
open Go.RowKit WalP PackP
theorem cf_compact:∀ args w,(callFunc 111 args).run Tryz.prog w = .ok (.enter 111 args) w:=fun args w=>callFunc_run Tryz.func111 rfl rfl args w
set_option maxRecDepth 100000 in
set_option maxHeartbeats 8000000 in
theorem compact_any {B:Nat} (v lv:Value) (d:DiskP) (l:LogP) (list:List (List UInt8)) (w:World) (hd:DiskV B w v d) (hv:Pieces B w lv list) (hl0:-9223372036854775808≤l.half∧l.half≤9223372036854775807) (ht:TabAt w) (hT:1<w.heap.size)
  (hl1:∀ b∈list,b.length≤2^20) (hl2:list.length≤2^20) :
  Calls Tryz.prog 64 #[v,logV l,lv] w (DLE w (compactP d l list)):=by
 have hd:=hd.tight
 have hv:=hv.tight
 obtain⟨la,lc,rfl,_,_,_⟩:=id hv.at_
 obtain⟨p1,q1,p2,q2,rfl,_,_⟩:=hd.parts
 obtain⟨w5,hw5,hb5,hs5,R0,R1,R2,R3,R4⟩:=five w (.cells #[.slice p1 d.secs.length q1,.slice p2 d.loose.length q2,.int .i64 d.fuse,.bool d.down] 38) (.cells #[.int .i64 l.half,.int .i64 l.gen,.int .i64 l.used,.int .i64 l.count] 41) (.cells #[.slice la list.length lc] 66) (.cells #[.slice none 0 0,.slice none 0 0,.int .i64 0,.bool false] 38) (.cells #[.int .i64 0,.int .i64 0,.int .i64 0,.int .i64 0] 41)
 have hd5:=(hd.below hb5).tight
 have hv5:=hv.below hb5
 have HW5:=zh hw5
 clear hw5
 have k1:=total_any _ list w5 hv5 (by omega) (fun b hb=>Nat.le_trans (hl1 b hb) (by decide))
 have E0:=cR w5 _ 0 _ _ _ R2
 have kr:=walRight_any _ d l w5 hd5 hl0
 simp only [logV] at kr
 obtain⟨R,hR⟩:∃ R,R=rightL d l:=⟨_,rfl⟩
 rw [← hR] at kr
 have HR:=zh hR
 clear hR
 cases htot:total list with
 | none =>
  have hF:compactP d l list=(d,l,1):=by unfold compactP;rw [htot]
  rw [hF]
  have hT':totV list = .tuple #[.int .i64 0,.bool false]:=by unfold totV;rw [htot]
  rw [hT'] at k1
  clear hF kr hT' htot
  unfold DLE logV
  go_enter Tryz.func64,Tryz.ntmps64
  go_upto_region 1 with (fail)
  rw [← HW5.out]
  go_wp2_with fail
  refine k1.mono ?_
  rintro e w6 ⟨rfl,rfl⟩
  clear k1
  obtain⟨oa,ob,wa,wb,HWA,HWB,s0,sa,sb,L0,L1,L2,L3,M0,M1,M2,M3,D0,D1,D2,D3,Z2,F0,F1,F2,F3,Z3,HX⟩:=exit_all (w:=w) (wx:=w5) R0 R1 R3 R4 hd5 hb5 (by omega) (by omega) (by omega) (by omega) (by omega) (by omega) (by omega)
  clear R0 R1 R2 R3 R4 hd hv hd5 hv5 hb5 hs5 ht
  go_wp2_with fail
  refine zI [(false,0),(false,1),(true,2),(true,3),(false,4)] (Two w.heap.size (w.heap.size+1) oa ob) (by kernel_rfl) (by kernel_rfl) s0 ?_
  repeat (first | (refine zS rfl rfl ?_;simp only [Act.put,zq1,zq2,zq3]) | (refine zT rfl ?_ rfl (fun w' hw'=>?_) ?_;rotate_left;(go_simp;first | done | with_reducible rfl);(try simp only [Act.put,zq1,zq2,zq3])))
  refine zA rfl rfl fun K hK=>?_
  go_simp
  rw [← HWA.out]
  refine hK.out _ _ sa ?_
  clear hK K D0 D1 D2 D3 Z2
  refine zA rfl rfl fun K hK=>?_
  go_simp
  rw [← HWB.out]
  refine hK.out _ _ sb ?_
  clear hK K F0 F1 F2 F3 Z3
  repeat (first | (refine zS rfl rfl ?_;simp only [Act.put,zq1,zq2,zq3]) | (refine zT rfl ?_ rfl (fun w' hw'=>?_) ?_;rotate_left;(go_simp;first | done | with_reducible rfl);(try simp only [Act.put,zq1,zq2,zq3])))
  refine zN ?_
  go_wp2_with fail
  refine bodyPost_ret (results_cct rfl _ _ (w.heap.size+1+1+1) (w.heap.size+1+1+1+1) _ _ _ _ _ _ _ _ rfl rfl HX.out.1 HX.out.2.1 Tryz.underlying38 rfl zQ Tryz.underlying41 rfl size_log) rfl ?_
  exact⟨⟨_,rfl,HX.out.2.2.1⟩,HX.out.2.2.2⟩
 | some n =>
  have hT':totV list = .tuple #[.int .i64 n,.bool true]:=by unfold totV;rw [htot]
  rw [hT'] at k1
  have HNE:=zh (total_ne htot)
  have HTOT:=zh htot
  clear hT' htot
  have C0:=cR w5 _ 0 _ _ _ R0
  have C1:=cR w5 _ 1 _ _ _ R0
  have C2:=cR w5 _ 2 _ _ _ R0
  have C3:=cR w5 _ 3 _ _ _ R0
  have N0:=cR w5 _ 0 _ _ _ R1
  have N1:=cR w5 _ 1 _ _ _ R1
  have N2:=cR w5 _ 2 _ _ _ R1
  have N3:=cR w5 _ 3 _ _ _ R1
  cases R with
  | false =>
   have hF:compactP d l list=(d,l,1):=by unfold compactP;rw [HTOT.out,← HR.out];rfl
   rw [hF]
   clear hF
   unfold DLE logV
   go_enter Tryz.func64,Tryz.ntmps64
   go_upto_region 1 with (fail)
   rw [← HW5.out]
   go_wp2_with fail
   refine k1.mono ?_
   rintro e w6 ⟨rfl,rfl⟩
   clear k1
   go_wp2_with fail
   refine kr.mono ?_
   rintro e w6 ⟨rfl,hb6⟩
   clear C0 C1 C2 C3 N0 N1 N2 N3 kr
   have S0:=(hb6.block _ (zB R0)).trans R0
   have S1:=(hb6.block _ (zB R1)).trans R1
   have S2:=(hb6.block _ (zB R2)).trans R2
   have S3:=(hb6.block _ (zB R3)).trans R3
   have S4:=(hb6.block _ (zB R4)).trans R4
   have hd6:=(hd5.below hb6).tight
   have hb06:=hb5.trans (hb6.mono hb5.size)
   obtain⟨oa,ob,wa,wb,HWA,HWB,s0,sa,sb,L0,L1,L2,L3,M0,M1,M2,M3,D0,D1,D2,D3,Z2,F0,F1,F2,F3,Z3,HX⟩:=exit_all (w:=w) (wx:=w6) S0 S1 S3 S4 hd6 hb06 (by omega) (by omega) (by omega) (by omega) (by omega) (by omega) (by omega)
   clear R0 R1 R2 R3 R4 S0 S1 S2 S3 S4 hd hv hd5 hv5 hb5 hs5 ht E0 hd6 hb6 hb06
   go_wp2_with fail
   refine zI [(false,0),(false,1),(true,2),(true,3),(false,4)] (Two w.heap.size (w.heap.size+1) oa ob) (by kernel_rfl) (by kernel_rfl) s0 ?_
   repeat (first | (refine zS rfl rfl ?_;simp only [Act.put,zq1,zq2,zq3]) | (refine zT rfl ?_ rfl (fun w' hw'=>?_) ?_;rotate_left;(go_simp;first | done | with_reducible rfl);(try simp only [Act.put,zq1,zq2,zq3])))
   refine zA rfl rfl fun K hK=>?_
   go_simp
   rw [← HWA.out]
   refine hK.out _ _ sa ?_
   clear hK K D0 D1 D2 D3 Z2
   refine zA rfl rfl fun K hK=>?_
   go_simp
   rw [← HWB.out]
   refine hK.out _ _ sb ?_
   clear hK K F0 F1 F2 F3 Z3
   repeat (first | (refine zS rfl rfl ?_;simp only [Act.put,zq1,zq2,zq3]) | (refine zT rfl ?_ rfl (fun w' hw'=>?_) ?_;rotate_left;(go_simp;first | done | with_reducible rfl);(try simp only [Act.put,zq1,zq2,zq3])))
   refine zN ?_
   go_wp2_with fail
   refine bodyPost_ret (results_cct rfl _ _ (w.heap.size+1+1+1) (w.heap.size+1+1+1+1) _ _ _ _ _ _ _ _ rfl rfl HX.out.1 HX.out.2.1 Tryz.underlying38 rfl zQ Tryz.underlying41 rfl size_log) rfl ?_
   exact⟨⟨_,rfl,HX.out.2.2.1⟩,HX.out.2.2.2⟩
  | true =>
   obtain⟨b1,b2,b3,b4,b5,b6,b7,b8⟩:=rightL_bounds HR.out.symm
   obtain⟨H,hH⟩:∃ H,H=half d:=⟨_,rfl⟩
   rw [← hH] at b5 b8
   have HHH:=zh hH
   clear hH
   have kh:∀ w':World,DiskV w'.heap.size w' (.agg #[.slice p1 d.secs.length q1,.slice p2 d.loose.length q2,.int .i64 d.fuse,.bool d.down]) d→Calls Tryz.prog 96 #[.agg #[.slice p1 d.secs.length q1,.slice p2 d.loose.length q2,.int .i64 d.fuse,.bool d.down]] w' fun e w''=>e = .returned (.int .i64 (H:Nat))∧Below w'.heap.size w' w'':=fun w' h=>by rw [HHH.out];exact walHalf_any _ d w' h
   have KH:=zh kh
   clear kh
   by_cases hgt:H<n
   ·have hgt1:decide ((H:Int)<(n:Int))=true:=by simp;omega
    have hF:compactP d l list=(d,l,8):=by
     unfold compactP;rw [HTOT.out]
     simp only [← HR.out,if_true]
     rw [if_pos (by rw [← HHH.out];exact hgt)]
    rw [hF]
    clear hF b1 b2 b3 b4 b5 b6 b7 b8
    unfold DLE logV
    go_enter Tryz.func64,Tryz.ntmps64
    go_upto_region 1 with (fail)
    rw [← HW5.out]
    go_wp2_with fail
    refine k1.mono ?_
    rintro e w6 ⟨rfl,rfl⟩
    clear k1
    go_wp2_with fail
    refine kr.mono ?_
    rintro e w6 ⟨rfl,hb6⟩
    clear C0 C1 C2 C3 N0 N1 N2 N3 kr
    have S0:=(hb6.block _ (zB R0)).trans R0
    have S1:=(hb6.block _ (zB R1)).trans R1
    have S2:=(hb6.block _ (zB R2)).trans R2
    have S3:=(hb6.block _ (zB R3)).trans R3
    have S4:=(hb6.block _ (zB R4)).trans R4
    have hd6:=(hd5.below hb6).tight
    have hb06:=hb5.trans (hb6.mono hb5.size)
    have C0:=cR w6 _ 0 _ _ _ S0
    have C1:=cR w6 _ 1 _ _ _ S0
    have C2:=cR w6 _ 2 _ _ _ S0
    have C3:=cR w6 _ 3 _ _ _ S0
    have kh:=KH.out w6 hd6
    go_wp2_with fail
    refine kh.mono ?_
    rintro e w7 ⟨rfl,hb7⟩
    clear C0 C1 C2 C3 kh
    have hb57:=hb6.trans (hb7.mono hb6.size)
    have hd7:=(hd6.below hb7).tight
    have hb07:=hb06.trans (hb7.mono (Nat.le_trans hb5.size hb6.size))
    clear S0 S1 S2 S3 S4
    have S0:=(hb57.block _ (zB R0)).trans R0
    have S1:=(hb57.block _ (zB R1)).trans R1
    have S2:=(hb57.block _ (zB R2)).trans R2
    have S3:=(hb57.block _ (zB R3)).trans R3
    have S4:=(hb57.block _ (zB R4)).trans R4
    obtain⟨oa,ob,wa,wb,HWA,HWB,s0,sa,sb,L0,L1,L2,L3,M0,M1,M2,M3,D0,D1,D2,D3,Z2,F0,F1,F2,F3,Z3,HX⟩:=exit_all (w:=w) (wx:=w7) S0 S1 S3 S4 hd7 hb07 (by omega) (by omega) (by omega) (by omega) (by omega) (by omega) (by omega)
    clear R0 R1 R2 R3 R4 S0 S1 S2 S3 S4 hd hv hd5 hv5 hb5 hs5 ht E0 hd6 hb6 hb06 hd7 hb7 hb07 hb57
    go_wp2_with fail
    refine zI [(false,0),(false,1),(true,2),(true,3),(false,4)] (Two w.heap.size (w.heap.size+1) oa ob) (by kernel_rfl) (by kernel_rfl) s0 ?_
    repeat (first | (refine zS rfl rfl ?_;simp only [Act.put,zq1,zq2,zq3]) | (refine zT rfl ?_ rfl (fun w' hw'=>?_) ?_;rotate_left;(go_simp;first | done | with_reducible rfl);(try simp only [Act.put,zq1,zq2,zq3])))
    refine zA rfl rfl fun K hK=>?_
    go_simp
    rw [← HWA.out]
    refine hK.out _ _ sa ?_
    clear hK K D0 D1 D2 D3 Z2
    refine zA rfl rfl fun K hK=>?_
    go_simp
    rw [← HWB.out]
    refine hK.out _ _ sb ?_
    clear hK K F0 F1 F2 F3 Z3
    repeat (first | (refine zS rfl rfl ?_;simp only [Act.put,zq1,zq2,zq3]) | (refine zT rfl ?_ rfl (fun w' hw'=>?_) ?_;rotate_left;(go_simp;first | done | with_reducible rfl);(try simp only [Act.put,zq1,zq2,zq3])))
    refine zN ?_
    go_wp2_with fail
    refine bodyPost_ret (results_cct rfl _ _ (w.heap.size+1+1+1) (w.heap.size+1+1+1+1) _ _ _ _ _ _ _ _ rfl rfl HX.out.1 HX.out.2.1 Tryz.underlying38 rfl zQ Tryz.underlying41 rfl size_log) rfl ?_
    exact⟨⟨_,rfl,HX.out.2.2.1⟩,HX.out.2.2.2⟩
   ·have hgt1:decide ((H:Int)<(n:Int))=false:=by simp;omega
    by_cases hg40:l.gen=1099511627776
    ·have hg41:(l.gen == 1099511627776)=true:=by simp [hg40]
     have hF:compactP d l list=(d,l,15):=by
      unfold compactP;rw [HTOT.out]
      simp only [← HR.out,if_true]
      rw [if_neg (by rw [← HHH.out];exact hgt),if_pos hg40]
     rw [hF]
     clear hF b1 b2 b3 b4 b5 b6 b7 b8 hg40
     unfold DLE logV
     go_enter Tryz.func64,Tryz.ntmps64
     go_upto_region 1 with (fail)
     rw [← HW5.out]
     go_wp2_with fail
     refine k1.mono ?_
     rintro e w6 ⟨rfl,rfl⟩
     clear k1
     go_wp2_with fail
     refine kr.mono ?_
     rintro e w6 ⟨rfl,hb6⟩
     clear C0 C1 C2 C3 N0 N1 N2 N3 kr
     have S0:=(hb6.block _ (zB R0)).trans R0
     have S1:=(hb6.block _ (zB R1)).trans R1
     have S2:=(hb6.block _ (zB R2)).trans R2
     have S3:=(hb6.block _ (zB R3)).trans R3
     have S4:=(hb6.block _ (zB R4)).trans R4
     have hd6:=(hd5.below hb6).tight
     have hb06:=hb5.trans (hb6.mono hb5.size)
     have C0:=cR w6 _ 0 _ _ _ S0
     have C1:=cR w6 _ 1 _ _ _ S0
     have C2:=cR w6 _ 2 _ _ _ S0
     have C3:=cR w6 _ 3 _ _ _ S0
     have kh:=KH.out w6 hd6
     go_wp2_with fail
     refine kh.mono ?_
     rintro e w7 ⟨rfl,hb7⟩
     clear C0 C1 C2 C3 kh
     have hb57:=hb6.trans (hb7.mono hb6.size)
     have hd7:=(hd6.below hb7).tight
     have hb07:=hb06.trans (hb7.mono (Nat.le_trans hb5.size hb6.size))
     clear S0 S1 S2 S3 S4
     have S0:=(hb57.block _ (zB R0)).trans R0
     have S1:=(hb57.block _ (zB R1)).trans R1
     have S2:=(hb57.block _ (zB R2)).trans R2
     have S3:=(hb57.block _ (zB R3)).trans R3
     have S4:=(hb57.block _ (zB R4)).trans R4
     have N0:=cR w7 _ 0 _ _ _ S1
     have N1:=cR w7 _ 1 _ _ _ S1
     have N2:=cR w7 _ 2 _ _ _ S1
     have N3:=cR w7 _ 3 _ _ _ S1
     obtain⟨oa,ob,wa,wb,HWA,HWB,s0,sa,sb,L0,L1,L2,L3,M0,M1,M2,M3,D0,D1,D2,D3,Z2,F0,F1,F2,F3,Z3,HX⟩:=exit_all (w:=w) (wx:=w7) S0 S1 S3 S4 hd7 hb07 (by omega) (by omega) (by omega) (by omega) (by omega) (by omega) (by omega)
     clear R0 R1 R2 R3 R4 S0 S1 S2 S3 S4 hd hv hd5 hv5 hb5 hs5 ht E0 hd6 hb6 hb06 hd7 hb7 hb07 hb57
     go_wp2_with fail
     refine zI [(false,0),(false,1),(true,2),(true,3),(false,4)] (Two w.heap.size (w.heap.size+1) oa ob) (by kernel_rfl) (by kernel_rfl) s0 ?_
     repeat (first | (refine zS rfl rfl ?_;simp only [Act.put,zq1,zq2,zq3]) | (refine zT rfl ?_ rfl (fun w' hw'=>?_) ?_;rotate_left;(go_simp;first | done | with_reducible rfl);(try simp only [Act.put,zq1,zq2,zq3])))
     refine zA rfl rfl fun K hK=>?_
     go_simp
     rw [← HWA.out]
     refine hK.out _ _ sa ?_
     clear hK K D0 D1 D2 D3 Z2
     refine zA rfl rfl fun K hK=>?_
     go_simp
     rw [← HWB.out]
     refine hK.out _ _ sb ?_
     clear hK K F0 F1 F2 F3 Z3
     repeat (first | (refine zS rfl rfl ?_;simp only [Act.put,zq1,zq2,zq3]) | (refine zT rfl ?_ rfl (fun w' hw'=>?_) ?_;rotate_left;(go_simp;first | done | with_reducible rfl);(try simp only [Act.put,zq1,zq2,zq3])))
     refine zN ?_
     go_wp2_with fail
     refine bodyPost_ret (results_cct rfl _ _ (w.heap.size+1+1+1) (w.heap.size+1+1+1+1) _ _ _ _ _ _ _ _ rfl rfl HX.out.1 HX.out.2.1 Tryz.underlying38 rfl zQ Tryz.underlying41 rfl size_log) rfl ?_
     exact⟨⟨_,rfl,HX.out.2.2.1⟩,HX.out.2.2.2⟩
    ·have hg41:(l.gen == 1099511627776)=false:=by simp [hg40]
     obtain⟨r,hr⟩:∃ r,r=run d (layD (half d) (1-l.half) (l.gen+1) list):=⟨_,rfl⟩
     have hF:compactP d l list=if r.2=0 then (r.1,⟨1-l.half,l.gen+1,n,list.length⟩,0) else (r.1,l,r.2):=by
      unfold compactP;rw [HTOT.out]
      simp only [← HR.out,if_true]
      rw [if_neg (by rw [← HHH.out];exact hgt),if_neg hg40,← hr]
     have hw1:IntKind.i64.wrap (1-l.half)=1-l.half:=by
      simp only [IntKind.wrap,IntKind.bits,IntKind.signed]
      rcases b1 with h | h <;> rw [h] <;> decide
     have hw2:IntKind.i64.wrap (l.gen+1)=l.gen+1:=by
      simp only [IntKind.wrap,IntKind.bits,IntKind.signed]
      simp
      omega
     have hdo:∀ (w9:World),Below w5.heap.size w5 w9→∀ (ga:Nat),w9.heap[ga]?=some (.cells #[.int .i64 (1-l.half),.int .i64 (l.gen+1),.int .i64 n,.int .i64 list.length] 41 (0,0))→∀ (g:Nat) (w':World),Below w9.heap.size w9 w'→HandAt g w' d→w9.heap.size≤g→Calls Tryz.prog 111 (#[.pointer (some ⟨g,0,none⟩)]++#[.pointer (some ⟨ga,0,none⟩),.pointer (some ⟨w.heap.size+1+1,0,none⟩)]) w' fun x w''=>x=hEnd r.2∧HandAt g w'' r.1∧w'.grownBy w'' (some g):=fun w9 hb59 ga hga g w' hb' hh' hle=>by
      have hs9:=hb59.size
      have hlg:=zB hga
      have hb':Below w9.heap.size w9 w':=hb'
      have hbw:Below w5.heap.size w5 w':=hb59.trans (hb'.mono hs9)
      rw [hr]
      exact compact1_any (g:=g) (bn:=ga) (bl:=w.heap.size+1+1) d ⟨1-l.half,l.gen+1,n,list.length⟩ _ list w' hh' ((hb'.block _ hlg).trans hga) ((hbw.block _ (zB R2)).trans R2) ((hv5.below (hbw.mono hb5.size)).mono (by omega)) (ht.below (hb5.trans (hbw.mono hb5.size)) hT) (by omega) (by rcases b1 with h | h <;> simp only [h] <;> decide) (by rw [← HHH.out];omega) hl1 hl2 HNE.out
     have HDO:=zh hdo
     have HF:=zh hF
     clear hdo hF hr b1 b2 b3 b4 b5 b6 b7 b8 hg40
     rw [HF.out]
     have hmf:=makeFunc_run
     unfold DLE logV
     go_enter Tryz.func64,Tryz.ntmps64
     go_upto_region 1 with (fail)
     rw [← HW5.out]
     go_wp2_with fail
     refine k1.mono ?_
     rintro e w6 ⟨rfl,rfl⟩
     clear k1
     go_wp2_with fail
     refine kr.mono ?_
     rintro e w6 ⟨rfl,hb6⟩
     clear C0 C1 C2 C3 N0 N1 N2 N3 kr
     have S0:=(hb6.block _ (zB R0)).trans R0
     have S1:=(hb6.block _ (zB R1)).trans R1
     have S2:=(hb6.block _ (zB R2)).trans R2
     have S3:=(hb6.block _ (zB R3)).trans R3
     have S4:=(hb6.block _ (zB R4)).trans R4
     have hd6:=(hd5.below hb6).tight
     have hb06:=hb5.trans (hb6.mono hb5.size)
     have C0:=cR w6 _ 0 _ _ _ S0
     have C1:=cR w6 _ 1 _ _ _ S0
     have C2:=cR w6 _ 2 _ _ _ S0
     have C3:=cR w6 _ 3 _ _ _ S0
     have kh:=KH.out w6 hd6
     go_wp2_with fail
     refine kh.mono ?_
     rintro e w7 ⟨rfl,hb7⟩
     clear C0 C1 C2 C3 kh
     have hb57:=hb6.trans (hb7.mono hb6.size)
     have hd7:=(hd6.below hb7).tight
     have hb07:=hb06.trans (hb7.mono (Nat.le_trans hb5.size hb6.size))
     clear S0 S1 S2 S3 S4
     have S0:=(hb57.block _ (zB R0)).trans R0
     have S1:=(hb57.block _ (zB R1)).trans R1
     have S2:=(hb57.block _ (zB R2)).trans R2
     have S3:=(hb57.block _ (zB R3)).trans R3
     have S4:=(hb57.block _ (zB R4)).trans R4
     have N0:=cR w7 _ 0 _ _ _ S1
     have N1:=cR w7 _ 1 _ _ _ S1
     have N2:=cR w7 _ 2 _ _ _ S1
     have N3:=cR w7 _ 3 _ _ _ S1
     obtain⟨wc,hwc⟩:∃ wc,wc=w7.alloc (.cells #[.int .i64 (1-l.half),.int .i64 (l.gen+1),.int .i64 n,.int .i64 list.length] 41):=⟨_,rfl⟩
     have hbc:Below w7.heap.size w7 wc:=by rw [hwc];exact Below.alloc (Below.refl _ _) (Nat.le_refl _) _
     have hrow:wc.heap[w7.heap.size]?=some (.cells #[.int .i64 (1-l.half),.int .i64 (l.gen+1),.int .i64 n,.int .i64 list.length] 41 (0,0)):=by rw [hwc];exact heap_alloc_new w7 _
     have hb5c:Below w5.heap.size w5 wc:=hb57.trans (hbc.mono hb57.size)
     have hdc:=(hd7.below hbc).tight
     have HWC:=zh hwc
     have HRR:=zh (show _∧_∧_∧_∧_ from ⟨R0,R1,R2,R3,R4⟩)
     have HB5:=zh hb5
     obtain⟨gn,hgn⟩:∃ gn,gn=w7.heap.size:=⟨_,rfl⟩
     rw [← hgn] at hrow
     have gne:w5.heap.size≤gn:=by rw [hgn];exact hb57.size
     have HGN:=zh hgn
     clear hgn S0 S2 S3 S4 hwc
     have E7:=cR w7 _ 0 _ _ _ ((hb57.block _ (zB R2)).trans R2)
     clear R0 R1 R2 R3 R4 hd hv hd5 hv5 ht E0 hd6 hb6 hb06 hd7 hb7 hb07 hb57 hbc S1
     go_upto_region 9 with (fail)
     rw [← HWC.out,← HGN.out]
     clear N0 N1 N2 N3 E7 hw1 hw2
     obtain⟨R0,R1,R2,R3,R4⟩:=HRR.out
     have S0:=(hb5c.block _ (zB R0)).trans R0
     have C0:=cR wc _ 0 _ _ _ S0
     have C1:=cR wc _ 1 _ _ _ S0
     have C2:=cR wc _ 2 _ _ _ S0
     have C3:=cR wc _ 3 _ _ _ S0
     have kw:=write_any _ #[.pointer (some ⟨gn,0,none⟩),.pointer (some ⟨w.heap.size+1+1,0,none⟩)] d r wc hdc cf_compact (HDO.out wc hb5c gn hrow)
     clear R0 R1 R2 R3 R4 S0 hdc
     go_wp2_with fail
     refine kw.mono ?_
     rintro e w8 ⟨⟨v',rfl,hd8⟩,hb8⟩
     clear C0 C1 C2 C3 kw HDO
     obtain⟨p3,q3,p4,q4,rfl,_,_⟩:=hd8.parts
     have hb58:=hb5c.trans (hb8.mono hb5c.size)
     have S5:=(hb8.block _ (zB hrow)).trans hrow
     obtain⟨R0,R1,R2,R3,R4⟩:=HRR.out
     have S0:=(hb58.block _ (zB R0)).trans R0
     have S1:=(hb58.block _ (zB R1)).trans R1
     have S2:=(hb58.block _ (zB R2)).trans R2
     have S3:=(hb58.block _ (zB R3)).trans R3
     have S4:=(hb58.block _ (zB R4)).trans R4
     obtain⟨w9,hw9,T0,hd9,keep9,_,below9⟩:=box_put S0 hd8
     have T1:=keep9 _ _ (by omega) S1
     have T3:=keep9 _ _ (by omega) S3
     have T4:=keep9 _ _ (by omega) S4
     have T5:=keep9 _ _ (by omega) S5
     have hb09:=below9 _ _ (HB5.out.trans (hb58.mono HB5.out.size)) (Nat.le_refl _)
     have C0:=cR w8 _ 0 _ _ _ S0
     have C1:=cR w8 _ 1 _ _ _ S0
     have C2:=cR w8 _ 2 _ _ _ S0
     have C3:=cR w8 _ 3 _ _ _ S0
     have Z0:=zF S0
     dsimp only [put4] at hw9
     have HW9:=zh hw9
     have HT0:=zh T0
     have HT1:=zh T1
     have HT3:=zh T3
     have HT4:=zh T4
     have HT5:=zh T5
     have HD9:=zh hd9
     have HB9:=zh hb09
     clear S0 S1 S2 S3 S4 S5 R0 R1 R2 R3 R4 hb5c hb8 hb58 hd8 T0 T1 T3 T4 T5 hd9 hb09 hw9 keep9 below9 hrow
     go_upto_region 10 with (fail)
     rw [← HW9.out]
     clear C0 C1 C2 C3 Z0 HW9
     by_cases he:r.2=0
     ·have hne0:(r.2 != 0)=false:=by simp [he]
      rw [he] at hne0
      obtain⟨oa,ob,wa,wb,HWA,HWB,s0,sa,sb,L0,L1,L2,L3,M0,M1,M2,M3,D0,D1,D2,D3,Z2,F0,F1,F2,F3,Z3,HX⟩:=exit_all (w:=w) (wx:=w9) HT0.out HT5.out HT3.out HT4.out HD9.out HB9.out (by omega) (by omega) (by omega) (by omega) (by omega) (by omega) (by omega)
      go_wp2_with fail
      refine zI [(false,0),(false,1),(true,2),(true,3),(false,4)] (Two w.heap.size gn oa ob) (by kernel_rfl) (by kernel_rfl) s0 ?_
      repeat (first | (refine zS rfl rfl ?_;simp only [Act.put,zq1,zq2,zq3]) | (refine zT rfl ?_ rfl (fun w' hw'=>?_) ?_;rotate_left;(go_simp;first | done | with_reducible rfl);(try simp only [Act.put,zq1,zq2,zq3])))
      refine zA rfl rfl fun K hK=>?_
      go_simp
      rw [← HWA.out]
      refine hK.out _ _ sa ?_
      clear hK K D0 D1 D2 D3 Z2
      refine zA rfl rfl fun K hK=>?_
      go_simp
      rw [← HWB.out]
      refine hK.out _ _ sb ?_
      clear hK K F0 F1 F2 F3 Z3
      repeat (first | (refine zS rfl rfl ?_;simp only [Act.put,zq1,zq2,zq3]) | (refine zT rfl ?_ rfl (fun w' hw'=>?_) ?_;rotate_left;(go_simp;first | done | with_reducible rfl);(try simp only [Act.put,zq1,zq2,zq3])))
      refine zN ?_
      go_wp2_with fail
      refine bodyPost_ret (results_cct rfl _ _ (w.heap.size+1+1+1) (w.heap.size+1+1+1+1) _ _ _ _ _ _ _ _ rfl rfl HX.out.1 HX.out.2.1 Tryz.underlying38 rfl zQ Tryz.underlying41 rfl size_log) rfl ?_
      exact⟨⟨_,rfl,HX.out.2.2.1⟩,HX.out.2.2.2⟩
     ·have hne0:(r.2 != 0)=true:=by simp [he]
      obtain⟨oa,ob,wa,wb,HWA,HWB,s0,sa,sb,L0,L1,L2,L3,M0,M1,M2,M3,D0,D1,D2,D3,Z2,F0,F1,F2,F3,Z3,HX⟩:=exit_all (w:=w) (wx:=w9) HT0.out HT1.out HT3.out HT4.out HD9.out HB9.out (by omega) (by omega) (by omega) (by omega) (by omega) (by omega) (by omega)
      go_wp2_with fail
      refine zI [(false,0),(false,1),(false,2),(true,3),(true,4),(false,5)] (Two w.heap.size (w.heap.size+1) oa ob) (by kernel_rfl) (by kernel_rfl) s0 ?_
      repeat (first | (refine zS rfl rfl ?_;simp only [Act.put,zq1,zq2,zq3]) | (refine zT rfl ?_ rfl (fun w' hw'=>?_) ?_;rotate_left;(go_simp;first | done | with_reducible rfl);(try simp only [Act.put,zq1,zq2,zq3])))
      refine zA rfl rfl fun K hK=>?_
      go_simp
      rw [← HWA.out]
      refine hK.out _ _ sa ?_
      clear hK K D0 D1 D2 D3 Z2
      refine zA rfl rfl fun K hK=>?_
      go_simp
      rw [← HWB.out]
      refine hK.out _ _ sb ?_
      clear hK K F0 F1 F2 F3 Z3
      repeat (first | (refine zS rfl rfl ?_;simp only [Act.put,zq1,zq2,zq3]) | (refine zT rfl ?_ rfl (fun w' hw'=>?_) ?_;rotate_left;(go_simp;first | done | with_reducible rfl);(try simp only [Act.put,zq1,zq2,zq3])))
      refine zN ?_
      go_wp2_with fail
      refine bodyPost_ret (results_cct rfl _ _ (w.heap.size+1+1+1) (w.heap.size+1+1+1+1) _ _ _ _ _ _ _ _ rfl rfl HX.out.1 HX.out.2.1 Tryz.underlying38 rfl zQ Tryz.underlying41 rfl size_log) rfl ?_
      exact⟨⟨_,rfl,HX.out.2.2.1⟩,HX.out.2.2.2⟩
end
end Go.Proofs.YtaijompnohkmaaaGreatDoor
