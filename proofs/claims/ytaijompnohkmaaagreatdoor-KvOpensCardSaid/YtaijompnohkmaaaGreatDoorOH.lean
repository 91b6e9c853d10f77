/- Layer 5 (wal): Open. -/
import Derived.Test.YtaijompnohkmaaaGreatDoorOG
set_option linter.unusedSimpArgs false
set_option linter.unusedVariables false
namespace Go.Proofs.YtaijompnohkmaaaGreatDoor
section
open Go.RowKit WalP PackP
theorem results_cctt {P:Program} {fn:Func} {p q u v:Tmp} {tp tq:TypeId} (h:fn.results=#[.cell p tp,.cell q tq,.tmp u,.tmp v]) (tmps:Array Value) (w:World) (gp gq:Nat) (t1 t2:TypeId) (c1 c2:Array Value) (f1 f2:Nat×Nat) (d1 d2:TypeDesc)
  (hp:tmps.getD p undef = .pointer (some ⟨gp,0,none⟩)) (hq:tmps.getD q undef = .pointer (some ⟨gq,0,none⟩)) (hg1:w.heap[gp]?=some (.cells c1 t1 f1)) (hg2:w.heap[gq]?=some (.cells c2 t2 f2))
  (hu1:P.underlying tp=some d1) (hd1:(match d1 with | .struct _ | .array _ _=>true | _=>false)=true) (hi1:(P.info? tp).map (·.size)=some c1.size)
  (hu2:P.underlying tq=some d2) (hd2:(match d2 with | .struct _ | .array _ _=>true | _=>false)=true) (hi2:(P.info? tq).map (·.size)=some c2.size) :
  (results fn tmps).run P w = .ok (.tuple #[.agg c1,.agg c2,tmps.getD u undef,tmps.getD v undef]) w:=by
 have hp':tmps[p]?.getD undef = .pointer (some ⟨gp,0,none⟩):=by simpa using hp
 have hq':tmps[q]?.getD undef = .pointer (some ⟨gq,0,none⟩):=by simpa using hq
 simp [results,h,hp',hq',asAddr,run_loadVar_row w gp t1 tp c1 f1 d1 hg1 hu1 hd1 hi1,run_loadVar_row w gq t2 tq c2 f2 d2 hg2 hu2 hd2 hi2]
theorem three (w:World) (o0 o1 o2:Obj):∃ w3,w3=((w.alloc o0).alloc o1).alloc o2∧Below w.heap.size w w3∧w3.heap.size=w.heap.size+3∧w3.heap[w.heap.size]?=some o0∧w3.heap[w.heap.size+1]?=some o1∧w3.heap[w.heap.size+1+1]?=some o2:=by
 refine⟨_,rfl,Below.alloc (Below.alloc (Below.alloc (Below.refl _ _) (Nat.le_refl _) _) (by simp) _) (by simp;omega) _,by simp,?_,?_,?_⟩
 all_goals
  simp only [alloc_heap,alloc_size]
  repeat (first | rw [if_pos trivial] | rw [if_neg (by omega)])
def OpenE (w:World) (r:DiskP×LogP×List (List UInt8)×Int) (e:Ending) (w':World):Prop :=
 (∃ v' lv,e = .returned (.tuple #[v',logV r.2.1,lv,.int .i64 r.2.2.2])∧DiskV w'.heap.size w' v' r.1∧PiecesS (fun b=>w.heap.size≤b) w'.heap.size w' lv r.2.2.1)∧Below w.heap.size w w'
theorem pieces_nil (S:Nat→Prop) (B:Nat) (w:World):PiecesS S B w (.slice none 0 0) []:=⟨[],Row.nil _ _ _,fun a n c h=>by simp at h,fun k h=>absurd h (Nat.not_lt_zero _)⟩
def LV (M:Nat) (w:World) (l:List (List UInt8)) (s:Value):Prop:=∃ a c,s = .slice a l.length c∧PiecesS (fun b=>M≤b) w.heap.size w (.slice a l.length c) l
theorem LV.of {M M':Nat} {w:World} {l:List (List UInt8)} {s:Value} (h:PiecesS (fun b=>M'≤b) w.heap.size w s l) (hM:M≤M'):LV M w l s:=by
 have h:=h.weak (T:=fun b=>M≤b) (fun b hb=>Nat.le_trans hM hb)
 obtain⟨vs,⟨h1,a,c,rfl,h2,h3,h4⟩,h5,h6⟩:=h
 exact⟨a,c,rfl,vs,⟨h1,a,c,rfl,h2,h3,h4⟩,h5,h6⟩
theorem LV.below {M:Nat} {w w':World} {l:List (List UInt8)} {s:Value} (h:LV M w l s) (hb:Below w.heap.size w w'):LV M w' l s:=by
 obtain⟨a,c,rfl,h⟩:=h
 exact⟨a,c,rfl,(h.below hb).tight⟩
theorem put4_other {w:World} {G k:Nat} (h:G≠k) (a b c d:Value):(put4 w G a b c d).heap[k]?=w.heap[k]?:=by
 unfold put4
 rw [setFar h,setFar h,setFar h,setFar h]
theorem zero_log:∀ w,(zeroValue 41).run Tryz.prog w = .ok (.agg #[.int .i64 0,.int .i64 0,.int .i64 0,.int .i64 0]) w:=by
 have h:(Tryz.prog.info? 41).bind (fun i=>i.zero)=some (.agg #[.int .i64 0,.int .i64 0,.int .i64 0,.int .i64 0]):=by kernel_rfl
 obtain⟨i,hi,hz⟩:=Option.bind_eq_some_iff.1 h
 intro w
 simp [zeroValue,typeInfo,hi,hz]
theorem put4_size (w:World) (G:Nat) (a b c d:Value):(put4 w G a b c d).heap.size=w.heap.size:=by simp [put4,World.setCell]
set_option maxRecDepth 100000 in
set_option maxHeartbeats 8000000 in
theorem open_any {B:Nat} (v:Value) (d:DiskP) (w:World) (hd:DiskV B w v d) (ht:TabAt w) (hT:1<w.heap.size) :
  Calls Tryz.prog 57 #[v] w (OpenE w (openP d)):=by
 have hd:=hd.tight
 obtain⟨p1,q1,p2,q2,rfl,_,_⟩:=hd.parts
 obtain⟨dn,hdn⟩:∃ b,b=d.down:=⟨_,rfl⟩
 rw [← hdn] at hd ⊢
 have HDN:=zh hdn
 clear hdn
 obtain⟨w3,hw3,hb3,hs3,R0,R1,R2⟩:=three w (.cells #[.slice p1 d.secs.length q1,.slice p2 d.loose.length q2,.int .i64 d.fuse,.bool dn] 38) (.cells #[.slice none 0 0,.slice none 0 0,.int .i64 0,.bool false] 38) (.cells #[.int .i64 0,.int .i64 0,.int .i64 0,.int .i64 0] 41)
 have hd3:=(hd.below hb3).tight
 have HW3:=zh hw3
 clear hw3
 have n12:w.heap.size+1≠w.heap.size+1+1:=by omega
 have l1:w.heap.size≤w.heap.size+1:=by omega
 have l2:w.heap.size≤w.heap.size+1+1:=by omega
 have kr:=right_any _ d w3 hd3
 obtain⟨R,hR⟩:∃ R,R=rightB d:=⟨_,rfl⟩
 rw [← hR] at kr
 have HR:=zh hR
 clear hR
 have C0:=cR w3 _ 0 _ _ _ R0
 have C1:=cR w3 _ 1 _ _ _ R0
 have C2:=cR w3 _ 2 _ _ _ R0
 have C3:=cR w3 _ 3 _ _ _ R0
 cases R with
 | false =>
  have hF:openP d=(d,log0,[],1):=by unfold openP;rw [if_pos HR.out.symm]
  rw [hF]
  clear hF
  unfold OpenE logV log0
  go_enter Tryz.func57,Tryz.ntmps57
  go_upto_region 1 with (fail)
  rw [← HW3.out]
  go_wp2_with fail
  refine kr.mono ?_
  rintro e w4 ⟨rfl,hb4⟩
  clear kr C0 C1 C2 C3
  have S0:=(hb4.block _ (zB R0)).trans R0
  have S1:=(hb4.block _ (zB R1)).trans R1
  have S2:=(hb4.block _ (zB R2)).trans R2
  have hd4:=(hd3.below hb4).tight
  have hb04:=hb3.trans (hb4.mono hb3.size)
  have C0:=cR w4 _ 0 _ _ _ S0
  have C1:=cR w4 _ 1 _ _ _ S0
  have C2:=cR w4 _ 2 _ _ _ S0
  have C3:=cR w4 _ 3 _ _ _ S0
  have D0:=cR w4 _ 0 _ _ _ S1
  have D1:=cR w4 _ 1 _ _ _ S1
  have D2:=cR w4 _ 2 _ _ _ S1
  have D3:=cR w4 _ 3 _ _ _ S1
  have F0:=cR w4 _ 0 _ _ _ S2
  have F1:=cR w4 _ 1 _ _ _ S2
  have F2:=cR w4 _ 2 _ _ _ S2
  have F3:=cR w4 _ 3 _ _ _ S2
  have Z2:=zF S1
  have Z3:=zF S2
  have HX:=zh (exit_dl (.int .i64 0) (.int .i64 0) (.int .i64 0) (.int .i64 0) S1 S2 hd4 n12 hb04 l1 l2)
  clear R0 R1 R2 S0 S1 S2 hd hd3 hd4 hb3 hb4 hb04 hs3 ht n12 l1 l2
  go_wp2_with fail
  refine bodyPost_ret (results_cctt rfl _ _ (w.heap.size+1) (w.heap.size+1+1) _ _ _ _ _ _ _ _ rfl rfl HX.out.1 HX.out.2.1 Tryz.underlying38 rfl zQ Tryz.underlying41 rfl size_log) rfl ?_
  exact⟨⟨_,_,rfl,HX.out.2.2.1,pieces_nil _ _ _⟩,HX.out.2.2.2⟩
 | true =>
  cases dn with
  | true =>
   have hF:openP d=(d,log0,[],9):=by unfold openP;rw [if_neg (by rw [← HR.out];simp),if_pos HDN.out.symm]
   rw [hF]
   clear hF
   unfold OpenE logV log0
   go_enter Tryz.func57,Tryz.ntmps57
   go_upto_region 1 with (fail)
   rw [← HW3.out]
   go_wp2_with fail
   refine kr.mono ?_
   rintro e w4 ⟨rfl,hb4⟩
   clear kr C0 C1 C2 C3
   have S0:=(hb4.block _ (zB R0)).trans R0
   have S1:=(hb4.block _ (zB R1)).trans R1
   have S2:=(hb4.block _ (zB R2)).trans R2
   have hd4:=(hd3.below hb4).tight
   have hb04:=hb3.trans (hb4.mono hb3.size)
   have C0:=cR w4 _ 0 _ _ _ S0
   have C1:=cR w4 _ 1 _ _ _ S0
   have C2:=cR w4 _ 2 _ _ _ S0
   have C3:=cR w4 _ 3 _ _ _ S0
   have D0:=cR w4 _ 0 _ _ _ S1
   have D1:=cR w4 _ 1 _ _ _ S1
   have D2:=cR w4 _ 2 _ _ _ S1
   have D3:=cR w4 _ 3 _ _ _ S1
   have F0:=cR w4 _ 0 _ _ _ S2
   have F1:=cR w4 _ 1 _ _ _ S2
   have F2:=cR w4 _ 2 _ _ _ S2
   have F3:=cR w4 _ 3 _ _ _ S2
   have Z2:=zF S1
   have Z3:=zF S2
   have HX:=zh (exit_dl (.int .i64 0) (.int .i64 0) (.int .i64 0) (.int .i64 0) S1 S2 hd4 n12 hb04 l1 l2)
   clear R0 R1 R2 S0 S1 S2 hd hd3 hd4 hb3 hb4 hb04 hs3 ht n12 l1 l2
   go_wp2_with fail
   refine bodyPost_ret (results_cctt rfl _ _ (w.heap.size+1) (w.heap.size+1+1) _ _ _ _ _ _ _ _ rfl rfl HX.out.1 HX.out.2.1 Tryz.underlying38 rfl zQ Tryz.underlying41 rfl size_log) rfl ?_
   exact⟨⟨_,_,rfl,HX.out.2.2.1,pieces_nil _ _ _⟩,HX.out.2.2.2⟩
  | false =>
   have hh:=right_half HR.out.symm
   obtain⟨x0,hx0⟩:∃ x,x=recordsP (viewP d 0):=⟨_,rfl⟩
   obtain⟨x1,hx1⟩:∃ x,x=recordsP (viewP d 1):=⟨_,rfl⟩
   have hbd0:=records_bounds (viewP d 0)
   have hbd1:=records_bounds (viewP d 1)
   rw [← hx0,length_viewP] at hbd0
   rw [← hx1,length_viewP] at hbd1
   have HX0:=zh hx0
   have HX1:=zh hx1
   clear hx0 hx1
   obtain⟨lA,uA,gA,eA⟩:=x0
   obtain⟨lB,uB,gB,eB⟩:=x1
   obtain⟨lX,uX,gX,eX,wh,hch⟩:∃ (lX:List (List UInt8)) (uX:Nat) (gX eX wh:Int),(gA<gB∧lX=lB∧uX=uB∧gX=gB∧eX=eB∧wh=1)∨(¬ gA<gB∧lX=lA∧uX=uA∧gX=gA∧eX=eA∧wh=0):=by
    by_cases h:gA<gB
    ·exact⟨lB,uB,gB,eB,1,.inl ⟨h,rfl,rfl,rfl,rfl,rfl⟩⟩
    ·exact⟨lA,uA,gA,eA,0,.inr ⟨h,rfl,rfl,rfl,rfl,rfl⟩⟩
   have hwh:wh=0∨wh=1:=by rcases hch with h | h <;> omega
   have hbX:(∀ b∈lX,b.length≤6000)∧lX.length≤half d:=by
    rcases hch with ⟨_,rfl,_⟩ | ⟨_,rfl,_⟩
    ·exact hbd1
    ·exact hbd0
   have hop:openP d=(if eX≠0 then (d,log0,[],eX) else if (compactP d ⟨wh,gX,uX,lX.length⟩ lX).2.2≠0 then ((compactP d ⟨wh,gX,uX,lX.length⟩ lX).1,log0,[],(compactP d ⟨wh,gX,uX,lX.length⟩ lX).2.2) else ((compactP d ⟨wh,gX,uX,lX.length⟩ lX).1,(compactP d ⟨wh,gX,uX,lX.length⟩ lX).2.1,lX,0)):=by
    unfold openP
    rw [if_neg (by rw [← HR.out];simp),if_neg (by rw [← HDN.out];simp),← HX0.out,← HX1.out]
    rcases hch with ⟨h,rfl,rfl,rfl,rfl,rfl⟩ | ⟨h,rfl,rfl,rfl,rfl,rfl⟩
    ·simp only [if_pos h]
    ·simp only [if_neg h]
   have HCH:=zh hch
   have HBX:=zh hbX
   have HWH:=zh hwh
   have HT0:=zh ht
   clear hch hbX hbd0 hbd1 hwh ht
   obtain⟨r,hr⟩:∃ r,r=compactP d ⟨wh,gX,uX,lX.length⟩ lX:=⟨_,rfl⟩
   rw [← hr] at hop
   have HOP:=zh hop
   have HRR:=zh hr
   clear hr hop
   by_cases he:eX≠0
   ·have q1:(eX != 0)=true:=by simpa using he
    have hF:openP d=(d,log0,[],eX):=by rw [HOP.out,if_pos he]
    rw [hF]
    clear hF he
    unfold OpenE logV log0
    go_enter Tryz.func57,Tryz.ntmps57
    go_upto_region 1 with (fail)
    rw [← HW3.out]
    go_wp2_with fail
    refine kr.mono ?_
    rintro e w4 ⟨rfl,hb4⟩
    clear kr C0 C1 C2 C3
    have S0:=(hb4.block _ (zB R0)).trans R0
    have S1:=(hb4.block _ (zB R1)).trans R1
    have S2:=(hb4.block _ (zB R2)).trans R2
    have hd4:=(hd3.below hb4).tight
    have hb04:=hb3.trans (hb4.mono hb3.size)
    have C0:=cR w4 _ 0 _ _ _ S0
    have C1:=cR w4 _ 1 _ _ _ S0
    have C2:=cR w4 _ 2 _ _ _ S0
    have C3:=cR w4 _ 3 _ _ _ S0
    have kv:=view_any _ d 0 w4 hd4 (.inl rfl) (Nat.le_trans hh (by decide))
    have htb:TabAt w4:=HT0.out.below hb04 hT
    go_wp2_with fail
    refine kv.mono ?_
    rintro e w5 ⟨⟨sv,rfl,hsv⟩,hb5⟩
    clear kv C0 C1 C2 C3
    have kq:=records_any sv _ w5 hsv (by rw [length_viewP];omega) (htb.below hb5 (Nat.lt_of_lt_of_le hT hb04.size)) (Nat.lt_of_lt_of_le hT (Nat.le_trans hb04.size hb5.size))
    rw [← HX0.out] at kq
    go_wp2_with fail
    refine kq.mono ?_
    rintro e w6 ⟨⟨va,rfl,hva⟩,hb6⟩
    clear kq hsv
    have hb46:=hb5.trans (hb6.mono hb5.size)
    have hb06:=hb04.trans (hb46.mono hb04.size)
    have hLA:=LV.of (M:=w3.heap.size) hva (Nat.le_trans hb4.size hb5.size)
    clear hva
    have S0:=(hb46.block _ (zB S0)).trans S0
    have S1:=(hb46.block _ (zB S1)).trans S1
    have S2:=(hb46.block _ (zB S2)).trans S2
    have hd6:=(hd4.below hb46).tight
    have htb:TabAt w6:=HT0.out.below hb06 hT
    have C0:=cR w6 _ 0 _ _ _ S0
    have C1:=cR w6 _ 1 _ _ _ S0
    have C2:=cR w6 _ 2 _ _ _ S0
    have C3:=cR w6 _ 3 _ _ _ S0
    have kv:=view_any _ d 1 w6 hd6 (.inr rfl) (Nat.le_trans hh (by decide))
    have HLA:=zh hLA
    have hm37:w3.heap.size≤w6.heap.size:=Nat.le_trans hb4.size hb46.size
    clear hLA hb46 hd4 hd3 hd hb5 hb6
    go_wp2_with fail
    refine kv.mono ?_
    rintro e w7 ⟨⟨sv,rfl,hsv⟩,hb7⟩
    clear kv C0 C1 C2 C3
    have kq:=records_any sv _ w7 hsv (by rw [length_viewP];omega) (htb.below hb7 (Nat.lt_of_lt_of_le hT hb06.size)) (Nat.lt_of_lt_of_le hT (Nat.le_trans hb06.size hb7.size))
    rw [← HX1.out] at kq
    go_wp2_with fail
    refine kq.mono ?_
    rintro e w8 ⟨⟨vb,rfl,hvb⟩,hb8⟩
    clear kq hsv
    have hb68:=hb7.trans (hb8.mono hb7.size)
    have hb08:=hb06.trans (hb68.mono hb06.size)
    have HLB:=zh (LV.of (M:=w3.heap.size) hvb (Nat.le_trans hm37 hb7.size))
    have HLA:=zh (HLA.out.below hb68)
    have S0:=(hb68.block _ (zB S0)).trans S0
    have S1:=(hb68.block _ (zB S1)).trans S1
    have S2:=(hb68.block _ (zB S2)).trans S2
    have hd8:=(hd6.below hb68).tight
    have HTB:=zh (show TabAt w8 from HT0.out.below hb08 hT)
    have HM:=zh (show w.heap.size+3≤w3.heap.size by omega)
    clear hvb hd6 hb7 hb8 hb68 hb04 hb06 hb4 hb3 htb R0 R1 R2 hs3 hm37
    go_upto_if 45 with (fail)
    go_cut [6,7,8,9,10] from 43 to 49 (fun s6 s7 s8 s9 s10 wx=>s6 = .int .i64 wh∧LV w3.heap.size w8 lX s7∧s8 = .int .i64 uX∧s9 = .int .i64 gX∧s10 = .int .i64 eX∧wx=w8)
    case first =>
     rcases HCH.out with ⟨h,e1,e2,e3,e4,e5⟩ | ⟨h,e1,e2,e3,e4,e5⟩
     ·have q0:decide (gA<gB)=true:=by simpa using h
      have HE:=zh (show _∧_∧_∧_∧_ from ⟨e1,e2,e3,e4,e5⟩)
      clear e1 e2 e3 e4 e5
      go_wp2_with fail
      go_meet
      case rel=>exact⟨by rw [HE.out.2.2.2.2],by rw [HE.out.1];exact HLB.out,by rw [HE.out.2.1],by rw [HE.out.2.2.1],by rw [HE.out.2.2.2.1],rfl⟩
     ·have q0:decide (gA<gB)=false:=by simpa using h
      have HE:=zh (show _∧_∧_∧_∧_ from ⟨e1,e2,e3,e4,e5⟩)
      clear e1 e2 e3 e4 e5
      go_wp2_with fail
      go_meet
      case rel=>exact⟨by rw [HE.out.2.2.2.2],by rw [HE.out.1];exact HLA.out,by rw [HE.out.2.1],by rw [HE.out.2.2.1],by rw [HE.out.2.2.2.1],rfl⟩
    case rest =>
     obtain⟨rfl,⟨ax,cx,rfl,hpx⟩,rfl,rfl,rfl,rfl⟩:=hcut
     have C0:=cR wc _ 0 _ _ _ S0
     have C1:=cR wc _ 1 _ _ _ S0
     have C2:=cR wc _ 2 _ _ _ S0
     have C3:=cR wc _ 3 _ _ _ S0
     have D0:=cR wc _ 0 _ _ _ S1
     have D1:=cR wc _ 1 _ _ _ S1
     have D2:=cR wc _ 2 _ _ _ S1
     have D3:=cR wc _ 3 _ _ _ S1
     have F0:=cR wc _ 0 _ _ _ S2
     have F1:=cR wc _ 1 _ _ _ S2
     have F2:=cR wc _ 2 _ _ _ S2
     have F3:=cR wc _ 3 _ _ _ S2
     have Z2:=zF S1
     have Z3:=zF S2
     have HX:=zh (exit_dl (.int .i64 0) (.int .i64 0) (.int .i64 0) (.int .i64 0) S1 S2 hd8 n12 hb08 l1 l2)
     clear hpx S0 S1 S2 hd8 hb08 n12 l1 l2
     go_wp2_with fail
     refine bodyPost_ret (results_cctt rfl _ _ (w.heap.size+1) (w.heap.size+1+1) _ _ _ _ _ _ _ _ rfl rfl HX.out.1 HX.out.2.1 Tryz.underlying38 rfl zQ Tryz.underlying41 rfl size_log) rfl ?_
     exact⟨⟨_,_,rfl,HX.out.2.2.1,pieces_nil _ _ _⟩,HX.out.2.2.2⟩
   ·have he0:eX=0:=Classical.not_not.1 he
    have q1:(eX != 0)=false:=by simp [he0]
    have HE0:=zh he0
    clear he0
    by_cases hc:r.2.2≠0
    ·have q2:(r.2.2 != 0)=true:=by simpa using hc
     have hF:openP d=(r.1,log0,[],r.2.2):=by rw [HOP.out,if_neg he,if_pos hc]
     rw [hF]
     clear hF he hc
     unfold OpenE logV log0
     go_enter Tryz.func57,Tryz.ntmps57
     go_upto_region 1 with (fail)
     rw [← HW3.out]
     go_wp2_with fail
     refine kr.mono ?_
     rintro e w4 ⟨rfl,hb4⟩
     clear kr C0 C1 C2 C3
     have S0:=(hb4.block _ (zB R0)).trans R0
     have S1:=(hb4.block _ (zB R1)).trans R1
     have S2:=(hb4.block _ (zB R2)).trans R2
     have hd4:=(hd3.below hb4).tight
     have hb04:=hb3.trans (hb4.mono hb3.size)
     have C0:=cR w4 _ 0 _ _ _ S0
     have C1:=cR w4 _ 1 _ _ _ S0
     have C2:=cR w4 _ 2 _ _ _ S0
     have C3:=cR w4 _ 3 _ _ _ S0
     have kv:=view_any _ d 0 w4 hd4 (.inl rfl) (Nat.le_trans hh (by decide))
     have htb:TabAt w4:=HT0.out.below hb04 hT
     go_wp2_with fail
     refine kv.mono ?_
     rintro e w5 ⟨⟨sv,rfl,hsv⟩,hb5⟩
     clear kv C0 C1 C2 C3
     have kq:=records_any sv _ w5 hsv (by rw [length_viewP];omega) (htb.below hb5 (Nat.lt_of_lt_of_le hT hb04.size)) (Nat.lt_of_lt_of_le hT (Nat.le_trans hb04.size hb5.size))
     rw [← HX0.out] at kq
     go_wp2_with fail
     refine kq.mono ?_
     rintro e w6 ⟨⟨va,rfl,hva⟩,hb6⟩
     clear kq hsv
     have hb46:=hb5.trans (hb6.mono hb5.size)
     have hb06:=hb04.trans (hb46.mono hb04.size)
     have hLA:=LV.of (M:=w3.heap.size) hva (Nat.le_trans hb4.size hb5.size)
     clear hva
     have S0:=(hb46.block _ (zB S0)).trans S0
     have S1:=(hb46.block _ (zB S1)).trans S1
     have S2:=(hb46.block _ (zB S2)).trans S2
     have hd6:=(hd4.below hb46).tight
     have htb:TabAt w6:=HT0.out.below hb06 hT
     have C0:=cR w6 _ 0 _ _ _ S0
     have C1:=cR w6 _ 1 _ _ _ S0
     have C2:=cR w6 _ 2 _ _ _ S0
     have C3:=cR w6 _ 3 _ _ _ S0
     have kv:=view_any _ d 1 w6 hd6 (.inr rfl) (Nat.le_trans hh (by decide))
     have HLA:=zh hLA
     have hm37:w3.heap.size≤w6.heap.size:=Nat.le_trans hb4.size hb46.size
     clear hLA hb46 hd4 hd3 hd hb5 hb6
     go_wp2_with fail
     refine kv.mono ?_
     rintro e w7 ⟨⟨sv,rfl,hsv⟩,hb7⟩
     clear kv C0 C1 C2 C3
     have kq:=records_any sv _ w7 hsv (by rw [length_viewP];omega) (htb.below hb7 (Nat.lt_of_lt_of_le hT hb06.size)) (Nat.lt_of_lt_of_le hT (Nat.le_trans hb06.size hb7.size))
     rw [← HX1.out] at kq
     go_wp2_with fail
     refine kq.mono ?_
     rintro e w8 ⟨⟨vb,rfl,hvb⟩,hb8⟩
     clear kq hsv
     have hb68:=hb7.trans (hb8.mono hb7.size)
     have hb08:=hb06.trans (hb68.mono hb06.size)
     have HLB:=zh (LV.of (M:=w3.heap.size) hvb (Nat.le_trans hm37 hb7.size))
     have HLA:=zh (HLA.out.below hb68)
     have S0:=(hb68.block _ (zB S0)).trans S0
     have S1:=(hb68.block _ (zB S1)).trans S1
     have S2:=(hb68.block _ (zB S2)).trans S2
     have hd8:=(hd6.below hb68).tight
     have HTB:=zh (show TabAt w8 from HT0.out.below hb08 hT)
     have HM:=zh (show w.heap.size+3≤w3.heap.size by omega)
     clear hvb hd6 hb7 hb8 hb68 hb04 hb06 hb4 hb3 htb R0 R1 R2 hs3 hm37
     go_upto_if 45 with (fail)
     go_cut [6,7,8,9,10] from 43 to 49 (fun s6 s7 s8 s9 s10 wx=>s6 = .int .i64 wh∧LV w3.heap.size w8 lX s7∧s8 = .int .i64 uX∧s9 = .int .i64 gX∧s10 = .int .i64 eX∧wx=w8)
     case first =>
      rcases HCH.out with ⟨h,e1,e2,e3,e4,e5⟩ | ⟨h,e1,e2,e3,e4,e5⟩
      ·have q0:decide (gA<gB)=true:=by simpa using h
       have HE:=zh (show _∧_∧_∧_∧_ from ⟨e1,e2,e3,e4,e5⟩)
       clear e1 e2 e3 e4 e5
       go_wp2_with fail
       go_meet
       case rel=>exact⟨by rw [HE.out.2.2.2.2],by rw [HE.out.1];exact HLB.out,by rw [HE.out.2.1],by rw [HE.out.2.2.1],by rw [HE.out.2.2.2.1],rfl⟩
      ·have q0:decide (gA<gB)=false:=by simpa using h
       have HE:=zh (show _∧_∧_∧_∧_ from ⟨e1,e2,e3,e4,e5⟩)
       clear e1 e2 e3 e4 e5
       go_wp2_with fail
       go_meet
       case rel=>exact⟨by rw [HE.out.2.2.2.2],by rw [HE.out.1];exact HLA.out,by rw [HE.out.2.1],by rw [HE.out.2.2.1],by rw [HE.out.2.2.2.1],rfl⟩
     case rest =>
      obtain⟨rfl,⟨ax,cx,rfl,hpx⟩,rfl,rfl,rfl,rfl⟩:=hcut
      have kc:=compact_any _ (.slice ax lX.length cx) d ⟨wh,gX,uX,lX.length⟩ lX wc hd8 hpx.pieces (by rcases HWH.out with h | h <;> simp only [h] <;> decide) HTB.out (Nat.lt_of_lt_of_le hT hb08.size) (fun b hb=>Nat.le_trans (HBX.out.1 b hb) (by decide)) (Nat.le_trans HBX.out.2 (Nat.le_trans hh (by decide)))
      rw [← HRR.out] at kc
      unfold DLE at kc
      simp only [logV] at kc
      have C0:=cR wc _ 0 _ _ _ S0
      have C1:=cR wc _ 1 _ _ _ S0
      have C2:=cR wc _ 2 _ _ _ S0
      have C3:=cR wc _ 3 _ _ _ S0
      go_wp2_with fail
      refine kc.mono ?_
      rintro e w9 ⟨⟨v',rfl,hd9⟩,hb9⟩
      clear kc C0 C1 C2 C3
      obtain⟨y1,z1,y2,z2,rfl,_,_⟩:=hd9.parts
      have HPX:=zh ((hpx.below hb9).tight)
      clear hpx
      have S0:=(hb9.block _ (zB S0)).trans S0
      have S1:=(hb9.block _ (zB S1)).trans S1
      have S2:=(hb9.block _ (zB S2)).trans S2
      have hb09:=hb08.trans (hb9.mono hb08.size)
      obtain⟨w10,hw10⟩:∃ w10,w10=w9.alloc (.cells #[.int .i64 0,.int .i64 0,.int .i64 0,.int .i64 0] 41):=⟨_,rfl⟩
      have hb10:Below w9.heap.size w9 w10:=by rw [hw10];exact Below.alloc (Below.refl _ _) (Nat.le_refl _) _
      have hn10:w10.heap[w9.heap.size]?=some (.cells #[.int .i64 0,.int .i64 0,.int .i64 0,.int .i64 0] 41 (0,0)):=by rw [hw10];exact heap_alloc_new w9 _
      have lt0:=zB S0
      have lt1:=zB S1
      have lt2:=zB S2
      have T0:=(hb10.block _ lt0).trans S0
      have T1:=(hb10.block _ lt1).trans S1
      have T2:=(hb10.block _ lt2).trans S2
      have hd10:=(hd9.below hb10).tight
      have hb010:=hb09.trans (hb10.mono hb09.size)
      obtain⟨gn,hgn⟩:∃ gn,gn=w9.heap.size:=⟨_,rfl⟩
      rw [← hgn] at hn10 lt0 lt1 lt2
      have ngn:w.heap.size≤gn:=by rw [hgn];exact hb09.size
      have HE:=exit_dl (.int .i64 r.2.1.half) (.int .i64 r.2.1.gen) (.int .i64 r.2.1.used) (.int .i64 r.2.1.count) T0 hn10 hd10 (by omega) hb010 (Nat.le_refl _) ngn
      obtain⟨w11,hw11⟩:∃ w11,w11=put4 (put4 w10 w.heap.size (.slice y1 r.1.secs.length z1) (.slice y2 r.1.loose.length z2) (.int .i64 r.1.fuse) (.bool r.1.down)) gn (.int .i64 r.2.1.half) (.int .i64 r.2.1.gen) (.int .i64 r.2.1.used) (.int .i64 r.2.1.count):=⟨_,rfl⟩
      have U1:w11.heap[w.heap.size+1]?=some (.cells #[.slice none 0 0,.slice none 0 0,.int .i64 0,.bool false] 38 (0,0)):=by rw [hw11];exact put4_far (put4_far T1 (by omega) _ _ _ _) (by omega) _ _ _ _
      have U2:w11.heap[w.heap.size+1+1]?=some (.cells #[.int .i64 0,.int .i64 0,.int .i64 0,.int .i64 0] 41 (0,0)):=by rw [hw11];exact put4_far (put4_far T2 (by omega) _ _ _ _) (by omega) _ _ _ _
      have hk11:∀ k,w3.heap.size≤k→k<w9.heap.size→w11.heap[k]?=w9.heap[k]?:=fun k h1 h2=>by
       rw [hw11,put4_other (by omega),put4_other (by have:=HM.out;omega),hb10.block k h2]
      have hp11:PiecesS (fun b=>w3.heap.size≤b) w11.heap.size w11 (.slice ax lX.length cx) lX:=(HPX.out.keep hk11).tight
      rw [← hw11] at HE
      have HE':=zh HE
      clear HE
      dsimp only [put4] at hw11
      have HU1:=zh U1
      have HU2:=zh U2
      have HW11:=zh hw11
      have HW10:=zh (show w10=w9.alloc (.cells (Value.agg #[.int .i64 0,.int .i64 0,.int .i64 0,.int .i64 0]).cells 41) from hw10)
      have HGN:=zh hgn
      have HP11:=zh hp11
      have E0:=cR w10 _ 0 _ _ _ T0
      have E1:=cR w10 _ 1 _ _ _ T0
      have E2:=cR w10 _ 2 _ _ _ T0
      have E3:=cR w10 _ 3 _ _ _ T0
      have F0:=cR w10 _ 0 _ _ _ hn10
      have F1:=cR w10 _ 1 _ _ _ hn10
      have F2:=cR w10 _ 2 _ _ _ hn10
      have F3:=cR w10 _ 3 _ _ _ hn10
      have Z0:=zF T0
      have Z1:=zF hn10
      clear U1 U2 hk11 hw11 hw10 hgn hp11 S0 S1 S2 T0 T1 T2 hd8 hd9 hd10 hb9 hb10 hb09 hb010 hb08 hn10
      go_wp2_with (with_reducible refine wp_alloc_to (w':=w10) 41 rfl rfl (zero_log _) HW10.out ?_;refine Halt.in ?_)
      refine Halt.out ?_
      rw [← HGN.out]
      go_upto_region 13 with (fail)
      rw [← HW11.out]
      clear E0 E1 E2 E3 F0 F1 F2 F3 Z0 Z1
      obtain⟨T0,T9,hd11,hb011⟩:=HE'.out
      have T1:=HU1.out
      have T2:=HU2.out
      have C0:=cR w11 _ 0 _ _ _ T0
      have C1:=cR w11 _ 1 _ _ _ T0
      have C2:=cR w11 _ 2 _ _ _ T0
      have C3:=cR w11 _ 3 _ _ _ T0
      have D0:=cR w11 _ 0 _ _ _ T1
      have D1:=cR w11 _ 1 _ _ _ T1
      have D2:=cR w11 _ 2 _ _ _ T1
      have D3:=cR w11 _ 3 _ _ _ T1
      have F0:=cR w11 _ 0 _ _ _ T2
      have F1:=cR w11 _ 1 _ _ _ T2
      have F2:=cR w11 _ 2 _ _ _ T2
      have F3:=cR w11 _ 3 _ _ _ T2
      have Z2:=zF T1
      have Z3:=zF T2
      have HX:=zh (exit_dl (.int .i64 0) (.int .i64 0) (.int .i64 0) (.int .i64 0) T1 T2 hd11 n12 hb011 l1 l2)
      clear T0 T9 hd11 hb011 T1 T2 lt0 lt1 lt2 ngn n12 l1 l2
      go_wp2_with fail
      refine bodyPost_ret (results_cctt rfl _ _ (w.heap.size+1) (w.heap.size+1+1) _ _ _ _ _ _ _ _ rfl rfl HX.out.1 HX.out.2.1 Tryz.underlying38 rfl zQ Tryz.underlying41 rfl size_log) rfl ?_
      exact⟨⟨_,_,rfl,HX.out.2.2.1,pieces_nil _ _ _⟩,HX.out.2.2.2⟩
    ·have hc0:r.2.2=0:=Classical.not_not.1 hc
     have q2:(r.2.2 != 0)=false:=by simp [hc0]
     have hF:openP d=(r.1,r.2.1,lX,0):=by rw [HOP.out,if_neg he,if_neg hc]
     rw [hF]
     have HC0:=zh hc0
     clear hF he hc hc0
     unfold OpenE logV
     go_enter Tryz.func57,Tryz.ntmps57
     go_upto_region 1 with (fail)
     rw [← HW3.out]
     go_wp2_with fail
     refine kr.mono ?_
     rintro e w4 ⟨rfl,hb4⟩
     clear kr C0 C1 C2 C3
     have S0:=(hb4.block _ (zB R0)).trans R0
     have S1:=(hb4.block _ (zB R1)).trans R1
     have S2:=(hb4.block _ (zB R2)).trans R2
     have hd4:=(hd3.below hb4).tight
     have hb04:=hb3.trans (hb4.mono hb3.size)
     have C0:=cR w4 _ 0 _ _ _ S0
     have C1:=cR w4 _ 1 _ _ _ S0
     have C2:=cR w4 _ 2 _ _ _ S0
     have C3:=cR w4 _ 3 _ _ _ S0
     have kv:=view_any _ d 0 w4 hd4 (.inl rfl) (Nat.le_trans hh (by decide))
     have htb:TabAt w4:=HT0.out.below hb04 hT
     go_wp2_with fail
     refine kv.mono ?_
     rintro e w5 ⟨⟨sv,rfl,hsv⟩,hb5⟩
     clear kv C0 C1 C2 C3
     have kq:=records_any sv _ w5 hsv (by rw [length_viewP];omega) (htb.below hb5 (Nat.lt_of_lt_of_le hT hb04.size)) (Nat.lt_of_lt_of_le hT (Nat.le_trans hb04.size hb5.size))
     rw [← HX0.out] at kq
     go_wp2_with fail
     refine kq.mono ?_
     rintro e w6 ⟨⟨va,rfl,hva⟩,hb6⟩
     clear kq hsv
     have hb46:=hb5.trans (hb6.mono hb5.size)
     have hb06:=hb04.trans (hb46.mono hb04.size)
     have hLA:=LV.of (M:=w3.heap.size) hva (Nat.le_trans hb4.size hb5.size)
     clear hva
     have S0:=(hb46.block _ (zB S0)).trans S0
     have S1:=(hb46.block _ (zB S1)).trans S1
     have S2:=(hb46.block _ (zB S2)).trans S2
     have hd6:=(hd4.below hb46).tight
     have htb:TabAt w6:=HT0.out.below hb06 hT
     have C0:=cR w6 _ 0 _ _ _ S0
     have C1:=cR w6 _ 1 _ _ _ S0
     have C2:=cR w6 _ 2 _ _ _ S0
     have C3:=cR w6 _ 3 _ _ _ S0
     have kv:=view_any _ d 1 w6 hd6 (.inr rfl) (Nat.le_trans hh (by decide))
     have HLA:=zh hLA
     have hm37:w3.heap.size≤w6.heap.size:=Nat.le_trans hb4.size hb46.size
     clear hLA hb46 hd4 hd3 hd hb5 hb6
     go_wp2_with fail
     refine kv.mono ?_
     rintro e w7 ⟨⟨sv,rfl,hsv⟩,hb7⟩
     clear kv C0 C1 C2 C3
     have kq:=records_any sv _ w7 hsv (by rw [length_viewP];omega) (htb.below hb7 (Nat.lt_of_lt_of_le hT hb06.size)) (Nat.lt_of_lt_of_le hT (Nat.le_trans hb06.size hb7.size))
     rw [← HX1.out] at kq
     go_wp2_with fail
     refine kq.mono ?_
     rintro e w8 ⟨⟨vb,rfl,hvb⟩,hb8⟩
     clear kq hsv
     have hb68:=hb7.trans (hb8.mono hb7.size)
     have hb08:=hb06.trans (hb68.mono hb06.size)
     have HLB:=zh (LV.of (M:=w3.heap.size) hvb (Nat.le_trans hm37 hb7.size))
     have HLA:=zh (HLA.out.below hb68)
     have S0:=(hb68.block _ (zB S0)).trans S0
     have S1:=(hb68.block _ (zB S1)).trans S1
     have S2:=(hb68.block _ (zB S2)).trans S2
     have hd8:=(hd6.below hb68).tight
     have HTB:=zh (show TabAt w8 from HT0.out.below hb08 hT)
     have HM:=zh (show w.heap.size+3≤w3.heap.size by omega)
     clear hvb hd6 hb7 hb8 hb68 hb04 hb06 hb4 hb3 htb R0 R1 R2 hs3 hm37
     go_upto_if 45 with (fail)
     go_cut [6,7,8,9,10] from 43 to 49 (fun s6 s7 s8 s9 s10 wx=>s6 = .int .i64 wh∧LV w3.heap.size w8 lX s7∧s8 = .int .i64 uX∧s9 = .int .i64 gX∧s10 = .int .i64 eX∧wx=w8)
     case first =>
      rcases HCH.out with ⟨h,e1,e2,e3,e4,e5⟩ | ⟨h,e1,e2,e3,e4,e5⟩
      ·have q0:decide (gA<gB)=true:=by simpa using h
       have HE:=zh (show _∧_∧_∧_∧_ from ⟨e1,e2,e3,e4,e5⟩)
       clear e1 e2 e3 e4 e5
       go_wp2_with fail
       go_meet
       case rel=>exact⟨by rw [HE.out.2.2.2.2],by rw [HE.out.1];exact HLB.out,by rw [HE.out.2.1],by rw [HE.out.2.2.1],by rw [HE.out.2.2.2.1],rfl⟩
      ·have q0:decide (gA<gB)=false:=by simpa using h
       have HE:=zh (show _∧_∧_∧_∧_ from ⟨e1,e2,e3,e4,e5⟩)
       clear e1 e2 e3 e4 e5
       go_wp2_with fail
       go_meet
       case rel=>exact⟨by rw [HE.out.2.2.2.2],by rw [HE.out.1];exact HLA.out,by rw [HE.out.2.1],by rw [HE.out.2.2.1],by rw [HE.out.2.2.2.1],rfl⟩
     case rest =>
      obtain⟨rfl,⟨ax,cx,rfl,hpx⟩,rfl,rfl,rfl,rfl⟩:=hcut
      have kc:=compact_any _ (.slice ax lX.length cx) d ⟨wh,gX,uX,lX.length⟩ lX wc hd8 hpx.pieces (by rcases HWH.out with h | h <;> simp only [h] <;> decide) HTB.out (Nat.lt_of_lt_of_le hT hb08.size) (fun b hb=>Nat.le_trans (HBX.out.1 b hb) (by decide)) (Nat.le_trans HBX.out.2 (Nat.le_trans hh (by decide)))
      rw [← HRR.out] at kc
      unfold DLE at kc
      simp only [logV] at kc
      have C0:=cR wc _ 0 _ _ _ S0
      have C1:=cR wc _ 1 _ _ _ S0
      have C2:=cR wc _ 2 _ _ _ S0
      have C3:=cR wc _ 3 _ _ _ S0
      go_wp2_with fail
      refine kc.mono ?_
      rintro e w9 ⟨⟨v',rfl,hd9⟩,hb9⟩
      clear kc C0 C1 C2 C3
      obtain⟨y1,z1,y2,z2,rfl,_,_⟩:=hd9.parts
      have HPX:=zh ((hpx.below hb9).tight)
      clear hpx
      have S0:=(hb9.block _ (zB S0)).trans S0
      have S1:=(hb9.block _ (zB S1)).trans S1
      have S2:=(hb9.block _ (zB S2)).trans S2
      have hb09:=hb08.trans (hb9.mono hb08.size)
      obtain⟨w10,hw10⟩:∃ w10,w10=w9.alloc (.cells #[.int .i64 0,.int .i64 0,.int .i64 0,.int .i64 0] 41):=⟨_,rfl⟩
      have hb10:Below w9.heap.size w9 w10:=by rw [hw10];exact Below.alloc (Below.refl _ _) (Nat.le_refl _) _
      have hn10:w10.heap[w9.heap.size]?=some (.cells #[.int .i64 0,.int .i64 0,.int .i64 0,.int .i64 0] 41 (0,0)):=by rw [hw10];exact heap_alloc_new w9 _
      have lt0:=zB S0
      have lt1:=zB S1
      have lt2:=zB S2
      have T0:=(hb10.block _ lt0).trans S0
      have T1:=(hb10.block _ lt1).trans S1
      have T2:=(hb10.block _ lt2).trans S2
      have hd10:=(hd9.below hb10).tight
      have hb010:=hb09.trans (hb10.mono hb09.size)
      obtain⟨gn,hgn⟩:∃ gn,gn=w9.heap.size:=⟨_,rfl⟩
      rw [← hgn] at hn10 lt0 lt1 lt2
      have ngn:w.heap.size≤gn:=by rw [hgn];exact hb09.size
      have HE:=exit_dl (.int .i64 r.2.1.half) (.int .i64 r.2.1.gen) (.int .i64 r.2.1.used) (.int .i64 r.2.1.count) T0 hn10 hd10 (by omega) hb010 (Nat.le_refl _) ngn
      obtain⟨w11,hw11⟩:∃ w11,w11=put4 (put4 w10 w.heap.size (.slice y1 r.1.secs.length z1) (.slice y2 r.1.loose.length z2) (.int .i64 r.1.fuse) (.bool r.1.down)) gn (.int .i64 r.2.1.half) (.int .i64 r.2.1.gen) (.int .i64 r.2.1.used) (.int .i64 r.2.1.count):=⟨_,rfl⟩
      have U1:w11.heap[w.heap.size+1]?=some (.cells #[.slice none 0 0,.slice none 0 0,.int .i64 0,.bool false] 38 (0,0)):=by rw [hw11];exact put4_far (put4_far T1 (by omega) _ _ _ _) (by omega) _ _ _ _
      have U2:w11.heap[w.heap.size+1+1]?=some (.cells #[.int .i64 0,.int .i64 0,.int .i64 0,.int .i64 0] 41 (0,0)):=by rw [hw11];exact put4_far (put4_far T2 (by omega) _ _ _ _) (by omega) _ _ _ _
      have hk11:∀ k,w3.heap.size≤k→k<w9.heap.size→w11.heap[k]?=w9.heap[k]?:=fun k h1 h2=>by
       rw [hw11,put4_other (by omega),put4_other (by have:=HM.out;omega),hb10.block k h2]
      have hp11:PiecesS (fun b=>w3.heap.size≤b) w11.heap.size w11 (.slice ax lX.length cx) lX:=(HPX.out.keep hk11).tight
      rw [← hw11] at HE
      have HE':=zh HE
      clear HE
      dsimp only [put4] at hw11
      have HU1:=zh U1
      have HU2:=zh U2
      have HW11:=zh hw11
      have HW10:=zh (show w10=w9.alloc (.cells (Value.agg #[.int .i64 0,.int .i64 0,.int .i64 0,.int .i64 0]).cells 41) from hw10)
      have HGN:=zh hgn
      have HP11:=zh hp11
      have E0:=cR w10 _ 0 _ _ _ T0
      have E1:=cR w10 _ 1 _ _ _ T0
      have E2:=cR w10 _ 2 _ _ _ T0
      have E3:=cR w10 _ 3 _ _ _ T0
      have F0:=cR w10 _ 0 _ _ _ hn10
      have F1:=cR w10 _ 1 _ _ _ hn10
      have F2:=cR w10 _ 2 _ _ _ hn10
      have F3:=cR w10 _ 3 _ _ _ hn10
      have Z0:=zF T0
      have Z1:=zF hn10
      clear U1 U2 hk11 hw11 hw10 hgn hp11 S0 S1 S2 T0 T1 T2 hd8 hd9 hd10 hb9 hb10 hb09 hb010 hb08 hn10
      go_wp2_with (with_reducible refine wp_alloc_to (w':=w10) 41 rfl rfl (zero_log _) HW10.out ?_;refine Halt.in ?_)
      refine Halt.out ?_
      rw [← HGN.out]
      go_upto_region 13 with (fail)
      rw [← HW11.out]
      clear E0 E1 E2 E3 F0 F1 F2 F3 Z0 Z1
      obtain⟨T0,T9,hd11,hb011⟩:=HE'.out
      have T1:=HU1.out
      have T2:=HU2.out
      obtain⟨oa,ob,wa,wb,HWA,HWB,s0,sa,sb,L0,L1,L2,L3,M0,M1,M2,M3,D0,D1,D2,D3,Z2,F0,F1,F2,F3,Z3,HX⟩:=exit_all (w:=w) (wx:=w11) T0 T9 T1 T2 hd11 hb011 (by omega) (by omega) (by omega) (by omega) (by omega) (by omega) (by omega)
      have hkb:∀ k,w3.heap.size≤k→k<w11.heap.size→wb.heap[k]?=w11.heap[k]?:=fun k h1 h2=>by
       have:=HM.out
       rw [HWB.out,setFar (by omega),setFar (by omega),setFar (by omega),setFar (by omega),HWA.out]
       show ((((w11.setCell ⟨w.heap.size+1,0,none⟩ _).setCell ⟨w.heap.size+1,1,none⟩ _).setCell ⟨w.heap.size+1,2,none⟩ _).setCell ⟨w.heap.size+1,3,none⟩ _).heap[k]?=_
       rw [setFar (by omega),setFar (by omega),setFar (by omega),setFar (by omega)]
      have HPB:=zh ((HP11.out.keep hkb).tight.weak (T:=fun b=>w.heap.size≤b) (fun b hb=>Nat.le_trans (by have:=HM.out;omega) hb))
      clear hkb T0 T9 hd11 hb011 T1 T2 lt0 lt1 lt2 ngn n12 l1 l2
      go_wp2_with fail
      refine zI [(false,0),(false,1),(false,2),(true,3),(true,4),(false,5),(false,6)] (Two w.heap.size gn oa ob) (by kernel_rfl) (by kernel_rfl) s0 ?_
      repeat (first | (refine zS rfl rfl ?_;simp only [Act.put,zq1,zq2,zq3]) | (refine zT rfl ?_ rfl (fun w' hw'=>?_) ?_;rotate_left;(go_simp;first | done | with_reducible rfl);(try simp only [Act.put,zq1,zq2,zq3])))
      refine zA rfl rfl fun K hK=>?_
      go_simp
      rw [← HWA.out]
      refine hK.out _ _ sa ?_
      clear hK K D0 D1 D2 D3 Z2
      refine zA rfl rfl fun K hK=>?_
      go_simp
      rw [← HWB.out]
      refine hK.out _ _ sb ?_
      clear hK K F0 F1 F2 F3 Z3
      repeat (first | (refine zS rfl rfl ?_;simp only [Act.put,zq1,zq2,zq3]) | (refine zT rfl ?_ rfl (fun w' hw'=>?_) ?_;rotate_left;(go_simp;first | done | with_reducible rfl);(try simp only [Act.put,zq1,zq2,zq3])))
      refine zN ?_
      go_wp2_with fail
      refine bodyPost_ret (results_cctt rfl _ _ (w.heap.size+1) (w.heap.size+1+1) _ _ _ _ _ _ _ _ rfl rfl HX.out.1 HX.out.2.1 Tryz.underlying38 rfl zQ Tryz.underlying41 rfl size_log) rfl ?_
      exact⟨⟨_,_,rfl,HX.out.2.2.1,HPB.out⟩,HX.out.2.2.2⟩
end
section
open Go.RowKit
set_option maxRecDepth 100000 in
set_option maxHeartbeats 1000000 in
theorem refnew_any (n:Int) (w:World) :
  Calls Tryz.prog 28 #[.int .i64 n] w fun e w'=>(∃ v',e = .returned (.tuple #[v',.int .i64 (newP n).2])∧DiskV w'.heap.size w' v' (newP n).1)∧Below w.heap.size w w':=by
 have hg:=heap_alloc_new w (.cells #[.slice none 0 0,.slice none 0 0,.int .i64 0,.bool false] 38)
 have hb:=Below.alloc (Below.refl w.heap.size w) (Nat.le_refl _) (.cells #[.slice none 0 0,.slice none 0 0,.int .i64 0,.bool false] 38)
 have hsz:(w.alloc (.cells #[.slice none 0 0,.slice none 0 0,.int .i64 0,.bool false] 38)).heap.size=w.heap.size+1:=by simp
 obtain⟨w2,hw2⟩:∃ w2,w2=w.alloc (.cells #[.slice none 0 0,.slice none 0 0,.int .i64 0,.bool false] 38):=⟨_,rfl⟩
 rw [← hw2] at hg hb hsz
 by_cases h1:0≤n
 ·by_cases h2:n≤4096
  ·have hP:newP n=(⟨List.replicate n.toNat zeroS,[],-1,false⟩,0):=by simp [newP,h1,h2]
   obtain⟨m,rfl⟩:=Int.eq_ofNat_of_zero_le h1
   rw [hP]
   clear hP
   obtain⟨i0,hi,hx⟩:=Option.bind_eq_some_iff.1 zero_sector
   obtain⟨z0,hz0,hx⟩:=Option.map_eq_some_iff.1 hx
   simp only [Prod.mk.injEq] at hx
   obtain⟨hz1,hz2,hz3⟩:=hx
   have B1:=zh (show i0.bytes*m≤281474976710656 by rw [hz2];omega)
   have B2:=zh (show m≤maxLen by unfold maxLen;omega)
   have hle:w2.heap.size≤w2.heap.size:=Nat.le_refl _
   go_enter Tryz.func28,Tryz.ntmps28
   go_wp2_with (at_make;refine wpList_make_full _ rfl (.tmp 11) (.tmp 11) 35 rfl w2.heap.size 94 i0 z0 64 Tryz.underlying35 hi hz0 hz1 _ _ _ _ m rfl rfl rfl rfl B1.out B2.out (hw2▸hle) ?_;intro w3 hown3 hgrow3;refine Halt.in ?_)
   rw [← hw2] at hown3 hgrow3
   have hb3:Below w2.heap.size w2 w3:=(Below.refl w2.heap.size w2).grown hgrow3 (Nat.le_refl _) (fun k e=>by cases e)
   have hs3:Secs w3.heap.size w3 (.slice (some ⟨w2.heap.size,0,none⟩) m m) (List.replicate m zeroS):=by
    rw [hz3] at hown3
    exact ownsRow_secs hown3
   rw [hsz] at hs3
   have G2:=(hb3.block w.heap.size (by omega)).trans hg
   have hbb:=hb.trans (hb3.mono (by omega))
   have r3:RowIn (w.heap.size+1) w3.heap.size w3 (.slice (some ⟨w.heap.size+1,0,none⟩) m m) 64 (List.replicate m zeroS).length ((List.replicate m zeroS).map u8s).flatten:=by
    obtain⟨hl,a,cap,hv,h1,h2,h3⟩:=hs3.2
    refine⟨hl,a,cap,hv,h1,h2,fun hp=>?_⟩
    obtain⟨b,off,rfl,hb,hc⟩:=h3 hp
    refine⟨b,off,rfl,?_,hb,hc⟩
    injection hv with hv
    injection hv with hv
    injection hv with hv
    omega
   have D0:=cR w3 _ 0 _ _ _ G2
   have D1:=cR w3 _ 1 _ _ _ G2
   have D2:=cR w3 _ 2 _ _ _ G2
   have D3:=cR w3 _ 3 _ _ _ G2
   have Z:=zF G2
   have h64:=hs3.1
   clear hown3 hgrow3 hs3 hi hz0 hz1 hz2 hz3 hw2 hg hb hb3
   refine Halt.out ?_
   go_wp2_with fail
   refine bodyPost_ret (results_ct rfl _ _ w.heap.size _ _ _ _ rfl (put4_heap G2 _ _ _ _) Tryz.underlying38 rfl zQ) rfl ?_
   exact⟨⟨_,rfl,DiskV.mk (d:=⟨List.replicate m zeroS,[],-1,false⟩) ⟨h64,(((((r3.setOther ⟨w.heap.size,0,none⟩ _ (Nat.lt_succ_self _)).setOther ⟨w.heap.size,1,none⟩ _ (Nat.lt_succ_self _)).setOther ⟨w.heap.size,2,none⟩ _ (Nat.lt_succ_self _)).setOther ⟨w.heap.size,3,none⟩ _ (Nat.lt_succ_self _)).row)⟩ (Loose.nil 0 _)⟩,put4_below hbb (Nat.le_refl _) _ _ _ _⟩
  ·have hP:newP n=(⟨[],[],0,false⟩,1):=by simp [newP,h2]
   rw [hP]
   have D0:=cR w2 _ 0 _ _ _ hg
   have D1:=cR w2 _ 1 _ _ _ hg
   have D2:=cR w2 _ 2 _ _ _ hg
   have D3:=cR w2 _ 3 _ _ _ hg
   have Z:=zF hg
   rw [hw2] at D0 D1 D2 D3 Z
   clear hP
   go_enter Tryz.func28,Tryz.ntmps28
   go_wp2_with fail
   rw [← hw2]
   refine bodyPost_ret (results_ct rfl _ _ w.heap.size _ _ _ _ rfl hg Tryz.underlying38 rfl zQ) rfl ?_
   exact⟨⟨_,rfl,DiskV.mk (d:=⟨[],[],0,false⟩) (Secs.nil 0 _) (Loose.nil 0 _)⟩,hb⟩
 ·have hP:newP n=(⟨[],[],0,false⟩,1):=by simp [newP,h1]
  rw [hP]
  have D0:=cR w2 _ 0 _ _ _ hg
  have D1:=cR w2 _ 1 _ _ _ hg
  have D2:=cR w2 _ 2 _ _ _ hg
  have D3:=cR w2 _ 3 _ _ _ hg
  have Z:=zF hg
  rw [hw2] at D0 D1 D2 D3 Z
  clear hP
  go_enter Tryz.func28,Tryz.ntmps28
  go_wp2_with fail
  rw [← hw2]
  refine bodyPost_ret (results_ct rfl _ _ w.heap.size _ _ _ _ rfl hg Tryz.underlying38 rfl zQ) rfl ?_
  exact⟨⟨_,rfl,DiskV.mk (d:=⟨[],[],0,false⟩) (Secs.nil 0 _) (Loose.nil 0 _)⟩,hb⟩
end
section
open Go.RowKit WalP PackP
theorem load_piece {B:Nat} {w:World} {a:Option Addr} {n c:Nat} {ls:List (List UInt8)} (h:Pieces B w (.slice a n c) ls) {k:Nat} (hk:k<ls.length) :
  ∃ b off a' c',a=some ⟨b,off,none⟩∧b<B∧n=ls.length∧n≤c∧c≤2^63-1∧(∀ w':World,(∀ p:Addr,p.block<B→w'.cell? p=w.cell? p)→w'.cell? ⟨b,off+k,none⟩=some (.slice a' ls[k].length c'))∧Bytes B w (.slice a' ls[k].length c') ls[k]:=by
 obtain⟨vs,⟨hl,a0,cap,hv,hnc,hcap,hcells⟩,hel⟩:=h
 cases hv
 obtain⟨b,off,rfl,hBb,hc⟩:=hcells (by omega)
 obtain⟨u,hu,hb⟩:=hel k hk
 obtain⟨_,a',c',rfl,_,_,_⟩:=id hb
 exact⟨b,off,a',c',rfl,hBb,rfl,hnc,hcap,fun w' hw=>(hw ⟨b,off+k,none⟩ hBb).trans (hc _ _ hu),hb⟩
end
section
open Go.RowKit WalP PackP
def DAt (w:World) (D:Nat) (d:DiskP):Prop:=∃ a0 n0 a1 n1,w.heap[D]?=some (.cells #[.slice a0 d.secs.length n0,.slice a1 d.loose.length n1,.int .i64 d.fuse,.bool d.down] 38 (0,0))∧DiskV w.heap.size w (.agg #[.slice a0 d.secs.length n0,.slice a1 d.loose.length n1,.int .i64 d.fuse,.bool d.down]) d
def LAt (w:World) (L:Nat) (l:LogP):Prop:=w.heap[L]?=some (.cells #[.int .i64 l.half,.int .i64 l.gen,.int .i64 l.used,.int .i64 l.count] 41 (0,0))
theorem DAt.below {w w':World} {D:Nat} {d:DiskP} (h:DAt w D d) (hb:Below w.heap.size w w'):DAt w' D d:=by
 obtain⟨a0,n0,a1,n1,h1,h2⟩:=h
 exact⟨a0,n0,a1,n1,(hb.block _ (zB h1)).trans h1,(h2.below hb).tight⟩
theorem LAt.below {w w':World} {L:Nat} {l:LogP} (h:LAt w L l) (hb:Below w.heap.size w w'):LAt w' L l:=(hb.block _ (zB h)).trans h
theorem LAt.lt {w:World} {L:Nat} {l:LogP} (h:LAt w L l):L<w.heap.size:=zB h
theorem DAt.lt {w:World} {D:Nat} {d:DiskP} (h:DAt w D d):D<w.heap.size:=by
 obtain⟨a0,n0,a1,n1,h1,h2⟩:=h
 exact zB h1
structure Four (w:World) (g:Nat) (a b c d:Value):Prop where
 c0:w.cell? ⟨g,0,none⟩=some a
 c1:w.cell? ⟨g,1,none⟩=some b
 c2:w.cell? ⟨g,2,none⟩=some c
 c3:w.cell? ⟨g,3,none⟩=some d
 z:∀ o,w.frozen? ⟨g,o,none⟩=false
theorem Four.of {w:World} {g:Nat} {a b c d:Value} {t:TypeId} (h:w.heap[g]?=some (.cells #[a,b,c,d] t (0,0))):Four w g a b c d :=
 ⟨cR w _ 0 _ _ _ h,cR w _ 1 _ _ _ h,cR w _ 2 _ _ _ h,cR w _ 3 _ _ _ h,fun o=>zF h o⟩
theorem LAt.four {w:World} {L:Nat} {l:LogP} (h:LAt w L l):Four w L (.int .i64 l.half) (.int .i64 l.gen) (.int .i64 l.used) (.int .i64 l.count):=Four.of h
theorem DAt.put {w:World} {D:Nat} {d d':DiskP} {y0 y1 y2 y3:Value} (h:DAt w D d) (hd:DiskV w.heap.size w (.agg #[y0,y1,y2,y3]) d'):DAt (put4 w D y0 y1 y2 y3) D d':=by
 obtain⟨a0,n0,a1,n1,h1,_⟩:=h
 obtain⟨w9,rfl,e1,e2,_⟩:=box_put h1 hd
 obtain⟨p1,q1,p2,q2,hv,_,_⟩:=hd.parts
 simp only [Value.agg.injEq,Array.mk.injEq,List.cons.injEq] at hv
 obtain⟨rfl,rfl,rfl,rfl,_⟩:=hv
 exact⟨p1,q1,p2,q2,e1,e2⟩
theorem DAt.other {w:World} {D g:Nat} {d:DiskP} {x0 x1 x2 x3:Value} {t:TypeId} {fr:Nat×Nat} (h:DAt w D d) (hg:w.heap[g]?=some (.cells #[x0,x1,x2,x3] t fr)) (hne:g≠D) (a b c e:Value):DAt (put4 w g a b c e) D d:=by
 obtain⟨a0,n0,a1,n1,h1,h2⟩:=h
 refine⟨a0,n0,a1,n1,put4_far h1 hne _ _ _ _,?_⟩
 rw [put4_size]
 exact put4_diskV h2 (h2.slFar hg (by simp)) a b c e
theorem DAt.row {w:World} {D:Nat} {d:DiskP} (h:DAt w D d):∃ x0 x1 x2 x3,w.heap[D]?=some (.cells #[x0,x1,x2,x3] 38 (0,0)):=by
 obtain⟨a0,n0,a1,n1,h1,_⟩:=h
 exact⟨_,_,_,_,h1⟩
theorem LAt.other {w:World} {L g:Nat} {l:LogP} (h:LAt w L l) (hne:g≠L) (a b c e:Value):LAt (put4 w g a b c e) L l:=put4_far h hne _ _ _ _
theorem LAt.put {w:World} {L:Nat} {l:LogP} (h:LAt w L l) (l':LogP):LAt (put4 w L (.int .i64 l'.half) (.int .i64 l'.gen) (.int .i64 l'.used) (.int .i64 l'.count)) L l':=put4_heap h _ _ _ _
theorem pack_store {w:World} {D L:Nat} {d d':DiskP} {l:LogP} {y0 y1 y2 y3:Value} (l':LogP) (hD:DAt w D d) (hL:LAt w L l) (hd:DiskV w.heap.size w (.agg #[y0,y1,y2,y3]) d') (hne:D≠L) :
  ∃ w9 x0 x1 x2 x3,Hid (w9=((((((((w.setCell ⟨D,0,none⟩ y0).setCell ⟨D,1,none⟩ y1).setCell ⟨D,2,none⟩ y2).setCell ⟨D,3,none⟩ y3).setCell ⟨L,0,none⟩ (.int .i64 l'.half)).setCell ⟨L,1,none⟩ (.int .i64 l'.gen)).setCell ⟨L,2,none⟩ (.int .i64 l'.used)).setCell ⟨L,3,none⟩ (.int .i64 l'.count))) ∧
   Four w D x0 x1 x2 x3∧Four w L (.int .i64 l.half) (.int .i64 l.gen) (.int .i64 l.used) (.int .i64 l.count)∧Hid (DAt w9 D d'∧LAt w9 L l'∧w9.heap.size=w.heap.size∧(∀ k,k≠D→k≠L→w9.heap[k]?=w.heap[k]?)∧(∀ B w0,Below B w0 w→B≤D→B≤L→Below B w0 w9)):=by
 obtain⟨x0,x1,x2,x3,hr⟩:=hD.row
 have s1:=hD.put hd
 have s2:LAt (put4 w D y0 y1 y2 y3) L l:=hL.other hne _ _ _ _
 have s3:DAt (put4 (put4 w D y0 y1 y2 y3) L (.int .i64 l'.half) (.int .i64 l'.gen) (.int .i64 l'.used) (.int .i64 l'.count)) D d':=s1.other (show (put4 w D y0 y1 y2 y3).heap[L]?=some (.cells #[.int .i64 l.half,.int .i64 l.gen,.int .i64 l.used,.int .i64 l.count] 41 (0,0)) from s2) (Ne.symm hne) _ _ _ _
 have s4:=s2.put l'
 have f1:=Four.of hr
 have f2:=Four.of (show w.heap[L]?=some (.cells #[.int .i64 l.half,.int .i64 l.gen,.int .i64 l.used,.int .i64 l.count] 41 (0,0)) from hL)
 have s5:∀ k,k≠D→k≠L→(put4 (put4 w D y0 y1 y2 y3) L (.int .i64 l'.half) (.int .i64 l'.gen) (.int .i64 l'.used) (.int .i64 l'.count)).heap[k]?=w.heap[k]?:=fun k h1 h2=>(put4_other (w:=put4 w D y0 y1 y2 y3) (Ne.symm h2) _ _ _ _).trans (put4_other (Ne.symm h1) _ _ _ _)
 have s6:(put4 (put4 w D y0 y1 y2 y3) L (.int .i64 l'.half) (.int .i64 l'.gen) (.int .i64 l'.used) (.int .i64 l'.count)).heap.size=w.heap.size:=by rw [put4_size,put4_size]
 exact⟨put4 (put4 w D y0 y1 y2 y3) L (.int .i64 l'.half) (.int .i64 l'.gen) (.int .i64 l'.used) (.int .i64 l'.count),x0,x1,x2,x3,zh rfl,f1,f2,zh ⟨s3,s4,s6,s5,fun B w0 hb h1 h2=>put4_below (put4_below hb h1 _ _ _ _) h2 _ _ _ _⟩⟩
theorem fresh_log (w:World):∃ w' g,Hid (w'=w.alloc (.cells (Value.agg #[.int .i64 0,.int .i64 0,.int .i64 0,.int .i64 0]).cells 41))∧Hid (g=w.heap.size)∧LAt w' g log0∧Below w.heap.size w w'∧g<w'.heap.size∧w.heap.size≤g :=
 ⟨_,_,zh rfl,zh rfl,heap_alloc_new w _,Below.alloc (Below.refl _ _) (Nat.le_refl _) _,by simp,Nat.le_refl _⟩
theorem zero_disk:∀ w,(zeroValue 38).run Tryz.prog w = .ok (.agg #[.slice none 0 0,.slice none 0 0,.int .i64 0,.bool false]) w:=by
 have h:(Tryz.prog.info? 38).bind (fun i=>i.zero)=some (.agg #[.slice none 0 0,.slice none 0 0,.int .i64 0,.bool false]):=by kernel_rfl
 obtain⟨i,hi,hz⟩:=Option.bind_eq_some_iff.1 h
 intro w
 simp [zeroValue,typeInfo,hi,hz]
def disk0:DiskP:=⟨[],[],0,false⟩
theorem fresh_disk (w:World):∃ w' g,Hid (w'=w.alloc (.cells (Value.agg #[.slice none 0 0,.slice none 0 0,.int .i64 0,.bool false]).cells 38))∧Hid (g=w.heap.size)∧DAt w' g disk0∧Below w.heap.size w w'∧g<w'.heap.size∧w.heap.size≤g :=
 ⟨_,_,zh rfl,zh rfl,⟨none,0,none,0,heap_alloc_new w _,DiskV.mk (d:=disk0) (Secs.nil 0 _) (Loose.nil 0 _)⟩,Below.alloc (Below.refl _ _) (Nat.le_refl _) _,by simp,Nat.le_refl _⟩
end
section
namespace WalP
theorem lastW_add (ls:List WriteP) (x:WriteP) (a:Int) (s:List UInt8):lastW (ls++[x]) a s=if x.at_=a then x.data else lastW ls a s:=by
 simp [lastW,List.foldl_append]
def see (d:DiskP):List (List UInt8):=(List.range d.secs.length).map fun i:Nat=>lastW d.loose i (d.secs[i]?.getD zeroS)
theorem length_see (d:DiskP):(see d).length=d.secs.length:=by simp [see]
theorem see_at (d:DiskP) (i:Nat):(see d)[i]?=if i<d.secs.length then some (lastW d.loose i (d.secs[i]?.getD zeroS)) else none:=by
 unfold see
 rw [List.getElem?_map]
 by_cases h:i<d.secs.length
 ·rw [List.getElem?_range h,if_pos h];rfl
 ·rw [List.getElem?_eq_none (by simpa using h),if_neg h];rfl
structure Calm (S n:Nat) (d:DiskP):Prop where
 secs:d.secs.length=S
 down:d.down=false
 fuse:d.fuse = -1
 at_:∀ x∈d.loose,0≤x.at_∧x.at_<S
 len:d.loose.length≤n
theorem right_of {S n:Nat} {d:DiskP} (h1:d.secs.length=S) (h2:d.loose.length≤n) (h3:-1≤d.fuse∧d.fuse≤1099511627776) (h4:∀ x∈d.loose,0≤x.at_∧x.at_<S) (hS:S≤4096) (hn:n≤100000):rightB d=true:=by
 have hb:badAt d d.loose=false:=by
  unfold badAt
  rw [List.any_eq_false]
  intro x hx
  have:=h4 x hx
  simp [thereB,h1,this]
 simp only [rightB,fusedB,hb,Bool.and_eq_true,decide_eq_true_eq,Bool.not_false,and_true]
 omega
theorem Calm.right {S n:Nat} {d:DiskP} (h:Calm S n d) (hS:S≤4096) (hn:n≤100000):rightB d=true:=right_of h.secs h.len (by rw [h.fuse];omega) h.at_ hS hn
theorem Calm.mono {S n m:Nat} {d:DiskP} (h:Calm S n d) (hm:n≤m):Calm S m d:=⟨h.secs,h.down,h.fuse,h.at_,Nat.le_trans h.len hm⟩
theorem Calm.up {S n:Nat} {d:DiskP} (h:Calm S n d):downP d=false∧burnF d = -1:=by
 have h1:=h.down
 have h2:=h.fuse
 exact⟨by simp [downP,h1,h2],by simp [burnF,downP,h1,h2]⟩
theorem see_put (d:DiskP) (a:Nat) (s:List UInt8) (f:Int) (b:Bool) (ha:a<d.secs.length):see { d with loose:=d.loose++[⟨(a:Int),s⟩],fuse:=f,down:=b }=(see d).set a s:=by
 apply List.ext_getElem?
 intro i
 rw [see_at,List.getElem?_set,length_see,see_at]
 simp only [lastW_add]
 by_cases hi:i<d.secs.length
 ·rw [if_pos hi,if_pos hi]
  by_cases e:a=i
  ·subst e;simp [ha]
  ·rw [if_neg (by omega),if_neg e]
 ·rw [if_neg hi,if_neg hi]
  by_cases e:a=i
  ·omega
  ·rw [if_neg e]
theorem Calm.put {S n:Nat} {d:DiskP} (h:Calm S n d) (hS:S≤4096) (hn:n≤100000) (a:Int) (s:List UInt8) (h0:0≤a) (h1:a<S) :
  (putP d a s).2=0∧Calm S (n+1) (putP d a s).1∧see (putP d a s).1=(see d).set a.toNat s:=by
 have hr:=h.right hS hn
 obtain⟨u1,u2⟩:=h.up
 have hs:=h.secs
 have ht:thereB d a=true:=by simp [thereB,hs];omega
 have e:putP d a s=({ d with loose:=d.loose++[⟨a,s⟩],fuse:=-1,down:=false },0):=by simp [putP,hr,ht,u1,u2]
 rw [e]
 obtain⟨k,rfl⟩:∃ k:Nat,a=k:=⟨a.toNat,by omega⟩
 refine⟨rfl,⟨hs,rfl,rfl,?_,?_⟩,see_put d k s _ _ (by omega)⟩
 ·intro x hx
  rcases List.mem_append.1 hx with hx | hx
  ·exact h.at_ x hx
  ·rw [List.mem_singleton.1 hx];exact⟨h0,h1⟩
 ·have:=h.len
  simp;omega
theorem walSettleAll (ss:List (List UInt8)) (ls:List WriteP) (at_:Nat) (hl:at_<ss.length) (h0:∀ x∈ls,0≤x.at_):∀ k,k≤ls.length→(settleN ss ls (fun _=>true) k)[at_]?=some (lastW (ls.take k) at_ ss[at_])
 | 0,_=>by simp [settleN,lastW,hl]
 | k+1,hk=>by
  have ih:=walSettleAll ss ls at_ hl h0 k (by omega)
  have hlt:k<ls.length:=by omega
  have e:ls.take (k+1)=ls.take k++[ls[k]]:=by rw [List.take_add_one,List.getElem?_eq_getElem hlt];rfl
  rw [e,lastW_add]
  show (match ls[k]? with | some x=>if true=true then (settleN ss ls (fun _=>true) k).set x.at_.toNat x.data else settleN ss ls (fun _=>true) k | none=>settleN ss ls (fun _=>true) k)[at_]?=_
  rw [List.getElem?_eq_getElem hlt]
  simp only [if_true]
  have hp:=h0 ls[k] (List.getElem_mem hlt)
  by_cases he:ls[k].at_=(at_:Int)
  ·rw [if_pos he]
   have:ls[k].at_.toNat=at_:=by omega
   rw [this,List.getElem?_set_self (by rw [length_settleN];exact hl)]
  ·rw [if_neg he,List.getElem?_set_ne (by omega)]
   exact ih
theorem settle_see {d:DiskP} (h0:∀ x∈d.loose,0≤x.at_):settleN d.secs d.loose (fun _=>true) d.loose.length=see d:=by
 apply List.ext_getElem?
 intro i
 rw [see_at]
 by_cases hi:i<d.secs.length
 ·rw [walSettleAll _ _ i hi h0 _ (Nat.le_refl _),if_pos hi,List.take_length,List.getElem?_eq_getElem hi];rfl
 ·rw [if_neg hi,List.getElem?_eq_none (by rw [length_settleN];omega)]
theorem see_sure (ss:List (List UInt8)) (f:Int) (b:Bool):see ⟨ss,[],f,b⟩=ss:=by
 apply List.ext_getElem?
 intro i
 rw [see_at]
 by_cases hi:i<ss.length
 ·simp [hi,lastW]
 ·simp [hi]
theorem Calm.flush {S n:Nat} {d:DiskP} (h:Calm S n d) (hS:S≤4096) (hn:n≤100000) :
  (flushP d).2=0∧Calm S 0 (flushP d).1∧see (flushP d).1=see d:=by
 have hr:=h.right hS hn
 obtain⟨u1,u2⟩:=h.up
 have e:flushP d=(⟨settleN d.secs d.loose (fun _=>true) d.loose.length,[],-1,false⟩,0):=by simp [flushP,hr,u1,u2]
 rw [e,settle_see (fun x hx=>(h.at_ x hx).1)]
 exact⟨rfl,⟨by show (see d).length=S;rw [length_see];exact h.secs,rfl,rfl,fun x hx=>absurd hx List.not_mem_nil,Nat.zero_le _⟩,see_sure _ _ _⟩
def fit (S:Nat):Deed→Prop
 | .put a _=>0≤a∧a<S
 | .flush=>True
def after1 (v:List (List UInt8)):Deed→List (List UInt8)
 | .put a s=>v.set a.toNat s
 | .flush=>v
def after (v:List (List UInt8)) (ds:List Deed):List (List UInt8):=ds.foldl after1 v
theorem after_append (v:List (List UInt8)) (xs ys:List Deed):after v (xs++ys)=after (after v xs) ys:=by simp [after,List.foldl_append]
theorem length_after (ds:List Deed):∀ v,(after v ds).length=v.length:=by
 induction ds with
 | nil=>intro v;rfl
 | cons x ds ih =>
  intro v
  show (after (after1 v x) ds).length=_
  rw [ih]
  cases x <;> simp [after1]
theorem Calm.run {S:Nat} (hS:S≤4096):∀ (ds:List Deed) {n:Nat} {d:DiskP},Calm S n d→n+ds.length≤100000→(∀ x∈ds,fit S x)→(WalP.run d ds).2=0∧Calm S (n+ds.length) (WalP.run d ds).1∧see (WalP.run d ds).1=after (see d) ds
 | [],n,d,h,_,_=>⟨rfl,h,rfl⟩
 | x :: ds,n,d,h,hn,hf=>by
  have hl:(x :: ds).length=ds.length+1:=rfl
  have h1:(WalP.deed d x).2=0∧Calm S (n+1) (WalP.deed d x).1∧see (WalP.deed d x).1=after1 (see d) x:=by
   have hx:=hf x (List.mem_cons_self ..)
   cases x with
   | put a s=>exact h.put hS (by omega) a s hx.1 hx.2
   | flush =>
    obtain⟨h1,h2,h3⟩:=h.flush hS (by omega)
    exact⟨h1,h2.mono (Nat.zero_le _),h3⟩
  obtain⟨e1,e2,e3⟩:=h1
  obtain⟨i1,i2,i3⟩:=Calm.run hS ds e2 (by omega) (fun y hy=>hf y (List.mem_cons_of_mem _ hy))
  simp only [WalP.run,e1,if_true]
  refine⟨i1,i2.mono (by omega),?_⟩
  rw [i3,e3]
  rfl
theorem Calm.runF {S:Nat} (hS:S≤4096) {ds:List Deed} {n:Nat} {d:DiskP} (h:Calm S n d) (hn:n+ds.length≤100000) (hf:∀ x∈ds,fit S x):(WalP.run d (ds++[.flush])).2=0∧Calm S 0 (WalP.run d (ds++[.flush])).1∧see (WalP.run d (ds++[.flush])).1=after (see d) ds:=by
 obtain⟨h1,h2,h3⟩:=Calm.run hS ds h hn hf
 rw [WalP.run_append,if_pos h1,run_one]
 obtain⟨g1,g2,g3⟩:=h2.flush hS (by omega)
 exact⟨g1,g2,g3.trans h3⟩
theorem Calm.view {S n:Nat} {d:DiskP} (h:Calm S n d) (hS:S≤4096) (hn:n≤100000) (F:Nat) (which:Int) (hF:which*half d=F) (hw:which=0∨which=1):viewP d which=((see d).drop F).take (half d):=by
 have hr:=h.right hS hn
 have hs:=h.secs
 have hd:=h.down
 have hFH:F+half d≤S:=by
  unfold half at hF ⊢
  rw [hs] at hF ⊢
  rcases hw with rfl | rfl <;> omega
 unfold viewP
 rw [hF]
 apply List.ext_getElem?
 intro i
 rw [List.getElem?_map,List.getElem?_take,List.getElem?_drop]
 by_cases hi:i<half d
 ·rw [List.getElem?_range hi,if_pos hi,see_at,if_pos (by omega)]
  have ht:thereB d ((F:Int)+i)=true:=by simp [thereB,hs];omega
  simp [readP,hr,ht,hd]
  have:((F:Int)+i).toNat=F+i:=by omega
  rw [this]
 ·rw [if_neg hi,List.getElem?_eq_none (by simpa using hi)];rfl
end WalP
end
section
namespace WalP
def wr (v:List (List UInt8)):Nat→List (List UInt8)→List (List UInt8)
 | _,[]=>v
 | i,s :: ss=>wr (v.set i s) (i+1) ss
theorem length_wr:∀ (ss:List (List UInt8)) (v:List (List UInt8)) (i:Nat),(wr v i ss).length=v.length
 | [],_,_=>rfl
 | s :: ss,v,i=>by simp only [wr];rw [length_wr ss];simp
theorem wr_append:∀ (a b:List (List UInt8)) (v:List (List UInt8)) (i:Nat),wr v i (a++b)=wr (wr v i a) (i+a.length) b
 | [],b,v,i=>by simp [wr]
 | s :: a,b,v,i=>by
  rw [List.cons_append]
  simp only [wr]
  rw [wr_append a b,List.length_cons,show i+1+a.length=i+(a.length+1) by omega]
theorem wr_at:∀ (ss:List (List UInt8)) (v:List (List UInt8)) (i k:Nat),i+ss.length≤v.length→(wr v i ss)[k]?=if i≤k∧k<i+ss.length then ss[k-i]? else v[k]?
 | [],v,i,k,_=>by rw [if_neg (by simp)];rfl
 | s :: ss,v,i,k,h=>by
  rw [List.length_cons] at h
  simp only [wr]
  rw [wr_at ss _ _ k (by simp;omega),List.getElem?_set,List.length_cons]
  by_cases h1:i=k
  ·subst h1
   rw [if_neg (by omega),if_pos rfl,if_pos (by omega),if_pos (by omega),Nat.sub_self];rfl
  ·rw [if_neg h1]
   by_cases h2:i+1≤k∧k<i+1+ss.length
   ·rw [if_pos h2,if_pos (by omega),show k-i=(k-(i+1))+1 by omega];rfl
   ·rw [if_neg h2,if_neg (by omega)]
theorem wr_eq {v:List (List UInt8)} {i:Nat} {ss:List (List UInt8)} (h:i+ss.length≤v.length):wr v i ss=v.take i++ss++v.drop (i+ss.length):=by
 apply List.ext_getElem?
 intro k
 rw [wr_at _ _ _ _ h]
 by_cases h1:k<i
 ·rw [if_neg (by omega),List.append_assoc,List.getElem?_append_left (by simp;omega),List.getElem?_take,if_pos h1]
 ·by_cases h2:k<i+ss.length
  ·rw [if_pos (by omega),List.append_assoc,List.getElem?_append_right (by simp;omega),List.getElem?_append_left (by simp;omega)]
   congr 1
   simp;omega
  ·rw [if_neg (by omega),List.getElem?_append_right (by simp;omega),List.getElem?_drop]
   congr 1
   simp;omega
def hv (v:List (List UInt8)) (F H:Nat):List (List UInt8):=(v.drop F).take H
theorem hv_at (v:List (List UInt8)) (F H k:Nat):(hv v F H)[k]?=if k<H then v[F+k]? else none:=by
 unfold hv
 rw [List.getElem?_take,List.getElem?_drop]
theorem length_hv {v:List (List UInt8)} {F H:Nat} (h:F+H≤v.length):(hv v F H).length=H:=by simp [hv];omega
theorem hv_wr {v:List (List UInt8)} {F H i:Nat} {ss:List (List UInt8)} (h:F+H≤v.length) (hi:F≤i) (hs:i+ss.length≤F+H):hv (wr v i ss) F H=wr (hv v F H) (i-F) ss:=by
 apply List.ext_getElem?
 intro k
 rw [hv_at,wr_at _ _ _ _ (by omega),wr_at _ _ _ _ (by rw [length_hv h];omega),hv_at]
 by_cases hk:k<H
 ·rw [if_pos hk,if_pos hk]
  by_cases h1:i-F≤k∧k<i-F+ss.length
  ·rw [if_pos h1,if_pos (by omega)]
   congr 1
   omega
  ·rw [if_neg h1,if_neg (by omega)]
 ·rw [if_neg hk,if_neg (by omega),if_neg hk]
theorem hv_far {v:List (List UInt8)} {F H i:Nat} {ss:List (List UInt8)} (hl:i+ss.length≤v.length) (h:i+ss.length≤F∨F+H≤i):hv (wr v i ss) F H=hv v F H:=by
 apply List.ext_getElem?
 intro k
 rw [hv_at,hv_at,wr_at _ _ _ _ hl]
 by_cases hk:k<H
 ·rw [if_pos hk,if_pos hk,if_neg (by omega)]
 ·rw [if_neg hk,if_neg hk]
def chunks (b:List UInt8):List (List UInt8):=(List.range ((b.length+63) / 64)).map fun i:Nat=>pad64 (b.drop (64*i))
theorem length_chunks (b:List UInt8):(chunks b).length=(b.length+63) / 64:=by simp [chunks]
theorem range_succ_map (n:Nat) {α:Type} (f:Nat→α):(List.range (n+1)).map f=f 0 :: (List.range n).map fun i=>f (i+1):=by
 rw [List.range_succ_eq_map,List.map_cons,List.map_map]
 rfl
theorem chunks_cons {b:List UInt8} (h:b≠[]):chunks b=pad64 b :: chunks (b.drop 64):=by
 have hp:0<b.length:=List.length_pos_iff.2 h
 unfold chunks
 rw [show (b.length+63) / 64=((b.drop 64).length+63) / 64+1 by rw [List.length_drop];omega,range_succ_map]
 congr 1
 apply List.map_congr_left
 intro i _
 rw [List.drop_drop,show 64+64*i=64*(i+1) by omega]
theorem pad64_take {b:List UInt8} (h:64≤b.length):pad64 b=b.take 64:=by
 unfold pad64
 rw [show 64-b.length=0 by omega];simp
theorem pad64_short {b:List UInt8} (h:b.length≤64):pad64 b=b++List.replicate (64-b.length) 0:=by
 unfold pad64
 rw [List.take_of_length_le h]
theorem chunks_back:∀ (n:Nat) (b:List UInt8),b.length≤n→(chunks b).flatten.take b.length=b
 | 0,b,h=>by
  have:b=[]:=List.eq_nil_of_length_eq_zero (by omega)
  subst this;rfl
 | n+1,b,h=>by
  by_cases hb:b=[]
  ·subst hb;rfl
  ·have hp:0<b.length:=List.length_pos_iff.2 hb
   rw [chunks_cons hb,List.flatten_cons]
   by_cases h64:64≤b.length
   ·have ih:=chunks_back n (b.drop 64) (by rw [List.length_drop];omega)
    rw [List.length_drop] at ih
    rw [pad64_take h64,List.take_append,List.take_of_length_le (by rw [List.length_take];omega),List.length_take,Nat.min_eq_left h64,ih,List.take_append_drop]
   ·rw [pad64_short (by omega),List.append_assoc,List.take_left]
theorem put_run:∀ (ss:List (List UInt8)) (v:List (List UInt8)) (a:Nat),after v ((List.range ss.length).map fun i:Nat=>Deed.put ((a:Int)+i) (ss[i]?.getD []))=wr v a ss
 | [],_,_=>rfl
 | s :: ss,v,a=>by
  rw [List.length_cons,range_succ_map]
  show after (v.set _ _) _=wr (v.set a s) (a+1) ss
  have e:((a:Int)+(0:Nat)).toNat=a:=by omega
  rw [e]
  show after (v.set a s) _=_
  rw [← put_run ss (v.set a s) (a+1)]
  congr 1
  apply List.map_congr_left
  intro i _
  rw [List.getElem?_cons_succ]
  congr 1
  omega
theorem zeros_after (v:List (List UInt8)) (F H:Nat):after v (zerosD F H)=wr v F (List.replicate H zeroS):=by
 rw [← put_run,List.length_replicate]
 unfold zerosD
 congr 1
 apply List.map_congr_left
 intro i hi
 rw [List.getElem?_replicate,if_pos (List.mem_range.1 hi)]
 rfl
theorem bytes_after (v:List (List UInt8)) (a:Nat) (b:List UInt8):after v (bytesD a b)=wr v (a+1) (chunks b):=by
 rw [← put_run,length_chunks]
 unfold bytesD
 congr 1
 apply List.map_congr_left
 intro i hi
 unfold chunks
 rw [List.getElem?_map,List.getElem?_range (List.mem_range.1 hi)]
 show Deed.put _ _=Deed.put _ _
 congr 1
def recV (gen:Int) (k:Nat) (b:List UInt8):List (List UInt8):=markOf gen k b :: chunks b
def recsV (gen:Int):Nat→List (List UInt8)→List (List UInt8)
 | _,[]=>[]
 | k,b :: bs=>recV gen k b++recsV gen (k+1) bs
theorem takes_chunks {b:List UInt8} (h:takes b.length≠0):takes b.length=(chunks b).length+1:=by
 rw [length_chunks]
 unfold takes at h ⊢
 split
 ·rename_i h1;rw [if_pos h1] at h;exact absurd rfl h
 ·omega
theorem length_recV {gen:Int} {k:Nat} {b:List UInt8} (h:takes b.length≠0):(recV gen k b).length=takes b.length:=by
 rw [takes_chunks h];rfl
theorem length_recsV (gen:Int):∀ (l:List (List UInt8)) (k:Nat),(∀ b∈l,takes b.length≠0)→(recsV gen k l).length=posN l
 | [],_,_=>rfl
 | b :: l,k,h=>by
  rw [recsV,List.length_append,length_recV (h b (List.mem_cons_self ..)),length_recsV gen l (k+1) (fun x hx=>h x (List.mem_cons_of_mem _ hx)),posN_cons]
theorem recsV_append (gen:Int):∀ (l m:List (List UInt8)) (k:Nat),recsV gen k (l++m)=recsV gen k l++recsV gen (k+l.length) m
 | [],m,k=>by simp [recsV]
 | b :: l,m,k=>by
  rw [List.cons_append,recsV,recsV,recsV_append gen l m,List.append_assoc,List.length_cons,show k+1+l.length=k+(l.length+1) by omega]
theorem wr_set {v:List (List UInt8)} {i:Nat} {s:List UInt8} {ss:List (List UInt8)} (h:i+1+ss.length≤v.length):(wr v (i+1) ss).set i s=wr v i (s :: ss):=by
 apply List.ext_getElem?
 intro k
 rw [List.getElem?_set,wr_at _ _ _ _ (by omega),length_wr,wr_at _ _ _ _ (by simp;omega),List.length_cons]
 by_cases h1:i=k
 ·subst h1
  rw [if_pos rfl,if_pos (by omega),if_pos (by omega),Nat.sub_self];rfl
 ·rw [if_neg h1]
  by_cases h2:i+1≤k∧k<i+1+ss.length
  ·rw [if_pos h2,if_pos (by omega),show k-i=(k-(i+1))+1 by omega];rfl
  ·rw [if_neg h2,if_neg (by omega)]
theorem rec_after {v:List (List UInt8)} {a:Nat} {gen:Int} {k:Nat} {b:List UInt8} (hk:0<k) (hb:takes b.length≠0) (h:a+takes b.length≤v.length):after v (recD a gen k b)=wr v a (recV gen k b):=by
 unfold recD
 rw [if_pos hk,after_append,bytes_after]
 show (wr v (a+1) (chunks b)).set (a:Int).toNat _=_
 rw [show (a:Int).toNat=a by omega,wr_set (by rw [takes_chunks hb] at h;omega)]
 rfl
theorem recs_after (gen:Int):∀ (l:List (List UInt8)) (v:List (List UInt8)) (a k:Nat),0<k→(∀ b∈l,takes b.length≠0)→a+posN l≤v.length→after v (recsD gen a k l)=wr v a (recsV gen k l)
 | [],_,_,_,_,_,_=>rfl
 | b :: l,v,a,k,hk,hb,h=>by
  rw [posN_cons] at h
  have h0:=hb b (List.mem_cons_self ..)
  simp only [recsD]
  rw [after_append,rec_after hk h0 (by omega),show ((a:Int)+(takes b.length:Nat))=((a+takes b.length:Nat):Int) by omega,
   recs_after gen l _ _ (k+1) (by omega) (fun x hx=>hb x (List.mem_cons_of_mem _ hx)) (by rw [length_wr];omega),recsV,wr_append,length_recV h0]
theorem lay_after {v:List (List UInt8)} {F H:Nat} {gen:Int} {list:List (List UInt8)} (hne:list≠[]) (hb:∀ b∈list,takes b.length≠0) (hn:posN list≤H) (h:F+H≤v.length) (which:Int) (hw:which*H=F) :
  after v (layD H which gen list)=wr (wr v F (List.replicate H zeroS)) F (recsV gen 0 list):=by
 obtain⟨b,l,rfl⟩:∃ b l,list=b :: l:=by cases list with | nil=>exact absurd rfl hne | cons b l=>exact⟨b,l,rfl⟩
 rw [posN_cons] at hn
 have h0:=hb b (List.mem_cons_self ..)
 unfold layD
 rw [hw,after_append,zeros_after,after_append]
 show after (after _ _) _=_
 rw [after_append]
 show after (after (wr v F (List.replicate H zeroS)) _) _=_
 have hL:(wr v F (List.replicate H zeroS)).length=v.length:=length_wr _ _ _
 generalize wr v F (List.replicate H zeroS)=u at hL ⊢
 have e1:after u (recsD gen F 0 (b :: l))=wr u (F+1) (chunks b++recsV gen 1 l):=by
  simp only [recsD]
  rw [after_append]
  unfold recD
  rw [if_neg (Nat.lt_irrefl _),List.append_nil,bytes_after,show ((F:Int)+(takes b.length:Nat))=((F+takes b.length:Nat):Int) by omega,
   recs_after gen l _ _ 1 (by omega) (fun x hx=>hb x (List.mem_cons_of_mem _ hx)) (by rw [length_wr];omega),wr_append,takes_chunks h0,show F+1+(chunks b).length=F+((chunks b).length+1) by omega]
 rw [e1]
 show List.set (wr u (F+1) (chunks b++recsV gen 1 l)) (F:Int).toNat _=_
 have hlen:=length_recsV gen l 1 (fun x hx=>hb x (List.mem_cons_of_mem _ hx))
 rw [show (F:Int).toNat=F by omega,wr_set (by rw [List.length_append,hlen];rw [takes_chunks h0] at hn;omega)]
 rfl
theorem lay_view {v:List (List UInt8)} {F H:Nat} {gen:Int} {list:List (List UInt8)} (hne:list≠[]) (hb:∀ b∈list,takes b.length≠0) (hn:posN list≤H) (h:F+H≤v.length) (which:Int) (hw:which*H=F) :
  hv (after v (layD H which gen list)) F H=recsV gen 0 list++List.replicate (H-posN list) zeroS:=by
 have hlen:=length_recsV gen list 0 hb
 rw [lay_after hne hb hn h which hw,hv_wr (by rw [length_wr];exact h) (Nat.le_refl _) (by omega),hv_wr h (Nat.le_refl _) (by simp),Nat.sub_self]
 have e:wr (hv v F H) 0 (List.replicate H zeroS)=List.replicate H zeroS:=by
  rw [wr_eq (by rw [length_hv h];simp),List.drop_of_length_le (by rw [length_hv h];simp)];simp
 rw [e,wr_eq (by simp;omega),hlen]
 simp
theorem lay_far {v:List (List UInt8)} {F H F':Nat} {gen:Int} {list:List (List UInt8)} (hne:list≠[]) (hb:∀ b∈list,takes b.length≠0) (hn:posN list≤H) (h:F+H≤v.length) (which:Int) (hw:which*H=F) (hf:F+H≤F'∨F'+H≤F) :
  hv (after v (layD H which gen list)) F' H=hv v F' H:=by
 have hlen:=length_recsV gen list 0 hb
 rw [lay_after hne hb hn h which hw,hv_far (by rw [length_wr];omega) (by omega),hv_far (by simp;omega) (by simp;omega)]
theorem app_view {v:List (List UInt8)} {F H:Nat} {gen:Int} {list:List (List UInt8)} {b:List UInt8} (hl:∀ x∈list,takes x.length≠0) (hb:takes b.length≠0) (hn:posN list+takes b.length≤H) (h:F+H≤v.length) (hv0:hv v F H=recsV gen 0 list++List.replicate (H-posN list) zeroS) :
  hv ((wr v (F+posN list+1) (chunks b)).set (F+posN list) (markOf gen list.length b)) F H=recsV gen 0 (list++[b])++List.replicate (H-posN (list++[b])) zeroS:=by
 have hlen:=length_recsV gen list 0 hl
 have hc:=takes_chunks hb
 rw [wr_set (by omega),hv_wr h (by omega) (by simp;omega),hv0,show F+posN list-F=posN list by omega,
  wr_eq (by simp;omega),recsV_append,posN_append,Nat.zero_add]
 rw [List.take_left' hlen,List.drop_append,List.drop_of_length_le (by simp;omega),List.nil_append,List.drop_replicate]
 simp only [recsV,List.append_nil,recV,List.append_assoc,List.cons_append]
 have e1:posN [b]=takes b.length:=by simp [posN]
 rw [hlen,e1]
 congr 4
 simp only [List.length_cons]
 omega
theorem app_far {v:List (List UInt8)} {a F H:Nat} {m:List UInt8} {b:List UInt8} (hl:a+1+(chunks b).length≤v.length) (hf:a+1+(chunks b).length≤F∨F+H≤a) :
  hv ((wr v (a+1) (chunks b)).set a m) F H=hv v F H:=by
 rw [wr_set hl,hv_far (by simp;omega) (by simp;omega)]
end WalP
end
section
namespace WalP
open PackP
theorem num_back (n:Int) (h0:0≤n) (h1:n≤4611686018427387904) (r:List UInt8):RS.num ⟨numB n++r,0⟩=(⟨r,0⟩,n):=by
 have hl:(numB n).length=8:=length_be _ _
 have hc:(clamp n:Int)=n:=by
  unfold clamp
  split
  ·omega
  ·split <;> omega
 have hn:numOf (numB n)=clamp n:=numOf_be 8 _ (Nat.lt_of_le_of_lt (clamp_le n) (by decide))
 have ht:RS.take ⟨numB n++r,0⟩ 8=(⟨r,0⟩,some (numB n)):=by
  unfold RS.take
  simp only [if_true]
  rw [if_neg (by rw [List.length_append,hl];omega),List.drop_left' hl,List.take_left' hl]
 unfold RS.num
 rw [ht]
 simp only [hn]
 rw [if_neg (by have:=clamp_le n;omega),hc]
theorem length_numB (n:Int):(numB n).length=8:=length_be _ _
theorem length_markB (a b c d:Int):(markB a b c d).length=36:=by simp [markB,length_numB]
theorem mark_back (gen k len sum:Int) (g0:1≤gen) (g1:gen≤1099511627776) (k0:0≤k) (k1:k≤1099511627776) (l0:0<takesZ len) (s0:0≤sum) (s1:sum<4294967296) :
  readMark (markS gen k len sum)=(⟨gen,k,len,sum⟩,true):=by
 have hl:1≤len∧len≤6000:=by unfold takesZ at l0;split at l0 <;> omega
 have ep:markS gen k len sum=markB gen k len sum++List.replicate 28 0:=by
  unfold markS pad64
  rw [length_markB,List.take_of_length_le (by rw [length_markB];decide)]
 have e:((markS gen k len sum).drop 4).take 32=numB gen++(numB k++(numB len++numB sum)):=by
  have e1:(markS gen k len sum).drop 4=(numB gen++(numB k++(numB len++numB sum)))++List.replicate 28 0:=by
   rw [ep]
   rfl
  rw [e1]
  exact List.take_left' (by simp [length_numB])
 have n1:=num_back gen (by omega) (by omega) (numB k++(numB len++numB sum))
 have n2:=num_back k (by omega) (by omega) (numB len++numB sum)
 have n3:=num_back len (by omega) (by omega) (numB sum)
 have n4:=num_back sum (by omega) (by omega) []
 rw [List.append_nil] at n4
 have e4:nums4 ⟨numB gen++(numB k++(numB len++numB sum)),0⟩=(⟨gen,k,len,sum⟩,⟨[],0⟩):=by
  simp only [nums4,n1,n2,n3,n4]
 have em:sum%4294967296=sum:=by omega
 unfold readMark
 rw [e]
 simp only [e4,em]
 simp [g0,g1,l0]
theorem markS_head (a b c d:Int):∃ t,markS a b c d=87 :: t:=by
 unfold markS pad64 markB
 exact⟨_,rfl⟩
theorem zero_none:(readMark zeroS).2=false:=by
 have h:∀ a b c d,zeroS≠markS a b c d:=fun a b c d e=>by
  obtain⟨t,ht⟩:=markS_head a b c d
  rw [ht] at e
  have:(0:UInt8)=87:=by
   have:=congrArg (fun l=>l.headD 0) e
   simp [zeroS,List.replicate_succ] at this
  exact absurd this (by decide)
 unfold readMark
 simp only [h,decide_false,Bool.and_false,Bool.false_and]
theorem markOf_back {gen:Int} {k:Nat} {b:List UInt8} (g0:1≤gen) (g1:gen≤1099511627776) (hk:k≤2^40) (hb:takes b.length≠0) :
  readMark (markOf gen k b)=(⟨gen,k,b.length,SumP.toI (SumP.sum b)⟩,true) :=
 mark_back gen k b.length _ g0 g1 (by omega) (by omega) (by rw [takesZ_nat];omega) (SumP.toI_lo _) (SumP.toI_hi _)
theorem recsGo_stop0 {l:List (List UInt8)} {f used:Nat} {list:List (List UInt8)} {gen:Int} (h:used<l.length→(readMark (l.getD used [])).2=false) (hne:list≠[]):recsGo l (f+1) list used gen=(list,used,gen,0):=by
 simp only [recsGo]
 by_cases hu:used<l.length
 ·rw [if_pos hu,if_pos (.inl (h hu)),if_neg hne,if_neg hne]
 ·rw [if_neg hu,if_neg hne]
theorem recsGo_back (gen:Int) (g0:1≤gen) (g1:gen≤1099511627776) (z:List (List UInt8)) (hz:0<z.length→(readMark (z.getD 0 [])).2=false):∀ (rest:List (List UInt8)) (P:List (List UInt8)) (done:List (List UInt8)) (f:Nat) (g:Int),
  (∀ b∈rest,takes b.length≠0)→done.length+rest.length≤2^40→rest.length<f→(done=[]∨g=gen)→done++rest≠[] →
  recsGo (P++(recsV gen done.length rest++z)) f done P.length g=(done++rest,P.length+posN rest,gen,0)
 | [],P,done,f,g,_,_,hf,hg,hne=>by
  rw [List.append_nil] at hne
  obtain⟨f,rfl⟩:∃ f',f=f'+1:=⟨f-1,by simp at hf;omega⟩
  rcases hg with hg | rfl
  ·exact absurd hg hne
  ·rw [recsGo_stop0 (fun h=>?_) hne]
   ·simp [posN]
   ·simp only [recsV,List.nil_append] at h ⊢
    rw [List.length_append] at h
    have e:(P++z).getD P.length []=z.getD 0 []:=by
     rw [List.getD_eq_getElem?_getD,List.getElem?_append_right (Nat.le_refl _),Nat.sub_self,List.getD_eq_getElem?_getD]
    rw [e]
    exact hz (by omega)
 | b :: rest,P,done,f,g,hb,hl,hf,hg,hne=>by
  rw [List.length_cons] at hf hl
  obtain⟨f,rfl⟩:∃ f',f=f'+1:=⟨f-1,by omega⟩
  have h0:=hb b (List.mem_cons_self ..)
  have hc:=takes_chunks h0
  have hm:=markOf_back (gen:=gen) (k:=done.length) (b:=b) g0 g1 (by omega) h0
  have ih:=recsGo_back gen g0 g1 z hz rest (P++recV gen done.length b) (done++[b]) f gen (fun x hx=>hb x (List.mem_cons_of_mem _ hx)) (by simp;omega) (by omega) (.inr rfl) (by simp)
  have eL:(done++[b]).length=done.length+1:=by simp
  have eP:P++recV gen done.length b++(recsV gen (done++[b]).length rest++z)=P++(recsV gen done.length (b :: rest)++z):=by
   rw [eL,recsV];simp only [List.append_assoc]
  have eU:(P++recV gen done.length b).length=P.length+takes b.length:=by rw [List.length_append,length_recV h0]
  rw [eP,eU] at ih
  have e0:(P++(recsV gen done.length (b :: rest)++z)).getD P.length []=markOf gen done.length b:=by
   rw [List.getD_eq_getElem?_getD,List.getElem?_append_right (Nat.le_refl _),Nat.sub_self]
   simp [recsV,recV]
  have hlen:(P++(recsV gen done.length (b :: rest)++z)).length=P.length+(takes b.length+(posN rest+z.length)):=by
   rw [List.length_append,List.length_append,length_recsV gen (b :: rest) _ hb,posN_cons];omega
  have eD:(P++(recsV gen done.length (b :: rest)++z)).drop (P.length+1)=chunks b++(recsV gen (done.length+1) rest++z):=by
   rw [← List.drop_drop,List.drop_left' rfl]
   simp [recsV,recV]
  have eT:((P++(recsV gen done.length (b :: rest)++z)).drop (P.length+1)).take (takes b.length-1)=chunks b:=by
   rw [eD,hc,Nat.add_sub_cancel,List.take_left' rfl]
  have eG:(if done=[] then gen else g)=gen:=by
   rcases hg with hg | hg
   ·rw [if_pos hg]
   ·split
    ·rfl
    ·exact hg
  simp only [recsGo]
  rw [if_pos (by rw [hlen];omega),e0,hm]
  simp only [eG]
  have ez:(takesZ (b.length:Int)).toNat=takes b.length:=by rw [takesZ_nat];omega
  rw [ez,if_neg (by
   rintro (h | h | h | h)
   ·cases h
   ·exact h rfl
   ·exact h rfl
   ·rw [hlen] at h;omega),eT]
  have eB:(chunks b).flatten.take ((b.length:Int)).toNat=b:=by
   rw [show ((b.length:Int)).toNat=b.length by omega]
   exact chunks_back b.length b (Nat.le_refl _)
  rw [eB,if_neg (fun h=>h rfl),ih,posN_cons]
  simp [Nat.add_assoc]
theorem records_back {gen:Int} (g0:1≤gen) (g1:gen≤1099511627776) {list:List (List UInt8)} (hne:list≠[]) (hb:∀ b∈list,takes b.length≠0) (n:Nat) (hl:list.length≤2^40) :
  recordsP (recsV gen 0 list++List.replicate n zeroS)=(list,posN list,gen,0):=by
 unfold recordsP
 have hz:0<(List.replicate n zeroS).length→(readMark ((List.replicate n zeroS).getD 0 [])).2=false:=fun h=>by
  rw [List.length_replicate] at h
  rw [List.getD_eq_getElem?_getD,List.getElem?_replicate,if_pos h]
  exact zero_none
 have hp:list.length≤posN list:=by
  have:∀ l:List (List UInt8),(∀ b∈l,takes b.length≠0)→l.length≤posN l:=fun l=>by
   induction l with
   | nil=>intro _;exact Nat.zero_le _
   | cons b l ih =>
    intro h
    have h0:=h b (List.mem_cons_self ..)
    have:=ih (fun x hx=>h x (List.mem_cons_of_mem _ hx))
    rw [posN_cons,List.length_cons]
    omega
  exact this list hb
 have h:=recsGo_back gen g0 g1 (List.replicate n zeroS) hz list [] [] ((recsV gen 0 list++List.replicate n zeroS).length+1) 0 hb (by simpa using hl) (by rw [List.length_append,length_recsV gen list 0 hb];omega) (.inl rfl) (by simpa using hne)
 simpa using h
theorem len_le_posN:∀ (l:List (List UInt8)),(∀ b∈l,takes b.length≠0)→l.length≤posN l
 | [],_=>Nat.zero_le _
 | b :: l,h=>by
  have h0:=h b (List.mem_cons_self ..)
  have:=len_le_posN l (fun x hx=>h x (List.mem_cons_of_mem _ hx))
  rw [posN_cons,List.length_cons]
  omega
def genV (l:List (List UInt8)):Int:=(recordsP l).2.2.1
theorem recsGo_gen (l:List (List UInt8)):∀ (f:Nat) (list:List (List UInt8)) (used:Nat) (gen:Int),list≠[]→(recsGo l f list used gen).2.2.1=gen
 | 0,list,used,gen,h=>by simp only [recsGo];rw [if_neg h]
 | f+1,list,used,gen,h=>by
  simp only [recsGo,if_neg h]
  split
  ·split
   ·rfl
   ·split
    ·rfl
    ·exact recsGo_gen l f _ _ gen (by simp)
  ·rfl
theorem genV_eq (l:List (List UInt8)):genV l=0∨(0<l.length∧(readMark (l.getD 0 [])).2=true∧genV l=(readMark (l.getD 0 [])).1.gen):=by
 unfold genV recordsP
 simp only [recsGo,if_true]
 by_cases h:0<l.length
 ·rw [if_pos h]
  split
  ·exact .inl rfl
  ·rename_i hc
   have hok:(readMark (l.getD 0 [])).2=true:=by
    cases e:(readMark (l.getD 0 [])).2 with
    | true=>rfl
    | false=>exact absurd (.inl e) hc
   right
   refine⟨h,hok,?_⟩
   split
   ·rfl
   ·exact recsGo_gen l _ _ _ _ (by simp)
 ·rw [if_neg h]
  exact .inl rfl
theorem genV_none {l:List (List UInt8)} (h:0<l.length→(readMark (l.getD 0 [])).2=false):genV l=0:=by
 rcases genV_eq l with h1 | ⟨h1,h2,_⟩
 ·exact h1
 ·rw [h h1] at h2;cases h2
end WalP
end
end Go.Proofs.YtaijompnohkmaaaGreatDoor
