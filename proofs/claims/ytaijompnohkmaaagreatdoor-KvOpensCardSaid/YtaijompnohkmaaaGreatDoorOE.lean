/- Layer 5 (wal): the hand's bytes. -/
import Derived.Test.YtaijompnohkmaaaGreatDoorOD
import Derived.Recover
set_option linter.unusedSimpArgs false
set_option linter.unusedVariables false
namespace Go.Proofs.YtaijompnohkmaaaGreatDoor
section
open Go.RowKit WalP PackP
section
variable {P:Program} {ops:Array Oper} {rest:List Oper} {o:Oper} {a:Act} {w:World} {Q:Exit→Act→World→Prop}
def CopySrc (w:World) (C:List Value) (dp sp:Option Addr) (g off:Nat):Prop :=
 0<C.length→dp=some ⟨g,off,none⟩∧∃ ad,sp=some ad∧∀ j v,C[j]?=some v→w.cell? (ad.add j)=some v
theorem wp_copy_at (hgd:o.guard=none) (d s:Operand) (dT sT:TypeId)
  (ho:o.op = .call { callee:=.builtin .copy,args:=#[d,s],argTypes:=#[dT,sT] }) (elem:TypeId) (hu:P.underlying dT=some (.slice elem)) (hsz:(P.info? elem).map (·.size)=some 1)
  (dp sp:Option Addr) (dLen dCap sLen sCap:Nat) (hd:a.eval d = .slice dp dLen dCap) (hs:a.eval s = .slice sp sLen sCap)
  (g off:Nat) (cur:List Value) (t:TypeId) (hg:w.heap[g]?=some (.cells cur.toArray t (0,0))) (cs:List Value) (hn:cs.length=Nat.min sLen dLen)
  (hpos:CopySrc w cs dp sp g off)
  (hfit:off+cs.length≤cur.length) (h1:∀ v∈cs,v.oneCell'=true)
  (h:∀ w',w'.heap[g]?=some (.cells (splice cur off cs).toArray t (0,0))→Below g w w'→w'.heap.size=w.heap.size→(∀ k,k≠g→w'.heap[k]?=w.heap[k]?)→wpList P ops Q rest (a.put o.dst (goInt cs.length)) w'):wpList P ops Q (o :: rest) a w :=
 wpList_plain hgd fun K hK=>op_copy hgd d s dT sT ho elem hu hsz dp sp dLen dCap sLen sCap hd hs g off cur t hg cs hn hpos hfit h1 fun w' h2 h3 h4 h5=>hK _ _ (h w' h2 h3 h4 h5)
end
theorem below_hand {g:Nat} {w w':World} (h:w.grownBy w' (some g)) (hg:g<w.heap.size):Below g w w':=⟨h.os,h.tape,h.output,h.size,fun k hk=>h.block k (by omega) (fun e=>by cases e;omega)⟩
theorem HandAt.lt {g:Nat} {w:World} {d:DiskP} (h:HandAt g w d):g<w.heap.size:=by obtain⟨_,h,_⟩:=h;exact zB h
theorem pad64_take (b:List UInt8):pad64 (b.take 64)=pad64 b:=by
 unfold pad64
 rw [List.take_take,List.length_take]
 congr 2
 omega
theorem bytesD_succ (at_:Int) (bs:List UInt8) (k:Nat) (hk:k<(bs.length+63) / 64):(bytesD at_ bs).take (k+1)=(bytesD at_ bs).take k++[.put (at_+1+k) (pad64 (bs.drop (64*k)))]:=by
 unfold bytesD
 rw [List.take_add_one,List.getElem?_map,List.getElem?_range hk]
 rfl
theorem bytesD_all (at_:Int) (bs:List UInt8) (k:Nat) (hk:(bs.length+63) / 64≤k):(bytesD at_ bs).take k=bytesD at_ bs:=List.take_of_length_le (by unfold bytesD;simpa using hk)
theorem run_bad (d:DiskP) (xs ys:List Deed) (h:(run d xs).2≠0):run d (xs++ys)=run d xs:=by rw [WalP.run_append,if_neg h]
theorem run_good (d:DiskP) (xs ys:List Deed) (h:(run d xs).2=0):run d (xs++ys)=run (run d xs).1 ys:=by rw [WalP.run_append,if_pos h]
theorem run_fail_at (d d':DiskP) (xs ys:List Deed) (x:Deed) (h:run d xs=(d',0)) (hx:(deed d' x).2≠0):run d ((xs++[x])++ys)=deed d' x:=by
 have h1:run d (xs++[x])=deed d' x:=by rw [run_good d xs [x] (by rw [h]),h,run_one]
 rw [run_bad d _ _ (by rw [h1];exact hx),h1]
theorem Bytes.form {B:Nat} {w:World} {v:Value} {bs:List UInt8} (h:Bytes B w v bs):∃ a c,v = .slice a bs.length c:=by obtain⟨_,a,c,h,_⟩:=h;exact⟨a,c,h⟩
theorem chunk_facts (bs:List UInt8) (k L n:Nat) (hL:L=bs.length-64*k) (hn:n=min L 64) :
  (bs.drop (64*k)).length=L∧((bs.drop (64*k)).take 64).length=n∧((bs.drop (64*k)).drop n).length=bs.length-64*(k+1)∧(bs.drop (64*k)).drop n=bs.drop (64*(k+1))∧n≤L∧n≤64:=by
 have h1:(bs.drop (64*k)).length=L:=by rw [List.length_drop,hL]
 have hd:(bs.drop (64*k)).drop n=bs.drop (64*(k+1)):=by
  by_cases h64:64≤L
  ·have:n=64:=by omega
   rw [this,List.drop_drop];congr 1
  ·rw [List.drop_of_length_le (by omega),List.drop_of_length_le (by omega)]
 exact⟨h1,by rw [List.length_take,h1];omega,by rw [hd,List.length_drop],hd,by omega,by omega⟩
set_option maxRecDepth 100000 in
set_option maxHeartbeats 2000000 in
theorem hbytes_any {g:Nat} (d:DiskP) (at_:Int) (v:Value) (bs:List UInt8) (w:World) (hh:HandAt g w d) (hv:Bytes g w v bs) (hlen:bs.length≤2^20) (ha0:0≤at_) (ha1:at_≤2^40) :
  Calls Tryz.prog 107 #[.pointer (some ⟨g,0,none⟩),.int .i64 at_,v] w fun x w'=>x=hEnd (run d (bytesD at_ bs)).2∧HandAt g w' (run d (bytesD at_ bs)).1∧w.grownBy w' (some g):=by
 obtain⟨z0,hz0,hzr⟩:=zero44
 obtain⟨N,hN⟩:∃ N,N=(bs.length+63) / 64:=⟨_,rfl⟩
 obtain⟨a0,c0,rfl⟩:=hv.form
 have HV:=zh hv
 have HH:=zh hh
 have HN:=zh hN
 have HZ:=zh hzr
 have HZ0:=zh hz0
 clear hv hh hN hzr hz0
 go_enter Tryz.func107,Tryz.ntmps107
 go_wp2_with fail
 go_loopw [1,2] (fun z u wr=>∃ (k:Nat) (dk:DiskP) (a:Option Addr) (c:Nat),k≤N∧z = .int .i64 (at_+k)∧u = .slice a (bs.length-64*k) c∧Bytes g wr (.slice a (bs.length-64*k) c) (bs.drop (64*k))∧HandAt g wr dk∧run d ((bytesD at_ bs).take k)=(dk,0)∧w.grownBy wr (some g)) (fun z u _=>match u with | .slice _ n _=>n | _=>0)
 case atStart=>exact⟨0,d,a0,c0,Nat.zero_le _,by simp,by simp,by simpa using HV.out,HH.out,rfl,only_refl _ _⟩
 case round =>
  obtain⟨k,dk,a,c,hk,rfl,rfl,hb,hh,hr,ho⟩:=hrel
  obtain⟨L,hL⟩:∃ L,L=bs.length-64*k:=⟨_,rfl⟩
  rw [← hL] at hb ⊢
  have hL20:L≤2^20:=by omega
  obtain⟨n,hn⟩:∃ n,n=min L 64:=⟨_,rfl⟩
  obtain⟨hLl,hlc,hdl,hdd,hn1,hn2⟩:=chunk_facts bs k L n hL hn
  have HL:=zh hL
  have HR:=zh hr
  have HO:=zh ho
  clear hr ho
  by_cases hp:0<L
  ·have hkN:k<N:=by have:=HN.out;omega
   obtain⟨zk,hzk⟩:∃ z,z=at_+(k:Int):=⟨_,rfl⟩
   have hz0:0≤zk:=by omega
   have hz1:zk≤2^41:=by have:=HN.out;omega
   rw [← hzk]
   have HZK:=zh hzk
   clear hzk
   clear hL
   obtain⟨w1,hw1⟩:∃ w1,w1=wr.alloc (.cells z0.cells 94):=⟨_,rfl⟩
   have hb1:Below wr.heap.size wr w1:=by rw [hw1];exact Below.alloc (Below.refl _ _) (Nat.le_refl _) _
   have hX1:w1.heap[wr.heap.size]?=some (.cells (u8s zeroS).toArray 94 (0,0)):=by rw [hw1,← HZ0.out];exact heap_alloc_new wr _
   have hg:=hh.lt
   have hbb1:=hb.below (hb1.mono (Nat.le_of_lt hg))
   obtain⟨b,off,rfl,hbg,hcells⟩:∃ b off,a=some ⟨b,off,none⟩∧b<g∧∀ j u,(u8s ((bs.drop (64*k)).take 64))[j]?=some u→w1.cell? ⟨b,off+j,none⟩=some u:=by
    obtain⟨_,a',c',hv,_,_,h4⟩:=hbb1
    cases hv
    obtain⟨b,off,rfl,h5,h6⟩:=h4 hp
    refine⟨b,off,rfl,h5,fun j u hj=>h6 j u ?_⟩
    rw [← u8s_take] at hj
    have hjl:=(List.getElem?_eq_some_iff.1 hj).1
    rw [List.getElem?_take] at hj
    split at hj
    ·exact hj
    ·cases hj
   obtain⟨C,hC⟩:∃ C,C=u8s ((bs.drop (64*k)).take 64):=⟨_,rfl⟩
   rw [← hC] at hcells
   have hCl:C.length=n:=by rw [hC,zL,hlc]
   have hC1:∀ v∈C,v.oneCell'=true:=by rw [hC];exact oneCell_u8s _
   have hcn:C.length=Nat.min L 64:=by rw [hCl,hn]
   have hcp:CopySrc w1 C (some ⟨wr.heap.size,0,none⟩) (some ⟨b,off,none⟩) wr.heap.size 0 :=
    fun _=>⟨rfl,_,rfl,fun j v hj=>by rw [addp];exact hcells j v hj⟩
   have hcf:0+C.length≤(u8s zeroS).length:=by rw [hCl,zL];simpa [zeroS] using hn2
   have HCP:=zh hcp
   have HCF:=zh hcf
   have HC1:=zh hC1
   clear hcp hcf hC1
   have hspl:splice (u8s zeroS) 0 C=u8s (pad64 (bs.drop (64*k))):=by rw [hC,splice_pad _ (by rw [hlc];exact hn2),pad64_take]
   obtain⟨i0,hi,_,hsz,_⟩:=info_parts info_u8
   rw [← hLl] at hbb1
   obtain⟨v2,kv,hv2⟩:=run_slice_from (P:=Tryz.prog) Tryz.underlying23 hi hsz hbb1 n (by rw [hLl];exact hn1)
   rw [hLl] at kv
   obtain⟨a2,c2,rfl⟩:=hv2.form
   rw [hdl] at kv hv2
   rw [hdd] at hv2
   have hW1:=zh hw1
   have HV2:=zh hv2
   have HSP:=zh hspl
   have HX1:=zh hX1
   have HH1:=zh (hh.below hb1)
   have HH0:=zh hh
   have HB0:=zh hb1
   have HCN:=zh hcn
   have HCL:=zh hCl
   have HDL:=zh hdl
   have HDD:=zh hdd
   clear hw1 hv2 hspl hX1 hb1 hbb1 hb hh hcn hCl hdl hdd hC hcells hlc hLl hn
   go_wp2_with (refine wp_alloc_to (w':=w1) 94 rfl rfl (HZ.out _) ?_ ?_;(exact hW1.out);refine Halt.in ?_)
   refine Halt.out ?_
   clear hW1
   go_wp2_with (refine wp_copy_at rfl (.tmp 13) (.tmp 14) 23 23 rfl 5 Tryz.underlying23 info_u8s _ _ 64 64 L c rfl rfl wr.heap.size 0 (u8s zeroS) _ HX1.out C HCN.out HCP.out HCF.out HC1.out ?_;intro w2 hX2 hb2 hs2 ho2;refine Halt.in ?_)
   refine Halt.out ?_
   rw [HCL.out]
   rw [HSP.out] at hX2
   have hb12:Below wr.heap.size wr w2:=HB0.out.trans hb2
   have hh2:=HH0.out.below hb12
   have hlt2:=hh2.lt
   have hv2:=HV2.out.below (hb2.mono (Nat.le_of_lt HH0.out.lt))
   have ho12:=zO HO.out (only_of_below (g:=g) hb12)
   obtain⟨pd,hpd⟩:∃ p,p=pad64 (bs.drop (64*k)):=⟨_,rfl⟩
   have hpl:pd.length=64:=by rw [hpd];exact length_pad64 _
   have kp:=hput_any dk (zk+1) pd w2 hh2 hpl
   rw [← hpd] at hX2
   obtain⟨i44,hi44,hs44⟩:=info44
   have hld:=run_load_big (P:=Tryz.prog) (t:=94) Tryz.underlying94 (.inl ⟨_,_,rfl⟩) hi44 (w:=w2) (b:=wr.heap.size) (off:=0) (cs:=u8s pd) hs44 (by rw [zL,hpl])
    (fun j u hj=>by rw [cR w2 _ (0+j) _ _ _ hX2];simpa using hj)
   obtain⟨X,hX⟩:∃ X,X=(u8s pd).toArray:=⟨_,rfl⟩
   rw [← hX] at hld kp
   have HV3:=zh hv2
   have HO3:=zh ho12
   have HPD:=zh hpd
   clear hb12 hh2 hv2 ho12 hb2 hs2 ho2 hX hX2 hi44 hs44 hpd hpl
   go_wp2_with (refine wp_load_at (.tmp 6) 94 rfl rfl rfl hld ?_;refine Halt.in ?_)
   refine Halt.out ?_
   clear hld
   go_wp2_with fail
   refine kp.mono ?_
   rintro e w3 ⟨rfl,hh3,ho3⟩
   have hdeed:(bytesD at_ bs).take (k+1)=(bytesD at_ bs).take k++[.put (zk+1) pd]:=by
    rw [bytesD_succ at_ bs k (by rw [← HN.out];exact hkN),HPD.out,HZK.out]
    congr 3
    omega
   have HD:=zh hdeed
   have HO4:=zh (zO HO3.out ho3)
   have HV4:=zh (HV3.out.below (below_hand ho3 hlt2))
   clear hdeed
   by_cases he:(deed dk (.put (zk+1) pd)).2=0
   ·have e0:=hEnd0 he
    rw [e0]
    have HH3:=zh hh3
    have HE:=zh he
    clear kp he e0 hh3 ho3
    go_wp2_with fail
    go_roundw
    case rel =>
     refine⟨k+1,(deed dk (.put (zk+1) pd)).1,a2,c2,by omega,by rw [HZK.out];congr 1;omega,rfl,HV4.out,HH3.out,?_,HO4.out⟩
     rw [HD.out,run_good _ _ _ (by rw [HR.out]),HR.out,run_one,← HE.out]
    case measure =>
     show bs.length-64*(k+1)<L
     have:=HL.out
     omega
   ·have e0:=hEnd1 he
    rw [e0]
    have hall:run d (bytesD at_ bs)=deed dk (.put (zk+1) pd):=by
     rw [← List.take_append_drop (k+1) (bytesD at_ bs),HD.out]
     exact run_fail_at d dk _ _ _ HR.out he
    refine⟨rfl,?_⟩
    show _=hEnd (run d (bytesD at_ bs)).2∧HandAt g w3 (run d (bytesD at_ bs)).1∧w.grownBy w3 (some g)
    rw [hall]
    exact⟨e0.symm,hh3,HO4.out⟩
  ·have hkN:N≤k:=by have:=HN.out;have:=HL.out;omega
   obtain rfl:L=0:=by omega
   have hall:=bytesD_all at_ bs k (by rw [← HN.out];exact hkN)
   go_wp2_with fail
   go_end0
   have:=HR.out
   rw [hall] at this
   rw [this]
   exact⟨(hEnd0 rfl).symm,hh,HO.out⟩
end
section
open Go.RowKit WalP PackP
theorem run_build0 (w:World):(Instr.build 94 #[]).run Tryz.prog w = .ok (.agg (u8s zeroS).toArray) w:=by
 obtain⟨z,hz,hzr⟩:=zero44
 obtain⟨i1,hi1,hs1⟩:=Option.map_eq_some_iff.1 (show (Tryz.prog.info? 5).map (fun i=>i.size)=some 1 by kernel_rfl)
 have e4:z.cells≠#[]:=by rw [hz];simp [u8s,zeroS]
 simp [Instr.build,hzr,run_underlying Tryz.underlying94,sizeOf,typeInfo,hi1,hs1,Instr.fill,e4]
 rw [hz]
theorem Pieces.at_ {B:Nat} {w:World} {v:Value} {ls:List (List UInt8)} (h:Pieces B w v ls):∃ a c,v = .slice a ls.length c∧ls.length≤c∧c≤2^63-1∧∀ (k:Nat) (hk:k<ls.length),∃ b off a2 c2,a=some ⟨b,off,none⟩∧b<B∧∀ w',Below B w w'→w'.cell? ⟨b,off+k,none⟩=some (.slice a2 ls[k].length c2)∧Bytes B w' (.slice a2 ls[k].length c2) ls[k]:=by
 obtain⟨vs,⟨h0,a,c,rfl,h1,h2,h3⟩,h4⟩:=h
 refine⟨a,c,rfl,h1,h2,fun k hk=>?_⟩
 obtain⟨b,off,rfl,hb,hc⟩:=h3 (by omega)
 obtain⟨u,hu,hB⟩:=h4 k hk
 obtain⟨a2,c2,rfl⟩:=hB.form
 exact⟨b,off,a2,c2,rfl,hb,fun w' hb'=>⟨(hb'.cell (p:=⟨b,off+k,none⟩) hb).trans (hc k _ hu),hB.below hb'⟩⟩
set_option maxRecDepth 100000 in
set_option maxHeartbeats 4000000 in
theorem hlay_any {g:Nat} (d:DiskP) (which gen:Int) (v:Value) (list:List (List UInt8)) (w:World) (hh:HandAt g w d) (hv:Pieces g w v list) (ht:TabAt w) (hT:1<g)
  (hw0:0≤which*(half d:Nat)) (hw1:which*(half d:Nat)≤2^20) (hl1:∀ b∈list,b.length≤2^20) (hl2:list.length≤2^20) (hl3:list≠[]) :
  Calls Tryz.prog 100 #[.pointer (some ⟨g,0,none⟩),.int .i64 which,.int .i64 gen,v] w fun x w'=>x=hEnd (run d (layD (half d) which gen list)).2∧HandAt g w' (run d (layD (half d) which gen list)).1∧w.grownBy w' (some g):=by
 obtain⟨H,hH⟩:∃ H,H=half d:=⟨_,rfl⟩
 obtain⟨p1,q1,p2,q2,hg,hd,hs⟩:=hh.parts
 have hH2:H≤2^62:=by
  obtain⟨sv,lv,hv',h1,_⟩:=hd
  cases hv'
  obtain⟨_,a',c',hv',hn,hc,_⟩:=h1.2
  cases hv'
  unfold maxLen at hc
  rw [hH];unfold half;omega
 obtain⟨a,c,rfl,hnc,hc63,hat⟩:=hv.at_
 have hlt:=hh.lt
 have k1:=walHalf_any _ d w hd
 rw [← hH] at k1 hw0 hw1 ⊢
 have C0:=cR w _ 0 _ _ _ hg
 have C1:=cR w _ 1 _ _ _ hg
 have C2:=cR w _ 2 _ _ _ hg
 have C3:=cR w _ 3 _ _ _ hg
 have HH:=zh hh
 have HAT:=zh hat
 have HT:=zh ht
 have HL1:=zh hl1
 have HL3:=zh hl3
 have HHH:=zh hH
 have HB0:=fun w=>zh (run_build0 w)
 obtain⟨Z,hZ⟩:∃ Z,Z=(u8s zeroS).toArray:=⟨_,rfl⟩
 simp only [← hZ] at HB0
 have HZ:=zh hZ
 obtain⟨n,hn⟩:∃ n,n=list.length:=⟨_,rfl⟩
 rw [← hn] at hnc hl2 ⊢
 have HN:=zh hn
 clear hh hv hat ht hl1 hl3 hg hd hs hH hZ hn
 go_enter Tryz.func100,Tryz.ntmps100
 go_wp2_with fail
 refine k1.mono ?_
 rintro e w1 ⟨rfl,hb1⟩
 have hh1:=HH.out.below hb1
 obtain⟨p1,q1,p2,q2,hg,hd,hs⟩:=hh1.parts
 clear k1 C0 C1 C2 C3
 have k1:=walHalf_any _ d w1 hd
 rw [← HHH.out] at k1
 have C0:=cR w1 _ 0 _ _ _ hg
 have C1:=cR w1 _ 1 _ _ _ hg
 have C2:=cR w1 _ 2 _ _ _ hg
 have C3:=cR w1 _ 3 _ _ _ hg
 have HH1:=zh hh1
 have HB1:=zh hb1
 clear hh1 hg hd hs hb1
 go_wp2_with fail
 refine k1.mono ?_
 rintro e w2 ⟨rfl,hb2⟩
 have hh2:=HH1.out.below hb2
 have ho2:w.grownBy w2 (some g):=zO (only_of_below HB1.out) (only_of_below hb2)
 have HH2:=zh hh2
 have HO2:=zh ho2
 clear k1 C0 C1 C2 C3 hb2 hh2 ho2
 obtain⟨F,hF⟩:∃ F,F=which*(H:Int):=⟨_,rfl⟩
 go_wp2_with fail
 rw [← hF] at hw0 hw1 ⊢
 have HF:=zh hF
 clear hF
 go_loopw [25] (fun z wr=>∃ (k:Nat) (dk:DiskP),k≤H∧z = .int .i64 k∧HandAt g wr dk∧run d ((zerosD F H).take k)=(dk,0)∧w.grownBy wr (some g)) (fun z _=>H-(intOf z).toNat)
 case atStart=>exact⟨0,d,Nat.zero_le _,rfl,HH2.out,rfl,HO2.out⟩
 case round =>
  obtain⟨k,dk,hk,rfl,hh,hr,ho⟩:=hrel
  have HRN:=zh hr
  have HO:=zh ho
  have HHK:=zh hh
  clear hh hr ho HH2 HO2
  by_cases hkH:k<H
  ·have hsum:IntKind.i64.wrap (F+(k:Int))=F+(k:Int):=by
    simp only [IntKind.wrap,IntKind.bits,IntKind.signed]
    simp
    omega
   have kp:=hput_any dk (F+(k:Int)) zeroS wr HHK.out rfl
   rw [← HZ.out] at kp
   have hb0:=(HB0 wr).out
   go_wp2_with (refine wp_build_l 94 [] rfl rfl rfl hb0 ?_;refine Halt.in ?_)
   refine Halt.out ?_
   clear hb0
   go_wp2_with fail
   refine kp.mono ?_
   rintro e w3 ⟨rfl,hh3,ho3⟩
   have hz:=zerosD_succ F H k hkH
   have HZS:=zh hz
   have HO3:=zh (zO HO.out ho3)
   clear hz
   by_cases he:(deed dk (.put (F+(k:Int)) zeroS)).2=0
   ·have e0:=hEnd0 he
    rw [e0]
    have HH3:=zh hh3
    have HE:=zh he
    clear kp he e0 hh3 ho3
    go_wp2_with fail
    go_roundw
    case rel =>
     refine⟨k+1,(deed dk (.put (F+(k:Int)) zeroS)).1,by omega,by go_num,HH3.out,?_,HO3.out⟩
     rw [HZS.out,run_good2 HRN.out,run_one,← HE.out]
    case measure=>simp [intOf];omega
   ·have e0:=hEnd1 he
    rw [e0]
    have hall:run d (layD H which gen list)=deed dk (.put (F+(k:Int)) zeroS):=by
     rw [← run_one] at he ⊢
     obtain⟨r,hr⟩:=layA_pre H which gen list 0
     rw [layA_zero,← HF.out] at hr
     refine run_split (xs:=(zerosD F H).take k) (r:=(zerosD F H).drop (k+1)++([.flush]++r)) ?_ HRN.out he
     rw [hr,← List.append_assoc ((zerosD F H).take k),← HZS.out,← List.append_assoc,List.take_append_drop,List.append_assoc]
    refine⟨rfl,?_⟩
    show _=hEnd (run d (layD H which gen list)).2∧HandAt g w3 (run d (layD H which gen list)).1∧w.grownBy w3 (some g)
    rw [hall]
    exact⟨e0.symm,hh3,HO3.out⟩
  ·obtain rfl:k=H:=by omega
   have kf:=hflush_any dk wr HHK.out
   go_wp2_with fail
   refine kf.mono ?_
   rintro e w3 ⟨rfl,hh3,ho3⟩
   have HO3:=zh (zO HO.out ho3)
   have hz:run d (zerosD F k)=(dk,0):=by
    have:=HRN.out
    rwa [zerosD_all F k k (Nat.le_refl _)] at this
   have HZD:=zh hz
   clear hz
   by_cases he:(deed dk .flush).2=0
   ·have e0:=hEnd0 he
    rw [e0]
    have HH3:=zh hh3
    have HE:=zh he
    clear kf he e0 hh3 ho3
    go_wp2_with fail
    go_loopw [40,10] (fun z y wr=>∃ (i:Nat) (di:DiskP),i≤n∧z = .int .i64 i∧y = .int .i64 (F+posN (list.take i))∧HandAt g wr di∧run d (layA F k gen list i)=(di,0)∧w.grownBy wr (some g)) (fun z _ _=>n-(intOf z).toNat)
    case atStart =>
     refine⟨0,(deed dk .flush).1,Nat.zero_le _,rfl,by simp [posN],HH3.out,?_,HO3.out⟩
     rw [layA_zero,run_good2 HZD.out,run_one,← HE.out]
    case round =>
     obtain⟨i,di,hi,rfl,rfl,hh,hr,ho⟩:=hrel
     have HRI:=zh hr
     have HOI:=zh ho
     have HHI:=zh hh
     have hbg:=below_hand ho hlt
     have hpl:=posN_le (list.take i)
     have hpl2:(list.take i).length≤i:=List.length_take_le _ _
     obtain⟨ps,hps⟩:∃ ps,ps=posN (list.take i):=⟨_,rfl⟩
     rw [← hps] at hpl ⊢
     have HPS:=zh hps
     clear hh hr ho HH3 HO3 HHK HO hps
     by_cases hin:i<n
     ·have hil:i<list.length:=HN.out▸hin
      obtain⟨b,off,a2,c2,rfl,hbg2,hcell⟩:=HAT.out i hil
      obtain⟨hE,hBy⟩:=hcell wr hbg
      have hbl:=HL1.out _ (List.getElem_mem hil)
      obtain⟨bl,hbe⟩:∃ bl,bl=list[i]:=⟨_,rfl⟩
      rw [← hbe] at hE hBy hbl
      have HBE:=zh hbe
      obtain⟨at_,hate⟩:∃ z,z=F+(ps:Int):=⟨_,rfl⟩
      have hat0:0≤at_:=by omega
      have hat1:at_≤2^30:=by omega
      rw [← hate]
      have HATE:=zh hate
      have kb:=hbytes_any di at_ _ bl wr HHI.out hBy hbl hat0 (by omega)
      have HBY:=zh hBy
      have hstep:layA F k gen list (i+1)=layA F k gen list i++recD at_ gen i bl:=by
       rw [layA_succ F k gen list i hil,HATE.out,HPS.out,HBE.out]
      have HSTEP:=zh hstep
      have hpos:(F+(posN (list.take (i+1)):Nat):Int)=at_+(takes bl.length:Nat):=by
       have e:list.take (i+1)=list.take i++[list[i]]:=by rw [List.take_add_one,List.getElem?_eq_getElem hil];rfl
       rw [e,posN_append,HATE.out,HPS.out,HBE.out]
       simp [posN]
       omega
      have HPOS:=zh hpos
      have hi0:(0:Int)≤(i:Int):=by omega
      have hi1:(i:Int)<(n:Int):=by omega
      have htk:=takes_le bl.length
      clear hcell hBy hbe hate hstep hpos
      go_wp2_with fail
      refine kb.mono ?_
      rintro e w3 ⟨rfl,hh3,ho3⟩
      have HO3:=zh (zO HOI.out ho3)
      have hbg3:=below_hand ho3 HHI.out.lt
      by_cases he:(run di (bytesD at_ bl)).2=0
      ·have e0:=hEnd0 he
       rw [e0]
       have HH3:=zh hh3
       have HR3:=zh (run_ok he)
       have HB3:=zh (HBY.out.below hbg3)
       have HT3:=zh (HT.out.below (below_hand HO3.out hlt) hT)
       have kt:=fun w=>takes_any (bl.length:Int) w
       simp only [takesZ_nat] at kt
       clear kb he e0 hh3 ho3 hbg3
       by_cases hi0':i=0
       ·subst hi0'
        obtain⟨dn,hdn⟩:∃ dn,dn=(run di (bytesD at_ bl)).1:=⟨_,rfl⟩
        have HRNN:=zh (show run d (layA F k gen list (0+1))=(dn,0) by
         rw [HSTEP.out,run_good2 HRI.out,recD,if_neg (Nat.lt_irrefl 0),List.append_nil,HR3.out,← hdn])
        have HHN:=zh (show HandAt g w3 dn by rw [hdn];exact HH3.out)
        have HON:=HO3
        have kt:=kt w3
        clear hdn
        go_wp2_with fail
        refine kt.mono ?_
        rintro e w9 ⟨rfl,rfl⟩
        clear kt
        go_wp2_with fail
        go_roundw
        case rel=>exact⟨0+1,dn,by omega,by go_num,by rw [HPOS.out],HHN.out,HRNN.out,HON.out⟩
        case measure=>simp [intOf];omega
       ·have hi2:decide ((0:Int)<(i:Int))=true:=by simp;omega
        have hw3:=HH3.out.lt
        have ko:=of_any gen (i:Int) _ bl w3 HT3.out (by omega) HB3.out
        go_wp2_with fail
        refine ko.mono ?_
        rintro e w4 ⟨rfl,hb4⟩
        have ks:=sector_any gen (i:Int) (bl.length:Int) (SumP.toI (SumP.sum bl)) w4 (SumP.toI_lo _) (SumP.toI_hi _)
        clear ko
        go_wp2_with fail
        refine ks.mono ?_
        rintro e w5 ⟨rfl,hb5⟩
        have hb35:Below w3.heap.size w3 w5:=hb4.trans (hb5.mono hb4.size)
        have hh5:=HH3.out.below hb35
        have kp:=hput_any (run di (bytesD at_ bl)).1 at_ (markS gen (i:Int) (bl.length:Int) (SumP.toI (SumP.sum bl))) w5 hh5 (length_markS _ _ _ _)
        have HO5:=zh (zO HO3.out (only_of_below hb35))
        clear ks hb4 hb5 hb35 hh5
        go_wp2_with fail
        refine kp.mono ?_
        rintro e w6 ⟨rfl,hh6,ho6⟩
        have HO6:=zh (zO HO5.out ho6)
        have hrec:recD at_ gen i bl=bytesD at_ bl++[.put at_ (markS gen (i:Int) (bl.length:Int) (SumP.toI (SumP.sum bl)))]:=by
         rw [recD,if_pos (by omega)];rfl
        have HREC:=zh hrec
        clear hrec
        by_cases he:(deed (run di (bytesD at_ bl)).1 (.put at_ (markS gen (i:Int) (bl.length:Int) (SumP.toI (SumP.sum bl))))).2=0
        ·have e0:=hEnd0 he
         rw [e0]
         obtain⟨dn,hdn⟩:∃ dn,dn=(deed (run di (bytesD at_ bl)).1 (.put at_ (markS gen (i:Int) (bl.length:Int) (SumP.toI (SumP.sum bl))))).1:=⟨_,rfl⟩
         have HRNN:=zh (show run d (layA F k gen list (i+1))=(dn,0) by
          rw [HSTEP.out,run_good2 HRI.out,HREC.out,run_good2 HR3.out,run_one,hdn,← he])
         have HHN:=zh (show HandAt g w6 dn by rw [hdn];exact hh6)
         have HON:=HO6
         have kt:=kt w6
         clear kp he e0 hh6 ho6 hdn
         go_wp2_with fail
         refine kt.mono ?_
         rintro e w9 ⟨rfl,rfl⟩
         clear kt
         go_wp2_with fail
         go_roundw
         case rel=>exact⟨i+1,dn,by omega,by go_num,by rw [HPOS.out],HHN.out,HRNN.out,HON.out⟩
         case measure=>simp [intOf];omega
        ·have e0:=hEnd1 he
         rw [e0]
         have hall:run d (layD k which gen list)=deed (run di (bytesD at_ bl)).1 (.put at_ (markS gen (i:Int) (bl.length:Int) (SumP.toI (SumP.sum bl)))):=by
          rw [← run_one] at he ⊢
          obtain⟨r,hr⟩:=layA_pre k which gen list (i+1)
          rw [← HF.out,HSTEP.out,HREC.out] at hr
          refine run_split (xs:=layA F k gen list i++bytesD at_ bl) (r:=r) (by rw [hr];simp only [List.append_assoc]) ?_ he
          rw [run_good2 HRI.out];exact HR3.out
         refine⟨rfl,?_⟩
         show _=hEnd (run d (layD k which gen list)).2∧HandAt g w6 (run d (layD k which gen list)).1∧w.grownBy w6 (some g)
         rw [hall]
         exact⟨e0.symm,hh6,HO6.out⟩
      ·have e0:=hEnd1 he
       rw [e0]
       have hall:run d (layD k which gen list)=run di (bytesD at_ bl):=by
        obtain⟨r,hr⟩:=layA_pre k which gen list (i+1)
        rw [← HF.out,HSTEP.out,recD] at hr
        exact run_split (ys:=bytesD at_ bl) (by rw [hr];simp only [List.append_assoc];rfl) HRI.out he
       refine⟨rfl,?_⟩
       show _=hEnd (run d (layD k which gen list)).2∧HandAt g w3 (run d (layD k which gen list)).1∧w.grownBy w3 (some g)
       rw [hall]
       exact⟨e0.symm,hh3,HO3.out⟩
     ·obtain rfl:i=n:=by omega
      have hr:run d (layA F k gen list list.length)=(di,0):=by rw [← HN.out];exact HRI.out
      have HRA:=zh hr
      have kf:=hflush_any di wr HHI.out
      have hn0:0<i:=by
       rw [HN.out]
       exact List.length_pos_iff.2 HL3.out
      have hil:0<list.length:=HN.out▸hn0
      obtain⟨b,off,a2,c2,rfl,hbg2,hcell⟩:=HAT.out 0 hil
      have HCELL:=zh hcell
      have hhead:list.headD []=list[0]:=by cases list with | nil=>simp at hil | cons x l=>rfl
      have heq:=layD_eq k which gen list
      rw [← HF.out,hhead] at heq
      obtain⟨bl,hbe⟩:∃ bl,bl=list[0]:=⟨_,rfl⟩
      rw [← hbe] at heq
      have HBE:=zh hbe
      have HEQ:=zh heq
      have hi1:(0:Int)<(i:Int):=by omega
      clear hr hcell hhead heq hbe
      go_wp2_with fail
      refine kf.mono ?_
      rintro e w3 ⟨rfl,hh3,ho3⟩
      have HO3:=zh (zO HOI.out ho3)
      by_cases he:(deed di .flush).2=0
      ·have e0:=hEnd0 he
       rw [e0]
       have HH3:=zh hh3
       have HE3:=zh he
       have hbg3:=below_hand HO3.out hlt
       obtain⟨hE,hBy⟩:=HCELL.out w3 hbg3
       rw [Nat.add_zero] at hE
       rw [← HBE.out] at hE hBy
       have HT3:=HT.out.below hbg3 hT
       have hw3:=HH3.out.lt
       have ko:=of_any gen 0 _ bl w3 HT3 (by omega) hBy
       clear kf he e0 hh3 ho3 hbg3 hBy HT3
       go_wp2_with fail
       refine ko.mono ?_
       rintro e w4 ⟨rfl,hb4⟩
       have ks:=sector_any gen 0 (bl.length:Int) (SumP.toI (SumP.sum bl)) w4 (SumP.toI_lo _) (SumP.toI_hi _)
       clear ko hE
       go_wp2_with fail
       refine ks.mono ?_
       rintro e w5 ⟨rfl,hb5⟩
       have hb35:Below w3.heap.size w3 w5:=hb4.trans (hb5.mono hb4.size)
       have hh5:=HH3.out.below hb35
       obtain⟨d3,hd3⟩:∃ d3,d3=(deed di .flush).1:=⟨_,rfl⟩
       rw [← hd3] at hh5
       have HR3:=zh (show run d (layA F k gen list list.length++[.flush])=(d3,0) by rw [run_good2 HRA.out,run_one,hd3,← HE3.out])
       have kp:=hput_any d3 F (markS gen 0 (bl.length:Int) (SumP.toI (SumP.sum bl))) w5 hh5 (length_markS _ _ _ _)
       have HO5:=zh (zO HO3.out (only_of_below hb35))
       clear ks hb4 hb5 hb35 hh5 hd3
       go_wp2_with fail
       refine kp.mono ?_
       rintro e w6 ⟨rfl,hh6,ho6⟩
       have HO6:=zh (zO HO5.out ho6)
       by_cases he:(deed d3 (.put F (markS gen 0 (bl.length:Int) (SumP.toI (SumP.sum bl))))).2=0
       ·have e0:=hEnd0 he
        rw [e0]
        obtain⟨d6,hd6⟩:∃ d6,d6=(deed d3 (.put F (markS gen 0 (bl.length:Int) (SumP.toI (SumP.sum bl))))).1:=⟨_,rfl⟩
        rw [← hd6] at hh6
        have HH6:=zh hh6
        have HR6:=zh (show run d ((layA F k gen list list.length++[.flush])++[.put F (markOf gen 0 bl)])=(d6,0) by
         rw [run_good2 HR3.out,run_one,hd6];exact Prod.ext rfl he)
        have kf:=hflush_any d6 w6 hh6
        clear kp he e0 hh6 ho6 hd6
        go_wp2_with fail
        refine kf.mono ?_
        rintro e w7 ⟨rfl,hh7,ho7⟩
        have HO7:=zh (zO HO6.out ho7)
        have hall:run d (layD k which gen list)=deed d6 .flush:=by
         rw [HEQ.out,← run_one,← run_good2 HR6.out]
         simp only [List.append_assoc]
         rfl
        have HALL:=zh hall
        clear hall
        by_cases he:(deed d6 .flush).2=0
        ·have e0:=hEnd0 he
         rw [e0]
         have HH7:=zh hh7
         have HE0:=zh e0
         clear kf he e0 hh7 ho7
         go_wp2_with fail
         go_end0
         rw [HALL.out]
         exact⟨HE0.out.symm,HH7.out,HO7.out⟩
        ·have e0:=hEnd1 he
         rw [e0]
         refine⟨rfl,?_⟩
         show _=hEnd (run d (layD k which gen list)).2∧HandAt g w7 (run d (layD k which gen list)).1∧w.grownBy w7 (some g)
         rw [HALL.out]
         exact⟨e0.symm,hh7,HO7.out⟩
       ·have e0:=hEnd1 he
        rw [e0]
        have hall:run d (layD k which gen list)=deed d3 (.put F (markS gen 0 (bl.length:Int) (SumP.toI (SumP.sum bl)))):=by
         rw [← run_one] at he ⊢
         exact run_split (ys:=[.put F (markOf gen 0 bl)]) (r:=[.flush]) (by rw [HEQ.out];simp only [List.append_assoc];rfl) HR3.out he
        refine⟨rfl,?_⟩
        show _=hEnd (run d (layD k which gen list)).2∧HandAt g w6 (run d (layD k which gen list)).1∧w.grownBy w6 (some g)
        rw [hall]
        exact⟨e0.symm,hh6,HO6.out⟩
      ·have e0:=hEnd1 he
       rw [e0]
       have hall:run d (layD k which gen list)=deed di .flush:=by
        rw [← run_one] at he ⊢
        exact run_split (ys:=[.flush]) (r:=[.put F (markOf gen 0 bl),.flush]) (by rw [HEQ.out];rfl) HRA.out he
       refine⟨rfl,?_⟩
       show _=hEnd (run d (layD k which gen list)).2∧HandAt g w3 (run d (layD k which gen list)).1∧w.grownBy w3 (some g)
       rw [hall]
       exact⟨e0.symm,hh3,HO3.out⟩
   ·have e0:=hEnd1 he
    rw [e0]
    have hall:run d (layD k which gen list)=deed dk .flush:=by
     rw [← run_one] at he ⊢
     obtain⟨r,hr⟩:=layA_pre k which gen list 0
     rw [layA_zero,← HF.out] at hr
     exact run_split (r:=r) (by rw [hr,List.append_assoc]) HZD.out he
    refine⟨rfl,?_⟩
    show _=hEnd (run d (layD k which gen list)).2∧HandAt g w3 (run d (layD k which gen list)).1∧w.grownBy w3 (some g)
    rw [hall]
    exact⟨e0.symm,hh3,HO3.out⟩
end
section
open Go.RowKit WalP PackP
theorem assert_errno (e:Int) (w:World):(Instr.typeAssert (.iface 26 (.int .i64 e)) 20 26 true).run Tryz.prog w = .ok (.tuple #[.int .i64 e,.bool true]) w:=by kernel_rfl
set_option maxRecDepth 100000 in
set_option maxHeartbeats 1000000 in
theorem caught_panicking (p:Addr) (e x:Int) (older:List PanicEntry) (w:World) (hc:w.cell? p=some (.int .i64 x)) (hz:w.frozen? p=false) :
  CallsD Tryz.prog 140 #[.pointer (some p)] (.panicking ({ v:=.iface 26 (.int .i64 e),recovered:=false } :: older)) w fun x u' w' =>
   x = .returned (.tuple #[])∧u' = .panicking ({ v:=.iface 26 (.int .i64 e),recovered:=true } :: older)∧w'=w.setCell p (.int .i64 e):=by
 refine callsD_of_wpS Tryz.func140 rfl fun c₀ cs hu=>?_
 apply wpS_seq
 apply wpS_region
 simp [wpOpsS,go_sem,recoverD,hu,Tryz.ntmps140,Exit.thenS]
 refine wpS_of_wp ?_
 have hta:=assert_errno
 go_wp2_with fail
 exact⟨rfl,_,rfl,.tuple #[],by simp [results,Tryz.results140],rfl,rfl,rfl⟩
theorem caught_idle (p:Addr) (w:World) :
  CallsD Tryz.prog 140 #[.pointer (some p)] .returning w fun e u' w'=>e = .returned (.tuple #[])∧u' = .returning∧w'=w:=by
 refine callsD_of_wpS Tryz.func140 rfl fun c₀ cs hu=>?_
 apply wpS_seq
 apply wpS_region
 simp [wpOpsS,go_sem,recoverD,hu,Tryz.ntmps140,Exit.thenS]
 refine wpS_of_wp ?_
 go_wp2_with fail
 cases c₀
 simp_all [bodyPostS,results,Tryz.results140]
def Wrote (g:Nat) (pe:Addr) (r:DiskP×Int) (w w':World):Prop:=∃ w'',w.grownBy w'' (some g)∧HandAt g w'' r.1∧w'=if r.2=0 then w'' else w''.setCell pe (.int .i64 r.2)
set_option maxRecDepth 100000 in
set_option maxHeartbeats 1000000 in
theorem write1_any {g N:Nat} (caps:Array Value) (pe pd ph:Addr) (r:DiskP×Int) (w:World) (he:w.cell? pe=some (.int .i64 0)) (hz:w.frozen? pe=false) (hpe:pe.block≠g) (hpl:pe.block<w.heap.size)
  (hd:w.cell? pd=some (.func (.func N) #[] caps)) (hp:w.cell? ph=some (.pointer (some ⟨g,0,none⟩)))
  (hcf:∀ args w,(callFunc N args).run Tryz.prog w = .ok (.enter N args) w)
  (hdo:Calls Tryz.prog N (#[.pointer (some ⟨g,0,none⟩)]++caps) w fun x w'=>x=hEnd r.2∧HandAt g w' r.1∧w.grownBy w' (some g)) :
  Calls Tryz.prog 139 #[.pointer (some pe),.pointer (some pd),.pointer (some ph)] w fun x w'=>x = .returned (.tuple #[])∧Wrote g pe r w w':=by
 go_enter_defers Tryz.func139,Tryz.ntmps139
 go_wp2_with fail
 refine hdo.mono ?_
 rintro x w2 ⟨rfl,hh,ho⟩
 have hpb:=ho.block pe.block hpl (fun e=>hpe (Option.some.inj e))
 have he2:w2.cell? pe=some (.int .i64 0):=by
  rw [← he];unfold World.cell?;rw [hpb]
 have hz2:w2.frozen? pe=false:=by
  rw [← hz];unfold World.frozen?;rw [hpb]
 by_cases h0:r.2=0
 ·have e0:=hEnd0 h0
  rw [e0]
  have H0:=zh h0
  clear hdo he hz hd hp e0 h0 he2 hz2 hpb
  go_wp2_with fail
  refine leaves_cons (f:=140) (args:=#[.pointer (some pe)]) (by simp) (by simp [go_sem]) ?_
  refine (caught_idle pe _).mono ?_
  rintro e u' w3 ⟨rfl,rfl,rfl⟩
  simp [Leaves,settle,results,Tryz.results139]
  exact⟨_,ho,hh,by rw [if_pos H0.out]⟩
 ·have e0:=hEnd1 h0
  rw [e0]
  refine leaves_cons (f:=140) (args:=#[.pointer (some pe)]) (by simp) (by simp [go_sem]) ?_
  refine (caught_panicking pe r.2 0 [] _ he2 hz2).mono ?_
  rintro e u' w3 ⟨rfl,rfl,rfl⟩
  simp [Leaves,settle,results,Tryz.results139]
  exact⟨_,ho,hh,by rw [if_neg h0]⟩
end
section
open Go.RowKit WalP PackP
theorem DiskV.slFar {B T:Nat} {w:World} {v:Value} {d:DiskP} {C:Array Value} {e:TypeId} {fz:Nat×Nat} (h:DiskV B w v d) (hT:w.heap[T]?=some (.cells C e fz)) (hC:C.size<64):DSl (·≠T) v:=by
 have one:∀ {sz n:Nat} {cs:List Value} {u:Value},64≤sz→Row B w u sz n cs→Sl (·≠T) u:=fun {sz n cs u} hsz h=>by
  obtain⟨hl,a,cap,rfl,_,_,h3⟩:=h
  intro a' n' c' hv hp
  cases hv
  obtain⟨b,off,hb,_,hc⟩:=h3 hp
  cases hb
  intro hbT
  have hbT:b=T:=hbT
  subst hbT
  have h1:63<cs.length:=by
   rw [hl]
   calc 63<1*64:=by decide
    _≤n*sz:=Nat.mul_le_mul hp hsz
  have h2:=hc 63 _ (List.getElem?_eq_getElem h1)
  rw [cR w b (off+63) _ _ _ hT] at h2
  have:=(Array.getElem?_eq_some_iff.1 h2).1
  omega
 obtain⟨sv,lv,rfl,h1,h2⟩:=h
 exact DSl.mk (one (by omega) h1.2) (one (by omega) h2.2)
theorem makeFunc_run (fn:Fn) (first caps:Array Value) (w:World):(Instr.makeFunc fn first caps).run Tryz.prog w = .ok (.func fn first caps) w:=rfl
theorem alloc_heap (w:World) (o:Obj) (i:Nat):(w.alloc o).heap[i]?=if i=w.heap.size then some o else w.heap[i]?:=by
 show (w.heap.push o)[i]?=_
 rw [Array.getElem?_push]
theorem alloc_size (w:World) (o:Obj):(w.alloc o).heap.size=w.heap.size+1:=by simp
theorem six (w:World) (o0 o1 o2 o3 o4 o5:Obj):∃ w6,w6=(((((w.alloc o0).alloc o1).alloc o2).alloc o3).alloc o4).alloc o5∧Below w.heap.size w w6∧w6.heap.size=w.heap.size+6∧w6.heap[w.heap.size+1]?=some o1∧w6.heap[w.heap.size+1+1]?=some o2∧w6.heap[w.heap.size+1+1+1]?=some o3∧w6.heap[w.heap.size+1+1+1+1]?=some o4∧w6.heap[w.heap.size+1+1+1+1+1]?=some o5:=by
 refine⟨_,rfl,Below.alloc (Below.alloc (Below.alloc (Below.alloc (Below.alloc (Below.alloc (Below.refl _ _) (Nat.le_refl _) _) (by simp) _) (by simp;omega) _) (by simp;omega) _) (by simp;omega) _) (by simp;omega) _,by simp,?_,?_,?_,?_,?_⟩
 all_goals
  simp only [alloc_heap,alloc_size]
  repeat (first | rw [if_pos trivial] | rw [if_neg (by omega)])
def Rows3 (a b c:Nat) (x y z:Obj) (w:World):Prop:=w.heap[a]?=some x∧w.heap[b]?=some y∧w.heap[c]?=some z
set_option maxRecDepth 100000 in
set_option maxHeartbeats 2000000 in
theorem write_any {B N:Nat} (v:Value) (caps:Array Value) (d:DiskP) (r:DiskP×Int) (w:World) (hd:DiskV B w v d)
  (hcf:∀ args w,(callFunc N args).run Tryz.prog w = .ok (.enter N args) w)
  (hdo:∀ (g:Nat) (w':World),Below w.heap.size w w'→HandAt g w' d→w.heap.size≤g→Calls Tryz.prog N (#[.pointer (some ⟨g,0,none⟩)]++caps) w' fun x w''=>x=hEnd r.2∧HandAt g w'' r.1∧w'.grownBy w'' (some g)) :
  Calls Tryz.prog 97 #[v,.func (.func N) #[] caps] w fun e w'=>(∃ v',e = .returned (.tuple #[v',.int .i64 r.2])∧DiskV w'.heap.size w' v' r.1)∧Below w.heap.size w w':=by
 have hd:=hd.tight
 obtain⟨p1,q1,p2,q2,rfl,_,_⟩:=hd.parts
 have HD:=zh hd
 have HDO:=zh hdo
 have hmf:=makeFunc_run
 clear hd hdo
 go_enter Tryz.func97,Tryz.ntmps97
 go_upto_region 2 with (fail)
 obtain⟨w6,hw6,hb6,hs6,R1,R2,R3,R4,R5⟩:=six w (.cells #[.slice p1 d.secs.length q1,.slice p2 d.loose.length q2,.int .i64 d.fuse,.bool d.down] 38) (.cells #[.func (.func N) #[] caps] 137) (.cells #[.slice none 0 0,.slice none 0 0,.int .i64 0,.bool false] 38) (.cells #[.int .i64 0] 26) (.cells #[.slice p1 d.secs.length q1,.slice p2 d.loose.length q2,.int .i64 d.fuse,.bool d.down] 174) (.cells #[.pointer (some ⟨w.heap.size+1+1+1+1,0,none⟩)] 134)
 rw [← hw6]
 clear hw6
 have hd6:=(HD.out.below hb6).tight
 have hh6:HandAt (w.heap.size+1+1+1+1) w6 d:=⟨_,R4,hd6,hd6.slFar R4 (by simp)⟩
 have k1:=write1_any (g:=w.heap.size+1+1+1+1) (N:=N) caps ⟨w.heap.size+1+1+1,0,none⟩ ⟨w.heap.size+1,0,none⟩ ⟨w.heap.size+1+1+1+1+1,0,none⟩ r w6
  (cR w6 _ 0 _ _ _ R3) (zF R3 0) (by show w.heap.size+1+1+1≠_;omega) (by show w.heap.size+1+1+1<_;omega) (cR w6 _ 0 _ _ _ R1) (cR w6 _ 0 _ _ _ R5) hcf (HDO.out _ _ hb6 hh6 (by omega))
 have HR2:=zh R2
 have HR3:=zh R3
 have HR5:=zh R5
 have HS6:=zh hs6
 have HB6:=zh hb6
 clear hd6 hh6 R1 R2 R3 R4 R5 hs6 hb6
 go_wp2_with fail
 refine k1.mono ?_
 rintro e w7 ⟨rfl,w8,ho8,hh8,hw7⟩
 clear k1
 obtain⟨x1,y1,x2,y2,G8,hd8,hs8⟩:=hh8.parts
 have hsz:=HS6.out
 have hsz8:=ho8.size
 have E3:=(ho8.block (w.heap.size+1+1+1) (by omega) (fun h=>by have:=Option.some.inj h;omega)).trans HR3.out
 have E2:=(ho8.block (w.heap.size+1+1) (by omega) (fun h=>by have:=Option.some.inj h;omega)).trans HR2.out
 have E5:=(ho8.block (w.heap.size+1+1+1+1+1) (by omega) (fun h=>by have:=Option.some.inj h;omega)).trans HR5.out
 have hb8:Below w.heap.size w w8:=HB6.out.trans ⟨ho8.os,ho8.tape,ho8.output,ho8.size,fun k hk=>ho8.block k (by omega) (fun h=>by have:=Option.some.inj h;omega)⟩
 have H7:w7.heap[w.heap.size+1+1+1+1]?=w8.heap[w.heap.size+1+1+1+1]?∧w7.heap[w.heap.size+1+1]?=w8.heap[w.heap.size+1+1]?∧w7.heap[w.heap.size+1+1+1+1+1]?=w8.heap[w.heap.size+1+1+1+1+1]?∧w7.heap[w.heap.size+1+1+1]?=some (.cells #[.int .i64 r.2] 26 (0,0))∧Below w.heap.size w8 w7∧DiskV w7.heap.size w7 (.agg #[.slice x1 r.1.secs.length y1,.slice x2 r.1.loose.length y2,.int .i64 r.1.fuse,.bool r.1.down]) r.1:=by
  rw [hw7]
  split
  ·rename_i h0
   exact⟨rfl,rfl,rfl,by rw [h0];exact E3,Below.refl _ _,hd8⟩
  ·have hf:=hd8.slFar E3 (by simp)
   refine⟨setFar (by omega) _ _,setFar (by omega) _ _,setFar (by omega) _ _,?_,(Below.refl _ _).setCell (by show w.heap.size≤w.heap.size+1+1+1;omega) _,?_⟩
   ·simp [World.setCell,Array.getElem?_modify,E3]
   ·have:=hd8.setFar (p:=⟨w.heap.size+1+1+1,0,none⟩) hf (.int .i64 r.2)
    simpa [World.setCell] using this
 obtain⟨q1',q2',q3',q4',q5',q6'⟩:=H7
 have G7:=q1'.trans G8
 have F2:=q2'.trans E2
 have F5:=q3'.trans E5
 have HB7:=zh (hb8.trans q5')
 have HD7:=zh q6'
 clear q1' q2' q3' q5' q6' E2 E3 E5 hd8 hs8 hb8 ho8 hw7 hh8 HR2 HR3 HR5 HB6 G8
 have hsz7:w.heap.size+6≤w7.heap.size:=by have:=zB F5;omega
 have O0:=cR w7 _ 0 _ _ _ F2
 have O1:=cR w7 _ 1 _ _ _ F2
 have O2:=cR w7 _ 2 _ _ _ F2
 have O3:=cR w7 _ 3 _ _ _ F2
 have Z2:=zF F2
 have Z3:=zF q4'
 go_wp2_with fail
 have hC:∀ w':World,(w'.heap[w.heap.size+1+1+1+1]?=some (.cells #[.slice x1 r.1.secs.length y1,.slice x2 r.1.loose.length y2,.int .i64 r.1.fuse,.bool r.1.down] 174 (0,0))∧w'.heap[w.heap.size+1+1+1+1+1]?=some (.cells #[.pointer (some ⟨w.heap.size+1+1+1+1,0,none⟩)] 134 (0,0))∧w'.heap[w.heap.size+1+1+1]?=some (.cells #[.int .i64 r.2] 26 (0,0))) →
   w'.cell? ⟨w.heap.size+1+1+1+1,0,none⟩=some (.slice x1 r.1.secs.length y1)∧w'.cell? ⟨w.heap.size+1+1+1+1,1,none⟩=some (.slice x2 r.1.loose.length y2)∧w'.cell? ⟨w.heap.size+1+1+1+1,2,none⟩=some (.int .i64 r.1.fuse)∧w'.cell? ⟨w.heap.size+1+1+1+1,3,none⟩=some (.bool r.1.down)∧w'.cell? ⟨w.heap.size+1+1+1+1+1,0,none⟩=some (.pointer (some ⟨w.heap.size+1+1+1+1,0,none⟩))∧w'.cell? ⟨w.heap.size+1+1+1,0,none⟩=some (.int .i64 r.2) :=
  fun w' h=>⟨cR w' _ 0 _ _ _ h.1,cR w' _ 1 _ _ _ h.1,cR w' _ 2 _ _ _ h.1,cR w' _ 3 _ _ _ h.1,cR w' _ 0 _ _ _ h.2.1,cR w' _ 0 _ _ _ h.2.2⟩
 obtain⟨hnd,hhnd⟩:∃ o:Obj,o=(.cells #[.slice x1 r.1.secs.length y1,.slice x2 r.1.loose.length y2,.int .i64 r.1.fuse,.bool r.1.down] 174 (0,0)):=⟨_,rfl⟩
 obtain⟨ptr,hptr⟩:∃ o:Obj,o=(.cells #[.pointer (some ⟨w.heap.size+1+1+1+1,0,none⟩)] 134 (0,0)):=⟨_,rfl⟩
 obtain⟨err,herr⟩:∃ o:Obj,o=(.cells #[.int .i64 r.2] 26 (0,0)):=⟨_,rfl⟩
 have L0:∀ w',Rows3 (w.heap.size+1+1+1+1) (w.heap.size+1+1+1+1+1) (w.heap.size+1+1+1) hnd ptr err w'→w'.cell? ⟨w.heap.size+1+1+1+1,0,none⟩=some (.slice x1 r.1.secs.length y1):=fun w' h=>(hC w' (by rw [hhnd,hptr,herr] at h;exact h)).1
 have L1:∀ w',Rows3 (w.heap.size+1+1+1+1) (w.heap.size+1+1+1+1+1) (w.heap.size+1+1+1) hnd ptr err w'→w'.cell? ⟨w.heap.size+1+1+1+1,1,none⟩=some (.slice x2 r.1.loose.length y2):=fun w' h=>(hC w' (by rw [hhnd,hptr,herr] at h;exact h)).2.1
 have L2:∀ w',Rows3 (w.heap.size+1+1+1+1) (w.heap.size+1+1+1+1+1) (w.heap.size+1+1+1) hnd ptr err w'→w'.cell? ⟨w.heap.size+1+1+1+1,2,none⟩=some (.int .i64 r.1.fuse):=fun w' h=>(hC w' (by rw [hhnd,hptr,herr] at h;exact h)).2.2.1
 have L3:∀ w',Rows3 (w.heap.size+1+1+1+1) (w.heap.size+1+1+1+1+1) (w.heap.size+1+1+1) hnd ptr err w'→w'.cell? ⟨w.heap.size+1+1+1+1,3,none⟩=some (.bool r.1.down):=fun w' h=>(hC w' (by rw [hhnd,hptr,herr] at h;exact h)).2.2.2.1
 have L4:∀ w',Rows3 (w.heap.size+1+1+1+1) (w.heap.size+1+1+1+1+1) (w.heap.size+1+1+1) hnd ptr err w'→w'.cell? ⟨w.heap.size+1+1+1+1+1,0,none⟩=some (.pointer (some ⟨w.heap.size+1+1+1+1,0,none⟩)):=fun w' h=>(hC w' (by rw [hhnd,hptr,herr] at h;exact h)).2.2.2.2.1
 have L5:∀ w',Rows3 (w.heap.size+1+1+1+1) (w.heap.size+1+1+1+1+1) (w.heap.size+1+1+1) hnd ptr err w'→w'.cell? ⟨w.heap.size+1+1+1,0,none⟩=some (.int .i64 r.2):=fun w' h=>(hC w' (by rw [hhnd,hptr,herr] at h;exact h)).2.2.2.2.2
 have s0:Rows3 (w.heap.size+1+1+1+1) (w.heap.size+1+1+1+1+1) (w.heap.size+1+1+1) hnd ptr err w7.drew:=by rw [hhnd,hptr,herr];exact⟨G7,F5,q4'⟩
 have n1:w.heap.size+1+1≠w.heap.size+1+1+1+1:=by omega
 have n2:w.heap.size+1+1≠w.heap.size+1+1+1+1+1:=by omega
 have n3:w.heap.size+1+1≠w.heap.size+1+1+1:=by omega
 have n4:w.heap.size+1+1+1≠w.heap.size+1+1+1+1:=by omega
 have n5:w.heap.size+1+1+1≠w.heap.size+1+1+1+1+1:=by omega
 obtain⟨w8,hw8⟩:∃ w8,w8=put4 w7.drew (w.heap.size+1+1) (.slice x1 r.1.secs.length y1) (.slice x2 r.1.loose.length y2) (.int .i64 r.1.fuse) (.bool r.1.down):=⟨_,rfl⟩
 have F2':w7.drew.heap[w.heap.size+1+1]?=some (.cells #[.slice none 0 0,.slice none 0 0,.int .i64 0,.bool false] 38 (0,0)):=F2
 have G8:w8.heap[w.heap.size+1+1+1+1]?=some (.cells #[.slice x1 r.1.secs.length y1,.slice x2 r.1.loose.length y2,.int .i64 r.1.fuse,.bool r.1.down] 174 (0,0)):=by rw [hw8];exact put4_far (show w7.drew.heap[w.heap.size+1+1+1+1]?=some (.cells #[.slice x1 r.1.secs.length y1,.slice x2 r.1.loose.length y2,.int .i64 r.1.fuse,.bool r.1.down] 174 (0,0)) from G7) n1 _ _ _ _
 have F58:w8.heap[w.heap.size+1+1+1+1+1]?=some (.cells #[.pointer (some ⟨w.heap.size+1+1+1+1,0,none⟩)] 134 (0,0)):=by rw [hw8];exact put4_far (show w7.drew.heap[w.heap.size+1+1+1+1+1]?=some (.cells #[.pointer (some ⟨w.heap.size+1+1+1+1,0,none⟩)] 134 (0,0)) from F5) n2 _ _ _ _
 have q48:w8.heap[w.heap.size+1+1+1]?=some (.cells #[.int .i64 r.2] 26 (0,0)):=by rw [hw8];exact put4_far (show w7.drew.heap[w.heap.size+1+1+1]?=some (.cells #[.int .i64 r.2] 26 (0,0)) from q4') n3 _ _ _ _
 have F28:w8.heap[w.heap.size+1+1]?=some (.cells #[.slice x1 r.1.secs.length y1,.slice x2 r.1.loose.length y2,.int .i64 r.1.fuse,.bool r.1.down] 38 (0,0)):=by rw [hw8];exact put4_heap F2' _ _ _ _
 have s8:Rows3 (w.heap.size+1+1+1+1) (w.heap.size+1+1+1+1+1) (w.heap.size+1+1+1) hnd ptr err w8:=by rw [hhnd,hptr,herr];exact⟨G8,F58,q48⟩
 have hd7:DiskV w7.drew.heap.size w7.drew (.agg #[.slice x1 r.1.secs.length y1,.slice x2 r.1.loose.length y2,.int .i64 r.1.fuse,.bool r.1.down]) r.1:=HD7.out
 have hd8:DiskV w8.heap.size w8 (.agg #[.slice x1 r.1.secs.length y1,.slice x2 r.1.loose.length y2,.int .i64 r.1.fuse,.bool r.1.down]) r.1:=by
  have h1:=put4_diskV hd7 (hd7.slFar F2' (by simp)) (.slice x1 r.1.secs.length y1) (.slice x2 r.1.loose.length y2) (.int .i64 r.1.fuse) (.bool r.1.down)
  rw [← hw8] at h1
  have hz:w8.heap.size=w7.drew.heap.size:=by rw [hw8];simp [put4,World.setCell]
  rw [hz]
  exact h1
 have hb8:Below w.heap.size w w8:=by rw [hw8];exact put4_below (zD HB7.out 1) (by omega) _ _ _ _
 obtain⟨w9,hw9⟩:∃ w9,w9=w8.setCell ⟨w.heap.size+1+1+1,0,none⟩ (.int .i64 r.2):=⟨_,rfl⟩
 have G9:w9.heap[w.heap.size+1+1+1+1]?=some (.cells #[.slice x1 r.1.secs.length y1,.slice x2 r.1.loose.length y2,.int .i64 r.1.fuse,.bool r.1.down] 174 (0,0)):=by rw [hw9];exact (setFar n4 0 _).trans G8
 have F59:w9.heap[w.heap.size+1+1+1+1+1]?=some (.cells #[.pointer (some ⟨w.heap.size+1+1+1+1,0,none⟩)] 134 (0,0)):=by rw [hw9];exact (setFar n5 0 _).trans F58
 have q49:w9.heap[w.heap.size+1+1+1]?=some (.cells #[.int .i64 r.2] 26 (0,0)):=by rw [hw9];simp [World.setCell,Array.getElem?_modify,q48]
 have F29:w9.heap[w.heap.size+1+1]?=some (.cells #[.slice x1 r.1.secs.length y1,.slice x2 r.1.loose.length y2,.int .i64 r.1.fuse,.bool r.1.down] 38 (0,0)):=by rw [hw9];exact (setFar (Ne.symm n3) 0 _).trans F28
 have s9:Rows3 (w.heap.size+1+1+1+1) (w.heap.size+1+1+1+1+1) (w.heap.size+1+1+1) hnd ptr err w9:=by rw [hhnd,hptr,herr];exact⟨G9,F59,q49⟩
 have hd9:DiskV w9.heap.size w9 (.agg #[.slice x1 r.1.secs.length y1,.slice x2 r.1.loose.length y2,.int .i64 r.1.fuse,.bool r.1.down]) r.1:=by
  have h1:=hd8.setFar (p:=⟨w.heap.size+1+1+1,0,none⟩) (hd8.slFar q48 (by simp)) (.int .i64 r.2)
  rw [← hw9] at h1
  have hz:w9.heap.size=w8.heap.size:=by rw [hw9];simp [World.setCell]
  rw [hz]
  exact h1
 have hb9:Below w.heap.size w w9:=by rw [hw9];exact hb8.setCell (by show w.heap.size≤w.heap.size+1+1+1;omega) _
 have HD9:=zh hd9
 have HB9:=zh hb9
 have HF29:=zh F29
 have HQ49:=zh q49
 have C38:=cR w8 _ 0 _ _ _ q48
 have Z38:=zF q48
 clear hC hhnd hptr herr G7 F5 q4' F2 F2' G8 F58 q48 F28 G9 F59 q49 F29 hd7 hd8 hd9 hb8 hb9 n1 n2 n3 n4 n5
 replace hw8:w8=(put4 w7 (w.heap.size+1+1) (.slice x1 r.1.secs.length y1) (.slice x2 r.1.loose.length y2) (.int .i64 r.1.fuse) (.bool r.1.down)).drew:=hw8
 dsimp only [put4] at hw8
 have HW8:=zh hw8
 have HW9:=zh hw9
 clear hw8 hw9
 refine zI [(false,0),(false,1),(false,2),(false,3),(false,4),(true,5),(true,6)] (Rows3 (w.heap.size+1+1+1+1) (w.heap.size+1+1+1+1+1) (w.heap.size+1+1+1) hnd ptr err) (by kernel_rfl) (by kernel_rfl) s0 ?_
 repeat (first | (refine zS rfl rfl ?_;simp only [Act.put,zq1,zq2,zq3]) | (refine zT rfl ?_ rfl (fun w' hw'=>?_) ?_;rotate_left;(go_simp;first | done | with_reducible rfl);(try simp only [Act.put,zq1,zq2,zq3])))
 refine zA rfl rfl fun K hK=>?_
 go_simp
 rw [← HW8.out]
 refine hK.out _ _ s8 ?_
 clear hK K O0 O1 O2 O3 Z2 Z3
 refine zA rfl rfl fun K hK=>?_
 go_simp
 rw [← HW9.out]
 refine hK.out _ _ s9 ?_
 clear hK K C38 Z38
 refine zN ?_
 go_wp2_with fail
 have c0:=cR w9 _ 0 _ _ _ HF29.out
 have c1:=cR w9 _ 1 _ _ _ HF29.out
 have c2:=cR w9 _ 2 _ _ _ HF29.out
 have c3:=cR w9 _ 3 _ _ _ HF29.out
 have c4:=cR w9 _ 0 _ _ _ HQ49.out
 refine bodyPost_ret (v:=.tuple #[.agg #[.slice x1 r.1.secs.length y1,.slice x2 r.1.loose.length y2,.int .i64 r.1.fuse,.bool r.1.down],.int .i64 r.2]) ?_ rfl ⟨⟨_,rfl,HD9.out⟩,HB9.out⟩
 simp [results,Tryz.results97,go_sem,c0,c1,c2,c3,c4]
end
section
open Go.RowKit WalP PackP
theorem totalN_all:∀ l:List (List UInt8),(∀ b∈l,takes b.length≠0)→totalN l=some (posN l)
 | [],_=>rfl
 | b :: l,h=>by
  have:=totalN_all l (fun x hx=>h x (List.mem_cons_of_mem _ hx))
  simp [totalN,h b (List.mem_cons_self ..),this,posN]
theorem totalN_bad:∀ l:List (List UInt8),(∃ b∈l,takes b.length=0)→totalN l=none
 | [],h=>by obtain⟨b,hb,_⟩:=h;cases hb
 | b :: l,h=>by
  obtain⟨x,hx,hx2⟩:=h
  rcases List.mem_cons.1 hx with rfl | hx
  ·simp [totalN,hx2]
  ·by_cases hb:takes b.length=0
   ·simp [totalN,hb]
   ·simp [totalN,hb,totalN_bad l ⟨x,hx,hx2⟩]
def totV (l:List (List UInt8)):Value:=match total l with | some n=>.tuple #[.int .i64 n,.bool true] | none=>.tuple #[.int .i64 0,.bool false]
set_option maxRecDepth 100000 in
set_option maxHeartbeats 1000000 in
theorem total_any {B:Nat} (v:Value) (ls:List (List UInt8)) (w:World) (hv:Pieces B w v ls) (hn:ls.length≤2^46) (hl:∀ b∈ls,b.length≤2^62) :
  Calls Tryz.prog 95 #[v] w fun e w'=>e = .returned (totV ls)∧w=w':=by
 obtain⟨a,c,rfl,hnc,hc,hat⟩:=hv.at_
 obtain⟨n,hnn⟩:∃ n,n=ls.length:=⟨_,rfl⟩
 rw [← hnn] at hnc hn ⊢
 have HN:=zh hnn
 have HAT:=zh hat
 have HL:=zh hl
 clear hat hnn hv hl
 go_enter Tryz.func95,Tryz.ntmps95
 go_wp2_with fail
 go_loop [2,9] (fun s z=>∃ k:Nat,k≤n∧z = .int .i64 k∧s = .int .i64 (posN (ls.take k))∧∀ b∈ls.take k,takes b.length≠0) (fun _ z=>n-(intOf z).toNat)
 case atStart=>exact⟨0,Nat.zero_le _,rfl,rfl,fun b hb=>by simp at hb⟩
 case round =>
  obtain⟨k,hk,rfl,rfl,hne⟩:=hrel
  have HNE:=zh hne
  have hpl:=posN_le (ls.take k)
  have hpl2:(ls.take k).length≤k:=List.length_take_le _ _
  obtain⟨ps,hps⟩:∃ ps,ps=posN (ls.take k):=⟨_,rfl⟩
  rw [← hps] at hpl ⊢
  have HPS:=zh hps
  clear hne hps
  by_cases hkn:k<n
  ·have hkl:k<ls.length:=HN.out▸hkn
   obtain⟨b,off,a2,c2,rfl,hbB,hcell⟩:=HAT.out k hkl
   have hE:=(hcell w (Below.refl _ _)).1
   have hbl:=HL.out _ (List.getElem_mem hkl)
   have hk0:(0:Int)≤(k:Int):=by omega
   have hk1:(k:Int)<(n:Int):=by omega
   obtain⟨L,hL⟩:∃ L,L=ls[k].length:=⟨_,rfl⟩
   rw [← hL] at hE hbl
   have kt:=takes_any (L:Int) w
   rw [takesZ_nat] at kt
   have htl:=takes_le L
   have hsnoc:ls.take (k+1)=ls.take k++[ls[k]]:=by rw [List.take_add_one,List.getElem?_eq_getElem hkl];rfl
   have HSN:=zh hsnoc
   have HLL:=zh hL
   have HIN:=zh (List.getElem_mem hkl)
   clear hcell hsnoc hL
   by_cases h0:takes L=0
   ·rw [h0] at kt
    have hbad:totV ls = .tuple #[.int .i64 0,.bool false]:=by
     have:total ls=none:=by
      unfold total
      split
      ·rfl
      ·exact totalN_bad ls ⟨_,HIN.out,by rw [← HLL.out];exact h0⟩
     unfold totV;rw [this]
    have HB:=zh hbad
    clear hbad h0
    go_wp2_with fail
    refine kt.mono ?_
    rintro e w' ⟨rfl,rfl⟩
    go_wp2_with fail
    go_ret2
    exact⟨by rw [HB.out];rfl,rfl⟩
   ·have hne:((takes L:Int) == 0)=false:=by rw [beq_eq_false_iff_ne];omega
    have H0:=zh h0
    clear h0
    go_wp2_with fail
    refine kt.mono ?_
    rintro e w' ⟨rfl,rfl⟩
    go_wp2_with fail
    go_round
    case rel =>
     refine⟨k+1,by omega,by go_num,?_,fun x hx=>?_⟩
     ·rw [HSN.out,posN_append,← HPS.out]
      simp [posN,← HLL.out]
     ·rw [HSN.out] at hx
      rcases List.mem_append.1 hx with hx | hx
      ·exact HNE.out x hx
      ·rw [List.mem_singleton.1 hx,← HLL.out];exact H0.out
    case measure=>simp [intOf];omega
  ·obtain rfl:k=n:=by omega
   have hall:totV ls = .tuple #[.int .i64 ps,.bool (decide (0<k))]:=by
    have ht:ls.take k=ls:=by rw [HN.out];exact List.take_length
    have h1:=HNE.out
    rw [ht] at h1
    have h2:=HPS.out
    rw [ht] at h2
    cases ls with
    | nil =>
     have:=HN.out
     simp at this
     subst this
     rw [h2];rfl
    | cons x l =>
     have h3:total (x :: l)=some (posN (x :: l)):=by unfold total;rw [if_neg (by simp),totalN_all _ h1]
     unfold totV
     rw [h3,h2]
     have:0<k:=by rw [HN.out];simp
     simp [this]
   have HA:=zh hall
   clear hall
   go_wp2_with fail
   go_ret2
   exact⟨by rw [HA.out];simp,rfl⟩
set_option maxRecDepth 100000 in
set_option maxHeartbeats 1000000 in
theorem room_any {B:Nat} (v:Value) (d:DiskP) (l:LogP) (w:World) (h:DiskV B w v d) (hl0:-9223372036854775808≤l.half∧l.half≤9223372036854775807) :
  Calls Tryz.prog 105 #[v,logV l] w fun e w'=>e = .returned (.int .i64 (roomP d l))∧Below w.heap.size w w':=by
 obtain⟨a1,n1,a2,n2,rfl,hs,hl⟩:=h.tight.parts
 obtain⟨w2,hw2⟩:∃ w2,w2=boxes w #[.slice a1 d.secs.length n1,.slice a2 d.loose.length n2,.int .i64 d.fuse,.bool d.down] l:=⟨_,rfl⟩
 have hdv:DiskV w.heap.size w (.agg #[.slice a1 d.secs.length n1,.slice a2 d.loose.length n2,.int .i64 d.fuse,.bool d.down]) d:=⟨_,_,rfl,hs,hl⟩
 have hb2:Below w.heap.size w w2:=by rw [hw2];exact boxes_below w _ l
 have hD:∀ w',Below w2.heap.size w2 w'→DiskV w2.heap.size w' (.agg #[.slice a1 d.secs.length n1,.slice a2 d.loose.length n2,.int .i64 d.fuse,.bool d.down]) d:=fun w' hb=>(hdv.below hb2).tight.below hb
 have hC:∀ w',Below w2.heap.size w2 w'→_:=fun w' hb=>boxes_cells (w:=w) (w':=w') (l:=l) (by rw [← hw2];exact hb)
 have hA0:∀ w',Below w2.heap.size w2 w'→_:=fun w' hb=>cR w' _ 0 _ _ _ (hC w' hb).1
 have hA1:∀ w',Below w2.heap.size w2 w'→_:=fun w' hb=>cR w' _ 1 _ _ _ (hC w' hb).1
 have hA2:∀ w',Below w2.heap.size w2 w'→_:=fun w' hb=>cR w' _ 2 _ _ _ (hC w' hb).1
 have hA3:∀ w',Below w2.heap.size w2 w'→_:=fun w' hb=>cR w' _ 3 _ _ _ (hC w' hb).1
 have hB0:∀ w',Below w2.heap.size w2 w'→_:=fun w' hb=>cR w' _ 0 _ _ _ (hC w' hb).2
 have hB1:∀ w',Below w2.heap.size w2 w'→_:=fun w' hb=>cR w' _ 1 _ _ _ (hC w' hb).2
 have hB2:∀ w',Below w2.heap.size w2 w'→_:=fun w' hb=>cR w' _ 2 _ _ _ (hC w' hb).2
 have hB3:∀ w',Below w2.heap.size w2 w'→_:=fun w' hb=>cR w' _ 3 _ _ _ (hC w' hb).2
 have hF:∀ w',Below w2.heap.size w2 w'→Below w.heap.size w w':=fun w' hb=>hb2.trans (hb.mono hb2.size)
 have HD:=zh hD
 have HF:=zh hF
 have k1:=(walRight_any _ d l w2 (hD w2 (Below.refl _ _)) hl0)
 unfold logV at k1
 obtain⟨R,hR⟩:∃ R,R=rightL d l:=⟨_,rfl⟩
 rw [← hR] at k1
 have h2:=Below.refl w2.heap.size w2
 have a0:=hA0 w2 h2
 have a1':=hA1 w2 h2
 have a2':=hA2 w2 h2
 have a3:=hA3 w2 h2
 have b0:=hB0 w2 h2
 have b1:=hB1 w2 h2
 have b2:=hB2 w2 h2
 have b3:=hB3 w2 h2
 unfold boxes at hw2
 have HW:=zh hw2
 have HR:=zh hR
 have hu:R=true→2≤l.used∧l.used≤(half d:Nat):=fun h=>by
  rw [hR] at h
  unfold rightL at h
  simp only [Bool.and_eq_true,decide_eq_true_eq] at h
  omega
 have hh62:half d≤2^62:=by
  obtain⟨_,a',c',hv',hn,hc,_⟩:=hs.2
  cases hv'
  unfold maxLen at hc
  unfold half;omega
 have HU:=zh hu
 unfold logV
 clear hC hD hF hdv hb2 hs hl h hl0 hw2 hR hu
 cases R with
 | false =>
  have hr:roomP d l=0:=by unfold roomP;rw [← HR.out];rfl
  have HRR:=zh hr
  clear hr hA0 hA1 hA2 hA3 hB0 hB1 hB2 hB3
  go_enter Tryz.func105,Tryz.ntmps105
  go_upto_region 1 with (fail)
  rw [← HW.out]
  go_wp2_with fail
  refine k1.mono ?_
  rintro e w3 ⟨rfl,hb3⟩
  clear a0 a1' a2' a3 b0 b1 b2 b3
  go_wp2_with fail
  go_ret
  exact⟨by rw [HRR.out];rfl,HF.out _ hb3⟩
 | true =>
  have hr:roomP d l=half d-l.used:=by unfold roomP;rw [← HR.out];rfl
  obtain⟨hu1,hu2⟩:=HU.out rfl
  have HRR:=zh hr
  clear hr
  go_enter Tryz.func105,Tryz.ntmps105
  go_upto_region 1 with (fail)
  rw [← HW.out]
  go_wp2_with fail
  refine k1.mono ?_
  rintro e w3 ⟨rfl,hb3⟩
  have h00:Below w2.heap.size w2 w3.drew:=hb3.drew
  have kH:∀ w',Below w2.heap.size w2 w'→Calls Tryz.prog 96 #[.agg #[.slice a1 d.secs.length n1,.slice a2 d.loose.length n2,.int .i64 d.fuse,.bool d.down]] w' fun e w''=>e = .returned (.int .i64 (half d:Nat))∧Below w2.heap.size w2 w'' :=
   fun w' hb=>(walHalf_any _ d w' (HD.out w' hb)).mono fun e w'' hx=>⟨hx.1,hb.trans (hx.2.mono hb.size)⟩
  have KH:=zh kH
  have hz1:IntKind.i64.wrap ((half d:Nat)-l.used)=(half d:Nat)-l.used:=by
   simp only [IntKind.wrap,IntKind.bits,IntKind.signed]
   simp
   omega
  clear a0 a1' a2' a3 b0 b1 b2 b3 hb3 kH k1
  go_wp2_with fail
  refine zI [(false,0),(false,2),(false,3),(true,1),(false,4),(false,5)] (fun w'=>Below w2.heap.size w2 w') (by kernel_rfl) (by kernel_rfl) h00 ?_
  repeat (first | (refine zS rfl rfl ?_;simp only [Act.put,zq1,zq2,zq3]) | (refine zT rfl ?_ rfl (fun w' hw'=>?_) ?_;rotate_left;(go_simp;first | done | with_reducible rfl);(try simp only [Act.put,zq1,zq2,zq3])))
  refine zA rfl rfl fun K hK=>?_
  go_simp
  refine (KH.out _ h00).mono ?_
  rintro e w6 ⟨rfl,hb6⟩
  refine hK.out _ _ hb6 ?_
  clear hK K h00
  repeat (first | (refine zS rfl rfl ?_;simp only [Act.put,zq1,zq2,zq3]) | (refine zT rfl ?_ rfl (fun w' hw'=>?_) ?_;rotate_left;(go_simp;first | done | with_reducible rfl);(try simp only [Act.put,zq1,zq2,zq3])))
  refine zN ?_
  go_wp2_with fail
  go_ret
  exact⟨by rw [HRR.out];rfl,HF.out _ hb6⟩
end
section
open Go.RowKit WalP PackP
theorem secs_deed (d:DiskP) (x:Deed):(deed d x).1.secs.length=d.secs.length:=by
 cases x with
 | put a s =>
  show (putP d a s).1.secs.length=_
  unfold putP
  split
  ·split <;> rfl
  ·rfl
 | flush =>
  show (flushP d).1.secs.length=_
  unfold flushP
  split
  ·split
   ·rfl
   ·exact length_settleN _ _ _ _
  ·rfl
theorem half_deed (d:DiskP) (x:Deed):half (deed d x).1=half d:=by unfold half;rw [secs_deed]
def BoxD (b:Nat) (w:World) (d:DiskP):Prop:=∃ A,w.heap[b]?=some (.cells A 38 (0,0))∧DiskV w.heap.size w (.agg A) d
theorem BoxD.parts {b:Nat} {w:World} {d:DiskP} (h:BoxD b w d):∃ p1 q1 p2 q2,w.heap[b]?=some (.cells #[.slice p1 d.secs.length q1,.slice p2 d.loose.length q2,.int .i64 d.fuse,.bool d.down] 38 (0,0))∧DiskV w.heap.size w (.agg #[.slice p1 d.secs.length q1,.slice p2 d.loose.length q2,.int .i64 d.fuse,.bool d.down]) d:=by
 obtain⟨A,hg,hd⟩:=h
 obtain⟨p1,q1,p2,q2,hA,_,_⟩:=hd.parts
 cases hA
 exact⟨p1,q1,p2,q2,hg,hd⟩
theorem BoxD.below {b:Nat} {w w':World} {d:DiskP} (h:BoxD b w d) (hb:Below w.heap.size w w'):BoxD b w' d:=by
 obtain⟨A,h1,h2⟩:=h
 exact⟨A,(hb.block _ (zB h1)).trans h1,(h2.below hb).tight⟩
set_option maxRecDepth 100000 in
set_option maxHeartbeats 2000000 in
theorem format1_any {g bd bl:Nat} (d:DiskP) (lv:Value) (list:List (List UInt8)) (w:World) (hh:HandAt g w d) (hd:BoxD bd w d) (hl:w.heap[bl]?=some (.cells #[lv] 66 (0,0))) (hv:Pieces g w lv list) (hbl:bl<g) (ht:TabAt w) (hT:1<g)
  (hw1:half d≤2^20) (hl1:∀ b∈list,b.length≤2^20) (hl2:list.length≤2^20) (hl3:list≠[]) :
  Calls Tryz.prog 98 (#[.pointer (some ⟨g,0,none⟩)]++#[.pointer (some ⟨bd,0,none⟩),.pointer (some ⟨bl,0,none⟩)]) w fun x w'=>x=hEnd (run d (.put (half d) zeroS :: layD (half d) 0 1 list)).2∧HandAt g w' (run d (.put (half d) zeroS :: layD (half d) 0 1 list)).1∧w.grownBy w' (some g):=by
 obtain⟨p1,q1,p2,q2,hg,hdv⟩:=hd.parts
 have C0:=cR w _ 0 _ _ _ hg
 have C1:=cR w _ 1 _ _ _ hg
 have C2:=cR w _ 2 _ _ _ hg
 have C3:=cR w _ 3 _ _ _ hg
 have k1:=walHalf_any _ d w hdv
 obtain⟨H,hH⟩:∃ H,H=half d:=⟨_,rfl⟩
 rw [← hH] at k1 hw1 ⊢
 have HH:=zh hh
 have HL:=zh hl
 have HV:=zh hv
 have HT:=zh ht
 have HL1:=zh hl1
 have HL3:=zh hl3
 have HHH:=zh hH
 have HB0:=fun w=>zh (run_build0 w)
 obtain⟨Z,hZ⟩:∃ Z,Z=(u8s zeroS).toArray:=⟨_,rfl⟩
 simp only [← hZ] at HB0
 have HZ:=zh hZ
 obtain⟨D,hD⟩:∃ D,D=Deed.put (H:Int) zeroS :: layD H 0 1 list:=⟨_,rfl⟩
 rw [← hD]
 have HD:=zh hD
 clear hh hd hl hv ht hl1 hl3 hg hdv hH hZ hD
 go_enter Tryz.func98,Tryz.ntmps98
 go_wp2_with fail
 refine k1.mono ?_
 rintro e w1 ⟨rfl,hb1⟩
 have kp:=hput_any d (H:Int) zeroS w1 (HH.out.below hb1) rfl
 rw [← HZ.out] at kp
 have hb0:=(HB0 w1).out
 have HB1:=zh hb1
 clear k1 C0 C1 C2 C3 hb1
 go_wp2_with (refine wp_build_l 94 [] rfl rfl rfl hb0 ?_;refine Halt.in ?_)
 refine Halt.out ?_
 clear hb0
 go_wp2_with fail
 refine kp.mono ?_
 rintro e w2 ⟨rfl,hh2,ho2⟩
 have HO2:=zh (zO (only_of_below HB1.out) ho2)
 have hrun:run d D=if (deed d (.put (H:Int) zeroS)).2=0 then run (deed d (.put (H:Int) zeroS)).1 (layD H 0 1 list) else deed d (.put (H:Int) zeroS):=by rw [HD.out];rfl
 by_cases he:(deed d (.put (H:Int) zeroS)).2=0
 ·have e0:=hEnd0 he
  rw [e0]
  rw [if_pos he] at hrun
  have hb2:=below_hand HO2.out HH.out.lt
  have hhd:H=half (deed d (.put (H:Int) zeroS)).1:=by rw [half_deed,HHH.out]
  obtain⟨d2,hd2⟩:∃ d2,d2=(deed d (.put (H:Int) zeroS)).1:=⟨_,rfl⟩
  rw [← hd2] at hh2 hhd hrun
  have kl:=hlay_any d2 0 1 lv list w2 hh2 (HV.out.below hb2) (HT.out.below hb2 hT) hT (by omega) (by omega) HL1.out hl2 HL3.out
  rw [← hhd] at kl
  have hE:=cR w2 _ 0 _ _ _ ((hb2.block bl hbl).trans HL.out)
  have HRUN:=zh hrun
  clear kp he e0 hh2 ho2 hhd hd2 hrun hb2
  go_wp2_with fail
  refine kl.mono ?_
  rintro e w3 ⟨rfl,hh3,ho3⟩
  have HO3:=zh (zO HO2.out ho3)
  by_cases he:(run d2 (layD H 0 1 list)).2=0
  ·have e0:=hEnd0 he
   rw [e0]
   have HE0:=zh e0
   have HH3:=zh hh3
   clear kl he e0 hh3 ho3
   go_wp2_with fail
   go_end0
   rw [HRUN.out]
   exact⟨HE0.out.symm,HH3.out,HO3.out⟩
  ·have e0:=hEnd1 he
   rw [e0]
   refine⟨rfl,?_⟩
   show _=hEnd (run d D).2∧HandAt g w3 (run d D).1∧w.grownBy w3 (some g)
   rw [HRUN.out]
   exact⟨e0.symm,hh3,HO3.out⟩
 ·have e0:=hEnd1 he
  rw [e0]
  rw [if_neg he] at hrun
  refine⟨rfl,?_⟩
  show _=hEnd (run d D).2∧HandAt g w2 (run d D).1∧w.grownBy w2 (some g)
  rw [hrun]
  exact⟨e0.symm,hh2,HO2.out⟩
set_option maxRecDepth 100000 in
set_option maxHeartbeats 2000000 in
theorem compact1_any {g bn bl:Nat} (d:DiskP) (l:LogP) (lv:Value) (list:List (List UInt8)) (w:World) (hh:HandAt g w d) (hn:w.heap[bn]?=some (.cells #[.int .i64 l.half,.int .i64 l.gen,.int .i64 l.used,.int .i64 l.count] 41 (0,0))) (hl:w.heap[bl]?=some (.cells #[lv] 66 (0,0))) (hv:Pieces g w lv list) (ht:TabAt w) (hT:1<g)
  (hw0:l.half=0∨l.half=1) (hw1:half d≤2^20) (hl1:∀ b∈list,b.length≤2^20) (hl2:list.length≤2^20) (hl3:list≠[]) :
  Calls Tryz.prog 111 (#[.pointer (some ⟨g,0,none⟩)]++#[.pointer (some ⟨bn,0,none⟩),.pointer (some ⟨bl,0,none⟩)]) w fun x w'=>x=hEnd (run d (layD (half d) l.half l.gen list)).2∧HandAt g w' (run d (layD (half d) l.half l.gen list)).1∧w.grownBy w' (some g):=by
 have C0:=cR w _ 0 _ _ _ hn
 have C1:=cR w _ 1 _ _ _ hn
 have hE:=cR w _ 0 _ _ _ hl
 have kl:=hlay_any d l.half l.gen lv list w hh hv ht hT (by rcases hw0 with h | h <;> rw [h] <;> omega) (by rcases hw0 with h | h <;> rw [h] <;> omega) hl1 hl2 hl3
 obtain⟨D,hD⟩:∃ D,D=layD (half d) l.half l.gen list:=⟨_,rfl⟩
 rw [← hD] at kl ⊢
 clear hh hn hl hv ht hw0 hw1 hl1 hl2 hl3 hD
 go_enter Tryz.func111,Tryz.ntmps111
 go_wp2_with fail
 refine kl.mono ?_
 rintro e w3 ⟨rfl,hh3,ho3⟩
 by_cases he:(run d D).2=0
 ·have e0:=hEnd0 he
  rw [e0]
  have HE0:=zh e0
  have HH3:=zh hh3
  clear kl he e0 hh3
  go_wp2_with fail
  go_end0
  exact⟨HE0.out.symm,HH3.out,ho3⟩
 ·have e0:=hEnd1 he
  rw [e0]
  exact⟨rfl,e0.symm,hh3,ho3⟩
end
section
open Go.RowKit WalP PackP
theorem Rows3.keep {a b c:Nat} {x y z:Obj} {w w':World} {g:Nat} (h:Rows3 a b c x y z w) (ho:w.grownBy w' (some g)) (ha:a≠g) (hb:b≠g) (hc:c≠g):Rows3 a b c x y z w':=by
 obtain⟨h1,h2,h3⟩:=h
 have q:∀ {k:Nat} {o:Obj},w.heap[k]?=some o→k≠g→w'.heap[k]?=some o:=fun {k o} hk hne=>(ho.block k (Array.getElem?_eq_some_iff.1 hk).1 (fun e=>hne (Option.some.inj e))).trans hk
 exact⟨q h1 ha,q h2 hb,q h3 hc⟩
set_option maxRecDepth 100000 in
set_option maxHeartbeats 2000000 in
theorem append1_any {g ba bb bl:Nat} (d:DiskP) (l:LogP) (at_:Int) (bv:Value) (bs:List UInt8) (w:World) (hh:HandAt g w d) (h3:Rows3 ba bb bl (.cells #[.int .i64 at_] 3 (0,0)) (.cells #[bv] 23 (0,0)) (.cells #[.int .i64 l.half,.int .i64 l.gen,.int .i64 l.used,.int .i64 l.count] 41 (0,0)) w)
  (ha:ba<g) (hb:bb<g) (hl:bl<g) (hv:Bytes g w bv bs) (ht:TabAt w) (hT:1<g) (hlen:bs.length≤2^20) (ha0:0≤at_) (ha1:at_≤2^40) :
  Calls Tryz.prog 106 (#[.pointer (some ⟨g,0,none⟩)]++#[.pointer (some ⟨ba,0,none⟩),.pointer (some ⟨bb,0,none⟩),.pointer (some ⟨bl,0,none⟩)]) w fun x w' =>
   x=hEnd (run d (bytesD at_ bs++[.flush,.put at_ (markS l.gen l.count bs.length (SumP.toI (SumP.sum bs))),.flush])).2∧HandAt g w' (run d (bytesD at_ bs++[.flush,.put at_ (markS l.gen l.count bs.length (SumP.toI (SumP.sum bs))),.flush])).1∧w.grownBy w' (some g):=by
 obtain⟨D,hD⟩:∃ D,D=bytesD at_ bs++[.flush,.put at_ (markS l.gen l.count bs.length (SumP.toI (SumP.sum bs))),.flush]:=⟨_,rfl⟩
 rw [← hD]
 obtain⟨pm,hpm⟩:∃ p,p=markS l.gen l.count bs.length (SumP.toI (SumP.sum bs)):=⟨_,rfl⟩
 have hpl:pm.length=64:=by rw [hpm];exact length_markS _ _ _ _
 rw [← hpm] at hD
 have A0:=cR w _ 0 _ _ _ h3.1
 have B0:=cR w _ 0 _ _ _ h3.2.1
 have kb:=hbytes_any d at_ bv bs w hh hv hlen ha0 ha1
 obtain⟨sa,sc,rfl⟩:=hv.form
 obtain⟨oa,hoa⟩:∃ o:Obj,o = .cells #[.int .i64 at_] 3 (0,0):=⟨_,rfl⟩
 obtain⟨ob,hob⟩:∃ o:Obj,o = .cells #[.slice sa bs.length sc] 23 (0,0):=⟨_,rfl⟩
 obtain⟨ol,hol⟩:∃ o:Obj,o = .cells #[.int .i64 l.half,.int .i64 l.gen,.int .i64 l.used,.int .i64 l.count] 41 (0,0):=⟨_,rfl⟩
 rw [← hoa,← hob,← hol] at h3
 have L0:∀ w',Rows3 ba bb bl oa ob ol w'→w'.cell? ⟨ba,0,none⟩=some (.int .i64 at_):=fun w' h=>by rw [hoa] at h;exact cR w' _ 0 _ _ _ h.1
 have L1:∀ w',Rows3 ba bb bl oa ob ol w'→w'.cell? ⟨bb,0,none⟩=some (.slice sa bs.length sc):=fun w' h=>by rw [hob] at h;exact cR w' _ 0 _ _ _ h.2.1
 have L2:∀ w',Rows3 ba bb bl oa ob ol w'→w'.cell? ⟨bl,1,none⟩=some (.int .i64 l.gen):=fun w' h=>by rw [hol] at h;exact cR w' _ 1 _ _ _ h.2.2
 have L3:∀ w',Rows3 ba bb bl oa ob ol w'→w'.cell? ⟨bl,3,none⟩=some (.int .i64 l.count):=fun w' h=>by rw [hol] at h;exact cR w' _ 3 _ _ _ h.2.2
 have HH:=zh hh
 have H3:=zh h3
 have HV:=zh hv
 have HT:=zh ht
 have HD:=zh hD
 have HPM:=zh hpm
 clear hh h3 hv ht hD hoa hob hol hpm
 go_enter Tryz.func106,Tryz.ntmps106
 go_wp2_with fail
 refine kb.mono ?_
 rintro e w1 ⟨rfl,hh1,ho1⟩
 have HO1:=zh ho1
 by_cases he:(run d (bytesD at_ bs)).2=0
 ·have e0:=hEnd0 he
  rw [e0]
  obtain⟨d1,hd1⟩:∃ d1,d1=(run d (bytesD at_ bs)).1:=⟨_,rfl⟩
  rw [← hd1] at hh1
  have HR1:=zh (show run d (bytesD at_ bs)=(d1,0) by rw [hd1];exact run_ok he)
  have HH1:=zh hh1
  have kf:=hflush_any d1 w1 hh1
  clear kb he e0 hh1 ho1 hd1 A0 B0
  go_wp2_with fail
  refine kf.mono ?_
  rintro e w2 ⟨rfl,hh2,ho2⟩
  have HO2:=zh (zO HO1.out ho2)
  by_cases he:(deed d1 .flush).2=0
  ·have e0:=hEnd0 he
   rw [e0]
   obtain⟨d2,hd2⟩:∃ d2,d2=(deed d1 .flush).1:=⟨_,rfl⟩
   rw [← hd2] at hh2
   have HR2:=zh (show run d (bytesD at_ bs++[.flush])=(d2,0) by rw [run_good2 HR1.out,run_one,hd2];exact Prod.ext rfl he)
   have HH2:=zh hh2
   have hlt2:=hh2.lt
   have hb2:=below_hand HO2.out HH.out.lt
   have h32:Rows3 ba bb bl oa ob ol w2.drew:=H3.out.keep (g:=g) (zO HO2.out ⟨rfl,rfl,rfl,Nat.le_refl _,fun _ _ _=>rfl⟩) (by omega) (by omega) (by omega)
   have ko:=of_any (B:=g) l.gen l.count (.slice sa bs.length sc) bs w2.drew ((HT.out.below hb2 hT).below (zD (Below.refl g w2) 1) hT) (show 1<w2.heap.size by omega) ((HV.out.below hb2).below (zD (Below.refl g w2) 1))
   clear kf he e0 hh2 ho2 hd2 hb2
   go_wp2_with fail
   refine wp_region_P [(false,0),(false,1),(false,2),(false,3),(false,4),(false,5),(false,6),(true,7),(true,8),(true,9)] (fun w'=>Rows3 ba bb bl oa ob ol w') (by kernel_rfl) (by kernel_rfl) (fun _ d _ _ _ h=>by cases d <;> exact h) h32 ?_
   repeat (first | (refine zS rfl rfl ?_;simp only [Act.put,zq1,zq2,zq3]) | (refine zT rfl ?_ rfl (fun w' hw'=>?_) ?_;rotate_left;(go_simp;first | done | with_reducible rfl);(try simp only [Act.put,zq1,zq2,zq3])))
   refine zA rfl rfl fun K hK=>?_
   go_simp
   refine ko.mono ?_
   rintro e w3 ⟨rfl,hb3⟩
   have h33:=h32.keep (g:=g) (only_of_below hb3) (by omega) (by omega) (by omega)
   refine hK.out _ _ h33 ?_
   clear hK K ko
   have ks:=sector_any l.gen l.count (bs.length:Int) (SumP.toI (SumP.sum bs)) w3 (SumP.toI_lo _) (SumP.toI_hi _)
   rw [← HPM.out] at ks
   refine zA rfl rfl fun K hK=>?_
   go_simp
   refine ks.mono ?_
   rintro e w4 ⟨rfl,hb4⟩
   have h34:=h33.keep (g:=g) (only_of_below hb4) (by omega) (by omega) (by omega)
   have hb24:Below w2.heap.size w2 w4:=(zD (Below.refl w2.heap.size w2) 1).trans (hb3.trans (hb4.mono hb3.size))
   have hh4:=HH2.out.below hb24
   have HO4:=zh (zO HO2.out (only_of_below hb24))
   have kp:=hput_any d2 at_ pm w4 hh4 hpl
   refine hK.out _ _ h34 ?_
   clear hK K ks hb3 hb4 hb24 hh4
   refine zA rfl rfl fun K hK=>?_
   go_simp
   refine kp.mono ?_
   rintro e w5 ⟨rfl,hh5,ho5⟩
   have h35:=h34.keep ho5 (by omega) (by omega) (by omega)
   have HO5:=zh (zO HO4.out ho5)
   by_cases he:(deed d2 (.put at_ pm)).2=0
   ·have e0:=hEnd0 he
    rw [e0]
    refine hK.out _ _ h35 ?_
    obtain⟨d5,hd5⟩:∃ d5,d5=(deed d2 (.put at_ pm)).1:=⟨_,rfl⟩
    rw [← hd5] at hh5
    have HR5:=zh (show run d ((bytesD at_ bs++[.flush])++[.put at_ pm])=(d5,0) by rw [run_good2 HR2.out,run_one,hd5];exact Prod.ext rfl he)
    have kf:=hflush_any d5 w5 hh5
    clear hK K kp he e0 hh5 ho5 hd5 h32 h33 h34 h35
    refine zN ?_
    go_wp2_with fail
    refine kf.mono ?_
    rintro e w7 ⟨rfl,hh7,ho7⟩
    have HO7:=zh (zO HO5.out ho7)
    have hall:run d D=deed d5 .flush:=by
     rw [HD.out,← run_one,← run_good2 HR5.out]
     simp only [List.append_assoc]
     rfl
    have HALL:=zh hall
    clear hall
    by_cases he:(deed d5 .flush).2=0
    ·have e0:=hEnd0 he
     rw [e0]
     have HH7:=zh hh7
     have HE0:=zh e0
     clear kf he e0 hh7 ho7
     go_wp2_with fail
     go_end0
     rw [HALL.out]
     exact⟨HE0.out.symm,HH7.out,HO7.out⟩
    ·have e0:=hEnd1 he
     rw [e0]
     refine⟨rfl,?_⟩
     show _=hEnd (run d D).2∧HandAt g w7 (run d D).1∧w.grownBy w7 (some g)
     rw [HALL.out]
     exact⟨e0.symm,hh7,HO7.out⟩
   ·have e0:=hEnd1 he
    rw [e0]
    have hall:run d D=deed d2 (.put at_ pm):=by
     rw [← run_one] at he ⊢
     exact run_split (ys:=[.put at_ pm]) (r:=[.flush]) (by rw [HD.out];simp only [List.append_assoc];rfl) HR2.out he
    refine⟨rfl,?_⟩
    show _=hEnd (run d D).2∧HandAt g w5 (run d D).1∧w.grownBy w5 (some g)
    rw [hall]
    exact⟨e0.symm,hh5,HO5.out⟩
  ·have e0:=hEnd1 he
   rw [e0]
   have hall:run d D=deed d1 .flush:=by
    rw [← run_one] at he ⊢
    exact run_split (ys:=[.flush]) (r:=[.put at_ pm,.flush]) (by rw [HD.out];rfl) HR1.out he
   refine⟨rfl,?_⟩
   show _=hEnd (run d D).2∧HandAt g w2 (run d D).1∧w.grownBy w2 (some g)
   rw [hall]
   exact⟨e0.symm,hh2,HO2.out⟩
 ·have e0:=hEnd1 he
  rw [e0]
  have hall:run d D=run d (bytesD at_ bs):=by rw [HD.out];exact run_bad d _ _ he
  refine⟨rfl,?_⟩
  show _=hEnd (run d D).2∧HandAt g w1 (run d D).1∧w.grownBy w1 (some g)
  rw [hall]
  exact⟨e0.symm,hh1,HO1.out⟩
end
end Go.Proofs.YtaijompnohkmaaaGreatDoor
