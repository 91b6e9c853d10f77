/- Layer 5 (wal), the document's answer: a record's mark. -/
import Derived.Test.YtaijompnohkmaaaGreatDoorOJ
import Derived.Deep.CutRange
set_option linter.unusedSimpArgs false
set_option linter.unusedVariables false
namespace Go.Proofs.YtaijompnohkmaaaGreatDoor
section
open Go.RowKit WalP PackP
set_option maxRecDepth 100000 in
set_option maxHeartbeats 2000000 in
theorem refMark_any {B:Nat} (gen:Int) (k:Nat) (v:Value) (b:List UInt8) (w:World) (h:Bytes B w v b) (hlen:b.length≤2^40) :
  Calls Tryz.prog 116 #[.int .i64 gen,.int .i64 k,v] w fun e w'=>e = .returned (.agg (u8s (markOf gen k b)).toArray)∧Below w.heap.size w w':=by
 have h:=h.tight
 have HV:=zh h
 obtain⟨_,va,vc,rfl,_,_,_⟩:=h
 obtain⟨z0,hz0,hzr⟩:=zero44
 obtain⟨w1,hw1⟩:∃ w1,w1=w.alloc (.cells z0.cells 94):=⟨_,rfl⟩
 have hb1:Below w.heap.size w w1:=by rw [hw1];exact Below.alloc (Below.refl _ _) (Nat.le_refl _) _
 have hs1:w1.heap.size=w.heap.size+1:=by rw [hw1];simp
 have HG1:=zh (show w1.heap[w.heap.size]?=some (.cells (u8s zeroS).toArray 94 (0,0)) by rw [hw1,← hz0];exact heap_alloc_new w _)
 obtain⟨w2,hw2⟩:∃ w2,w2=w1.alloc (.cells #[.int .u8 87,.int .u8 76,.int .u8 79,.int .u8 71] 5):=⟨_,rfl⟩
 have hA2:w2.heap[w1.heap.size]?=some (.cells #[.int .u8 87,.int .u8 76,.int .u8 79,.int .u8 71] 5 (0,0)):=by rw [hw2];exact heap_alloc_new w1 _
 have hb2:Below w1.heap.size w1 w2:=by rw [hw2];exact Below.alloc (Below.refl _ _) (Nat.le_refl _) _
 obtain⟨w3,hcv,hA3,hb3,hs3,ho3⟩:=conv_mark hA2 4 4
 have HB13:=zh (hb2.trans hb3)
 have HB1:=zh hb1
 have HS1:=zh hs1
 have HA3:=zh hA3
 have HW1:=zh hw1
 have HW2:=zh hw2
 have HZR:=zh hzr
 have HZ0:=zh hz0
 clear hb1 hb2 hb3 hs1 hs3 ho3 hA2 hA3 hw1 hw2 hzr hz0 hlen
 go_enter Tryz.func116,Tryz.ntmps116
 go_wp2_with (with_reducible refine wp_alloc_to (w':=w1) 94 rfl rfl (HZR.out _) HW1.out ?_;refine Halt.in ?_)
 refine Halt.out ?_
 go_wp2_with fail
 rw [← HW2.out,hcv]
 clear hcv
 have hv3:Bytes w3.heap.size w3 (.slice (some ⟨w1.heap.size,0,none⟩) 4 4) [87,76,79,71]:=row_of_heap (sz:=1) (n:=4) HA3.out (zB HA3.out) rfl (Nat.le_refl _) (by decide) (fun k u hk=>by simpa [u8s,u8] using hk)
 have k1:=refNum_any _ _ _ gen w3 hv3 (by simp)
 go_wp2_with fail
 refine k1.mono ?_
 rintro e w4 ⟨v4,rfl,ho4,hb4⟩
 clear k1 hv3
 have k2:=refNum_any _ _ _ (k:Int) w4 ho4.bytes (by simp [length_numB])
 have HB4:=zh hb4
 clear ho4 hb4
 go_wp2_with fail
 refine k2.mono ?_
 rintro e w5 ⟨v5,rfl,ho5,hb5⟩
 clear k2
 have k3:=refNum_any _ _ _ (b.length:Int) w5 ho5.bytes (by simp [length_numB])
 have HB5:=zh hb5
 clear ho5 hb5
 go_wp2_with fail
 refine k3.mono ?_
 rintro e w6 ⟨v6,rfl,ho6,hb6⟩
 clear k3
 obtain⟨sm,hsm⟩:∃ sm,sm=SumP.toI (SumP.sum b):=⟨_,rfl⟩
 have hs0:0≤sm:=by rw [hsm];exact SumP.toI_lo _
 have hs1':sm<2^32:=by rw [hsm];exact SumP.toI_hi _
 have hws:IntKind.i64.wrap sm=sm:=by
  simp only [IntKind.wrap,IntKind.bits,IntKind.signed]
  simp
  omega
 have HB06:=zh (HB1.out.trans ((((HB13.out.trans (HB4.out.mono HB13.out.size)).trans (HB5.out.mono (Nat.le_trans HB13.out.size HB4.out.size))).trans (hb6.mono (Nat.le_trans HB13.out.size (Nat.le_trans HB4.out.size HB5.out.size)))).mono HB1.out.size))
 have ks:=refSum_any _ b w6 w.heap.size (HV.out.below HB06.out)
 rw [← hsm] at ks
 have HSM:=zh hsm
 have k4:=refNum_any _ _ _ sm w6 ho6.bytes (by simp [length_numB])
 have HB6:=zh hb6
 clear ho6 hb6 hsm hs0 hs1'
 go_wp2_with fail
 refine ks.mono ?_
 rintro e w' ⟨rfl,rfl⟩
 clear ks
 go_wp2_with fail
 refine k4.mono ?_
 rintro e w7 ⟨v7,rfl,ho7,hb7⟩
 clear k4
 obtain⟨MB,hMB⟩:∃ MB,MB=[87,76,79,71]++numB gen++numB (k:Int)++numB (b.length:Int)++numB sm:=⟨_,rfl⟩
 rw [← hMB] at ho7
 have hM36:MB.length=36:=by rw [hMB];simp [length_numB]
 have hMK:pad64 MB=markOf gen k b:=by
  rw [hMB];unfold markOf markS markB;rw [HSM.out];simp only [List.append_assoc]
 have hv7:=ho7.bytes
 obtain⟨_,a7,c7,rfl,h7a,_,h7⟩:=hv7
 rw [hM36] at h7 h7a
 obtain⟨b7,o7,rfl,hlt7,hc7⟩:=h7 (by decide)
 have hc7:∀ wr,Below w7.heap.size w7 wr→∀ (j:Nat) (hj:j<MB.length),wr.cell? ⟨b7,o7+j,none⟩=some (.int .u8 (MB[j].toNat:Int)):=fun wr hb j hj=>(hb.cell (p:=⟨b7,o7+j,none⟩) hlt7).trans (hc7 j _ (u8s_at hj))
 have hBw7:=HB13.out.trans ((((HB4.out.trans (HB5.out.mono HB4.out.size)).trans (HB6.out.mono (Nat.le_trans HB4.out.size HB5.out.size))).trans (hb7.mono (Nat.le_trans (Nat.le_trans HB4.out.size HB5.out.size) HB6.out.size))).mono HB13.out.size)
 have hG7:w7.heap[w.heap.size]?=some (.cells (u8s zeroS).toArray 94 (0,0)):=(hBw7.block _ (zB HG1.out)).trans HG1.out
 obtain⟨w8,hw8⟩:∃ w8,w8=w7.alloc (.cells z0.cells 94):=⟨_,rfl⟩
 have hs8:w8.heap[w7.heap.size]?=some (.cells (u8s (pad64 (MB.take 0))).toArray 94 (0,0)):=by rw [hw8,HZ0.out,List.take_zero,pad64_nil];exact heap_alloc_new w7 _
 have hb8:Below w7.heap.size w7 w8:=by rw [hw8];exact Below.alloc (Below.refl _ _) (Nat.le_refl _) _
 have hlt:w.heap.size<w7.heap.size:=zB hG7
 have HB17:=zh (HB1.out.trans (hBw7.mono HB1.out.size))
 have HW8:=zh hw8
 have HM:=zh hMK
 have HC7:=zh hc7
 have HG7:=zh hG7
 have HS8:=zh hs8
 rw [hM36]
 have HM36:=zh hM36
 obtain⟨g8,hg8⟩:∃ g8,g8=w7.heap.size:=⟨_,rfl⟩
 have hne:w.heap.size<g8:=by omega
 clear hMB hMK hc7 hBw7 hG7 hw8 hs8 ho7 hb7 h7a hlt7 hM36 hlt
 go_wp2_with (with_reducible refine wp_alloc_to (w':=w8) 94 rfl rfl (HZR.out _) HW8.out ?_;refine Halt.in ?_)
 refine Halt.out ?_
 rw [← hg8]
 have HG8:=zh hg8
 clear hg8
 go_wp2_with fail
 go_loopw [9] (fun i wr=>∃ j:Nat,j≤36∧i = .int .i64 j∧Below g8 w7 wr∧wr.heap[g8]?=some (.cells (u8s (pad64 (MB.take j))).toArray 94 (0,0))) (fun i _=>36-(intOf i).toNat)
 case atStart=>exact⟨0,by decide,rfl,by rw [HG8.out];exact hb8,by rw [HG8.out];exact HS8.out⟩
 case round =>
  obtain⟨j,hj,rfl,hbr,hrow⟩:=hrel
  have HBR:=zh hbr
  have HROW:=zh hrow
  clear hbr
  by_cases hlt:j<36
  ·have k0:decide ((j:Int)<36)=true:=by simp;omega
   have hjM:j<MB.length:=by rw [HM36.out];exact hlt
   have hcell:=HC7.out wr (HG8.out▸HBR.out) j hjM
   have hfz:=zF hrow
   have hold:=fill_old hrow (Nat.le_of_lt hjM) (by omega)
   have HF:=zh (fill_cell hrow hjM (by omega))
   have HBS:=zh (HBR.out.setCell (p:=⟨g8,j,none⟩) (Nat.le_refl _) (.int .u8 (MB[j].toNat:Int)))
   obtain⟨cv,hcv⟩:∃ cv,cv=MB[j]:=⟨_,rfl⟩
   rw [← hcv] at hcell HF HBS
   clear hcv hrow hjM
   have j1:(0:Int)≤(j:Int):=by omega
   have j2:(j:Int)<36:=by omega
   have j3:(j:Int)<64:=by omega
   go_wp2_with fail
   go_roundw
   case rel=>exact⟨j+1,by omega,by go_num,HBS.out,HF.out⟩
   case measure=>simp [intOf];omega
  ·have k0:decide ((j:Int)<36)=false:=by simp;omega
   have hall:pad64 (MB.take j)=markOf gen k b:=by rw [fill_all (.inl (by rw [HM36.out];omega)),HM.out]
   rw [hall] at hrow HROW
   obtain⟨X,hX⟩:∃ X,X=(u8s (markOf gen k b)).toArray:=⟨_,rfl⟩
   have hXs:X.size=64:=by rw [hX];simp [zL,markOf,length_markS]
   have hXo:∀ v∈X.toList,v.oneCell'=true:=by rw [hX];simpa using oneCell_u8s _
   rw [← hX] at hrow HROW
   have hld:=run_loadVar_row (P:=Tryz.prog) wr g8 94 94 X (0,0) _ hrow Tryz.underlying94 rfl (by rw [hXs];exact size_sector)
   have hGr:wr.heap[w.heap.size]?=some (.cells (u8s zeroS).toArray 94 (0,0)):=(HBR.out.block _ hne).trans HG7.out
   obtain⟨w9,hst,G9,hb9,_,_,_⟩:=store64 hGr (by simp [zL,zeroS]) X hXs hXo
   have HG9:=zh G9
   have HXS:=zh hXs
   have HX:=zh hX
   have HBB:=zh ((HB17.out.trans (HBR.out.mono (Nat.le_of_lt hne))).trans (hb9.mono (Nat.le_refl _)))
   clear hrow hGr hb9 G9 hXs hXo hall hX
   go_wp2_with (refine wp_load_at (.tmp 8) 94 rfl rfl rfl hld ?_;clear hld;refine Halt.in ?_)
   refine Halt.out ?_
   refine wp_store_at (.tmp 6) (.tmp 39) 94 rfl rfl rfl rfl hst ?_
   clear hst
   go_wp2_with fail
   refine bodyPost_ret (results_cell_row rfl _ _ w.heap.size _ _ _ _ rfl HG9.out Tryz.underlying94 rfl (by rw [HXS.out];exact size_sector)) rfl ?_
   exact⟨by rw [← HX.out],HBB.out⟩
end
section
open Go.RowKit WalP PackP
theorem WorkAt.lt {g:Nat} {w:World} {x:DiskP×Int} (h:WorkAt g w x):g<w.heap.size:=by
 obtain⟨_,_,_,_,h,_⟩:=h;exact zB h
theorem foldW_succ (at_:Int) (bs:List UInt8) (k:Nat) (hk:k<(bs.length+63) / 64) (x:DiskP×Int):((bytesD at_ bs).take (k+1)).foldl stepW x=stepW (((bytesD at_ bs).take k).foldl stepW x) (.put (at_+1+k) (pad64 (bs.drop (64*k)))):=by
 rw [bytesD_succ at_ bs k hk,List.foldl_append];rfl
set_option maxRecDepth 100000 in
set_option maxHeartbeats 2000000 in
theorem wbytes_any {g:Nat} (x:DiskP×Int) (at_:Int) (v:Value) (bs:List UInt8) (w:World) (hh:WorkAt g w x) (hv:Bytes g w v bs) (hlen:bs.length≤2^20) (ha0:0≤at_) (ha1:at_≤2^40) :
  Calls Tryz.prog 114 #[.pointer (some ⟨g,0,none⟩),.int .i64 at_,v] w fun e w'=>e = .returned (.tuple #[])∧WorkAt g w' ((bytesD at_ bs).foldl stepW x)∧w.grownBy w' (some g):=by
 obtain⟨z0,hz0,hzr⟩:=zero44
 obtain⟨N,hN⟩:∃ N,N=(bs.length+63) / 64:=⟨_,rfl⟩
 obtain⟨L,hL⟩:∃ L,L=bs.length:=⟨_,rfl⟩
 have HV:=zh hv
 obtain⟨_,a0,c0,rfl,q1,q2,h4⟩:=hv
 rw [← hL] at hN q1 h4 HV hlen ⊢
 have h4:0<L→∃ b off,a0=some ⟨b,off,none⟩∧b<g∧∀ (j:Nat) (hj:j<bs.length),w.cell? ⟨b,off+j,none⟩=some (.int .u8 (bs[j].toNat:Int)):=fun h=>by
  obtain⟨b,off,h1,h2,h3⟩:=h4 h
  exact⟨b,off,h1,h2,fun j hj=>h3 j _ (u8s_at hj)⟩
 have HH:=zh hh
 have HN:=zh hN
 have HL:=zh hL
 have H4:=zh h4
 have HZ:=zh hzr
 have HZ0:=zh hz0
 clear hh hN hzr hz0 hL h4 q2
 go_enter Tryz.func114,Tryz.ntmps114
 go_wp2_with fail
 go_loopw [6] (fun i wr=>∃ (k:Nat) (xk:DiskP×Int),k≤N∧i = .int .i64 (64*(k:Int))∧WorkAt g wr xk∧xk=((bytesD at_ bs).take k).foldl stepW x∧w.grownBy wr (some g)) (fun i _=>(64*N-(intOf i).toNat))
 case atStart=>exact⟨0,x,Nat.zero_le _,rfl,HH.out,rfl,only_refl _ _⟩
 case round =>
  obtain⟨k,xk,hk,rfl,hwk,hxk,ho⟩:=hrel
  obtain⟨I,hI⟩:∃ I,I=64*k:=⟨_,rfl⟩
  have hIz:64*(k:Int)=(I:Int):=by omega
  rw [hIz]
  have HWK:=zh hwk
  have HXK:=zh hxk
  have HO:=zh ho
  have hNL:=HN.out
  clear hwk hxk ho hIz
  by_cases hlt:I<L
  ·have k0:decide ((I:Int)<(L:Int))=true:=by simp;omega
   have hkN:k<N:=by omega
   obtain⟨b,off,rfl,hbg,hcl⟩:=H4.out (by omega)
   have HCL:=zh hcl
   have hgr:=HWK.out.lt
   obtain⟨w1,hw1⟩:∃ w1,w1=wr.alloc (.cells z0.cells 94):=⟨_,rfl⟩
   have hb1:Below wr.heap.size wr w1:=by rw [hw1];exact Below.alloc (Below.refl _ _) (Nat.le_refl _) _
   have hX1:w1.heap[wr.heap.size]?=some (.cells (u8s (pad64 ((bs.drop I).take 0))).toArray 94 (0,0)):=by rw [hw1,List.take_zero,pad64_nil,← HZ0.out];exact heap_alloc_new wr _
   obtain⟨s,hs⟩:∃ s,s=wr.heap.size:=⟨_,rfl⟩
   rw [← hs] at hb1 hX1 hgr
   have HW1:=zh hw1
   have HB1:=zh hb1
   have HX1:=zh hX1
   have HS:=zh hs
   have hI20:I≤2^20:=by omega
   have HI:=zh hI
   clear hw1 hb1 hX1 hcl hNL hI
   go_wp2_with (refine wp_alloc_to (w':=w1) 94 rfl rfl (HZ.out _) HW1.out ?_;refine Halt.in ?_)
   refine Halt.out ?_
   rw [← HS.out]
   clear hs
   obtain⟨wo,hwo⟩:∃ wo,wo=wr:=⟨_,rfl⟩
   subst hwo
   go_wp2_with fail
   go_loopw [8] (fun j w2=>∃ q:Nat,q≤64∧I+q≤L∧j = .int .i64 q∧Below s wo w2∧w2.heap[s]?=some (.cells (u8s (pad64 ((bs.drop I).take q))).toArray 94 (0,0))) (fun j _=>64-(intOf j).toNat)
   case atStart=>exact⟨0,by decide,by omega,rfl,HB1.out,HX1.out⟩
   case round =>
    obtain⟨q,hq,hqL,rfl,hb2,hrow⟩:=hrel
    have HB2:=zh hb2
    have HROW:=zh hrow
    clear hb2
    by_cases hq2:q<64∧I+q<L
    ·have k1:decide ((q:Int)<64)=true:=by simp;omega
     have k2:decide ((I:Int)+(q:Int)<(L:Int))=true:=by simp;omega
     have hqB:q<(bs.drop I).length:=by rw [List.length_drop,← HL.out];omega
     have hjB:I+q<bs.length:=by rw [← HL.out];omega
     have hge:(bs.drop I)[q]=bs[I+q]:=by rw [List.getElem_drop]
     have hbs:b<wo.heap.size:=Nat.lt_trans hbg HWK.out.lt
     have hcell:wr.cell? ⟨b,off+(I+q),none⟩=some (.int .u8 (bs[I+q].toNat:Int)):=by
      rw [HB2.out.cell (p:=⟨b,off+(I+q),none⟩) (by rw [HS.out];exact hbs)]
      have:w.cell? ⟨b,off+(I+q),none⟩=_:=HCL.out (I+q) hjB
      rw [← this]
      exact (below_of_only HO.out (Nat.le_refl g) (Nat.le_of_lt HH.out.lt)).cell (p:=⟨b,off+(I+q),none⟩) hbg
     have hfz:=zF hrow
     have hold:=fill_old hrow (Nat.le_of_lt hqB) (by omega)
     have hset:=fill_cell hrow hqB (by omega)
     rw [hge] at hset
     have HF:=zh hset
     have HBS:=zh (HB2.out.setCell (p:=⟨s,q,none⟩) (Nat.le_refl _) (.int .u8 (bs[I+q].toNat:Int)))
     obtain⟨cv,hcv⟩:∃ cv,cv=bs[I+q]:=⟨_,rfl⟩
     rw [← hcv] at hcell HF HBS
     clear hcv hrow hset hge hqB hjB
     have j1:(0:Int)≤(q:Int):=by omega
     have j2:(q:Int)<64:=by omega
     have j3:(I:Int)+(q:Int)<(L:Int):=by omega
     have j4:(0:Int)≤(I:Int)+(q:Int):=by omega
     have j5:((I:Int)+(q:Int)).toNat=I+q:=by omega
     go_wp2_with fail
     go_roundw
     case rel=>exact⟨q+1,by omega,by omega,by go_num,HBS.out,HF.out⟩
     case measure=>simp [intOf];omega
    ·have hall:pad64 ((bs.drop I).take q)=pad64 (bs.drop I):=fill_all (by rw [List.length_drop,← HL.out];omega)
     rw [hall] at hrow
     have hbs2:=HB2.out
     obtain⟨X,hX⟩:∃ X,X=(u8s (pad64 (bs.drop I))).toArray:=⟨_,rfl⟩
     have hXs:X.size=64:=by rw [hX];simp [zL,length_pad64]
     have hXo:∀ v∈X.toList,v.oneCell'=true:=by rw [hX];simpa using oneCell_u8s _
     have hwk:=HWK.out.below (HB2.out.mono (Nat.le_of_eq HS.out.symm))
     have kp:=wput_any xk (at_+1+(I:Int) / 64) (pad64 (bs.drop I)) wr hwk (length_pad64 _)
     have hst:stepW xk (.put (at_+1+(I:Int) / 64) (pad64 (bs.drop I)))=((bytesD at_ bs).take (k+1)).foldl stepW x:=by
      rw [foldW_succ at_ bs k (by rw [← HL.out,← HN.out];exact hkN),← HXK.out,← HI.out,show (I:Int) / 64=(k:Int) by rw [HI.out];omega]
     rw [hst] at kp
     clear hst
     rw [← hX] at hrow kp
     have hld:=run_loadVar_row (P:=Tryz.prog) wr s 94 94 X (0,0) _ hrow Tryz.underlying94 rfl (by rw [hXs];exact size_sector)
     have HO2:=zh (zO HO.out (only_of_below (g:=g) (HB2.out.mono (Nat.le_of_eq HS.out.symm))))
     have hcs:(decide ((q:Int)<64)=true∧decide ((I:Int)+(q:Int)<(L:Int))=false)∨decide ((q:Int)<64)=false:=by
      by_cases h:q<64
      ·left;constructor
       ·simp;omega
       ·simp;omega
      ·right;simp;omega
     have KP:=zh kp
     clear hall hbs2 hX hXs hXo hwk hrow kp hq2
     rcases hcs with ⟨k1,k2⟩ | k1
     all_goals (
      go_wp2_with (refine wp_load_at (.tmp 7) 94 rfl rfl rfl hld ?_;clear hld;refine Halt.in ?_)
      refine Halt.out ?_
      go_wp2_with fail
      refine KP.out.mono ?_
      rintro e w3 ⟨rfl,hw3,ho3⟩
      have HW3:=zh hw3
      have HO3:=zh (zO HO2.out ho3)
      clear hw3 ho3
      go_wp2_with fail
      go_roundw
      case rel=>exact⟨k+1,_,by omega,by rw [HI.out];congr 1,HW3.out,rfl,HO3.out⟩
      case measure=>have h1:=HI.out;have h2:=HN.out;first | (simp [intOf];done) | (simp [intOf];omega))
  ·have k0:decide ((I:Int)<(L:Int))=false:=by simp;omega
   have HE:=zh (show WorkAt g wr ((bytesD at_ bs).foldl stepW x) by
    have e:(bytesD at_ bs).take k=bytesD at_ bs:=List.take_of_length_le (by unfold bytesD;simp;have:=HL.out;omega)
    have h:=HWK.out
    rw [HXK.out,e] at h
    exact h)
   clear hI
   go_wp2_with fail
   go_end0
   exact⟨rfl,HE.out,HO.out⟩
end
section
open Go.RowKit WalP PackP
set_option maxRecDepth 100000 in
set_option maxHeartbeats 4000000 in
theorem wlay_any {g:Nat} (x:DiskP×Int) (which gen:Int) (v:Value) (list:List (List UInt8)) (w:World) (hh:WorkAt g w x) (hv:Pieces g w v list)
  (hw0:0≤which*(half x.1:Nat)) (hw1:which*(half x.1:Nat)≤2^20) (hl1:∀ b∈list,b.length≤2^20) (hl2:list.length≤2^20) (hl3:list≠[]) :
  Calls Tryz.prog 103 #[.pointer (some ⟨g,0,none⟩),.int .i64 which,.int .i64 gen,v] w fun e w'=>e = .returned (.tuple #[])∧WorkAt g w' ((layD (half x.1) which gen list).foldl stepW x)∧w.grownBy w' (some g):=by
 obtain⟨H,hH⟩:∃ H,H=half x.1:=⟨_,rfl⟩
 have HH:=zh hh
 have hlt:=hh.lt
 obtain⟨p1,q1,p2,q2,hg,hd⟩:=hh
 have hS2:x.1.secs.length≤2^63-1:=by
  obtain⟨sv,lv,hv',h1,_⟩:=hd
  cases hv'
  obtain⟨_,a',c',hv',hn,hc,_⟩:=h1.2
  cases hv'
  unfold maxLen at hc
  omega
 have hH2:H≤2^62:=by rw [hH];unfold half;omega
 obtain⟨a,c,rfl,hnc,hc63,hat⟩:=hv.at_
 rw [← hH] at hw0 hw1 ⊢
 have C0:=cR w _ 0 _ _ _ hg
 obtain⟨S,hS⟩:∃ S,S=x.1.secs.length:=⟨_,rfl⟩
 rw [← hS] at C0 hS2
 have hSH:(S:Int) / 2=(H:Int):=by rw [hH,hS];unfold half;omega
 have HAT:=zh hat
 have HL1:=zh hl1
 have HL3:=zh hl3
 have HHH:=zh hH
 have HB0:=fun w=>zh (run_build0 w)
 obtain⟨Z,hZ⟩:∃ Z,Z=(u8s zeroS).toArray:=⟨_,rfl⟩
 simp only [← hZ] at HB0
 have HZ:=zh hZ
 obtain⟨n,hn⟩:∃ n,n=list.length:=⟨_,rfl⟩
 rw [← hn] at hnc hl2 ⊢
 have HN:=zh hn
 have HSH:=zh hSH
 clear hv hat hl1 hl3 hg hd hH hZ hn hS hSH
 go_enter Tryz.func103,Tryz.ntmps103
 go_upto_region 1 with (fail)
 rw [HSH.out]
 obtain⟨F,hF⟩:∃ F,F=which*(H:Int):=⟨_,rfl⟩
 go_upto_region 2 with (fail)
 rw [← hF] at hw0 hw1 ⊢
 have HF:=zh hF
 clear hF
 go_wp2_with fail
 go_loopw [10] (fun z wr=>∃ (k:Nat) (xk:DiskP×Int),k≤H∧z = .int .i64 k∧WorkAt g wr xk∧xk=((zerosD F H).take k).foldl stepW x∧w.grownBy wr (some g)) (fun z _=>H-(intOf z).toNat)
 case atStart=>exact⟨0,x,Nat.zero_le _,rfl,HH.out,rfl,only_refl _ _⟩
 case round =>
  obtain⟨k,xk,hk,rfl,hh,hxk,ho⟩:=hrel
  have HXK:=zh hxk
  have HO:=zh ho
  have HWK:=zh hh
  clear hh hxk ho
  by_cases hkH:k<H
  ·have k0:decide ((k:Int)<(H:Int))=true:=by simp;omega
   have hsum:IntKind.i64.wrap (F+(k:Int))=F+(k:Int):=by
    simp only [IntKind.wrap,IntKind.bits,IntKind.signed]
    simp
    omega
   have kp:=wput_any xk (F+(k:Int)) zeroS wr HWK.out rfl
   rw [← HZ.out] at kp
   have hst:stepW xk (.put (F+(k:Int)) zeroS)=((zerosD F H).take (k+1)).foldl stepW x:=by
    rw [zerosD_succ F H k hkH,List.foldl_append,← HXK.out];rfl
   rw [hst] at kp
   have hb0:=(HB0 wr).out
   clear hst
   go_wp2_with (refine wp_build_l 94 [] rfl rfl rfl hb0 ?_;refine Halt.in ?_)
   refine Halt.out ?_
   clear hb0
   go_wp2_with fail
   refine kp.mono ?_
   rintro e w3 ⟨rfl,hw3,ho3⟩
   have HO3:=zh (zO HO.out ho3)
   have HW3:=zh hw3
   clear kp hw3 ho3
   go_wp2_with fail
   go_roundw
   case rel=>exact⟨k+1,_,by omega,by go_num,HW3.out,rfl,HO3.out⟩
   case measure=>simp [intOf];omega
  ·have k0:decide ((k:Int)<(H:Int))=false:=by simp;omega
   obtain rfl:k=H:=by omega
   have kf:=wflush_any xk wr HWK.out
   have hst:stepW xk .flush=(layA F k gen list 0).foldl stepW x:=by
    rw [layA_zero,List.foldl_append,HXK.out,zerosD_all F k k (Nat.le_refl _)];rfl
   rw [hst] at kf
   clear hst
   go_wp2_with fail
   refine kf.mono ?_
   rintro e w3 ⟨rfl,hw3,ho3⟩
   have HO3:=zh (zO HO.out ho3)
   have HW3:=zh hw3
   clear kf hw3 ho3
   go_wp2_with fail
   go_loopw [11,12] (fun y z wr=>∃ (i:Nat) (xi:DiskP×Int),i≤n∧z = .int .i64 i∧y = .int .i64 (F+posN (list.take i))∧WorkAt g wr xi∧xi=(layA F k gen list i).foldl stepW x∧w.grownBy wr (some g)) (fun _ z _=>n-(intOf z).toNat)
   case atStart=>exact⟨0,_,Nat.zero_le _,rfl,by simp [posN],HW3.out,rfl,HO3.out⟩
   case round =>
    obtain⟨i,xi,hi,rfl,rfl,hh,hxi,ho⟩:=hrel
    have HXI:=zh hxi
    have HOI:=zh ho
    have HWI:=zh hh
    have hbg:=below_hand ho hlt
    have hpl:=posN_le (list.take i)
    have hpl2:(list.take i).length≤i:=List.length_take_le _ _
    obtain⟨ps,hps⟩:∃ ps,ps=posN (list.take i):=⟨_,rfl⟩
    rw [← hps] at hpl ⊢
    have HPS:=zh hps
    clear hh hxi ho HW3 HO3 HWK HO hps
    obtain⟨at_,hate⟩:∃ z,z=F+(ps:Int):=⟨_,rfl⟩
    have hat0:0≤at_:=by omega
    have hat1:at_≤2^30:=by omega
    rw [← hate]
    have HATE:=zh hate
    by_cases hin:i<n
    ·have k1:decide ((i:Int)<(n:Int))=true:=by simp;omega
     have hil:i<list.length:=HN.out▸hin
     obtain⟨b,off,a2,c2,rfl,hbg2,hcell⟩:=HAT.out i hil
     obtain⟨hE,hBy⟩:=hcell wr hbg
     have HCELL:=zh hcell
     have hbl:=HL1.out _ (List.getElem_mem hil)
     obtain⟨bl,hbe⟩:∃ bl,bl=list[i]:=⟨_,rfl⟩
     rw [← hbe] at hE hBy hbl
     have HBE:=zh hbe
     have kb:=wbytes_any xi at_ _ bl wr HWI.out hBy hbl hat0 (by omega)
     have HBY:=zh hBy
     have hstep:layA F k gen list (i+1)=layA F k gen list i++recD at_ gen i bl:=by
      rw [layA_succ F k gen list i hil,HATE.out,HPS.out,HBE.out]
     have HSTEP:=zh hstep
     have hpos:(F+(posN (list.take (i+1)):Nat):Int)=at_+(takes bl.length:Nat):=by
      have e:list.take (i+1)=list.take i++[list[i]]:=by rw [List.take_add_one,List.getElem?_eq_getElem hil];rfl
      rw [e,posN_append,HATE.out,HPS.out,HBE.out]
      simp [posN]
      omega
     have HPOS:=zh hpos
     have hi0:(0:Int)≤(i:Int):=by omega
     have hi1:(i:Int)<(n:Int):=by omega
     have htk:=takes_le bl.length
     clear hcell hBy hbe hate hstep hpos
     go_wp2_with fail
     refine kb.mono ?_
     rintro e w4 ⟨rfl,hw4,ho4⟩
     have HO4:=zh (zO HOI.out ho4)
     have HW4:=zh hw4
     have hbg4:=below_hand HO4.out hlt
     obtain⟨hE4,hBy4⟩:=HCELL.out w4 hbg4
     rw [← HBE.out] at hE4 hBy4
     have kt:=fun w=>refTakes_any (bl.length:Int) w
     simp only [takesZ_nat] at kt
     clear kb hw4 ho4 hbg4 hE hbg
     by_cases hi0':i=0
     ·subst hi0'
      have hst:(bytesD at_ bl).foldl stepW xi=(layA F k gen list (0+1)).foldl stepW x:=by
       rw [HSTEP.out,List.foldl_append,← HXI.out,recD,if_neg (Nat.lt_irrefl 0),List.append_nil]
      have HST:=zh hst
      have kt:=kt w4
      rw [Nat.add_zero] at hE4
      clear hst hBy4
      go_wp2_with fail
      refine kt.mono ?_
      rintro e w9 ⟨rfl,rfl⟩
      clear kt
      go_wp2_with fail
      go_roundw
      case rel=>exact⟨0+1,_,by omega,by go_num,by rw [HPOS.out],HW4.out,HST.out,HO4.out⟩
      case measure=>simp [intOf];omega
     ·have hi2:decide ((0:Int)<(i:Int))=true:=by simp;omega
      have hbl40:bl.length≤2^40:=by omega
      have km:=refMark_any gen i _ bl w4 hBy4 hbl40
      clear hBy4
      go_wp2_with fail
      refine km.mono ?_
      rintro e w5 ⟨rfl,hb5⟩
      have hw5:=HW4.out.below hb5
      have kp:=wput_any _ at_ (markOf gen i bl) w5 hw5 (length_markS _ _ _ _)
      have hst:stepW ((bytesD at_ bl).foldl stepW xi) (.put at_ (markOf gen i bl))=(layA F k gen list (i+1)).foldl stepW x:=by
       rw [HSTEP.out,List.foldl_append,← HXI.out,recD,if_pos (by omega),List.foldl_append];rfl
      rw [hst] at kp
      have HO5:=zh (zO HO4.out (only_of_below hb5))
      clear hst hw5 hb5 km
      go_wp2_with fail
      refine kp.mono ?_
      rintro e w6 ⟨rfl,hw6,ho6⟩
      have HO6:=zh (zO HO5.out ho6)
      have HW6:=zh hw6
      have hbg6:=below_hand HO6.out hlt
      obtain⟨hE6,hBy6⟩:=HCELL.out w6 hbg6
      rw [← HBE.out] at hE6 hBy6
      have kt:=kt w6
      clear kp hw6 ho6 hbg6 hBy6 hE4
      go_wp2_with fail
      refine kt.mono ?_
      rintro e w9 ⟨rfl,rfl⟩
      clear kt
      go_wp2_with fail
      go_roundw
      case rel=>exact⟨i+1,_,by omega,by go_num,by rw [HPOS.out],HW6.out,rfl,HO6.out⟩
      case measure=>simp [intOf];omega
    ·have k1:decide ((i:Int)<(n:Int))=false:=by simp;omega
     obtain rfl:i=n:=by omega
     have kf:=wflush_any xi wr HWI.out
     have hn0:0<i:=by
      rw [HN.out]
      exact List.length_pos_iff.2 HL3.out
     have hil:0<list.length:=HN.out▸hn0
     obtain⟨b,off,a2,c2,rfl,hbg2,hcell⟩:=HAT.out 0 hil
     have HCELL:=zh hcell
     have hhead:list.headD []=list[0]:=by cases list with | nil=>simp at hil | cons x l=>rfl
     have heq:=layD_eq k which gen list
     rw [← HF.out,hhead] at heq
     have hbl:=HL1.out _ (List.getElem_mem hil)
     obtain⟨bl,hbe⟩:∃ bl,bl=list[0]:=⟨_,rfl⟩
     rw [← hbe] at heq hbl
     have HBE:=zh hbe
     have HEQ:=zh heq
     have hi1:(0:Int)<(i:Int):=by omega
     clear hcell hhead heq hbe
     go_wp2_with fail
     refine kf.mono ?_
     rintro e w3 ⟨rfl,hw3,ho3⟩
     have HO3:=zh (zO HOI.out ho3)
     have HW3:=zh hw3
     have hbg3:=below_hand HO3.out hlt
     obtain⟨hE,hBy⟩:=HCELL.out w3 hbg3
     rw [Nat.add_zero] at hE
     rw [← HBE.out] at hE hBy
     have km:=refMark_any gen 0 _ bl w3 hBy (by omega)
     clear kf hw3 ho3 hbg3 hBy
     go_wp2_with fail
     refine km.mono ?_
     rintro e w5 ⟨rfl,hb5⟩
     have hw5:=HW3.out.below hb5
     have kp:=wput_any _ F (markOf gen 0 bl) w5 hw5 (length_markS _ _ _ _)
     have HO5:=zh (zO HO3.out (only_of_below hb5))
     clear hw5 hb5 km hE
     go_wp2_with fail
     refine kp.mono ?_
     rintro e w6 ⟨rfl,hw6,ho6⟩
     have HO6:=zh (zO HO5.out ho6)
     have kf:=wflush_any _ w6 hw6
     have hall:stepW (stepW (stepW xi .flush) (.put F (markOf gen 0 bl))) .flush=(layD k which gen list).foldl stepW x:=by
      rw [HEQ.out,List.foldl_append,← HN.out,← HXI.out];rfl
     rw [hall] at kf
     clear hall kp hw6 ho6
     go_wp2_with fail
     refine kf.mono ?_
     rintro e w7 ⟨rfl,hw7,ho7⟩
     have HO7:=zh (zO HO6.out ho7)
     have HW7:=zh hw7
     clear kf hw7 ho7
     go_wp2_with fail
     go_end0
     exact⟨rfl,HW7.out,HO7.out⟩
end
section
open Go.RowKit WalP PackP
theorem exit_work {w wx:World} {ga gb gc ge:Nat} {x0 x1 x2 x3 x4 y0 y1 y2 y3:Value} {d:DiskP} (A:wx.heap[ga]?=some (.cells #[x0,x1,x2,x3,x4] 140 (0,0))) (B:wx.heap[gb]?=some (.cells #[y0,y1,y2,y3] 41 (0,0)))
  (C:wx.heap[gc]?=some (.cells #[.slice none 0 0,.slice none 0 0,.int .i64 0,.bool false] 38 (0,0))) (E:wx.heap[ge]?=some (.cells #[.int .i64 0,.int .i64 0,.int .i64 0,.int .i64 0] 41 (0,0)))
  (hd:DiskV wx.heap.size wx (.agg #[x0,x1,x2,x3]) d) (hb:Below w.heap.size w wx) (hc:w.heap.size≤gc) (he:w.heap.size≤ge) (nce:gc≠ge) (nca:gc≠ga) (ncb:gc≠gb) (nea:ge≠ga) (neb:ge≠gb) :
  ∃ oa ob wa wb,Hid (wa=((((wx.setCell ⟨gc,0,none⟩ x0).setCell ⟨gc,1,none⟩ x1).setCell ⟨gc,2,none⟩ x2).setCell ⟨gc,3,none⟩ x3).drew)∧Hid (wb=(((wa.setCell ⟨ge,0,none⟩ y0).setCell ⟨ge,1,none⟩ y1).setCell ⟨ge,2,none⟩ y2).setCell ⟨ge,3,none⟩ y3)∧Two ga gb oa ob wx.drew∧Two ga gb oa ob wa∧Two ga gb oa ob wb ∧
   (∀ w',Two ga gb oa ob w'→w'.cell? ⟨ga,0,none⟩=some x0)∧(∀ w',Two ga gb oa ob w'→w'.cell? ⟨ga,1,none⟩=some x1)∧(∀ w',Two ga gb oa ob w'→w'.cell? ⟨ga,2,none⟩=some x2)∧(∀ w',Two ga gb oa ob w'→w'.cell? ⟨ga,3,none⟩=some x3)∧(∀ w',Two ga gb oa ob w'→w'.cell? ⟨ga,4,none⟩=some x4) ∧
   (∀ w',Two ga gb oa ob w'→w'.cell? ⟨gb,0,none⟩=some y0)∧(∀ w',Two ga gb oa ob w'→w'.cell? ⟨gb,1,none⟩=some y1)∧(∀ w',Two ga gb oa ob w'→w'.cell? ⟨gb,2,none⟩=some y2)∧(∀ w',Two ga gb oa ob w'→w'.cell? ⟨gb,3,none⟩=some y3) ∧
   wx.cell? ⟨gc,0,none⟩=some (.slice none 0 0)∧wx.cell? ⟨gc,1,none⟩=some (.slice none 0 0)∧wx.cell? ⟨gc,2,none⟩=some (.int .i64 0)∧wx.cell? ⟨gc,3,none⟩=some (.bool false)∧(∀ o,wx.frozen? ⟨gc,o,none⟩=false) ∧
   wa.cell? ⟨ge,0,none⟩=some (.int .i64 0)∧wa.cell? ⟨ge,1,none⟩=some (.int .i64 0)∧wa.cell? ⟨ge,2,none⟩=some (.int .i64 0)∧wa.cell? ⟨ge,3,none⟩=some (.int .i64 0)∧(∀ o,wa.frozen? ⟨ge,o,none⟩=false) ∧
   Hid (wb.heap[gc]?=some (.cells #[x0,x1,x2,x3] 38 (0,0))∧wb.heap[ge]?=some (.cells #[y0,y1,y2,y3] 41 (0,0))∧DiskV wb.heap.size wb (.agg #[x0,x1,x2,x3]) d∧Below w.heap.size w wb):=by
 have C':wx.drew.heap[gc]?=some (.cells #[.slice none 0 0,.slice none 0 0,.int .i64 0,.bool false] 38 (0,0)):=C
 have E':wx.drew.heap[ge]?=some (.cells #[.int .i64 0,.int .i64 0,.int .i64 0,.int .i64 0] 41 (0,0)):=E
 have s0:Two ga gb (.cells #[x0,x1,x2,x3,x4] 140 (0,0)) (.cells #[y0,y1,y2,y3] 41 (0,0)) wx.drew:=⟨A,B⟩
 have sa:Two ga gb (.cells #[x0,x1,x2,x3,x4] 140 (0,0)) (.cells #[y0,y1,y2,y3] 41 (0,0)) (put4 wx.drew gc x0 x1 x2 x3):=⟨put4_far s0.1 nca _ _ _ _,put4_far s0.2 ncb _ _ _ _⟩
 have sb:Two ga gb (.cells #[x0,x1,x2,x3,x4] 140 (0,0)) (.cells #[y0,y1,y2,y3] 41 (0,0)) (put4 (put4 wx.drew gc x0 x1 x2 x3) ge y0 y1 y2 y3):=⟨put4_far sa.1 nea _ _ _ _,put4_far sa.2 neb _ _ _ _⟩
 have Ea:(put4 wx.drew gc x0 x1 x2 x3).heap[ge]?=some (.cells #[.int .i64 0,.int .i64 0,.int .i64 0,.int .i64 0] 41 (0,0)):=put4_far E' nce _ _ _ _
 exact⟨_,_,put4 wx.drew gc x0 x1 x2 x3,put4 (put4 wx.drew gc x0 x1 x2 x3) ge y0 y1 y2 y3,zh rfl,zh rfl,s0,sa,sb,
  fun w' h=>cR w' _ 0 _ _ _ h.1,fun w' h=>cR w' _ 1 _ _ _ h.1,fun w' h=>cR w' _ 2 _ _ _ h.1,fun w' h=>cR w' _ 3 _ _ _ h.1,fun w' h=>cR w' _ 4 _ _ _ h.1,
  fun w' h=>cR w' _ 0 _ _ _ h.2,fun w' h=>cR w' _ 1 _ _ _ h.2,fun w' h=>cR w' _ 2 _ _ _ h.2,fun w' h=>cR w' _ 3 _ _ _ h.2,
  cR wx _ 0 _ _ _ C,cR wx _ 1 _ _ _ C,cR wx _ 2 _ _ _ C,cR wx _ 3 _ _ _ C,zF C,
  cR _ _ 0 _ _ _ Ea,cR _ _ 1 _ _ _ Ea,cR _ _ 2 _ _ _ Ea,cR _ _ 3 _ _ _ Ea,zF Ea,
  zh (exit_dl y0 y1 y2 y3 C' E' hd nce (zD hb 1) hc he)⟩
theorem work_new {w:World} {g:Nat} {a0 a1:Option Addr} {n0 n1:Nat} {d:DiskP} (hg:w.heap[g]?=some (.cells #[.slice a0 d.secs.length n0,.slice a1 d.loose.length n1,.int .i64 d.fuse,.bool d.down,.int .i64 0] 140 (0,0))) (hd:DiskV w.heap.size w (.agg #[.slice a0 d.secs.length n0,.slice a1 d.loose.length n1,.int .i64 d.fuse,.bool d.down]) d):WorkAt g w (d,0):=⟨a0,n0,a1,n1,hg,hd⟩
end
section
open Go.RowKit WalP PackP
theorem exit_work2 {w wx:World} {ga gb gc ge:Nat} {x0 x1 x2 x3 x4 y0 y1 y2 y3:Value} {d:DiskP} (z0 z1 z2 z3:Value) (A:wx.heap[ga]?=some (.cells #[x0,x1,x2,x3,x4] 140 (0,0))) (B:wx.heap[gb]?=some (.cells #[y0,y1,y2,y3] 41 (0,0)))
  (C:wx.heap[gc]?=some (.cells #[.slice none 0 0,.slice none 0 0,.int .i64 0,.bool false] 38 (0,0))) (E:wx.heap[ge]?=some (.cells #[.int .i64 0,.int .i64 0,.int .i64 0,.int .i64 0] 41 (0,0)))
  (hd:DiskV wx.heap.size wx (.agg #[x0,x1,x2,x3]) d) (hb:Below w.heap.size w wx) (hc:w.heap.size≤gc) (he:w.heap.size≤ge) (nce:gc≠ge) (nca:gc≠ga) (ncb:gc≠gb) (nea:ge≠ga) (neb:ge≠gb) :
  ∃ oa ob wa wb,Hid (wa=((((wx.setCell ⟨gc,0,none⟩ x0).setCell ⟨gc,1,none⟩ x1).setCell ⟨gc,2,none⟩ x2).setCell ⟨gc,3,none⟩ x3).drew)∧Hid (wb=(((wa.setCell ⟨ge,0,none⟩ z0).setCell ⟨ge,1,none⟩ z1).setCell ⟨ge,2,none⟩ z2).setCell ⟨ge,3,none⟩ z3)∧Two ga gb oa ob wx.drew∧Two ga gb oa ob wa∧Two ga gb oa ob wb ∧
   (∀ w',Two ga gb oa ob w'→w'.cell? ⟨ga,0,none⟩=some x0)∧(∀ w',Two ga gb oa ob w'→w'.cell? ⟨ga,1,none⟩=some x1)∧(∀ w',Two ga gb oa ob w'→w'.cell? ⟨ga,2,none⟩=some x2)∧(∀ w',Two ga gb oa ob w'→w'.cell? ⟨ga,3,none⟩=some x3)∧(∀ w',Two ga gb oa ob w'→w'.cell? ⟨ga,4,none⟩=some x4) ∧
   (∀ w',Two ga gb oa ob w'→w'.cell? ⟨gb,0,none⟩=some y0)∧(∀ w',Two ga gb oa ob w'→w'.cell? ⟨gb,1,none⟩=some y1)∧(∀ w',Two ga gb oa ob w'→w'.cell? ⟨gb,2,none⟩=some y2)∧(∀ w',Two ga gb oa ob w'→w'.cell? ⟨gb,3,none⟩=some y3) ∧
   wx.cell? ⟨gc,0,none⟩=some (.slice none 0 0)∧wx.cell? ⟨gc,1,none⟩=some (.slice none 0 0)∧wx.cell? ⟨gc,2,none⟩=some (.int .i64 0)∧wx.cell? ⟨gc,3,none⟩=some (.bool false)∧(∀ o,wx.frozen? ⟨gc,o,none⟩=false) ∧
   wa.cell? ⟨ge,0,none⟩=some (.int .i64 0)∧wa.cell? ⟨ge,1,none⟩=some (.int .i64 0)∧wa.cell? ⟨ge,2,none⟩=some (.int .i64 0)∧wa.cell? ⟨ge,3,none⟩=some (.int .i64 0)∧(∀ o,wa.frozen? ⟨ge,o,none⟩=false) ∧
   Hid (wb.heap[gc]?=some (.cells #[x0,x1,x2,x3] 38 (0,0))∧wb.heap[ge]?=some (.cells #[z0,z1,z2,z3] 41 (0,0))∧DiskV wb.heap.size wb (.agg #[x0,x1,x2,x3]) d∧Below w.heap.size w wb):=by
 have C':wx.drew.heap[gc]?=some (.cells #[.slice none 0 0,.slice none 0 0,.int .i64 0,.bool false] 38 (0,0)):=C
 have E':wx.drew.heap[ge]?=some (.cells #[.int .i64 0,.int .i64 0,.int .i64 0,.int .i64 0] 41 (0,0)):=E
 have s0:Two ga gb (.cells #[x0,x1,x2,x3,x4] 140 (0,0)) (.cells #[y0,y1,y2,y3] 41 (0,0)) wx.drew:=⟨A,B⟩
 have sa:Two ga gb (.cells #[x0,x1,x2,x3,x4] 140 (0,0)) (.cells #[y0,y1,y2,y3] 41 (0,0)) (put4 wx.drew gc x0 x1 x2 x3):=⟨put4_far s0.1 nca _ _ _ _,put4_far s0.2 ncb _ _ _ _⟩
 have sb:Two ga gb (.cells #[x0,x1,x2,x3,x4] 140 (0,0)) (.cells #[y0,y1,y2,y3] 41 (0,0)) (put4 (put4 wx.drew gc x0 x1 x2 x3) ge z0 z1 z2 z3):=⟨put4_far sa.1 nea _ _ _ _,put4_far sa.2 neb _ _ _ _⟩
 have Ea:(put4 wx.drew gc x0 x1 x2 x3).heap[ge]?=some (.cells #[.int .i64 0,.int .i64 0,.int .i64 0,.int .i64 0] 41 (0,0)):=put4_far E' nce _ _ _ _
 exact⟨_,_,put4 wx.drew gc x0 x1 x2 x3,put4 (put4 wx.drew gc x0 x1 x2 x3) ge z0 z1 z2 z3,zh rfl,zh rfl,s0,sa,sb,
  fun w' h=>cR w' _ 0 _ _ _ h.1,fun w' h=>cR w' _ 1 _ _ _ h.1,fun w' h=>cR w' _ 2 _ _ _ h.1,fun w' h=>cR w' _ 3 _ _ _ h.1,fun w' h=>cR w' _ 4 _ _ _ h.1,
  fun w' h=>cR w' _ 0 _ _ _ h.2,fun w' h=>cR w' _ 1 _ _ _ h.2,fun w' h=>cR w' _ 2 _ _ _ h.2,fun w' h=>cR w' _ 3 _ _ _ h.2,
  cR wx _ 0 _ _ _ C,cR wx _ 1 _ _ _ C,cR wx _ 2 _ _ _ C,cR wx _ 3 _ _ _ C,zF C,
  cR _ _ 0 _ _ _ Ea,cR _ _ 1 _ _ _ Ea,cR _ _ 2 _ _ _ Ea,cR _ _ 3 _ _ _ Ea,zF Ea,
  zh (exit_dl z0 z1 z2 z3 C' E' hd nce (zD hb 1) hc he)⟩
set_option maxRecDepth 100000 in
set_option maxHeartbeats 8000000 in
theorem refCompact_any {B:Nat} (v lv:Value) (d:DiskP) (l:LogP) (list:List (List UInt8)) (w:World) (hd:DiskV B w v d) (hv:Pieces B w lv list) (hl1:∀ b∈list,b.length≤2^20) (hl2:list.length≤2^20) :
  Calls Tryz.prog 66 #[v,logV l,lv] w (DLE w (compactP d l list)):=by
 have hd:=hd.tight
 have hv:=hv.tight
 obtain⟨la,lc,rfl,_,_,_⟩:=id hv.at_
 obtain⟨p1,q1,p2,q2,rfl,_,_⟩:=hd.parts
 obtain⟨w4,hw4,hb4,hs4,R0,R1,R2,R3⟩:=four w (.cells #[.slice p1 d.secs.length q1,.slice p2 d.loose.length q2,.int .i64 d.fuse,.bool d.down] 38) (.cells #[.int .i64 l.half,.int .i64 l.gen,.int .i64 l.used,.int .i64 l.count] 41) (.cells #[.slice none 0 0,.slice none 0 0,.int .i64 0,.bool false] 38) (.cells #[.int .i64 0,.int .i64 0,.int .i64 0,.int .i64 0] 41)
 have hd4:=(hd.below hb4).tight
 have hv4:=hv.below hb4
 have HW4:=zh hw4
 clear hw4
 have k1:=refTakesL_any _ list w4 hv4 (by omega)
 have kr:=refRight5_any _ d l w4 hd4
 simp only [logV] at kr
 obtain⟨R,hR⟩:∃ R,R=rightL d l:=⟨_,rfl⟩
 rw [← hR] at kr
 have HR:=zh hR
 clear hR
 have C0:=cR w4 _ 0 _ _ _ R0
 have C1:=cR w4 _ 1 _ _ _ R0
 have C2:=cR w4 _ 2 _ _ _ R0
 have C3:=cR w4 _ 3 _ _ _ R0
 have N0:=cR w4 _ 0 _ _ _ R1
 have N1:=cR w4 _ 1 _ _ _ R1
 have N2:=cR w4 _ 2 _ _ _ R1
 have N3:=cR w4 _ 3 _ _ _ R1
 cases htot:total list with
 | none =>
  have hT':takesL list = -1:=by unfold takesL;rw [htot]
  rw [hT'] at k1
  have hF:compactP d l list=(d,l,1):=by unfold compactP;rw [htot]
  rw [hF]
  clear hF hT' htot
  unfold DLE logV
  cases R with
  | false =>
   go_enter Tryz.func66,Tryz.ntmps66
   go_upto_region 1 with (fail)
   rw [← HW4.out]
   go_wp2_with fail
   refine k1.mono ?_
   rintro e w5 ⟨rfl,rfl⟩
   clear k1
   go_wp2_with fail
   refine kr.mono ?_
   rintro e w6 ⟨rfl,hb6⟩
   clear C0 C1 C2 C3 N0 N1 N2 N3 kr
   have S0:=(hb6.block _ (zB R0)).trans R0
   have S1:=(hb6.block _ (zB R1)).trans R1
   have S2:=(hb6.block _ (zB R2)).trans R2
   have S3:=(hb6.block _ (zB R3)).trans R3
   have hd6:=(hd4.below hb6).tight
   have hb06:=hb4.trans (hb6.mono hb4.size)
   obtain⟨oa,ob,wa,wb,HWA,HWB,s0,sa,sb,L0,L1,L2,L3,M0,M1,M2,M3,D0,D1,D2,D3,Z2,F0,F1,F2,F3,Z3,HX⟩:=exit_all (w:=w) (wx:=w6) S0 S1 S2 S3 hd6 hb06 (by omega) (by omega) (by omega) (by omega) (by omega) (by omega) (by omega)
   clear R0 R1 R2 R3 S0 S1 S2 S3 hd hv hd4 hv4 hb4 hs4 hd6 hb6 hb06
   go_wp2_with fail
   refine zI [(false,0),(false,1),(true,2),(true,3),(false,4)] (Two w.heap.size (w.heap.size+1) oa ob) (by kernel_rfl) (by kernel_rfl) s0 ?_
   repeat (first | (refine zS rfl rfl ?_;simp only [Act.put,zq1,zq2,zq3]) | (refine zT rfl ?_ rfl (fun w' hw'=>?_) ?_;rotate_left;(go_simp;first | done | with_reducible rfl);(try simp only [Act.put,zq1,zq2,zq3])))
   refine zA rfl rfl fun K hK=>?_
   go_simp
   rw [← HWA.out]
   refine hK.out _ _ sa ?_
   clear hK K D0 D1 D2 D3 Z2
   refine zA rfl rfl fun K hK=>?_
   go_simp
   rw [← HWB.out]
   refine hK.out _ _ sb ?_
   clear hK K F0 F1 F2 F3 Z3
   repeat (first | (refine zS rfl rfl ?_;simp only [Act.put,zq1,zq2,zq3]) | (refine zT rfl ?_ rfl (fun w' hw'=>?_) ?_;rotate_left;(go_simp;first | done | with_reducible rfl);(try simp only [Act.put,zq1,zq2,zq3])))
   refine zN ?_
   go_wp2_with fail
   refine bodyPost_ret (results_cct rfl _ _ (w.heap.size+1+1) (w.heap.size+1+1+1) _ _ _ _ _ _ _ _ rfl rfl HX.out.1 HX.out.2.1 Tryz.underlying38 rfl zQ Tryz.underlying41 rfl size_log) rfl ?_
   exact⟨⟨_,rfl,HX.out.2.2.1⟩,HX.out.2.2.2⟩
  | true =>
   go_enter Tryz.func66,Tryz.ntmps66
   go_upto_region 1 with (fail)
   rw [← HW4.out]
   go_wp2_with fail
   refine k1.mono ?_
   rintro e w5 ⟨rfl,rfl⟩
   clear k1
   go_wp2_with fail
   refine kr.mono ?_
   rintro e w6 ⟨rfl,hb6⟩
   clear C0 C1 C2 C3 N0 N1 N2 N3 kr
   have S0:=(hb6.block _ (zB R0)).trans R0
   have S1:=(hb6.block _ (zB R1)).trans R1
   have S2:=(hb6.block _ (zB R2)).trans R2
   have S3:=(hb6.block _ (zB R3)).trans R3
   have hd6:=(hd4.below hb6).tight
   have hb06:=hb4.trans (hb6.mono hb4.size)
   obtain⟨oa,ob,wa,wb,HWA,HWB,s0,sa,sb,L0,L1,L2,L3,M0,M1,M2,M3,D0,D1,D2,D3,Z2,F0,F1,F2,F3,Z3,HX⟩:=exit_all (w:=w) (wx:=w6) S0 S1 S2 S3 hd6 hb06 (by omega) (by omega) (by omega) (by omega) (by omega) (by omega) (by omega)
   clear R0 R1 R2 R3 S0 S1 S2 S3 hd hv hd4 hv4 hb4 hs4 hd6 hb6 hb06
   go_wp2_with fail
   refine zI [(false,0),(false,1),(true,2),(true,3),(false,4)] (Two w.heap.size (w.heap.size+1) oa ob) (by kernel_rfl) (by kernel_rfl) s0 ?_
   repeat (first | (refine zS rfl rfl ?_;simp only [Act.put,zq1,zq2,zq3]) | (refine zT rfl ?_ rfl (fun w' hw'=>?_) ?_;rotate_left;(go_simp;first | done | with_reducible rfl);(try simp only [Act.put,zq1,zq2,zq3])))
   refine zA rfl rfl fun K hK=>?_
   go_simp
   rw [← HWA.out]
   refine hK.out _ _ sa ?_
   clear hK K D0 D1 D2 D3 Z2
   refine zA rfl rfl fun K hK=>?_
   go_simp
   rw [← HWB.out]
   refine hK.out _ _ sb ?_
   clear hK K F0 F1 F2 F3 Z3
   repeat (first | (refine zS rfl rfl ?_;simp only [Act.put,zq1,zq2,zq3]) | (refine zT rfl ?_ rfl (fun w' hw'=>?_) ?_;rotate_left;(go_simp;first | done | with_reducible rfl);(try simp only [Act.put,zq1,zq2,zq3])))
   refine zN ?_
   go_wp2_with fail
   refine bodyPost_ret (results_cct rfl _ _ (w.heap.size+1+1) (w.heap.size+1+1+1) _ _ _ _ _ _ _ _ rfl rfl HX.out.1 HX.out.2.1 Tryz.underlying38 rfl zQ Tryz.underlying41 rfl size_log) rfl ?_
   exact⟨⟨_,rfl,HX.out.2.2.1⟩,HX.out.2.2.2⟩
 | some n =>
  have hT':takesL list=(n:Int):=by unfold takesL;rw [htot]
  rw [hT'] at k1
  have HNE:=zh (total_ne htot)
  have HTOT:=zh htot
  have n0:decide ((n:Int)<0)=false:=by simp
  clear hT' htot
  cases R with
  | false =>
   have hF:compactP d l list=(d,l,1):=by unfold compactP;rw [HTOT.out,← HR.out];rfl
   rw [hF]
   clear hF
   unfold DLE logV
   go_enter Tryz.func66,Tryz.ntmps66
   go_upto_region 1 with (fail)
   rw [← HW4.out]
   go_wp2_with fail
   refine k1.mono ?_
   rintro e w5 ⟨rfl,rfl⟩
   clear k1
   go_wp2_with fail
   refine kr.mono ?_
   rintro e w6 ⟨rfl,hb6⟩
   clear C0 C1 C2 C3 N0 N1 N2 N3 kr
   have S0:=(hb6.block _ (zB R0)).trans R0
   have S1:=(hb6.block _ (zB R1)).trans R1
   have S2:=(hb6.block _ (zB R2)).trans R2
   have S3:=(hb6.block _ (zB R3)).trans R3
   have hd6:=(hd4.below hb6).tight
   have hb06:=hb4.trans (hb6.mono hb4.size)
   obtain⟨oa,ob,wa,wb,HWA,HWB,s0,sa,sb,L0,L1,L2,L3,M0,M1,M2,M3,D0,D1,D2,D3,Z2,F0,F1,F2,F3,Z3,HX⟩:=exit_all (w:=w) (wx:=w6) S0 S1 S2 S3 hd6 hb06 (by omega) (by omega) (by omega) (by omega) (by omega) (by omega) (by omega)
   clear R0 R1 R2 R3 S0 S1 S2 S3 hd hv hd4 hv4 hb4 hs4 hd6 hb6 hb06
   go_wp2_with fail
   refine zI [(false,0),(false,1),(true,2),(true,3),(false,4)] (Two w.heap.size (w.heap.size+1) oa ob) (by kernel_rfl) (by kernel_rfl) s0 ?_
   repeat (first | (refine zS rfl rfl ?_;simp only [Act.put,zq1,zq2,zq3]) | (refine zT rfl ?_ rfl (fun w' hw'=>?_) ?_;rotate_left;(go_simp;first | done | with_reducible rfl);(try simp only [Act.put,zq1,zq2,zq3])))
   refine zA rfl rfl fun K hK=>?_
   go_simp
   rw [← HWA.out]
   refine hK.out _ _ sa ?_
   clear hK K D0 D1 D2 D3 Z2
   refine zA rfl rfl fun K hK=>?_
   go_simp
   rw [← HWB.out]
   refine hK.out _ _ sb ?_
   clear hK K F0 F1 F2 F3 Z3
   repeat (first | (refine zS rfl rfl ?_;simp only [Act.put,zq1,zq2,zq3]) | (refine zT rfl ?_ rfl (fun w' hw'=>?_) ?_;rotate_left;(go_simp;first | done | with_reducible rfl);(try simp only [Act.put,zq1,zq2,zq3])))
   refine zN ?_
   go_wp2_with fail
   refine bodyPost_ret (results_cct rfl _ _ (w.heap.size+1+1) (w.heap.size+1+1+1) _ _ _ _ _ _ _ _ rfl rfl HX.out.1 HX.out.2.1 Tryz.underlying38 rfl zQ Tryz.underlying41 rfl size_log) rfl ?_
   exact⟨⟨_,rfl,HX.out.2.2.1⟩,HX.out.2.2.2⟩
  | true =>
   obtain⟨b1,b2,b3,b4,b5,b6,b7,b8⟩:=rightL_bounds HR.out.symm
   obtain⟨H,hH⟩:∃ H,H=half d:=⟨_,rfl⟩
   have hSH:(d.secs.length:Int) / 2=(H:Int):=by rw [hH];unfold half;omega
   rw [← hH] at b5 b8
   have HHH:=zh hH
   have hS13:d.secs.length≤2^13:=by omega
   clear hH
   by_cases hgt:H<n
   ·have hgt1:decide ((d.secs.length:Int) / 2<(n:Int))=true:=by rw [hSH];simp;omega
    have hF:compactP d l list=(d,l,8):=by
     unfold compactP;rw [HTOT.out]
     simp only [← HR.out,if_true]
     rw [if_pos (by rw [← HHH.out];exact hgt)]
    rw [hF]
    clear hF b1 b2 b3 b4 b5 b6 b7 b8 hSH
    unfold DLE logV
    go_enter Tryz.func66,Tryz.ntmps66
    go_upto_region 1 with (fail)
    rw [← HW4.out]
    go_wp2_with fail
    refine k1.mono ?_
    rintro e w5 ⟨rfl,rfl⟩
    clear k1
    go_wp2_with fail
    refine kr.mono ?_
    rintro e w6 ⟨rfl,hb6⟩
    clear C0 C1 C2 C3 N0 N1 N2 N3 kr
    have S0:=(hb6.block _ (zB R0)).trans R0
    have S1:=(hb6.block _ (zB R1)).trans R1
    have S2:=(hb6.block _ (zB R2)).trans R2
    have S3:=(hb6.block _ (zB R3)).trans R3
    have hd6:=(hd4.below hb6).tight
    have hb06:=hb4.trans (hb6.mono hb4.size)
    have C0:=cR w6 _ 0 _ _ _ S0
    go_upto_region 5 with (fail)
    obtain⟨oa,ob,wa,wb,HWA,HWB,s0,sa,sb,L0,L1,L2,L3,M0,M1,M2,M3,D0,D1,D2,D3,Z2,F0,F1,F2,F3,Z3,HX⟩:=exit_all (w:=w) (wx:=w6) S0 S1 S2 S3 hd6 hb06 (by omega) (by omega) (by omega) (by omega) (by omega) (by omega) (by omega)
    clear R0 R1 R2 R3 S0 S1 S2 S3 hd hv hd4 hv4 hb4 hs4 hd6 hb6 hb06 C0
    go_wp2_with fail
    refine zI [(false,0),(false,1),(true,2),(true,3),(false,4)] (Two w.heap.size (w.heap.size+1) oa ob) (by kernel_rfl) (by kernel_rfl) s0 ?_
    repeat (first | (refine zS rfl rfl ?_;simp only [Act.put,zq1,zq2,zq3]) | (refine zT rfl ?_ rfl (fun w' hw'=>?_) ?_;rotate_left;(go_simp;first | done | with_reducible rfl);(try simp only [Act.put,zq1,zq2,zq3])))
    refine zA rfl rfl fun K hK=>?_
    go_simp
    rw [← HWA.out]
    refine hK.out _ _ sa ?_
    clear hK K D0 D1 D2 D3 Z2
    refine zA rfl rfl fun K hK=>?_
    go_simp
    rw [← HWB.out]
    refine hK.out _ _ sb ?_
    clear hK K F0 F1 F2 F3 Z3
    repeat (first | (refine zS rfl rfl ?_;simp only [Act.put,zq1,zq2,zq3]) | (refine zT rfl ?_ rfl (fun w' hw'=>?_) ?_;rotate_left;(go_simp;first | done | with_reducible rfl);(try simp only [Act.put,zq1,zq2,zq3])))
    refine zN ?_
    go_wp2_with fail
    refine bodyPost_ret (results_cct rfl _ _ (w.heap.size+1+1) (w.heap.size+1+1+1) _ _ _ _ _ _ _ _ rfl rfl HX.out.1 HX.out.2.1 Tryz.underlying38 rfl zQ Tryz.underlying41 rfl size_log) rfl ?_
    exact⟨⟨_,rfl,HX.out.2.2.1⟩,HX.out.2.2.2⟩
   ·have hgt1:decide ((d.secs.length:Int) / 2<(n:Int))=false:=by rw [hSH];simp;omega
    by_cases hg40:l.gen=1099511627776
    ·have hg41:(l.gen == 1099511627776)=true:=by simp [hg40]
     have hF:compactP d l list=(d,l,15):=by
      unfold compactP;rw [HTOT.out]
      simp only [← HR.out,if_true]
      rw [if_neg (by rw [← HHH.out];exact hgt),if_pos hg40]
     rw [hF]
     clear hF b1 b2 b3 b4 b5 b6 b7 b8 hg40 hSH
     unfold DLE logV
     go_enter Tryz.func66,Tryz.ntmps66
     go_upto_region 1 with (fail)
     rw [← HW4.out]
     go_wp2_with fail
     refine k1.mono ?_
     rintro e w5 ⟨rfl,rfl⟩
     clear k1
     go_wp2_with fail
     refine kr.mono ?_
     rintro e w6 ⟨rfl,hb6⟩
     clear C0 C1 C2 C3 N0 N1 N2 N3 kr
     have S0:=(hb6.block _ (zB R0)).trans R0
     have S1:=(hb6.block _ (zB R1)).trans R1
     have S2:=(hb6.block _ (zB R2)).trans R2
     have S3:=(hb6.block _ (zB R3)).trans R3
     have hd6:=(hd4.below hb6).tight
     have hb06:=hb4.trans (hb6.mono hb4.size)
     have C0:=cR w6 _ 0 _ _ _ S0
     have N0:=cR w6 _ 0 _ _ _ S1
     have N1:=cR w6 _ 1 _ _ _ S1
     have N2:=cR w6 _ 2 _ _ _ S1
     have N3:=cR w6 _ 3 _ _ _ S1
     go_upto_region 7 with (fail)
     clear N0 N1 N2 N3
     obtain⟨oa,ob,wa,wb,HWA,HWB,s0,sa,sb,L0,L1,L2,L3,M0,M1,M2,M3,D0,D1,D2,D3,Z2,F0,F1,F2,F3,Z3,HX⟩:=exit_all (w:=w) (wx:=w6) S0 S1 S2 S3 hd6 hb06 (by omega) (by omega) (by omega) (by omega) (by omega) (by omega) (by omega)
     clear R0 R1 R2 R3 S0 S1 S2 S3 hd hv hd4 hv4 hb4 hs4 hd6 hb6 hb06 C0
     go_wp2_with fail
     refine zI [(false,0),(false,1),(true,2),(true,3),(false,4)] (Two w.heap.size (w.heap.size+1) oa ob) (by kernel_rfl) (by kernel_rfl) s0 ?_
     repeat (first | (refine zS rfl rfl ?_;simp only [Act.put,zq1,zq2,zq3]) | (refine zT rfl ?_ rfl (fun w' hw'=>?_) ?_;rotate_left;(go_simp;first | done | with_reducible rfl);(try simp only [Act.put,zq1,zq2,zq3])))
     refine zA rfl rfl fun K hK=>?_
     go_simp
     rw [← HWA.out]
     refine hK.out _ _ sa ?_
     clear hK K D0 D1 D2 D3 Z2
     refine zA rfl rfl fun K hK=>?_
     go_simp
     rw [← HWB.out]
     refine hK.out _ _ sb ?_
     clear hK K F0 F1 F2 F3 Z3
     repeat (first | (refine zS rfl rfl ?_;simp only [Act.put,zq1,zq2,zq3]) | (refine zT rfl ?_ rfl (fun w' hw'=>?_) ?_;rotate_left;(go_simp;first | done | with_reducible rfl);(try simp only [Act.put,zq1,zq2,zq3])))
     refine zN ?_
     go_wp2_with fail
     refine bodyPost_ret (results_cct rfl _ _ (w.heap.size+1+1) (w.heap.size+1+1+1) _ _ _ _ _ _ _ _ rfl rfl HX.out.1 HX.out.2.1 Tryz.underlying38 rfl zQ Tryz.underlying41 rfl size_log) rfl ?_
     exact⟨⟨_,rfl,HX.out.2.2.1⟩,HX.out.2.2.2⟩
    ·have hg41:(l.gen == 1099511627776)=false:=by simp [hg40]
     obtain⟨r,hr⟩:∃ r,r=run d (layD (half d) (1-l.half) (l.gen+1) list):=⟨_,rfl⟩
     have hF:compactP d l list=if r.2=0 then (r.1,⟨1-l.half,l.gen+1,n,list.length⟩,0) else (r.1,l,r.2):=by
      unfold compactP;rw [HTOT.out]
      simp only [← HR.out,if_true]
      rw [if_neg (by rw [← HHH.out];exact hgt),if_neg hg40,← hr]
     have hds2:(layD (half d) (1-l.half) (l.gen+1) list).foldl stepW (d,0)=r:=by
      rw [hr]
      have e:=stepW_run (layD (half d) (1-l.half) (l.gen+1) list) (d,0)
      rw [if_pos rfl] at e
      exact e
     have HDS:=zh hds2
     have HF:=zh hF
     have hw1:IntKind.i64.wrap (1-l.half)=1-l.half:=by
      simp only [IntKind.wrap,IntKind.bits,IntKind.signed]
      rcases b1 with h | h <;> rw [h] <;> decide
     have hw2:IntKind.i64.wrap (l.gen+1)=l.gen+1:=by
      simp only [IntKind.wrap,IntKind.bits,IntKind.signed]
      simp
      omega
     have hm0:0≤(1-l.half)*(half d:Nat):=by rw [← HHH.out];rcases b1 with h | h <;> rw [h] <;> omega
     have hm1:(1-l.half)*(half d:Nat)≤2^20:=by rw [← HHH.out];rcases b1 with h | h <;> rw [h] <;> omega
     have HM0:=zh hm0
     have HM1:=zh hm1
     have HL1:=zh hl1
     clear hF hr hds2 hSH hm0 hm1 b1 b2 b3 b4 b5 b6 b7 b8 hl1
     rw [HF.out]
     unfold DLE logV
     go_enter Tryz.func66,Tryz.ntmps66
     go_upto_region 1 with (fail)
     rw [← HW4.out]
     go_wp2_with fail
     refine k1.mono ?_
     rintro e w5 ⟨rfl,rfl⟩
     clear k1
     go_wp2_with fail
     refine kr.mono ?_
     rintro e w6 ⟨rfl,hb6⟩
     clear C0 C1 C2 C3 N0 N1 N2 N3 kr
     have S0:=(hb6.block _ (zB R0)).trans R0
     have S1:=(hb6.block _ (zB R1)).trans R1
     have S2:=(hb6.block _ (zB R2)).trans R2
     have S3:=(hb6.block _ (zB R3)).trans R3
     have hd6:=(hd4.below hb6).tight
     have hb06:=hb4.trans (hb6.mono hb4.size)
     obtain⟨w8,hw8⟩:∃ w8,w8=w6.alloc (.cells #[.slice p1 d.secs.length q1,.slice p2 d.loose.length q2,.int .i64 d.fuse,.bool d.down,.int .i64 0] 140):=⟨_,rfl⟩
     have C0:=cR w6 _ 0 _ _ _ S0
     have C1:=cR w6 _ 1 _ _ _ S0
     have C2:=cR w6 _ 2 _ _ _ S0
     have C3:=cR w6 _ 3 _ _ _ S0
     have N0:=cR w6 _ 0 _ _ _ S1
     have N1:=cR w6 _ 1 _ _ _ S1
     have N2:=cR w6 _ 2 _ _ _ S1
     have N3:=cR w6 _ 3 _ _ _ S1
     have hb8:Below w6.heap.size w6 w8:=by rw [hw8];exact Below.alloc (Below.refl _ _) (Nat.le_refl _) _
     have hrow8:w8.heap[w6.heap.size]?=some (.cells #[.slice p1 d.secs.length q1,.slice p2 d.loose.length q2,.int .i64 d.fuse,.bool d.down,.int .i64 0] 140 (0,0)):=by rw [hw8];exact heap_alloc_new w6 _
     have HWA8:=zh (work_new hrow8 (hd6.below hb8).tight)
     have HW8:=zh hw8
     have HRR:=zh (show _∧_∧_∧_ from ⟨R0,R1,R2,R3⟩)
     have HB4:=zh hb4
     have HB46:=zh hb6
     have HV6:=zh (hv4.below (hb6.mono hb4.size))
     have HB68:=zh hb8
     have hs7:=hb6.size
     obtain⟨g,hg⟩:∃ g,g=w6.heap.size:=⟨_,rfl⟩
     rw [← hg] at hrow8 HWA8 hs7
     have HG:=zh hg
     clear R0 R1 R2 R3 S0 S1 S2 S3 hd hv hd4 hv4 hb4 hd6 hb6 hb06 hw8 hb8 hrow8 hg
     go_upto_region 9 with (fail)
     rw [← HW8.out,← HG.out]
     clear C0 C1 C2 C3 N0 N1 N2 N3
     obtain⟨R0,R1,R2,R3⟩:=HRR.out
     have HB48:=zh (HB46.out.trans (HB68.out.mono HB46.out.size))
     have S0:=(HB48.out.block _ (zB R0)).trans R0
     have S1:=(HB48.out.block _ (zB R1)).trans R1
     have S2:=(HB48.out.block _ (zB R2)).trans R2
     have S3:=(HB48.out.block _ (zB R3)).trans R3
     have N0:=cR w8 _ 0 _ _ _ S1
     have N1:=cR w8 _ 1 _ _ _ S1
     have N2:=cR w8 _ 2 _ _ _ S1
     have N3:=cR w8 _ 3 _ _ _ S1
     have HSS:=zh (show _∧_∧_∧_ from ⟨S0,S1,S2,S3⟩)
     have h8g:Below g w6 w8:=by rw [HG.out];exact HB68.out
     have HVG:=zh (show Pieces g w8 _ list from (HV6.out.below (h8g.mono (by omega))).mono (by omega))
     clear R0 R1 R2 R3 S0 S1 S2 S3 h8g
     have kb:=wlay_any (d,0) (1-l.half) (l.gen+1) _ list w8 HWA8.out HVG.out HM0.out HM1.out HL1.out hl2 HNE.out
     have hlt:=HWA8.out.lt
     dsimp only at kb
     rw [HDS.out] at kb
     go_wp2_with fail
     refine kb.mono ?_
     rintro e w13 ⟨rfl,hw13,ho13⟩
     clear kb N0 N1 N2 N3
     obtain⟨a0,n0',a1,n1',T5,hd13⟩:=hw13
     have hb13:=below_hand ho13 hlt
     have S0:=(hb13.block _ (by omega)).trans HSS.out.1
     have S1:=(hb13.block _ (by omega)).trans HSS.out.2.1
     have S2:=(hb13.block _ (by omega)).trans HSS.out.2.2.1
     have S3:=(hb13.block _ (by omega)).trans HSS.out.2.2.2
     have hb013:Below w.heap.size w w13:=(HB4.out.trans (HB48.out.mono HB4.out.size)).trans (hb13.mono (by omega))
     have E4:=cR w13 _ 4 _ _ _ T5
     have HT0:=zh T5
     have HT1:=zh S1
     have HT2:=zh S2
     have HT3:=zh S3
     have HD13:=zh hd13
     have HB13:=zh hb013
     clear T5 hd13 S0 S1 S2 S3 hb13 hb013 ho13
     by_cases he:r.2=0
     ·have hne0:(r.2 != 0)=false:=by simp [he]
      rw [he] at hne0 HT0 E4
      obtain⟨oa,ob,wa,wb,HWA,HWB,s0,sa,sb,L0,L1,L2,L3,L4,M0,M1,M2,M3,D0,D1,D2,D3,Z2,F0,F1,F2,F3,Z3,HX⟩:=exit_work2 (.int .i64 (1-l.half)) (.int .i64 (l.gen+1)) (.int .i64 n) (.int .i64 list.length) (w:=w) (wx:=w13) HT0.out HT1.out HT2.out HT3.out HD13.out HB13.out (by omega) (by omega) (by omega) (by omega) (by omega) (by omega) (by omega)
      go_wp2_with fail
      refine zI [(false,0),(false,1),(false,2),(false,3),(false,4),(false,5),(false,6),(false,7),(false,8),(false,9),(false,10),(false,11),(true,12),(true,13),(false,14)] (Two g (w.heap.size+1) oa ob) (by kernel_rfl) (by kernel_rfl) s0 ?_
      repeat (first | (refine zS rfl rfl ?_;simp only [Act.put,zq1,zq2,zq3]) | (refine zT rfl ?_ rfl (fun w' hw'=>?_) ?_;rotate_left;(go_simp;first | done | with_reducible rfl);(try simp only [Act.put,zq1,zq2,zq3])))
      refine zA rfl rfl fun K hK=>?_
      go_simp
      rw [← HWA.out]
      refine hK.out _ _ sa ?_
      clear hK K D0 D1 D2 D3 Z2
      refine zA rfl rfl fun K hK=>?_
      go_simp
      rw [← HWB.out]
      refine hK.out _ _ sb ?_
      clear hK K F0 F1 F2 F3 Z3
      repeat (first | (refine zS rfl rfl ?_;simp only [Act.put,zq1,zq2,zq3]) | (refine zT rfl ?_ rfl (fun w' hw'=>?_) ?_;rotate_left;(go_simp;first | done | with_reducible rfl);(try simp only [Act.put,zq1,zq2,zq3])))
      refine zN ?_
      go_wp2_with fail
      refine bodyPost_ret (results_cct rfl _ _ (w.heap.size+1+1) (w.heap.size+1+1+1) _ _ _ _ _ _ _ _ rfl rfl HX.out.1 HX.out.2.1 Tryz.underlying38 rfl zQ Tryz.underlying41 rfl size_log) rfl ?_
      exact⟨⟨_,rfl,HX.out.2.2.1⟩,HX.out.2.2.2⟩
     ·have hne0:(r.2 != 0)=true:=by simp [he]
      obtain⟨oa,ob,wa,wb,HWA,HWB,s0,sa,sb,L0,L1,L2,L3,L4,M0,M1,M2,M3,D0,D1,D2,D3,Z2,F0,F1,F2,F3,Z3,HX⟩:=exit_work (w:=w) (wx:=w13) HT0.out HT1.out HT2.out HT3.out HD13.out HB13.out (by omega) (by omega) (by omega) (by omega) (by omega) (by omega) (by omega)
      go_wp2_with fail
      refine zI [(false,0),(false,1),(false,2),(false,3),(false,4),(true,5),(true,6),(false,7)] (Two g (w.heap.size+1) oa ob) (by kernel_rfl) (by kernel_rfl) s0 ?_
      repeat (first | (refine zS rfl rfl ?_;simp only [Act.put,zq1,zq2,zq3]) | (refine zT rfl ?_ rfl (fun w' hw'=>?_) ?_;rotate_left;(go_simp;first | done | with_reducible rfl);(try simp only [Act.put,zq1,zq2,zq3])))
      refine zA rfl rfl fun K hK=>?_
      go_simp
      rw [← HWA.out]
      refine hK.out _ _ sa ?_
      clear hK K D0 D1 D2 D3 Z2
      refine zA rfl rfl fun K hK=>?_
      go_simp
      rw [← HWB.out]
      refine hK.out _ _ sb ?_
      clear hK K F0 F1 F2 F3 Z3
      repeat (first | (refine zS rfl rfl ?_;simp only [Act.put,zq1,zq2,zq3]) | (refine zT rfl ?_ rfl (fun w' hw'=>?_) ?_;rotate_left;(go_simp;first | done | with_reducible rfl);(try simp only [Act.put,zq1,zq2,zq3])))
      refine zN ?_
      go_wp2_with fail
      refine bodyPost_ret (results_cct rfl _ _ (w.heap.size+1+1) (w.heap.size+1+1+1) _ _ _ _ _ _ _ _ rfl rfl HX.out.1 HX.out.2.1 Tryz.underlying38 rfl zQ Tryz.underlying41 rfl size_log) rfl ?_
      exact⟨⟨_,rfl,HX.out.2.2.1⟩,HX.out.2.2.2⟩
end
section
namespace WalP
def genS (H:Nat) (s:List UInt8):Int:=if H=0∨(readMark s).2=false∨(readMark s).1.number≠0∨(H:Int)<takesZ (readMark s).1.length then 0 else (readMark s).1.gen
theorem takesZ_nonneg (n:Int):0≤takesZ n:=by unfold takesZ;split <;> omega
theorem genS_eq (l:List (List UInt8)):genS l.length (l.getD 0 [])=genV l:=by
 unfold genV recordsP
 by_cases h0:l.length=0
 ·unfold genS
  rw [if_pos (.inl h0),h0]
  simp [recsGo,h0]
 ·simp only [recsGo]
  rw [if_pos (by omega)]
  simp only [if_true]
  unfold genS
  have ht:=takesZ_nonneg (readMark (l.getD 0 [])).1.length
  by_cases hc:(readMark (l.getD 0 [])).2=false∨(readMark (l.getD 0 [])).1.number≠0∨(l.length:Int)<takesZ (readMark (l.getD 0 [])).1.length
  ·rw [if_pos (.inr hc),if_pos (by
    rcases hc with h | h | h
    ·exact .inl h
    ·exact .inr (.inr (.inl (by simpa using h)))
    ·exact .inr (.inr (.inr (by omega))))]
  ·rw [if_neg (by
    rintro (h | h)
    ·exact h0 h
    ·exact hc h),if_neg (by
    rintro (h | h | h | h)
    ·exact hc (.inl h)
    ·exact h rfl
    ·exact hc (.inr (.inl (by simpa using h)))
    ·exact hc (.inr (.inr (by omega))))]
   split
   ·rfl
   ·rw [recsGo_gen _ _ _ _ _ (by simp)]
def refGo (l:List (List UInt8)) (g:Int):Nat→List (List UInt8)→Nat→List (List UInt8)×Nat×Int
 | 0,list,used=>(list,used,0)
 | f+1,list,used =>
  if used<l.length then
   let x:=readMark (l.getD used [])
   let n:=(takesZ x.1.length).toNat
   if x.2=false∨x.1.gen≠g∨x.1.number≠list.length∨l.length-used<n then (list,used,0)
   else
    let b:=((l.drop (used+1)).take (n-1)).flatten.take x.1.length.toNat
    if SumP.toI (SumP.sum b)≠x.1.sum then ([],0,10)
    else refGo l g f (list++[b]) (used+n)
  else (list,used,0)
def refRecs (l:List (List UInt8)) (g:Int):List (List UInt8)×Nat×Int:=refGo l g (l.length+1) [] 0
def finR (g:Int) (r:List (List UInt8)×Nat×Int):List (List UInt8)×Nat×Int×Int:=if r.2.2=0 then (r.1,r.2.1,g,0) else ([],0,g,10)
theorem refGo_law (l:List (List UInt8)) (g:Int):∀ (f:Nat) (list:List (List UInt8)) (used:Nat),list≠[]→recsGo l f list used g=finR g (refGo l g f list used)∧((refGo l g f list used).2.2=0→(refGo l g f list used).1≠[])
 | 0,list,used,h=>by
  simp only [recsGo,refGo]
  rw [if_neg h]
  exact⟨rfl,fun _=>h⟩
 | f+1,list,used,h=>by
  simp only [recsGo,refGo]
  rw [if_neg h,if_neg h]
  split
  ·split
   ·exact⟨rfl,fun _=>h⟩
   ·split
    ·exact⟨rfl,fun h=>by cases h⟩
    ·exact refGo_law l g f _ _ (by simp)
  ·exact⟨rfl,fun _=>h⟩
theorem refRecs_law {l:List (List UInt8)} {g:Int} (hg:genV l=g) (h0:g≠0):recordsP l=finR g (refRecs l g)∧((refRecs l g).2.2=0→(refRecs l g).1≠[]):=by
 have hs:=genS_eq l
 rw [hg] at hs
 unfold genS at hs
 split at hs
 ·exact absurd hs.symm h0
 ·rename_i hc
  have hc1:l.length≠0:=fun h=>hc (.inl h)
  have hc2:(readMark (l.getD 0 [])).2≠false:=fun h=>hc (.inr (.inl h))
  have hc3:¬ (readMark (l.getD 0 [])).1.number≠0:=fun h=>hc (.inr (.inr (.inl h)))
  have hc4:¬ (l.length:Int)<takesZ (readMark (l.getD 0 [])).1.length:=fun h=>hc (.inr (.inr (.inr h)))
  unfold recordsP refRecs
  simp only [recsGo,refGo]
  have hlt:0<l.length:=by omega
  rw [if_pos hlt,if_pos hlt]
  simp only [if_true]
  have n1:¬ ((readMark (l.getD 0 [])).2=false∨g≠g∨(readMark (l.getD 0 [])).1.number≠((([]:List (List UInt8)).length:Nat):Int)∨l.length-0<(takesZ (readMark (l.getD 0 [])).1.length).toNat):=by
   rintro (h | h | h | h)
   ·exact hc2 h
   ·exact h rfl
   ·exact hc3 (by simpa using h)
   ·omega
  rw [hs,if_neg n1,if_neg n1]
  split
  ·exact⟨rfl,fun h=>by cases h⟩
  ·exact refGo_law l g l.length _ _ (by simp)
theorem ref_stop {l:List (List UInt8)} {f used:Nat} {list:List (List UInt8)} {g:Int} (h:used<l.length) {m:MarkP} {ok:Bool} (hx:readMark l[used]=(m,ok))
  (hc:ok=false∨m.gen≠g∨m.number≠list.length∨l.length-used<(takesZ m.length).toNat):refGo l g (f+1) list used=(list,used,0):=by
 simp only [refGo]
 rw [if_pos h]
 have e:l.getD used []=l[used]:=by rw [List.getD_eq_getElem?_getD,List.getElem?_eq_getElem h];rfl
 rw [e,hx]
 rw [if_pos hc]
theorem ref_end {l:List (List UInt8)} {f used:Nat} {list:List (List UInt8)} {g:Int} (h:¬ used<l.length):refGo l g (f+1) list used=(list,used,0):=by
 simp only [refGo]
 rw [if_neg h]
theorem ref_step {l:List (List UInt8)} {f used n:Nat} {list:List (List UInt8)} {g:Int} (h:used<l.length) {m:MarkP} (hx:readMark l[used]=(m,true))
  (hn:takesZ m.length=(n:Int)) (h1:m.gen=g) (h2:m.number=list.length) (h3:¬ l.length-used<n) (b:List UInt8) (hb:b=((l.drop (used+1)).take (n-1)).flatten.take m.length.toNat) :
  refGo l g (f+1) list used=if SumP.toI (SumP.sum b)≠m.sum then ([],0,10) else refGo l g f (list++[b]) (used+n):=by
 simp only [refGo]
 rw [if_pos h]
 have e:l.getD used []=l[used]:=by rw [List.getD_eq_getElem?_getD,List.getElem?_eq_getElem h];rfl
 have e2:(takesZ m.length).toNat=n:=by rw [hn];rfl
 rw [e,hx]
 simp only [e2,← hb]
 rw [if_neg (fun hh=>by
  rcases hh with h | h | h | h
  ·cases h
  ·exact h h1
  ·exact h h2
  ·exact h3 h)]
theorem refGo_err (l:List (List UInt8)) (g:Int):∀ (f:Nat) (list:List (List UInt8)) (used:Nat),(refGo l g f list used).2.2=0∨(refGo l g f list used).2.2=10
 | 0,_,_=>.inl rfl
 | f+1,list,used=>by
  simp only [refGo]
  split
  ·split
   ·exact .inl rfl
   ·split
    ·exact .inr rfl
    ·exact refGo_err l g f _ _
  ·exact .inl rfl
theorem gen_none {l:List (List UInt8)} (h:genV l=0):recordsP l=([],0,0,6):=by
 have hs:=genS_eq l
 rw [h] at hs
 unfold genS at hs
 unfold recordsP
 by_cases h0:l.length=0
 ·rw [h0];simp [recsGo,h0]
 ·simp only [recsGo]
  rw [if_pos (by omega)]
  simp only [if_true]
  have ht:=takesZ_nonneg (readMark (l.getD 0 [])).1.length
  split at hs
  ·rename_i hc
   rw [if_pos]
   rcases hc with h | h | h | h
   ·exact absurd h h0
   ·exact .inl h
   ·exact .inr (.inr (.inl (by simpa using h)))
   ·exact .inr (.inr (.inr (by omega)))
  ·rename_i hc
   have hok:(readMark (l.getD 0 [])).2=true:=by
    cases e:(readMark (l.getD 0 [])).2 with
    | true=>rfl
    | false=>exact absurd (.inr (.inl e)) hc
   simp only [readMark,Bool.and_eq_true,decide_eq_true_eq] at hok
   have h1:1≤(readMark (l.getD 0 [])).1.gen:=hok.1.1.2
   omega
theorem flat_byte {l:List (List UInt8)} (h64:∀ s∈l,s.length=64) {u i:Nat} (h:u+i / 64<l.length) {s:List UInt8} (hs:l[u+i / 64]?=some s) (hi:i%64<s.length) :
  ((l.drop u).flatten).take (i+1)=((l.drop u).flatten).take i++[s[i%64]]:=by
 have key:∀ (m:List (List UInt8)),(∀ s∈m,s.length=64)→∀ (k i:Nat) (s:List UInt8),m[k]?=some s→i=64*k+i%64→m.flatten[i]?=s[i%64]?:=by
  intro m
  induction m with
  | nil=>intro _ k i s h;simp at h
  | cons x m ih =>
   intro hm k i s hk hik
   have hx:=hm x (List.mem_cons_self ..)
   rw [List.flatten_cons]
   cases k with
   | zero =>
    simp only [List.getElem?_cons_zero,Option.some.injEq] at hk
    subst hk
    rw [List.getElem?_append_left (by omega)]
    congr 1
    omega
   | succ k =>
    rw [List.getElem?_append_right (by omega),hx]
    have:=ih (fun y hy=>hm y (List.mem_cons_of_mem _ hy)) k (i-64) s (by simpa using hk) (by omega)
    rw [this]
    congr 1
    omega
 have e:=key (l.drop u) (fun x hx=>h64 x (List.mem_of_mem_drop hx)) (i / 64) i s (by rw [List.getElem?_drop];exact hs) (by omega)
 rw [List.take_add_one,e,List.getElem?_eq_getElem hi]
 rfl
end WalP
end
section
namespace WalP
open PackP
theorem be_numOf:∀ (k:Nat) (bs:List UInt8),bs.length=k→be k (numOf bs)=bs
 | 0,bs,h=>by rw [List.eq_nil_of_length_eq_zero h];rfl
 | k+1,bs,h=>by
  obtain⟨init,c,rfl⟩:∃ init c,bs=init++[c]:=by
   rcases List.eq_nil_or_concat bs with e | ⟨i,c,e⟩
   ·rw [e] at h;simp at h
   ·exact⟨i,c,by simpa using e⟩
  have hl:init.length=k:=by simpa using h
  rw [numOf_snoc,be_low]
  have h1:(numOf init*256+c.toNat) / 256=numOf init:=by have:=c.toNat_lt;omega
  have h2:UInt8.ofNat (numOf init*256+c.toNat)=c:=by
   apply UInt8.toNat_inj.1
   rw [UInt8.toNat_ofNat']
   have:=c.toNat_lt
   omega
  rw [h1,h2,be_numOf k init hl]
theorem num_ok {r:RS} (h:r.num.1.e=0):r.e=0∧8≤r.b.length∧r.num.1.b=r.b.drop 8∧0≤r.num.2∧r.num.2≤4611686018427387904∧numB r.num.2=r.b.take 8:=by
 by_cases he:r.e=0
 ·by_cases hl:r.b.length<8
  ·have e:r.num=({ r with e:=2 },0):=by unfold RS.num RS.take;simp [he,hl]
   rw [e] at h
   cases h
  ·have ht:r.take 8=({ r with b:=r.b.drop 8 },some (r.b.take 8)):=by unfold RS.take;simp [he,hl]
   by_cases hn:4611686018427387904<numOf (r.b.take 8)
   ·have e:r.num=({ r with b:=r.b.drop 8,e:=3 },0):=by unfold RS.num;rw [ht];simp [hn]
    rw [e] at h
    cases h
   ·have e:r.num=({ r with b:=r.b.drop 8 },(numOf (r.b.take 8):Int)):=by unfold RS.num;rw [ht];simp [hn]
    rw [e]
    refine⟨he,by omega,rfl,by show (0:Int)≤numOf _;omega,by show ((numOf (r.b.take 8):Nat):Int)≤_;omega,?_⟩
    show numB (numOf (r.b.take 8):Nat)=_
    have hc:clamp ((numOf (r.b.take 8):Nat):Int)=numOf (r.b.take 8):=by
     unfold clamp
     split
     ·omega
     ·split
      ·omega
      ·omega
    unfold numB
    rw [hc,be_numOf 8 _ (by rw [List.length_take];omega)]
 ·have e:r.num=(r,0):=by unfold RS.num RS.take;simp [he]
  rw [e] at h
  exact absurd h he
def rsK (r:RS):Nat→RS
 | 0=>r
 | k+1=>(rsK r k).num.1
def nvK (r:RS) (k:Nat):Int:=(rsK r k).num.2
def rs0 (s:List UInt8):RS:=⟨(s.drop 4).take 32,0⟩
def refGood (s:List UInt8):Bool :=
 decide ((rsK (rs0 s) 4).e=0)&&(decide (s.take 4=[87,76,79,71])&&(decide (1≤nvK (rs0 s) 0)&&(decide (nvK (rs0 s) 0≤1099511627776)&&(decide (0<takesZ (nvK (rs0 s) 2))&&decide (nvK (rs0 s) 3<2^32)))))
theorem readMark_eq (s:List UInt8):readMark s=(⟨nvK (rs0 s) 0,nvK (rs0 s) 1,nvK (rs0 s) 2,nvK (rs0 s) 3%4294967296⟩,decide ((rsK (rs0 s) 4).e=0)&&decide (s=markS (nvK (rs0 s) 0) (nvK (rs0 s) 1) (nvK (rs0 s) 2) (nvK (rs0 s) 3%4294967296))&&decide (1≤nvK (rs0 s) 0)&&decide (nvK (rs0 s) 0≤1099511627776)&&decide (0<takesZ (nvK (rs0 s) 2))):=rfl
theorem numB_inj {a b:Int} (ha:0≤a) (ha':a≤4611686018427387904) (hb:0≤b) (hb':b≤4611686018427387904) (h:numB a=numB b):a=b:=by
 have h1:=num_back a ha ha' []
 have h2:=num_back b hb hb' []
 rw [h] at h1
 have:=h1.symm.trans h2
 injection this with _ h3
theorem refread_law {s:List UInt8} (hs:s.length=64):(readMark s).2=(refGood s&&(s.drop 36).all (· == 0))∧((readMark s).2=true→(readMark s).1=⟨nvK (rs0 s) 0,nvK (rs0 s) 1,nvK (rs0 s) 2,nvK (rs0 s) 3⟩):=by
 rw [readMark_eq]
 by_cases h4:(rsK (rs0 s) 4).e=0
 ·obtain⟨h3,l3,e3,p3,q3,n3⟩:=num_ok (r:=rsK (rs0 s) 3) h4
  obtain⟨h2,l2,e2,p2,q2,n2⟩:=num_ok (r:=rsK (rs0 s) 2) h3
  obtain⟨h1,l1,e1,p1,q1,n1⟩:=num_ok (r:=rsK (rs0 s) 1) h2
  obtain⟨h0,l0,e0,p0,q0,n0⟩:=num_ok (r:=rsK (rs0 s) 0) h1
  have b1:(rsK (rs0 s) 1).b=((s.drop 4).take 32).drop 8:=e0
  have b2:(rsK (rs0 s) 2).b=(((s.drop 4).take 32).drop 8).drop 8:=by rw [← b1];exact e1
  have b3:(rsK (rs0 s) 3).b=((((s.drop 4).take 32).drop 8).drop 8).drop 8:=by rw [← b2];exact e2
  have b0:(rsK (rs0 s) 0).b=(s.drop 4).take 32:=rfl
  rw [b0] at n0
  rw [b1] at n1
  rw [b2] at n2
  rw [b3] at n3
  change numB (nvK (rs0 s) 0)=_ at n0
  change numB (nvK (rs0 s) 1)=_ at n1
  change numB (nvK (rs0 s) 2)=_ at n2
  change numB (nvK (rs0 s) 3)=_ at n3
  change 0≤nvK (rs0 s) 3 at p3
  change nvK (rs0 s) 3≤_ at q3
  obtain⟨a,ha⟩:∃ a,a=nvK (rs0 s) 0:=⟨_,rfl⟩
  obtain⟨b,hb⟩:∃ a,a=nvK (rs0 s) 1:=⟨_,rfl⟩
  obtain⟨c,hc⟩:∃ a,a=nvK (rs0 s) 2:=⟨_,rfl⟩
  obtain⟨d,hd⟩:∃ a,a=nvK (rs0 s) 3:=⟨_,rfl⟩
  have hcut:s=s.take 4++(numB a++(numB b++(numB c++numB d)))++s.drop 36:=by
   rw [ha,hb,hc,hd,n0,n1,n2,n3]
   obtain⟨L,hL⟩:∃ L,L=(s.drop 4).take 32:=⟨_,rfl⟩
   rw [← hL]
   have hLl:L.length=32:=by rw [hL,List.length_take,List.length_drop];omega
   have h8:(((L.drop 8).drop 8).drop 8).take 8=((L.drop 8).drop 8).drop 8:=List.take_of_length_le (by simp only [List.length_drop];omega)
   rw [h8,List.take_append_drop,List.take_append_drop,List.take_append_drop,hL,List.append_assoc,show s.drop 36=(s.drop 4).drop 32 by rw [List.drop_drop],List.take_append_drop,List.take_append_drop]
  rw [← ha,← hb,← hc,← hd]
  rw [← hd] at p3 q3
  have hmark:∀ d':Int,0≤d'→d'≤4611686018427387904→(s=markS a b c d'↔s.take 4=[87,76,79,71]∧d=d'∧(s.drop 36).all (· == 0)=true):=by
   intro d' hd0 hd1
   have hm:markS a b c d'=[87,76,79,71]++(numB a++(numB b++(numB c++numB d')))++List.replicate 28 0:=by
    unfold markS pad64
    rw [List.take_of_length_le (by rw [length_markB];omega),length_markB]
    rfl
   have hz:(s.drop 36).all (· == 0)=true↔s.drop 36=List.replicate 28 0:=by
    rw [List.eq_replicate_iff,List.all_eq_true]
    constructor
    ·intro h
     exact⟨by rw [List.length_drop,hs],fun x hx=>by simpa using h x hx⟩
    ·intro h x hx
     simpa using h.2 x hx
   rw [hz,hm]
   constructor
   ·intro h
    rw [hcut] at h
    obtain⟨h1,h2⟩:=List.append_inj h (by simp [length_numB];omega)
    obtain⟨h3,h4⟩:=List.append_inj h1 (by simp;omega)
    obtain⟨_,h5⟩:=List.append_inj h4 (by simp [length_numB])
    obtain⟨_,h6⟩:=List.append_inj h5 (by simp [length_numB])
    obtain⟨_,h7⟩:=List.append_inj h6 (by simp [length_numB])
    exact⟨h3,numB_inj p3 q3 hd0 hd1 h7,h2⟩
   ·rintro ⟨h1,rfl,h3⟩
    rw [← h1,← h3]
    exact hcut
  have hm:=hmark (d%4294967296) (by omega) (by omega)
  unfold refGood
  rw [← ha,← hc,← hd]
  constructor
  ·rw [Bool.eq_iff_iff]
   simp only [Bool.and_eq_true,decide_eq_true_eq,h4,true_and,hm]
   constructor
   ·rintro ⟨⟨⟨⟨x1,x2,x3⟩,x4⟩,x5⟩,x6⟩
    exact⟨⟨x1,x4,x5,x6,by omega⟩,x3⟩
   ·rintro ⟨⟨x1,x4,x5,x6,x7⟩,x3⟩
    exact⟨⟨⟨⟨x1,by omega,x3⟩,x4⟩,x5⟩,x6⟩
  ·intro h
   simp only [Bool.and_eq_true,decide_eq_true_eq,hm] at h
   rw [← h.1.1.1.2.2.1]
 ·have e1:decide ((rsK (rs0 s) 4).e=0)=false:=by simpa using h4
  unfold refGood
  rw [e1]
  simp
end WalP
end
section
open Go.RowKit WalP PackP
def rowN (r:RS) (k:Nat):List Value:=(List.range 4).map fun j=>.int .i64 (if j<k then nvK r j else 0)
theorem rowN_old (r:RS) (k:Nat) (h:k<4):(rowN r k)[k]?=some (.int .i64 0):=by
 simp [rowN,h]
theorem rowN_set (r:RS) (k:Nat) (h:k<4):(rowN r k).set k (.int .i64 (nvK r k))=rowN r (k+1):=by
 obtain rfl | rfl | rfl | rfl:k=0∨k=1∨k=2∨k=3:=by omega
 all_goals simp [rowN,List.range,List.range.loop]
theorem rowN_all (r:RS):rowN r 4=[.int .i64 (nvK r 0),.int .i64 (nvK r 1),.int .i64 (nvK r 2),.int .i64 (nvK r 3)]:=rfl
theorem size_four:(Tryz.prog.info? 169).map (·.size)=some 4:=by kernel_rfl
set_option maxRecDepth 100000 in
set_option maxHeartbeats 4000000 in
theorem refMarkRead_any {s:List UInt8} (hs:s.length=64) (w:World) :
  Calls Tryz.prog 136 #[.agg (u8s s).toArray] w fun e w'=>e = .returned (.tuple #[.agg #[.int .i64 (nvK (rs0 s) 0),.int .i64 (nvK (rs0 s) 1),.int .i64 (nvK (rs0 s) 2),.int .i64 (nvK (rs0 s) 3)],.bool (readMark s).2])∧Below w.heap.size w w':=by
 rw [(refread_law hs).1]
 obtain⟨G,hG⟩:∃ G,G=refGood s:=⟨_,rfl⟩
 rw [← hG]
 unfold refGood at hG
 obtain⟨r0,hr0⟩:∃ r0,r0=rs0 s:=⟨_,rfl⟩
 rw [← hr0] at hG ⊢
 obtain⟨X,hX⟩:∃ X,X=(u8s s).toArray:=⟨_,rfl⟩
 rw [← hX]
 have hXs:X.size=64:=by rw [hX];simp [zL,hs]
 obtain⟨w4,hw4,hb4,hs4,R0,R1,R2,R3⟩:=four w (.cells X 94) (.cells #[.int .i64 0,.int .i64 0,.int .i64 0,.int .i64 0] 169) (.cells #[.int .i64 0,.int .i64 0,.int .i64 0,.int .i64 0] 169) (.cells #[.slice (some ⟨w.heap.size,4,none⟩) 32 60,.int .i64 0] 87)
 have hby:=bytes_of_row (bs:=s) 4 32 60 (hX▸R0) (by omega) (by omega) (by decide)
 have hby:Bytes (w.heap.size+1+1) w4 (.slice (some ⟨w.heap.size,4,none⟩) 32 60) ((s.drop 4).take 32):=by
  have hl:((s.drop 4).take 32).length=32:=by rw [List.length_take,List.length_drop];omega
  obtain⟨h1,a,cap,hv,h2,h3,h4⟩:=hby
  rw [hl] at hv h2 h4
  cases hv
  refine⟨h1,_,_,by rw [hl],by omega,h3,fun hn=>?_⟩
  obtain⟨b,off,hv,h5,h6⟩:=h4 (by omega)
  cases hv
  exact⟨_,_,rfl,by omega,h6⟩
 have hR0:RdAt 87 (w.heap.size+1+1) (w.heap.size+1+1+1) w4 (rsK r0 0):=by
  rw [hr0]
  exact⟨_,R3,hby,by omega⟩
 have HW4:=zh hw4
 have HX:=zh hX
 have HG:=zh hG
 have HHS:=zh hs
 have HR0:=zh hR0
 have HB4:=zh hb4
 have hrow0:w4.heap[w.heap.size+1+1]?=some (.cells (rowN r0 0).toArray 169 (0,0)):=R2
 have HROW0:=zh hrow0
 have hlt4:w.heap.size+1+1+1<w4.heap.size:=by omega
 clear hw4 hX hG hr0 hs hR0 hby hb4 hrow0 R2 R3
 go_enter Tryz.func136,Tryz.ntmps136
 go_upto_region 3 with (fail)
 rw [← HW4.out]
 go_wp2_with fail
 go_loopw [6] (fun z wr=>∃ k:Nat,k≤4∧z = .int .i64 k∧RdAt 87 (w.heap.size+1+1) (w.heap.size+1+1+1) wr (rsK r0 k)∧wr.heap[w.heap.size+1+1]?=some (.cells (rowN r0 k).toArray 169 (0,0))∧Below (w.heap.size+1+1) w4 wr) (fun z _=>4-(intOf z).toNat)
 case atStart=>exact⟨0,by decide,rfl,HR0.out,HROW0.out,Below.refl _ _⟩
 case round =>
  obtain⟨k,hk,rfl,hR,hrow,hb⟩:=hrel
  by_cases hlt:k<4
  ·have k0:decide ((k:Int)<4)=true:=by simp;omega
   have kn:=refRNum_any _ _ wr (rsK r0 k) hR
   have HROW:=zh hrow
   have HB:=zh hb
   have HLT:=zh (Nat.lt_of_lt_of_le hlt4 hb.size)
   have k1:(0:Int)≤(k:Int):=by omega
   have k2:(k:Int)<4:=by omega
   clear hR hrow hb
   go_wp2_with fail
   refine kn.mono ?_
   rintro e w5 ⟨rfl,hR5,ho5⟩
   have hrow5:=(ho5.block _ (by have:=HLT.out;omega) (fun e=>by injection e with e;omega)).trans HROW.out
   have hb5:=HB.out.trans (below_of_only ho5 (by omega) (by have:=HLT.out;omega))
   have hcell:w5.cell? ⟨w.heap.size+1+1,k,none⟩=some (.int .i64 0):=by
    rw [cR w5 _ k _ _ _ hrow5]
    simpa using rowN_old r0 k hlt
   have hfz:=zF hrow5
   have hset:(w5.setCell ⟨w.heap.size+1+1,k,none⟩ (.int .i64 (nvK r0 k))).heap[w.heap.size+1+1]?=some (.cells (rowN r0 (k+1)).toArray 169 (0,0)):=by
    rw [← rowN_set r0 k hlt]
    simp [World.setCell,Array.getElem?_modify,hrow5]
   have hR6:RdAt 87 (w.heap.size+1+1) (w.heap.size+1+1+1) (w5.setCell ⟨w.heap.size+1+1,k,none⟩ (.int .i64 (nvK r0 k))) (rsK r0 (k+1)) :=
    hR5.far (only_set w5 _ _ _) (fun j hj=>by cases hj;exact⟨by omega,by omega⟩)
   have hb6:=hb5.setCell (p:=⟨w.heap.size+1+1,k,none⟩) (Nat.le_refl _) (.int .i64 (nvK r0 k))
   have HS:=zh hset
   have HR6:=zh hR6
   have HB6:=zh hb6
   have hnv:(rsK r0 k).num.2=nvK r0 k:=rfl
   rw [hnv]
   clear kn hrow5 hb5 hset hR6 hb6 hR5 ho5 hnv
   go_wp2_with fail
   go_roundw
   case rel=>exact⟨k+1,by omega,by go_num,HR6.out,HS.out,HB6.out⟩
   case measure=>simp [intOf];omega
  ·obtain rfl:k=4:=by omega
   rw [rowN_all] at hrow
   obtain⟨v,hRr,_,_⟩:=id hR
   have hE:=cR wr _ 1 _ _ _ hRr
   have X0:=(hb.block _ (by omega)).trans R0
   have X1:=(hb.block _ (by omega)).trans R1
   have N0:=cR wr _ 0 _ _ _ hrow
   have N1:=cR wr _ 1 _ _ _ hrow
   have N2:=cR wr _ 2 _ _ _ hrow
   have N3:=cR wr _ 3 _ _ _ hrow
   have hby:=bytes_of_row (bs:=s) 0 4 64 (HX.out▸X0) (by have:=HHS.out;omega) (by decide) (by decide)
   have kc:=run_bytes_string (P:=Tryz.prog) Tryz.underlying23 Tryz.underlying5 Tryz.underlying9 hby
   rw [List.drop_zero] at kc
   have hW:strB [87,76,79,71]={ data:=#[87,76,79,71] }:=rfl
   have kt:=refTakes_any (nvK r0 2) wr
   obtain⟨E,hEe⟩:∃ E,E=(rsK r0 4).e:=⟨_,rfl⟩
   obtain⟨a,ha⟩:∃ x,x=nvK r0 0:=⟨_,rfl⟩
   obtain⟨b,hb'⟩:∃ x,x=nvK r0 1:=⟨_,rfl⟩
   obtain⟨c,hc⟩:∃ x,x=nvK r0 2:=⟨_,rfl⟩
   obtain⟨d,hd⟩:∃ x,x=nvK r0 3:=⟨_,rfl⟩
   rw [← hEe] at hE
   rw [← ha,← hb',← hc,← hd] at hrow
   rw [← ha] at N0
   rw [← hb'] at N1
   rw [← hc] at N2 kt
   rw [← hd] at N3
   obtain⟨tk,htk⟩:∃ x,x=takesZ c:=⟨_,rfl⟩
   rw [← htk] at kt
   obtain⟨st,hst⟩:∃ st,st=strB (s.take 4):=⟨_,rfl⟩
   rw [← hst] at kc
   obtain⟨c0,h0⟩:∃ c,(E == 0)=c:=⟨_,rfl⟩
   obtain⟨c1,h1⟩:∃ c,decide (st.toList=[87,76,79,71])=c:=⟨_,rfl⟩
   obtain⟨c2,h2⟩:∃ c,decide (1≤a)=c:=⟨_,rfl⟩
   obtain⟨c3,h3⟩:∃ c,decide (a≤1099511627776)=c:=⟨_,rfl⟩
   obtain⟨c4,h4⟩:∃ c,decide (0<tk)=c:=⟨_,rfl⟩
   obtain⟨c5,h5⟩:∃ c,decide (d<4294967296)=c:=⟨_,rfl⟩
   have hGG:G=(c0&&(c1&&(c2&&(c3&&(c4&&c5))))):=by
    rw [← h0,← h1,← h2,← h3,← h4,← h5,HG.out,← hEe,← ha,← hc,← hd,← htk]
    have e1:st.toList=s.take 4:=by rw [hst,ByteArray.toList_eq];rfl
    have e2:(E == 0)=decide (E=0):=by rw [Bool.eq_iff_iff];simp
    rw [e1,e2]
    rfl
   have HGG:=zh hGG
   have HX0:=zh X0
   have HX1:=zh X1
   have HABCD:=zh (show _∧_∧_∧_ from ⟨ha,hb',hc,hd⟩)
   have HROW:=zh hrow
   have HB:=zh hb
   clear hGG hEe ha hb' hc hd htk hst hR hRr hby X0 X1 hrow hb hW
   go_upto_region 7 with (fail)
   go_cut [7] from 18 to 46 (fun s7 wx=>s7 = .bool G∧wx=wr)
   case first =>
    cases c0 with
    | false =>
     go_wp2_with fail
     go_meet
     case rel=>exact⟨by rw [HGG.out];rfl,rfl⟩
    | true =>
    cases c1 with
    | false =>
     replace h1:¬ st.toList=[87,76,79,71]:=by simpa using h1
     go_wp2_with fail
     go_meet
     case rel=>exact⟨by rw [HGG.out];rfl,rfl⟩
    | true =>
    replace h1:st.toList=[87,76,79,71]:=by simpa using h1
    cases c2 with
    | false =>
     go_wp2_with fail
     go_meet
     case rel=>exact⟨by rw [HGG.out];rfl,rfl⟩
    | true =>
    cases c3 with
    | false =>
     go_wp2_with fail
     go_meet
     case rel=>exact⟨by rw [HGG.out];rfl,rfl⟩
    | true =>
    cases c4 with
    | false =>
     go_wp2_with fail
     refine kt.mono ?_
     rintro e w9 ⟨rfl,rfl⟩
     go_wp2_with fail
     go_meet
     case rel=>exact⟨by rw [HGG.out];rfl,rfl⟩
    | true =>
     go_wp2_with fail
     refine kt.mono ?_
     rintro e w9 ⟨rfl,rfl⟩
     go_wp2_with fail
     go_meet
     case rel=>exact⟨by rw [HGG.out];rfl,rfl⟩
   case rest =>
    obtain⟨rfl,rfl⟩:=hcut
    clear kt kc N0 N1 N2 N3 hE h0 h1 h2 h3 h4 h5
    go_wp2_with fail
    go_loop [7,8] (fun g z=>∃ j:Nat,j≤28∧z = .int .i64 (36+(j:Int))∧g = .bool (G&&((s.drop 36).take j).all (· == 0))) (fun _ z=>64-(intOf z).toNat)
    case atStart=>exact⟨0,by decide,rfl,by simp⟩
    case round =>
     obtain⟨j,hj,rfl,rfl⟩:=hrel
     obtain⟨gb,hgb⟩:∃ gb,gb=(G&&((s.drop 36).take j).all (· == 0)):=⟨_,rfl⟩
     rw [← hgb]
     have HGB:=zh hgb
     clear hgb
     by_cases hlt:j<28
     ·have k0:decide (36+(j:Int)<64)=true:=by simp;omega
      have hjs:36+j<s.length:=by rw [HHS.out];omega
      have hcell:wc.cell? ⟨w.heap.size,36+j,none⟩=some (.int .u8 (s[36+j].toNat:Int)):=by
       rw [cR wc _ (36+j) _ _ _ HX0.out,HX.out]
       simpa using u8s_at hjs
      have hnext:(G&&((s.drop 36).take (j+1)).all (· == 0))=(gb&&(s[36+j] == 0)):=by
       have e:(s.drop 36).take (j+1)=(s.drop 36).take j++[s[36+j]]:=by
        rw [List.take_add_one,List.getElem?_drop,List.getElem?_eq_getElem hjs];rfl
       rw [e,List.all_append,HGB.out,Bool.and_assoc]
       simp
      have HN:=zh hnext
      obtain⟨cv,hcv⟩:∃ cv,cv=s[36+j]:=⟨_,rfl⟩
      rw [← hcv] at hcell HN
      have hbeq:(cv == 0)=((cv.toNat:Int) == 0):=by
       rw [Bool.eq_iff_iff]
       simp only [beq_iff_eq]
       constructor
       ·intro h;rw [h];rfl
       ·intro h;apply UInt8.toNat_inj.1;rw [show (0:UInt8).toNat=0 from rfl];omega
      rw [hbeq] at HN
      obtain⟨q,hq⟩:∃ q,((cv.toNat:Int) == 0)=q:=⟨_,rfl⟩
      rw [hq] at HN
      have j1:(0:Int)≤36+(j:Int):=by omega
      have j2:36+(j:Int)<64:=by omega
      have j3:(36+(j:Int)).toNat=36+j:=by omega
      clear hcv hnext hbeq hjs
      cases gb with
      | false =>
       go_wp2_with fail
       go_round
       case rel=>exact⟨j+1,by omega,by go_num,by rw [HN.out];rfl⟩
       case measure=>simp [intOf];omega
      | true =>
       go_wp2_with fail
       go_round
       case rel=>exact⟨j+1,by omega,by go_num,by rw [HN.out];rfl⟩
       case measure=>simp [intOf];omega
     ·obtain rfl:j=28:=by omega
      have hrow:=HROW.out
      have N0:=cR wc _ 0 _ _ _ hrow
      have N1:=cR wc _ 1 _ _ _ hrow
      have N2:=cR wc _ 2 _ _ _ hrow
      have N3:=cR wc _ 3 _ _ _ hrow
      have M0:=cR wc _ 0 _ _ _ HX1.out
      have M1:=cR wc _ 1 _ _ _ HX1.out
      have M2:=cR wc _ 2 _ _ _ HX1.out
      have M3:=cR wc _ 3 _ _ _ HX1.out
      have Z:=zF HX1.out
      obtain⟨wz,hwz⟩:∃ wz,wz=put4 wc (w.heap.size+1) (.int .i64 a) (.int .i64 b) (.int .i64 c) (.int .i64 d):=⟨_,rfl⟩
      have hz:=put4_heap HX1.out (.int .i64 a) (.int .i64 b) (.int .i64 c) (.int .i64 d)
      have hbz:=put4_below (HB4.out.trans (HB.out.mono (by omega))) (show w.heap.size≤w.heap.size+1 by omega) (.int .i64 a) (.int .i64 b) (.int .i64 c) (.int .i64 d)
      rw [← hwz] at hz hbz
      dsimp only [put4] at hwz
      have HWZ:=zh hwz
      have HZ:=zh hz
      have HBZ:=zh hbz
      have HFIN:=zh (show gb=(G&&(s.drop 36).all (· == 0)) by
       have h:=HGB.out
       rwa [List.take_of_length_le (by rw [List.length_drop,HHS.out];decide)] at h)
      clear hwz hz hbz hrow
      go_wp2_with fail
      rw [← HWZ.out]
      refine bodyPost_ret (results_ctM rfl _ _ (w.heap.size+1) _ _ _ _ rfl HZ.out Tryz.underlying169 rfl size_four) rfl ?_
      obtain⟨H1,H2,H3,H4⟩:=HABCD.out
      exact⟨by rw [← H1,← H2,← H3,← H4,← HFIN.out];rfl,HBZ.out⟩
end
section
open Go.RowKit WalP PackP
theorem genV_view (d:DiskP) (h:Int):genV (viewP d h)=genS (half d) (readP d (h*half d)).1:=by
 have hl:(viewP d h).length=half d:=by unfold viewP;simp
 rw [← genS_eq,hl]
 by_cases h0:half d=0
 ·unfold genS
  rw [if_pos (.inl h0),if_pos (.inl h0)]
 ·have e:(viewP d h).getD 0 []=(readP d (h*half d)).1:=by
   unfold viewP
   rw [List.getD_eq_getElem?_getD,List.getElem?_map,List.getElem?_range (by omega)]
   simp
  rw [e]
set_option maxRecDepth 100000 in
set_option maxHeartbeats 4000000 in
theorem refGen_any {B:Nat} (v:Value) (d:DiskP) (h:Int) (w:World) (hd:DiskV B w v d) (hS:d.secs.length≤4096) (hh:h=0∨h=1) :
  Calls Tryz.prog 93 #[v,.int .i64 h] w fun e w'=>e = .returned (.int .i64 (genV (viewP d h)))∧Below w.heap.size w w':=by
 rw [genV_view]
 have hd:=hd.tight
 obtain⟨p1,q1,p2,q2,rfl,_,_⟩:=hd.parts
 obtain⟨w1,hw1⟩:∃ w1,w1=w.alloc (.cells #[.slice p1 d.secs.length q1,.slice p2 d.loose.length q2,.int .i64 d.fuse,.bool d.down] 38):=⟨_,rfl⟩
 have hb1:Below w.heap.size w w1:=by rw [hw1];exact Below.alloc (Below.refl _ _) (Nat.le_refl _) _
 have R0:w1.heap[w.heap.size]?=some (.cells #[.slice p1 d.secs.length q1,.slice p2 d.loose.length q2,.int .i64 d.fuse,.bool d.down] 38 (0,0)):=by rw [hw1];exact heap_alloc_new w _
 have hd1:=(hd.below hb1).tight
 obtain⟨H,hH⟩:∃ H,H=half d:=⟨_,rfl⟩
 have hSH:(d.secs.length:Int) / 2=(H:Int):=by rw [hH];unfold half;omega
 rw [← hH]
 have hH2:H≤2048:=by rw [hH];unfold half;omega
 have hm0:0≤h*(H:Int):=by rcases hh with h | h <;> rw [h] <;> omega
 have hm1:h*(H:Int)≤4096:=by rcases hh with h | h <;> rw [h] <;> omega
 obtain⟨at_,hat⟩:∃ a,a=h*(H:Int):=⟨_,rfl⟩
 have ks:=refSector_any _ d at_ w1 hd1
 have hxl:=walReadLen hd1 at_
 rw [← hat]
 obtain⟨s,hs⟩:∃ s,s=(readP d at_).1:=⟨_,rfl⟩
 rw [← hs] at ks hxl ⊢
 obtain⟨X,hX⟩:∃ X,X=(u8s s).toArray:=⟨_,rfl⟩
 have km:=fun w=>refMarkRead_any hxl w
 rw [← hX] at ks km
 have hlaw:=(refread_law hxl).2
 obtain⟨a,ha⟩:∃ x,x=nvK (rs0 s) 0:=⟨_,rfl⟩
 obtain⟨b,hb'⟩:∃ x,x=nvK (rs0 s) 1:=⟨_,rfl⟩
 obtain⟨c,hc⟩:∃ x,x=nvK (rs0 s) 2:=⟨_,rfl⟩
 obtain⟨dd,hdd⟩:∃ x,x=nvK (rs0 s) 3:=⟨_,rfl⟩
 obtain⟨ok,hok⟩:∃ x,x=(readMark s).2:=⟨_,rfl⟩
 rw [← ha,← hb',← hc,← hdd,← hok] at km hlaw
 obtain⟨tk,htk⟩:∃ t,t=takesZ c:=⟨_,rfl⟩
 have kt:=fun w=>refTakes_any c w
 rw [← htk] at kt
 have hg:ok=true→genS H s=if H=0∨b≠0∨(H:Int)<tk then 0 else a:=fun h=>by
  have h1:=hlaw h
  unfold genS
  rw [h1,← hok,h,htk]
  simp
 have hg0:ok=false→genS H s=0:=fun h=>by
  unfold genS
  rw [if_pos (.inr (.inl (by rw [← hok];exact h)))]
 obtain⟨R,hR⟩:∃ R,R=genS H s:=⟨_,rfl⟩
 rw [← hR] at hg hg0 ⊢
 have HG:=zh hg
 have HG0:=zh hg0
 have HW1:=zh hw1
 have HAT:=zh hat
 have HSH:=zh hSH
 have hRz:H=0→R=0:=fun h=>by rw [hR];unfold genS;rw [if_pos (.inl h)]
 have HRZ:=zh hRz
 have C0:=cR w1 _ 0 _ _ _ R0
 clear hg hg0 hw1 hat hSH hs hX hlaw ha hb' hc hdd hok htk hR hd hd1 hxl hRz hH
 go_enter Tryz.func93,Tryz.ntmps93
 go_upto_region 1 with (fail)
 rw [← HW1.out]
 go_upto_region 2 with (fail)
 rw [HSH.out]
 clear C0
 by_cases h0:H=0
 ·have q0:((H:Int) == 0)=true:=by simp [h0]
  have HF:=zh (HRZ.out h0)
  clear h0
  go_wp2_with fail
  go_ret
  exact⟨by rw [HF.out];rfl,hb1⟩
 ·have q0:((H:Int) == 0)=false:=by simp;omega
  have C0:=cR w1 _ 0 _ _ _ R0
  have C1:=cR w1 _ 1 _ _ _ R0
  have C2:=cR w1 _ 2 _ _ _ R0
  have C3:=cR w1 _ 3 _ _ _ R0
  have H0:=zh h0
  clear h0
  go_wp2_with fail
  rw [← HAT.out]
  refine ks.mono ?_
  rintro e w2 ⟨rfl,hb2⟩
  have km:=km w2
  clear ks C0 C1 C2 C3
  go_wp2_with fail
  refine km.mono ?_
  rintro e w3 ⟨rfl,hb3⟩
  clear km
  have hb03:Below w.heap.size w w3:=(hb1.trans (hb2.mono hb1.size)).trans (hb3.mono (Nat.le_trans hb1.size hb2.size))
  obtain⟨w4,hw4⟩:∃ w4,w4=w3.alloc (.cells #[.int .i64 a,.int .i64 b,.int .i64 c,.int .i64 dd] 169):=⟨_,rfl⟩
  have hb4:Below w.heap.size w w4:=by rw [hw4];exact hb03.alloc hb03.size _
  have R4:w4.heap[w3.heap.size]?=some (.cells #[.int .i64 a,.int .i64 b,.int .i64 c,.int .i64 dd] 169 (0,0)):=by rw [hw4];exact heap_alloc_new w3 _
  have N0:=cR w4 _ 0 _ _ _ R4
  have N1:=cR w4 _ 1 _ _ _ R4
  have N2:=cR w4 _ 2 _ _ _ R4
  have HW4:=zh hw4
  have HB4:=zh hb4
  have kt:=kt w4
  obtain⟨c1,h1⟩:∃ x,(b != 0)=x:=⟨_,rfl⟩
  obtain⟨c2,h2⟩:∃ x,decide ((H:Int)<tk)=x:=⟨_,rfl⟩
  have hfin:ok=true→R=if (c1 || c2)=true then 0 else a:=fun h=>by
   rw [HG.out h,← h1,← h2]
   by_cases hb0:b=0
   ·simp [hb0,H0.out]
   ·simp [hb0,H0.out]
  have HFIN:=zh hfin
  clear hfin hw4 hb4 hb03 hb2 hb3 R4 hb1 hd
  go_upto_region 5 with (fail)
  rw [← HW4.out]
  cases ok with
  | false =>
   have HF:=zh (HG0.out rfl)
   go_wp2_with fail
   go_ret
   exact⟨by rw [HF.out];rfl,HB4.out⟩
  | true =>
   have HF:=zh (HFIN.out rfl)
   cases c1 with
   | true =>
    go_wp2_with fail
    go_ret
    exact⟨by rw [HF.out];rfl,HB4.out⟩
   | false =>
    cases c2 with
    | true =>
     go_wp2_with fail
     refine kt.mono ?_
     rintro e w9 ⟨rfl,rfl⟩
     go_wp2_with fail
     go_ret
     exact⟨by rw [HF.out];rfl,HB4.out⟩
    | false =>
     go_wp2_with fail
     refine kt.mono ?_
     rintro e w9 ⟨rfl,rfl⟩
     go_wp2_with fail
     go_ret
     exact⟨by rw [HF.out];rfl,HB4.out⟩
end
end Go.Proofs.YtaijompnohkmaaaGreatDoor
