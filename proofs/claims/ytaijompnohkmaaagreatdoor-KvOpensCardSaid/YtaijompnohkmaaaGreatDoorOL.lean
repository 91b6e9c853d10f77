/- Layer 5 (wal), the document's answer: a half's records. -/
import Derived.Test.YtaijompnohkmaaaGreatDoorOK
import Derived.Maps.OwnSet
import Derived.Maps.StringElems
import Derived.Sort.KeysCollected
import Derived.Shelf.SlIter.Nil
import Derived.Shelf.SortM.Plain
import Derived.Shelf.SortM.SortNone
import Derived.Ground.GgzProg
import Derived.Ground.SlgmProg
import Derived.Test.YtaijompnohkmaaaGreatDoorProg
import Derived.Sort.Walk0
set_option linter.unusedSimpArgs false
set_option linter.unusedVariables false
namespace Go.Proofs.YtaijompnohkmaaaGreatDoor
section
open Go.RowKit WalP PackP
theorem flat_short {L:List (List UInt8)} (h64:∀ s∈L,s.length=64) {k m:Nat} (hk:k≤L.length) (hm:m≤64*k):((L.take k).flatten).take m=(L.flatten).take m:=by
 have e:L.flatten=(L.take k).flatten++(L.drop k).flatten:=by rw [← List.flatten_append,List.take_append_drop]
 rw [e,List.take_append_of_le_length]
 rw [flat64_eq _ (fun s hs=>h64 s (List.mem_of_mem_take hs)),List.length_take,Nat.min_eq_left hk]
 exact hm
theorem round_parts2 {B:Nat} {wr w8:World} {lv:Value} {list:List (List UInt8)} {a:Option Addr} {n c:Nat} {bs:List UInt8} (hw8:w8=wr.alloc (.cells #[.slice a n c] 23)) (h:RecsV B wr lv list) (hv:Bytes wr.heap.size wr (.slice a n c) bs) :
  Below wr.heap.size wr w8∧Src Tryz.prog w8 (.slice (some ⟨wr.heap.size,0,none⟩) 1 1) 1 1 [.slice a n c]∧∃ vs:List Value,vs.length=list.length∧Own B w8 23 lv 1 list.length vs∧(∀ (k:Nat) (h:k<list.length),∃ u,vs[k]?=some u∧Bytes w8.heap.size w8 u list[k]∧Apart lv u∧Sl (fun b=>B≤b) u)∧Bytes w8.heap.size w8 (.slice a n c) bs:=by
 have hb8:Below wr.heap.size wr w8:=by rw [hw8];exact Below.alloc (Below.refl _ _) (Nat.le_refl _) _
 obtain⟨vs,h1,h2⟩:=h.below hb8
 refine⟨hb8,?_,vs,by have:=h1.1;omega,h1,h2,(hv.below hb8).tight⟩
 rw [hw8]
 exact Row.src (B:=wr.heap.size+1) (Row.fresh (w:=wr) rfl (Nat.le_refl _) (by decide) (fun k u hk=>by simpa using hk))
theorem view_at (d:DiskP) (h:Int) (i:Nat) (hi:i<half d):(viewP d h)[i]?=some (readP d (h*half d+i)).1:=by
 unfold viewP
 rw [List.getElem?_map,List.getElem?_range hi];rfl
theorem view_len (d:DiskP) (h:Int):(viewP d h).length=half d:=by unfold viewP;simp
set_option maxRecDepth 100000 in
set_option maxHeartbeats 8000000 in
theorem refRecords_any {B:Nat} (v:Value) (d:DiskP) (h g:Int) (w:World) (hd:DiskV B w v d) (hS:d.secs.length≤4096) (hh:h=0∨h=1) :
  Calls Tryz.prog 94 #[v,.int .i64 h,.int .i64 g] w fun e w'=>(∃ lv,e = .returned (.tuple #[lv,.int .i64 (refRecs (viewP d h) g).2.1,.int .i64 (refRecs (viewP d h) g).2.2])∧PiecesS (fun b=>w.heap.size≤b) w'.heap.size w' lv (refRecs (viewP d h) g).1)∧Below w.heap.size w w':=by
 have hd:=hd.tight
 obtain⟨p1,q1,p2,q2,rfl,_,_⟩:=hd.parts
 obtain⟨w1,hw1⟩:∃ w1,w1=w.alloc (.cells #[.slice p1 d.secs.length q1,.slice p2 d.loose.length q2,.int .i64 d.fuse,.bool d.down] 38):=⟨_,rfl⟩
 have hb1:Below w.heap.size w w1:=by rw [hw1];exact Below.alloc (Below.refl _ _) (Nat.le_refl _) _
 have R0:w1.heap[w.heap.size]?=some (.cells #[.slice p1 d.secs.length q1,.slice p2 d.loose.length q2,.int .i64 d.fuse,.bool d.down] 38 (0,0)):=by rw [hw1];exact heap_alloc_new w _
 have hd1:=(hd.below hb1).tight
 obtain⟨l,hl⟩:∃ l,l=viewP d h:=⟨_,rfl⟩
 obtain⟨N,hN⟩:∃ N,N=half d:=⟨_,rfl⟩
 have hSH:(d.secs.length:Int) / 2=(N:Int):=by rw [hN];unfold half;omega
 have hN2:N≤2048:=by rw [hN];unfold half;omega
 have hm0:0≤h*(N:Int):=by rcases hh with h | h <;> rw [h] <;> omega
 have hm1:h*(N:Int)≤4096:=by rcases hh with h | h <;> rw [h] <;> omega
 have hlen:l.length=N:=by rw [hl,hN];exact view_len d h
 have hat:∀ i,i<N→l[i]?=some (readP d (h*(N:Int)+i)).1:=fun i hi=>by rw [hl,hN];exact view_at d h i (hN▸hi)
 have h64:∀ s∈l,s.length=64:=fun s hs=>by
  rw [hl] at hs
  unfold viewP at hs
  obtain⟨i,_,rfl⟩:=List.mem_map.1 hs
  exact walReadLen hd1 _
 have ks:∀ (i:Nat) (z:Int),i<N→z=h*(N:Int)+i→∀ w',Below w1.heap.size w1 w'→∃ s,l[i]?=some s∧s.length=64∧Calls Tryz.prog 137 #[.agg #[.slice p1 d.secs.length q1,.slice p2 d.loose.length q2,.int .i64 d.fuse,.bool d.down],.int .i64 z] w' fun e w''=>e = .returned (.agg (u8s s).toArray)∧Below w'.heap.size w' w'':=fun i z hi hz w' hb=>by
  refine⟨_,hat i hi,walReadLen hd1 _,?_⟩
  rw [hz]
  exact refSector_any _ d _ w' (hd1.below hb)
 rw [← hl]
 have HW1:=zh hw1
 have HSH:=zh hSH
 have HLEN:=zh hlen
 have H64:=zh h64
 have KS:=zh ks
 have HB1:=zh hb1
 have HR0:=zh R0
 have C0:=cR w1 _ 0 _ _ _ R0
 clear hw1 hSH hlen hat h64 ks hl hN hd hd1 hb1 R0
 go_enter Tryz.func94,Tryz.ntmps94
 go_upto_region 1 with (fail)
 rw [← HW1.out]
 go_upto_region 2 with (fail)
 rw [HSH.out]
 clear C0
 go_wp2_with fail
 go_loopw [10,11] (fun lv u wr=>∃ (list:List (List UInt8)) (used f:Nat),RecsV w1.heap.size wr lv list∧u = .int .i64 used∧used≤N∧list.length≤used∧N+1≤f+used∧refRecs l g=refGo l g f list used∧Below w1.heap.size w1 wr) (fun _ u _=>N-(intOf u).toNat)
 case atStart=>exact⟨[],0,N+1,RecsV.nil _ _,rfl,Nat.zero_le _,Nat.zero_le _,by omega,by unfold refRecs;rw [HLEN.out],Below.refl _ _⟩
 case round =>
  obtain⟨list,used,f,hlv,rfl,hu,hlu,hf,hrec,hb⟩:=hrel
  obtain⟨la,lc,rfl⟩:=hlv.form
  have HLV:=zh hlv
  have HREC:=zh hrec
  have HB:=zh hb
  clear hlv hrec hb
  obtain⟨f,rfl⟩:∃ f',f=f'+1:=⟨f-1,by omega⟩
  by_cases hun:used<N
  ·have u0:decide ((used:Int)<(N:Int))=true:=by simp;omega
   have hus:used<l.length:=by rw [HLEN.out];exact hun
   obtain⟨s,hls,hsl,kc⟩:=KS.out used (h*(N:Int)+(used:Int)) hun rfl wr HB.out
   have hls2:l[used]=s:=by rw [List.getElem?_eq_getElem hus] at hls;exact Option.some.inj hls
   have R0:=(HB.out.block _ (zB HR0.out)).trans HR0.out
   have C0:=cR wr _ 0 _ _ _ R0
   have C1:=cR wr _ 1 _ _ _ R0
   have C2:=cR wr _ 2 _ _ _ R0
   have C3:=cR wr _ 3 _ _ _ R0
   obtain⟨X,hX⟩:∃ X,X=(u8s s).toArray:=⟨_,rfl⟩
   have km:=fun w=>refMarkRead_any hsl w
   rw [← hX] at kc km
   have hlaw:=(refread_law hsl).2
   obtain⟨a,ha⟩:∃ x,x=nvK (rs0 s) 0:=⟨_,rfl⟩
   obtain⟨b,hb'⟩:∃ x,x=nvK (rs0 s) 1:=⟨_,rfl⟩
   obtain⟨c,hc⟩:∃ x,x=nvK (rs0 s) 2:=⟨_,rfl⟩
   obtain⟨dd,hdd⟩:∃ x,x=nvK (rs0 s) 3:=⟨_,rfl⟩
   obtain⟨ok,hok⟩:∃ x,x=(readMark s).2:=⟨_,rfl⟩
   rw [← ha,← hb',← hc,← hdd,← hok] at km hlaw
   have hm:ok=true→readMark l[used]=(⟨a,b,c,dd⟩,true):=fun h=>by rw [hls2];exact Prod.ext (hlaw h) (by rw [← hok];exact h)
   have hmf:ok=false→refGo l g (f+1) list used=(list,used,0):=fun h=>ref_stop hus (m:=(readMark l[used]).1) (ok:=(readMark l[used]).2) rfl (.inl (by rw [hls2,← hok];exact h))
   obtain⟨n,hn⟩:∃ n:Nat,takesZ c=(n:Int):=⟨(takesZ c).toNat,by unfold takesZ;split <;> omega⟩
   have hn95:n≤95:=by unfold takesZ at hn;split at hn <;> omega
   have kt:=fun w=>refTakes_any c w
   rw [hn] at kt
   have HM:=zh hm
   have HMF:=zh hmf
   have HUS:=zh hus
   have HNZ:=zh hn
   clear hX hls hls2 hlaw ha hb' hc hdd hok hm hmf hn R0
   go_upto_region 5 with (fail)
   go_wp2_with fail
   refine kc.mono ?_
   rintro e w2 ⟨rfl,hb2⟩
   have km:=km w2
   clear kc C0 C1 C2 C3
   go_wp2_with fail
   refine km.mono ?_
   rintro e w3 ⟨rfl,hb3⟩
   clear km
   obtain⟨g4,hg4⟩:∃ g4,g4=w3.heap.size:=⟨_,rfl⟩
   obtain⟨w4,hw4⟩:∃ w4,w4=w3.alloc (.cells #[.int .i64 a,.int .i64 b,.int .i64 c,.int .i64 dd] 169):=⟨_,rfl⟩
   have hbr3:Below wr.heap.size wr w3:=hb2.trans (hb3.mono hb2.size)
   have hbr4:Below wr.heap.size wr w4:=by rw [hw4];exact hbr3.alloc hbr3.size _
   have R4:w4.heap[g4]?=some (.cells #[.int .i64 a,.int .i64 b,.int .i64 c,.int .i64 dd] 169 (0,0)):=by rw [hw4,hg4];exact heap_alloc_new w3 _
   have HW4:=zh hw4
   have HG4:=zh hg4
   have HBR4:=zh hbr4
   have HR4:=zh R4
   have HG4W:=zh (show wr.heap.size≤g4 by rw [hg4];exact hbr3.size)
   have HLV4:=zh (HLV.out.below hbr4)
   have HB4:=zh (HB.out.trans (hbr4.mono HB.out.size))
   clear hw4 hg4 hb2 hb3 hbr3 hbr4 R4
   go_upto_region 6 with (fail)
   rw [← HW4.out,← HG4.out]
   have A0:=cR w4 _ 0 _ _ _ HR4.out
   have A1:=cR w4 _ 1 _ _ _ HR4.out
   have A2:=cR w4 _ 2 _ _ _ HR4.out
   have kt4:=kt w4
   have HBB:=zh (HB1.out.trans (HB4.out.mono HB1.out.size))
   have hwu:IntKind.i64.wrap ((used:Int)+n)=((used+n:Nat):Int):=by
    simp only [IntKind.wrap,IntKind.bits,IntKind.signed]
    simp
    omega
   cases ok with
   | false =>
    have HR:=zh (HREC.out.trans (HMF.out rfl))
    go_wp2_with fail
    refine bodyPost_ret (v:=.tuple #[.slice la list.length lc,.int .i64 used,.int .i64 0]) (by simp [results,Tryz.results94,go_sem]) rfl ?_
    rw [HR.out]
    exact⟨⟨_,rfl,HLV4.out.pieces.weak (fun b h=>Nat.le_trans HB1.out.size h)⟩,HBB.out⟩
   | true =>
   have HMM:=zh (HM.out rfl)
   clear HM
   obtain⟨c1,h1⟩:∃ x,(a != g)=x:=⟨_,rfl⟩
   cases c1 with
   | true =>
    have HR:=zh (HREC.out.trans (ref_stop hus HMM.out (.inr (.inl (by simpa using h1)))))
    go_wp2_with fail
    refine bodyPost_ret (v:=.tuple #[.slice la list.length lc,.int .i64 used,.int .i64 0]) (by simp [results,Tryz.results94,go_sem]) rfl ?_
    rw [HR.out]
    exact⟨⟨_,rfl,HLV4.out.pieces.weak (fun b h=>Nat.le_trans HB1.out.size h)⟩,HBB.out⟩
   | false =>
   have hag:a=g:=by simpa using h1
   have HAG:=zh hag
   clear hag
   obtain⟨c2,h2⟩:∃ x,(b != (list.length:Int))=x:=⟨_,rfl⟩
   cases c2 with
   | true =>
    have HR:=zh (HREC.out.trans (ref_stop hus HMM.out (.inr (.inr (.inl (by simpa using h2))))))
    go_wp2_with fail
    refine bodyPost_ret (v:=.tuple #[.slice la list.length lc,.int .i64 used,.int .i64 0]) (by simp [results,Tryz.results94,go_sem]) rfl ?_
    rw [HR.out]
    exact⟨⟨_,rfl,HLV4.out.pieces.weak (fun b h=>Nat.le_trans HB1.out.size h)⟩,HBB.out⟩
   | false =>
   have hbl:b=(list.length:Int):=by simpa using h2
   have HBL:=zh hbl
   clear hbl
   by_cases h3:N-used<n
   ·have k3:decide ((N:Int)<((used+n:Nat):Int))=true:=by simp;omega
    have HR:=zh (HREC.out.trans (ref_stop hus HMM.out (.inr (.inr (.inr (by show l.length-used<(takesZ c).toNat;rw [HNZ.out,HLEN.out];omega))))))
    go_wp2_with fail
    refine kt4.mono ?_
    rintro e w9 ⟨rfl,rfl⟩
    clear kt4
    go_wp2_with fail
    refine bodyPost_ret (v:=.tuple #[.slice la list.length lc,.int .i64 used,.int .i64 0]) (by simp [results,Tryz.results94,go_sem]) rfl ?_
    rw [HR.out]
    exact⟨⟨_,rfl,HLV4.out.pieces.weak (fun b h=>Nat.le_trans HB1.out.size h)⟩,HBB.out⟩
   ·have k3:decide ((N:Int)<((used+n:Nat):Int))=false:=by simp;omega
    obtain⟨hc1,hc2,hc3⟩:1≤c∧c≤6000∧(n:Int)=1+(c+63) / 64:=by
     have h0:0<takesZ c:=mark_takes HMM.out
     have h1:=HNZ.out
     unfold takesZ at h0 h1
     split at h0
     ·omega
     ·rename_i h2
      rw [if_neg h2] at h1
      omega
    obtain⟨k,hk⟩:∃ k:Nat,n=k+1:=⟨n-1,by omega⟩
    obtain⟨cn,hcn⟩:∃ cn:Nat,c=(cn:Int):=⟨c.toNat,by omega⟩
    subst hcn
    have hkc:cn≤64*k:=by omega
    have hck:64*k<cn+64:=by omega
    have hcn6:cn≤6000:=by omega
    have HK:=zh hk
    have HUN:=zh (show used+n≤N∧1≤n by omega)
    clear hk hc1 hc2 hc3
    go_wp2_with fail
    refine kt4.mono ?_
    rintro e w9 ⟨rfl,rfl⟩
    clear kt4 A0 A1
    go_wp2_with fail
    obtain⟨wo,hwo⟩:∃ wo,wo=wr:=⟨_,rfl⟩
    subst hwo
    obtain⟨z0,hz0,hzr⟩:=zero44
    have HZ0:=zh hz0
    have HZR:=zh hzr
    clear hz0 hzr A2
    go_loopw [14,15] (fun bv z wx=>∃ j:Nat,j≤cn∧z = .int .i64 j∧OwnB w4.heap.size wx bv ((l.drop (used+1)).flatten.take j)∧Below w4.heap.size w4 wx) (fun _ z _=>cn-(intOf z).toNat)
    case atStart=>exact⟨0,Nat.zero_le _,rfl,Own.none _ _ _ _ _,Below.refl _ _⟩
    case round =>
     obtain⟨j,hj,rfl,hown,hbx⟩:=hrel
     have hM:=(hbx.block g4 (zB HR4.out)).trans HR4.out
     have hb1r:=HB4.out.trans (hbx.mono HB4.out.size)
     have HOWN:=zh hown
     have HBX:=zh hbx
     have A2:=cR wr _ 2 _ _ _ hM
     by_cases hjk:j<cn
     ·have j0:decide ((j:Int)<(cn:Int))=true:=by simp;omega
      have hkk:=HK.out
      obtain⟨s',hls,hsl',kc⟩:=KS.out (used+1+j / 64) (h*(N:Int)+(used:Int)+1+(j:Int) / 64) (by omega) (by omega) wr hb1r
      have R0:=(hb1r.block _ (zB HR0.out)).trans HR0.out
      have C0:=cR wr _ 0 _ _ _ R0
      have C1:=cR wr _ 1 _ _ _ R0
      have C2:=cR wr _ 2 _ _ _ R0
      have C3:=cR wr _ 3 _ _ _ R0
      obtain⟨Y,hY⟩:∃ Y,Y=(u8s s').toArray:=⟨_,rfl⟩
      have hYs:Y.size=64:=by rw [hY];simp [zL,hsl']
      have hYo:∀ v∈Y.toList,v.oneCell'=true:=by rw [hY];exact oneCell_u8s _
      rw [← hY] at kc
      have hjm:j%64<s'.length:=by rw [hsl'];exact Nat.mod_lt _ (by decide)
      have hstep:=flat_byte (l:=l) H64.out (u:=used+1) (i:=j) (by rw [HLEN.out];omega) hls hjm
      have hcY:Y[j%64]?=some (.int .u8 (s'[j%64].toNat:Int)):=by rw [hY];simpa using u8s_at hjm
      obtain⟨cv,hcv⟩:∃ cv,cv=s'[j%64]:=⟨_,rfl⟩
      rw [← hcv] at hstep hcY
      have HSTEP:=zh hstep
      have HY:=zh (show Y.size=64∧(∀ v∈Y.toList,v.oneCell'=true)∧Y[j%64]?=some (.int .u8 (cv.toNat:Int)) from ⟨hYs,hYo,hcY⟩)
      clear hown hbx hM hb1r hls hsl' R0 hY hYs hYo hjm hstep hcY hcv hkk
      go_wp2_with fail
      refine kc.mono ?_
      rintro e w5 ⟨rfl,hb5⟩
      obtain⟨w7,hw7,s7,g7,l7,hgg⟩:=box_alloc HZ0.out hb5
      obtain⟨w8,hst,hbox⟩:=box_store HY.out.1 HY.out.2.1 g7 hgg s7
      have HW7:=zh hw7
      have HBOX:=zh hbox
      have HST:=zh hst
      clear kc C0 C1 C2 C3 hw7 s7 g7 l7 hgg hst hbox
      go_wp2_with (refine wp_alloc_to (w':=w7) 94 rfl rfl (HZR.out _) HW7.out ?_;refine Halt.in ?_)
      refine Halt.out ?_
      refine wp_store_at (.tmp 16) (.tmp 75) 94 rfl rfl rfl rfl HST.out ?_
      obtain⟨g5,hg5⟩:∃ g,g=w5.heap.size:=⟨_,rfl⟩
      rw [← hg5] at HBOX ⊢
      have hcell:w8.cell? ⟨g5,j%64,none⟩=some (.int .u8 (cv.toNat:Int)):=by
       rw [cR w8 g5 (j%64) _ _ _ HBOX.out.2.1]
       exact HY.out.2.2
      have HG5:=zh hg5
      clear hg5
      have hb58:Below wr.heap.size wr w8:=HBOX.out.2.2
      have hb89:Below w8.heap.size w8 (w8.alloc (.cells #[.int .u8 (cv.toNat:Int)] 5)):=Below.alloc (Below.refl _ _) (Nat.le_refl _) _
      have hb9:Below wr.heap.size wr (w8.alloc (.cells #[.int .u8 (cv.toNat:Int)] 5)):=hb58.trans (hb89.mono hb58.size)
      have hown9:OwnB w4.heap.size (w8.alloc (.cells #[.int .u8 (cv.toNat:Int)] 5)) u14 ((l.drop (used+1)).flatten.take j):=HOWN.out.below hb9 (Nat.le_refl _)
      have hsrc9:Src Tryz.prog (w8.alloc (.cells #[.int .u8 (cv.toNat:Int)] 5)) (.slice (some ⟨w8.heap.size,0,none⟩) 1 1) 1 [cv].length (u8s [cv]):=Row.src (B:=w8.heap.size+1) (Row.fresh (w:=w8) rfl (Nat.le_refl _) (by decide) (fun k u hk=>by simpa [u8s,Go.Proofs.YtaijompnohkmaaaGreatDoor.u8] using hk))
      have hl46:((l.drop (used+1)).flatten.take j).length+[cv].length≤2^46:=by
       have:((l.drop (used+1)).flatten.take j).length≤j:=List.length_take_le _ _
       simp only [List.length_singleton]
       omega
      have hB9:w4.heap.size≤(w8.alloc (.cells #[.int .u8 (cv.toNat:Int)] 5)).heap.size:=Nat.le_trans HBX.out.size hb9.size
      have HSR:=zh hsrc9
      have HL46:=zh hl46
      have HB9:=zh hb9
      clear hsrc9 hl46 hb58 hb89 hb9 hb5
      go_wp2_with (at_builtin;refine ap_u8 rfl (.tmp 76) (.tmp 81) 23 rfl (.inl ⟨_,Tryz.underlying23⟩) rfl rfl hown9 HSR.out HL46.out hB9 ?_;intro v2 w10 hown2 hb2)
      have HF:=zh (show OwnB w4.heap.size w10 v2 ((l.drop (used+1)).flatten.take (j+1)) by rw [HSTEP.out];exact hown2)
      have HBF:=zh ((HBX.out.trans (HB9.out.mono HBX.out.size)).trans (hb2.mono (by have:=HB9.out.size;have:=HBX.out.size;omega)))
      clear hown2 hb2 hown9 hB9
      go_wp2_with fail
      go_roundw
      case rel=>exact⟨j+1,by omega,by go_num,HF.out,HBF.out⟩
      case measure=>simp [intOf];omega
     ·have j0:decide ((j:Int)<(cn:Int))=false:=by simp;omega
      obtain rfl:j=cn:=by omega
      have hkk:=HK.out
      obtain⟨bs,hbs⟩:∃ bs,bs=(l.drop (used+1)).flatten.take j:=⟨_,rfl⟩
      have hfl:bs=((l.drop (used+1)).take (n-1)).flatten.take ((j:Int)).toNat:=by
       rw [hbs,Int.toNat_natCast,flat_short (fun s hs=>H64.out s (List.mem_of_mem_drop hs)) (by rw [List.length_drop,HLEN.out];omega) (by omega)]
      have hbl:bs.length=j:=by
       rw [hbs,List.length_take,flat64_eq _ (fun s hs=>H64.out s (List.mem_of_mem_drop hs)),List.length_drop,HLEN.out]
       omega
      have hstep:=ref_step (l:=l) (f:=f) (g:=g) (list:=list) hus HMM.out HNZ.out HAG.out HBL.out (by rw [HLEN.out];exact h3) bs hfl
      have hb9:=HOWN.out.bytes
      rw [← hbs] at hb9 hown
      obtain⟨_,a9,c9,rfl,hl9,hc9,_⟩:=id hb9
      have hA3:∀ w',Below wr.heap.size wr w'→w'.cell? ⟨g4,3,none⟩=some (.int .i64 dd):=fun w' h=>cR w' _ 3 _ _ _ ((h.block _ (zB hM)).trans hM)
      have h00:Below wr.heap.size wr wr.drew:=zD (Below.refl _ _) 1
      have ks:=refSum_any _ bs wr.drew wr.heap.size (hb9.below h00)
      obtain⟨sm,hsm⟩:∃ s,s=SumP.toI (SumP.sum bs):=⟨_,rfl⟩
      have hs0:0≤sm:=by rw [hsm];exact SumP.toI_lo _
      have hs1':sm<2^32:=by rw [hsm];exact SumP.toI_hi _
      have hws:IntKind.i64.wrap sm=sm:=by
       simp only [IntKind.wrap,IntKind.bits,IntKind.signed]
       simp
       omega
      rw [← hsm,hbl] at ks
      rw [← hsm] at hstep
      dsimp only at hstep
      have HSTEP:=zh hstep
      have HB9:=zh hb9
      have HOWN:=zh hown
      have HBL:=zh hbl
      clear hstep hsm hbs hfl hown hb9 hbx hs0 hs1'
      rw [hbl]
      clear hbl hkk hl9 hc9
      have hall:Below w.heap.size w wr:=HB1.out.trans (hb1r.mono HB1.out.size)
      have HALL:=zh hall
      have HB1R:=zh hb1r
      have HMR:=zh hM
      clear hall hb1r hM
      go_upto_region 13 with (fail)
      by_cases hsd:sm=dd
      ·have sd:(sm != dd)=false:=by simp [hsd]
       have HSD:=zh hsd
       clear hsd
       refine zI [(false,0),(false,3),(false,4),(true,1),(false,2),(false,5)] (fun w'=>Below wr.heap.size wr w') (by kernel_rfl) (by kernel_rfl) h00 ?_
       repeat (first | (refine zS rfl rfl ?_;simp only [Act.put,zq1,zq2,zq3]) | (refine zT rfl ?_ rfl (fun w' hw'=>?_) ?_;rotate_left;(go_simp;first | done | with_reducible rfl);(try simp only [Act.put,zq1,zq2,zq3])))
       refine zA rfl rfl fun K hK=>?_
       go_simp
       refine ks.mono ?_
       rintro e w9 ⟨rfl,rfl⟩
       refine hK.out _ _ h00 ?_
       clear hK K ks hA3
       repeat (first | (refine zS rfl rfl ?_;simp only [Act.put,zq1,zq2,zq3]) | (refine zT rfl ?_ rfl (fun w' hw'=>?_) ?_;rotate_left;(go_simp;first | done | with_reducible rfl);(try simp only [Act.put,zq1,zq2,zq3])))
       refine zN ?_
       have hel3:=(HLV4.out.below HBX.out).below h00
       have hv9:Bytes wr.drew.heap.size wr.drew (.slice a9 j c9) bs:=by rw [← HBL.out];exact HB9.out.below h00
       have hap:Apart (.slice la list.length lc) (.slice a9 j c9):=HLV4.out.apart9 (d:=c9) HOWN.out (Nat.le_refl _) (by rw [HBL.out];exact Nat.le_refl _)
       have hsl:=sl9 (B:=w1.heap.size) (m:=j) (d:=c9) HOWN.out HB4.out.size (by rw [HBL.out];exact Nat.le_refl _)
       obtain⟨hb8,hsrc8,vs,hvl,hown8,hel8,hv8⟩:=round_parts2 (w8:=wr.drew.alloc (.cells #[.slice a9 j c9] 23)) rfl hel3 hv9
       have HB8:=zh hb8
       have HEL8:=zh hel8
       have HV8:=zh hv8
       have HVL:=zh hvl
       have HAP:=zh hap
       have HSL9:=zh hsl
       have hr8:Below wr.heap.size wr (wr.drew.alloc (.cells #[.slice a9 j c9] 23)):=h00.trans hb8
       have HR8:=zh hr8
       have hone8:∀ u∈[Value.slice a9 j c9],u.oneCell'=true:=fun u hu=>by rw [List.mem_singleton.1 hu];rfl
       obtain⟨i0,z0,hi0,hz0,hz1,hz2,hz3⟩:=zero_parts infoz_bytes
       have R1:list.length+1≤maxLen:=by unfold maxLen;omega
       have R2:(list.length+1)*24≤140737488355328:=by omega
       have hB8:w1.heap.size≤(wr.drew.alloc (.cells #[.slice a9 j c9] 23)).heap.size:=Nat.le_trans HB1R.out.size hr8.size
       clear hb8 hel8 hv8 hv9 hvl hap hel3 hsl hr8
       go_wp2_with (at_builtin;refine wp_append_apart rfl (.tmp 89) (.tmp 91) 66 66 23 rfl i0 z0 1 24 Tryz.underlying66 (.inl ⟨_,Tryz.underlying66⟩) hi0 hz0 hz1 hz2 hz3 rfl rfl hown8 hsrc8 hone8 R1 R2 hB8 (Nat.lt_succ_self 0) ?_;intro v2 w11 hown11 hb11 hg11;refine Halt.in ?_)
       refine Halt.out ?_
       have HR11:=zh (RecsV.snoc HVL.out hown11 HEL8.out HV8.out HAP.out HSL9.out hg11)
       have hvv:=HLV.out
       have hap4:Apart (.slice la list.length lc) (.slice (some ⟨g4,0,none⟩) 4 4):=by
        obtain⟨vs',hv1,_⟩:=hvv
        obtain⟨_,a',c',hv',_,_,h4'⟩:=hv1
        cases hv'
        intro x n1 c1 y m1 e1 hx hy hc0 _
        cases hx
        cases hy
        rcases h4' with h0 | ⟨g',cur,he,_,hh',_⟩
        ·omega
        ·cases he
         have h1':=zB hh'
         have h2':=HG4W.out
         show g'≠g4
         omega
       have hM8:=(HR8.out.block _ (zB HMR.out)).trans HMR.out
       have hrow4:Row (wr.drew.alloc (.cells #[.slice a9 j c9] 23)).heap.size (wr.drew.alloc (.cells #[.slice a9 j c9] 23)) (.slice (some ⟨g4,0,none⟩) 4 4) 1 4 [.int .i64 a,.int .i64 b,.int .i64 j,.int .i64 dd] :=
        row_of_heap hM8 (zB hM8) rfl (Nat.le_refl _) (by decide) (fun k u hk=>by simpa using hk)
       have hg:=(Row.grew hrow4 (Nat.le_refl _) hg11 hap4).1
       have A2:w11.cell? ⟨g4,2,none⟩=some (.int .i64 j):=by
        obtain⟨_,a',c',hv',_,_,h4'⟩:=hg
        cases hv'
        obtain⟨b',o',he,_,hc'⟩:=h4' (by decide)
        cases he
        have h:=hc' 2 (.int .i64 j) rfl
        simpa using h
       have HB11:=zh ((HB1R.out.trans (HR8.out.mono HB1R.out.size)).trans hb11)
       have kt:=kt w11
       clear hsrc8 hone8 hi0 hz0 hz1 hz2 hz3 hown8 R1 R2 hB8 hown11 hb11 hg11 hap4 hM8 hrow4 hg hvv
       go_wp2_with fail
       refine kt.mono ?_
       rintro e w9 ⟨rfl,rfl⟩
       clear kt A2
       go_wp2_with fail
       go_roundw
       case rel =>
        obtain⟨hun1,hun2⟩:=HUN.out
        refine⟨list++[bs],used+n,f,HR11.out,rfl,by omega,by rw [List.length_append,List.length_singleton];omega,by omega,?_,HB11.out⟩
        rw [HREC.out,HSTEP.out,if_neg (fun h=>h HSD.out)]
       case measure=>have hun1:=HUN.out;simp [intOf];omega
      ·have sd:(sm != dd)=true:=by simp [hsd]
       have hall:refRecs l g=([],0,10):=by
        rw [HREC.out,HSTEP.out,if_pos hsd]
       have HA:=zh hall
       clear hsd hall
       refine zI [(false,0),(false,3),(false,4),(true,1),(false,2),(false,5)] (fun w'=>Below wr.heap.size wr w') (by kernel_rfl) (by kernel_rfl) h00 ?_
       repeat (first | (refine zS rfl rfl ?_;simp only [Act.put,zq1,zq2,zq3]) | (refine zT rfl ?_ rfl (fun w' hw'=>?_) ?_;rotate_left;(go_simp;first | done | with_reducible rfl);(try simp only [Act.put,zq1,zq2,zq3])))
       refine zA rfl rfl fun K hK=>?_
       go_simp
       refine ks.mono ?_
       rintro e w9 ⟨rfl,rfl⟩
       refine hK.out _ _ h00 ?_
       clear hK K ks hA3
       repeat (first | (refine zS rfl rfl ?_;simp only [Act.put,zq1,zq2,zq3]) | (refine zT rfl ?_ rfl (fun w' hw'=>?_) ?_;rotate_left;(go_simp;first | done | with_reducible rfl);(try simp only [Act.put,zq1,zq2,zq3])))
       refine zN ?_
       go_wp2_with fail
       refine bodyPost_ret (v:=.tuple #[.slice none 0 0,.int .i64 0,.int .i64 10]) (by simp [results,Tryz.results94,go_sem]) rfl ?_
       rw [HA.out]
       exact⟨⟨_,rfl,(RecsV.nil w.heap.size _).pieces⟩,zD HALL.out 1⟩
  ·have u0:decide ((used:Int)<(N:Int))=false:=by simp;omega
   have HR:=zh (HREC.out.trans (ref_end (by rw [HLEN.out];exact hun)))
   have HBB:=zh (HB1.out.trans (HB.out.mono HB1.out.size))
   go_wp2_with fail
   refine bodyPost_ret (v:=.tuple #[.slice la list.length lc,.int .i64 used,.int .i64 0]) (by simp [results,Tryz.results94,go_sem]) rfl ?_
   rw [HR.out]
   exact⟨⟨_,rfl,HLV.out.pieces.weak (fun b h=>Nat.le_trans HB1.out.size h)⟩,HBB.out⟩
end
section
open Go.RowKit WalP PackP
set_option maxRecDepth 100000 in
set_option maxHeartbeats 8000000 in
theorem refOpen_any {B:Nat} (v:Value) (d:DiskP) (w:World) (hd:DiskV B w v d) :
  Calls Tryz.prog 59 #[v] w (OpenE w (openP d)):=by
 have hd:=hd.tight
 obtain⟨p1,q1,p2,q2,rfl,_,_⟩:=hd.parts
 obtain⟨dn,hdn⟩:∃ b,b=d.down:=⟨_,rfl⟩
 rw [← hdn] at hd ⊢
 have HDN:=zh hdn
 clear hdn
 obtain⟨w3,hw3,hb3,hs3,R0,R1,R2⟩:=three w (.cells #[.slice p1 d.secs.length q1,.slice p2 d.loose.length q2,.int .i64 d.fuse,.bool dn] 38) (.cells #[.slice none 0 0,.slice none 0 0,.int .i64 0,.bool false] 38) (.cells #[.int .i64 0,.int .i64 0,.int .i64 0,.int .i64 0] 41)
 have hd3:=(hd.below hb3).tight
 have HW3:=zh hw3
 clear hw3
 have n12:w.heap.size+1≠w.heap.size+1+1:=by omega
 have l1:w.heap.size≤w.heap.size+1:=by omega
 have l2:w.heap.size≤w.heap.size+1+1:=by omega
 have kr:=refright_any _ d w3 hd3
 obtain⟨R,hR⟩:∃ R,R=rightB d:=⟨_,rfl⟩
 rw [← hR] at kr
 have HR:=zh hR
 clear hR
 have C0:=cR w3 _ 0 _ _ _ R0
 have C1:=cR w3 _ 1 _ _ _ R0
 have C2:=cR w3 _ 2 _ _ _ R0
 have C3:=cR w3 _ 3 _ _ _ R0
 cases R with
 | false =>
  have hF:openP d=(d,log0,[],1):=by unfold openP;rw [if_pos HR.out.symm]
  rw [hF]
  clear hF
  unfold OpenE logV
  try unfold log0
  go_enter Tryz.func59,Tryz.ntmps59
  go_upto_region 1 with (fail)
  rw [← HW3.out]
  go_wp2_with fail
  refine kr.mono ?_
  rintro e w4 ⟨rfl,hb4⟩
  clear kr C0 C1 C2 C3
  have S0:=(hb4.block _ (zB R0)).trans R0
  have S1:=(hb4.block _ (zB R1)).trans R1
  have S2:=(hb4.block _ (zB R2)).trans R2
  have hd4:=(hd3.below hb4).tight
  have hb04:=hb3.trans (hb4.mono hb3.size)
  have C0:=cR w4 _ 0 _ _ _ S0
  have C1:=cR w4 _ 1 _ _ _ S0
  have C2:=cR w4 _ 2 _ _ _ S0
  have C3:=cR w4 _ 3 _ _ _ S0
  have D0:=cR w4 _ 0 _ _ _ S1
  have D1:=cR w4 _ 1 _ _ _ S1
  have D2:=cR w4 _ 2 _ _ _ S1
  have D3:=cR w4 _ 3 _ _ _ S1
  have F0:=cR w4 _ 0 _ _ _ S2
  have F1:=cR w4 _ 1 _ _ _ S2
  have F2:=cR w4 _ 2 _ _ _ S2
  have F3:=cR w4 _ 3 _ _ _ S2
  have Z2:=zF S1
  have Z3:=zF S2
  have HX:=zh (exit_dl (.int .i64 0) (.int .i64 0) (.int .i64 0) (.int .i64 0) S1 S2 hd4 n12 hb04 l1 l2)
  clear R0 R1 R2 S0 S1 S2 hd hd3 hd4 hb3 hb4 hb04 hs3 n12 l1 l2
  go_wp2_with fail
  refine bodyPost_ret (results_cctt rfl _ _ (w.heap.size+1) (w.heap.size+1+1) _ _ _ _ _ _ _ _ rfl rfl HX.out.1 HX.out.2.1 Tryz.underlying38 rfl zQ Tryz.underlying41 rfl size_log) rfl ?_
  exact⟨⟨_,_,rfl,HX.out.2.2.1,pieces_nil _ _ _⟩,HX.out.2.2.2⟩
 | true =>
  cases dn with
  | true =>
   have hF:openP d=(d,log0,[],9):=by unfold openP;rw [if_neg (by rw [← HR.out];simp),if_pos HDN.out.symm]
   rw [hF]
   clear hF
   unfold OpenE logV
   try unfold log0
   go_enter Tryz.func59,Tryz.ntmps59
   go_upto_region 1 with (fail)
   rw [← HW3.out]
   go_wp2_with fail
   refine kr.mono ?_
   rintro e w4 ⟨rfl,hb4⟩
   clear kr C0 C1 C2 C3
   have S0:=(hb4.block _ (zB R0)).trans R0
   have S1:=(hb4.block _ (zB R1)).trans R1
   have S2:=(hb4.block _ (zB R2)).trans R2
   have hd4:=(hd3.below hb4).tight
   have hb04:=hb3.trans (hb4.mono hb3.size)
   have C0:=cR w4 _ 0 _ _ _ S0
   have C1:=cR w4 _ 1 _ _ _ S0
   have C2:=cR w4 _ 2 _ _ _ S0
   have C3:=cR w4 _ 3 _ _ _ S0
   have D0:=cR w4 _ 0 _ _ _ S1
   have D1:=cR w4 _ 1 _ _ _ S1
   have D2:=cR w4 _ 2 _ _ _ S1
   have D3:=cR w4 _ 3 _ _ _ S1
   have F0:=cR w4 _ 0 _ _ _ S2
   have F1:=cR w4 _ 1 _ _ _ S2
   have F2:=cR w4 _ 2 _ _ _ S2
   have F3:=cR w4 _ 3 _ _ _ S2
   have Z2:=zF S1
   have Z3:=zF S2
   have HX:=zh (exit_dl (.int .i64 0) (.int .i64 0) (.int .i64 0) (.int .i64 0) S1 S2 hd4 n12 hb04 l1 l2)
   clear R0 R1 R2 S0 S1 S2 hd hd3 hd4 hb3 hb4 hb04 hs3 n12 l1 l2
   go_wp2_with fail
   refine bodyPost_ret (results_cctt rfl _ _ (w.heap.size+1) (w.heap.size+1+1) _ _ _ _ _ _ _ _ rfl rfl HX.out.1 HX.out.2.1 Tryz.underlying38 rfl zQ Tryz.underlying41 rfl size_log) rfl ?_
   exact⟨⟨_,_,rfl,HX.out.2.2.1,pieces_nil _ _ _⟩,HX.out.2.2.2⟩
  | false =>
   have hS:d.secs.length≤4096:=by
    have h:=HR.out.symm
    unfold rightB at h
    simp only [Bool.and_eq_true,decide_eq_true_eq] at h
    exact h.1.1.1
   obtain⟨gA,hgA⟩:∃ x,x=genV (viewP d 0):=⟨_,rfl⟩
   obtain⟨gB,hgB⟩:∃ x,x=genV (viewP d 1):=⟨_,rfl⟩
   obtain⟨wh,hwh⟩:∃ wh:Int,wh=if gA<gB then 1 else 0:=⟨_,rfl⟩
   have hwh01:wh=0∨wh=1:=by rw [hwh];split <;> omega
   obtain⟨g,hg⟩:∃ x,x=genV (viewP d wh):=⟨_,rfl⟩
   have hbnd:=records_bounds (viewP d wh)
   rw [view_len] at hbnd
   obtain⟨X,hX⟩:∃ x,x=recordsP (viewP d wh):=⟨_,rfl⟩
   have hxx:(if gA<gB then recordsP (viewP d 1) else recordsP (viewP d 0))=X:=by
    rw [hX,hwh];split <;> rfl
   have hop:openP d=(if X.2.2.2≠0 then (d,log0,[],X.2.2.2) else if (compactP d ⟨wh,X.2.2.1,X.2.1,X.1.length⟩ X.1).2.2≠0 then ((compactP d ⟨wh,X.2.2.1,X.2.1,X.1.length⟩ X.1).1,log0,[],(compactP d ⟨wh,X.2.2.1,X.2.1,X.1.length⟩ X.1).2.2) else ((compactP d ⟨wh,X.2.2.1,X.2.1,X.1.length⟩ X.1).1,(compactP d ⟨wh,X.2.2.1,X.2.1,X.1.length⟩ X.1).2.1,X.1,0)):=by
    unfold openP
    rw [if_neg (by rw [← HR.out];simp),if_neg (by rw [← HDN.out];simp)]
    change (let a:=recordsP (viewP d 0);let b:=recordsP (viewP d 1);_)=_
    have e1:(recordsP (viewP d 0)).2.2.1=gA:=hgA.symm
    have e2:(recordsP (viewP d 1)).2.2.1=gB:=hgB.symm
    simp only [e1,e2,hxx,← hwh]
   have hhalf:=right_half HR.out.symm
   obtain⟨rr,hrr⟩:∃ rr,rr=refRecs (viewP d wh) g:=⟨_,rfl⟩
   have hz:g=0→openP d=(d,log0,[],6):=fun h=>by
    rw [hop,hX,gen_none (by rw [← hg];exact h)]
    rfl
   have hlaw:g≠0→X=finR g rr∧(rr.2.2=0→rr.1≠[]):=fun h=>by
    rw [hX,hrr]
    exact refRecs_law hg.symm h
   have herr:rr.2.2=0∨rr.2.2=10:=by rw [hrr];exact refGo_err _ _ _ _ _
   have KG:∀ (h:Int) (w':World),h=0∨h=1→Below w3.heap.size w3 w'→Calls Tryz.prog 93 #[.agg #[.slice p1 d.secs.length q1,.slice p2 d.loose.length q2,.int .i64 d.fuse,.bool false],.int .i64 h] w' fun e w''=>e = .returned (.int .i64 (genV (viewP d h)))∧Below w'.heap.size w' w'':=fun h w' hh hb=>refGen_any _ d h w' (hd3.below hb) hS hh
   have KR:∀ (w':World),Below w3.heap.size w3 w'→Calls Tryz.prog 94 #[.agg #[.slice p1 d.secs.length q1,.slice p2 d.loose.length q2,.int .i64 d.fuse,.bool false],.int .i64 wh,.int .i64 g] w' fun e w''=>(∃ lv,e = .returned (.tuple #[lv,.int .i64 rr.2.1,.int .i64 rr.2.2])∧PiecesS (fun b=>w'.heap.size≤b) w''.heap.size w'' lv rr.1)∧Below w'.heap.size w' w'':=fun w' hb=>by
    rw [hrr]
    exact refRecords_any _ d wh g w' (hd3.below hb) hS hwh01
   have KG0:=fun w' hb=>KG 0 w' (.inl rfl) hb
   have KG1:=fun w' hb=>KG 1 w' (.inr rfl) hb
   have KGX:=fun w' hb=>KG wh w' hwh01 hb
   rw [← hgA] at KG0
   rw [← hgB] at KG1
   rw [← hg] at KGX
   have HKG0:=zh KG0
   have HKG1:=zh KG1
   have HKGX:=zh KGX
   have HKR:=zh KR
   have HWH:=zh hwh
   have HWH01:=zh hwh01
   have HZ:=zh hz
   have HLAW:=zh hlaw
   have HERR:=zh herr
   have HBND:=zh (show (∀ b∈X.1,b.length≤6000)∧X.1.length≤half d by rw [hX];exact hbnd)
   have HOP:=zh hop
   have HHALF:=zh hhalf
   clear KG KG0 KG1 KGX KR hwh hwh01 hz hlaw herr hbnd hop hhalf hgA hgB hg hX hrr hxx hS
   by_cases hg0:g=0
   ·have qg:(g == 0)=true:=by simp [hg0]
    have hF:=HZ.out hg0
    rw [hF]
    clear hF hg0
    unfold OpenE logV
    try unfold log0
    go_enter Tryz.func59,Tryz.ntmps59
    go_upto_region 1 with (fail)
    rw [← HW3.out]
    go_wp2_with fail
    refine kr.mono ?_
    rintro e w4 ⟨rfl,hb4⟩
    clear kr C0 C1 C2 C3
    have S0:=(hb4.block _ (zB R0)).trans R0
    have S1:=(hb4.block _ (zB R1)).trans R1
    have S2:=(hb4.block _ (zB R2)).trans R2
    have hd4:=(hd3.below hb4).tight
    have hb04:=hb3.trans (hb4.mono hb3.size)
    have hb3r:=hb4
    have L0:∀ w',Below w4.heap.size w4 w'→w'.cell? ⟨w.heap.size,0,none⟩=some (.slice p1 d.secs.length q1):=fun w' h=>cR w' _ 0 _ _ _ ((h.block _ (zB S0)).trans S0)
    have L1:∀ w',Below w4.heap.size w4 w'→w'.cell? ⟨w.heap.size,1,none⟩=some (.slice p2 d.loose.length q2):=fun w' h=>cR w' _ 1 _ _ _ ((h.block _ (zB S0)).trans S0)
    have L2:∀ w',Below w4.heap.size w4 w'→w'.cell? ⟨w.heap.size,2,none⟩=some (.int .i64 d.fuse):=fun w' h=>cR w' _ 2 _ _ _ ((h.block _ (zB S0)).trans S0)
    have L3:∀ w',Below w4.heap.size w4 w'→w'.cell? ⟨w.heap.size,3,none⟩=some (.bool false):=fun w' h=>cR w' _ 3 _ _ _ ((h.block _ (zB S0)).trans S0)
    have C0:=cR w4 _ 0 _ _ _ S0
    have C1:=cR w4 _ 1 _ _ _ S0
    have C2:=cR w4 _ 2 _ _ _ S0
    have C3:=cR w4 _ 3 _ _ _ S0
    have h00:Below w4.heap.size w4 w4.drew:=zD (Below.refl _ _) 1
    have HB4:=zh hb4
    have HSS:=zh (show _∧_∧_ from ⟨S0,S1,S2⟩)
    have HD4:=zh hd4
    have HB04:=zh hb04
    clear R0 R1 R2 S0 S1 S2 hd hd3 hd4 hb3 hb4 hb04 hb3r
    obtain⟨cg,hcg⟩:∃ c,decide (gA<gB)=c:=⟨_,rfl⟩
    have HCG:=zh (show (if cg=true then (1:Int) else 0)=wh by rw [HWH.out,← hcg];simp)
    go_upto_region 6 with (fail)
    clear C0 C1 C2 C3
    refine zI [(false,0),(false,2),(true,1),(true,3),(false,4)] (fun w'=>Below w4.heap.size w4 w') (by kernel_rfl) (by kernel_rfl) h00 ?_
    repeat (first | (refine zS rfl rfl ?_;simp only [Act.put,zq1,zq2,zq3]) | (refine zT rfl ?_ rfl (fun w' hw'=>?_) ?_;rotate_left;(go_simp;first | done | with_reducible rfl);(try simp only [Act.put,zq1,zq2,zq3])))
    refine zA rfl rfl fun K hK=>?_
    go_simp
    refine (HKG1.out _ (HB4.out.trans (h00.mono HB4.out.size))).mono ?_
    rintro e w5 ⟨rfl,hb5⟩
    have h05:=h00.trans hb5
    refine hK.out _ _ h05 ?_
    clear hK K
    refine zA rfl rfl fun K hK=>?_
    go_simp
    refine (HKG0.out _ (HB4.out.trans (h05.mono HB4.out.size))).mono ?_
    rintro e w6 ⟨rfl,hb6⟩
    have h06:=h05.trans (hb6.mono h05.size)
    refine hK.out _ _ h06 ?_
    clear hK K
    repeat (first | (refine zS rfl rfl ?_;simp only [Act.put,zq1,zq2,zq3]) | (refine zT rfl ?_ rfl (fun w' hw'=>?_) ?_;rotate_left;(go_simp;first | done | with_reducible rfl);(try simp only [Act.put,zq1,zq2,zq3])))
    refine zN ?_
    have HB46:=zh h06
    clear hb5 hb6 h05 h06 h00
    go_upto_if 28 with (fail)
    go_cut [6] from 14 to 28 (fun s6 wx=>s6 = .int .i64 wh∧wx=w6)
    case first =>
     cases cg with
     | true =>
      have HF:=zh (show (1:Int)=wh from HCG.out)
      go_wp2_with fail
      go_meet
      case rel=>exact⟨by rw [← HF.out],rfl⟩
     | false =>
      have HF:=zh (show (0:Int)=wh from HCG.out)
      go_wp2_with fail
      go_meet
      case rel=>exact⟨by rw [← HF.out],rfl⟩
    case rest =>
     obtain⟨rfl,rfl⟩:=hcut
     clear hcg
     have hb3c:=HB4.out.trans (HB46.out.mono HB4.out.size)
     have kg:=HKGX.out wc hb3c
     have C0:=L0 wc HB46.out
     have C1:=L1 wc HB46.out
     have C2:=L2 wc HB46.out
     have C3:=L3 wc HB46.out
     clear L0 L1 L2 L3
     go_wp2_with fail
     refine kg.mono ?_
     rintro e w7 ⟨rfl,hb7⟩
     have hb47:=HB46.out.trans (hb7.mono HB46.out.size)
     have hb37:=HB4.out.trans (hb47.mono HB4.out.size)
     have hb07:=HB04.out.trans (hb47.mono HB04.out.size)
     have S0:=(hb47.block _ (zB HSS.out.1)).trans HSS.out.1
     have S1:=(hb47.block _ (zB HSS.out.2.1)).trans HSS.out.2.1
     have S2:=(hb47.block _ (zB HSS.out.2.2)).trans HSS.out.2.2
     have hd7:=(HD4.out.below hb47).tight
     clear kg C0 C1 C2 C3 hb7 hb47 hb3c
     have C0:=cR w7 _ 0 _ _ _ S0
     have C1:=cR w7 _ 1 _ _ _ S0
     have C2:=cR w7 _ 2 _ _ _ S0
     have C3:=cR w7 _ 3 _ _ _ S0
     have D0:=cR w7 _ 0 _ _ _ S1
     have D1:=cR w7 _ 1 _ _ _ S1
     have D2:=cR w7 _ 2 _ _ _ S1
     have D3:=cR w7 _ 3 _ _ _ S1
     have F0:=cR w7 _ 0 _ _ _ S2
     have F1:=cR w7 _ 1 _ _ _ S2
     have F2:=cR w7 _ 2 _ _ _ S2
     have F3:=cR w7 _ 3 _ _ _ S2
     have Z2:=zF S1
     have Z3:=zF S2
     have HX:=zh (exit_dl (.int .i64 0) (.int .i64 0) (.int .i64 0) (.int .i64 0) S1 S2 hd7 n12 hb07 l1 l2)
     clear S0 S1 S2 hd7 hb07 hb37 n12 l1 l2
     go_wp2_with fail
     refine bodyPost_ret (results_cctt rfl _ _ (w.heap.size+1) (w.heap.size+1+1) _ _ _ _ _ _ _ _ rfl rfl HX.out.1 HX.out.2.1 Tryz.underlying38 rfl zQ Tryz.underlying41 rfl size_log) rfl ?_
     exact⟨⟨_,_,rfl,HX.out.2.2.1,pieces_nil _ _ _⟩,HX.out.2.2.2⟩
   ·have qg:(g == 0)=false:=by simp [hg0]
    obtain⟨hX,hne⟩:=HLAW.out hg0
    clear hg0
    by_cases he:rr.2.2=0
    ·have qe:(rr.2.2 != 0)=false:=by simp [he]
     have hX':X=(rr.1,rr.2.1,g,0):=by rw [hX];unfold finR;rw [if_pos he]
     have hne:=hne he
     obtain⟨r,hr⟩:∃ r,r=compactP d ⟨wh,g,rr.2.1,rr.1.length⟩ rr.1:=⟨_,rfl⟩
     have hF:openP d=if r.2.2≠0 then (r.1,log0,[],r.2.2) else (r.1,r.2.1,rr.1,0):=by
      rw [HOP.out,hX',hr]
      rfl
     have hlen0:(((rr.1.length:Nat):Int) == 0)=false:=by
      have:0<rr.1.length:=List.length_pos_iff.2 hne
      simp;exact hne
     have hb1:∀ b∈rr.1,b.length≤2^20:=fun b hb=>by
      have h:=HBND.out.1 b (by rw [hX'];exact hb)
      omega
     have hb2:rr.1.length≤2^20:=by
      have h:=HBND.out.2
      rw [hX'] at h
      have:=HHALF.out
      have h':rr.1.length≤half d:=h
      omega
     have HBL:=zh (show (∀ b∈rr.1,b.length≤2^20)∧rr.1.length≤2^20 from ⟨hb1,hb2⟩)
     have HRC:=zh hr
     obtain⟨lst,hlst⟩:∃ l,l=rr.1:=⟨_,rfl⟩
     obtain⟨us,hus⟩:∃ u,u=rr.2.1:=⟨_,rfl⟩
     obtain⟨N,hN⟩:∃ N,N=lst.length:=⟨_,rfl⟩
     rw [← hlst] at hF hlen0 HBL HRC HKR
     rw [← hus] at HRC HKR
     rw [← hN] at hlen0 HRC
     rw [he] at HKR
     have HN:=zh hN
     clear hX hX' hne hr hlst hus he hb1 hb2 hN
     by_cases hc:r.2.2=0
     ·have q3:(r.2.2 != 0)=false:=by simp [hc]
      have hF':openP d=(r.1,r.2.1,lst,0):=by rw [hF,if_neg (by simp [hc])]
      rw [hF']
      have HRC2:=zh hc
      clear hF hF' hc
      unfold OpenE logV
      try unfold log0
      go_enter Tryz.func59,Tryz.ntmps59
      go_upto_region 1 with (fail)
      rw [← HW3.out]
      go_wp2_with fail
      refine kr.mono ?_
      rintro e w4 ⟨rfl,hb4⟩
      clear kr C0 C1 C2 C3
      have S0:=(hb4.block _ (zB R0)).trans R0
      have S1:=(hb4.block _ (zB R1)).trans R1
      have S2:=(hb4.block _ (zB R2)).trans R2
      have hd4:=(hd3.below hb4).tight
      have hb04:=hb3.trans (hb4.mono hb3.size)
      have hb3r:=hb4
      have L0:∀ w',Below w4.heap.size w4 w'→w'.cell? ⟨w.heap.size,0,none⟩=some (.slice p1 d.secs.length q1):=fun w' h=>cR w' _ 0 _ _ _ ((h.block _ (zB S0)).trans S0)
      have L1:∀ w',Below w4.heap.size w4 w'→w'.cell? ⟨w.heap.size,1,none⟩=some (.slice p2 d.loose.length q2):=fun w' h=>cR w' _ 1 _ _ _ ((h.block _ (zB S0)).trans S0)
      have L2:∀ w',Below w4.heap.size w4 w'→w'.cell? ⟨w.heap.size,2,none⟩=some (.int .i64 d.fuse):=fun w' h=>cR w' _ 2 _ _ _ ((h.block _ (zB S0)).trans S0)
      have L3:∀ w',Below w4.heap.size w4 w'→w'.cell? ⟨w.heap.size,3,none⟩=some (.bool false):=fun w' h=>cR w' _ 3 _ _ _ ((h.block _ (zB S0)).trans S0)
      have C0:=cR w4 _ 0 _ _ _ S0
      have C1:=cR w4 _ 1 _ _ _ S0
      have C2:=cR w4 _ 2 _ _ _ S0
      have C3:=cR w4 _ 3 _ _ _ S0
      have h00:Below w4.heap.size w4 w4.drew:=zD (Below.refl _ _) 1
      have HB4:=zh hb4
      have HSS:=zh (show _∧_∧_ from ⟨S0,S1,S2⟩)
      have HD4:=zh hd4
      have HB04:=zh hb04
      clear R0 R1 R2 S0 S1 S2 hd hd3 hd4 hb3 hb4 hb04 hb3r
      obtain⟨cg,hcg⟩:∃ c,decide (gA<gB)=c:=⟨_,rfl⟩
      have HCG:=zh (show (if cg=true then (1:Int) else 0)=wh by rw [HWH.out,← hcg];simp)
      go_upto_region 6 with (fail)
      clear C0 C1 C2 C3
      refine zI [(false,0),(false,2),(true,1),(true,3),(false,4)] (fun w'=>Below w4.heap.size w4 w') (by kernel_rfl) (by kernel_rfl) h00 ?_
      repeat (first | (refine zS rfl rfl ?_;simp only [Act.put,zq1,zq2,zq3]) | (refine zT rfl ?_ rfl (fun w' hw'=>?_) ?_;rotate_left;(go_simp;first | done | with_reducible rfl);(try simp only [Act.put,zq1,zq2,zq3])))
      refine zA rfl rfl fun K hK=>?_
      go_simp
      refine (HKG1.out _ (HB4.out.trans (h00.mono HB4.out.size))).mono ?_
      rintro e w5 ⟨rfl,hb5⟩
      have h05:=h00.trans hb5
      refine hK.out _ _ h05 ?_
      clear hK K
      refine zA rfl rfl fun K hK=>?_
      go_simp
      refine (HKG0.out _ (HB4.out.trans (h05.mono HB4.out.size))).mono ?_
      rintro e w6 ⟨rfl,hb6⟩
      have h06:=h05.trans (hb6.mono h05.size)
      refine hK.out _ _ h06 ?_
      clear hK K
      repeat (first | (refine zS rfl rfl ?_;simp only [Act.put,zq1,zq2,zq3]) | (refine zT rfl ?_ rfl (fun w' hw'=>?_) ?_;rotate_left;(go_simp;first | done | with_reducible rfl);(try simp only [Act.put,zq1,zq2,zq3])))
      refine zN ?_
      have HB46:=zh h06
      clear hb5 hb6 h05 h06 h00
      go_upto_if 28 with (fail)
      go_cut [6] from 14 to 28 (fun s6 wx=>s6 = .int .i64 wh∧wx=w6)
      case first =>
       cases cg with
       | true =>
        have HF:=zh (show (1:Int)=wh from HCG.out)
        go_wp2_with fail
        go_meet
        case rel=>exact⟨by rw [← HF.out],rfl⟩
       | false =>
        have HF:=zh (show (0:Int)=wh from HCG.out)
        go_wp2_with fail
        go_meet
        case rel=>exact⟨by rw [← HF.out],rfl⟩
      case rest =>
       obtain⟨rfl,rfl⟩:=hcut
       clear hcg
       have hb3c:=HB4.out.trans (HB46.out.mono HB4.out.size)
       have kg:=HKGX.out wc hb3c
       have C0:=L0 wc HB46.out
       have C1:=L1 wc HB46.out
       have C2:=L2 wc HB46.out
       have C3:=L3 wc HB46.out
       clear L0 L1 L2 L3
       go_wp2_with fail
       refine kg.mono ?_
       rintro e w7 ⟨rfl,hb7⟩
       have hb47:=HB46.out.trans (hb7.mono HB46.out.size)
       have hb37:=HB4.out.trans (hb47.mono HB4.out.size)
       have hb07:=HB04.out.trans (hb47.mono HB04.out.size)
       have S0:=(hb47.block _ (zB HSS.out.1)).trans HSS.out.1
       have S1:=(hb47.block _ (zB HSS.out.2.1)).trans HSS.out.2.1
       have S2:=(hb47.block _ (zB HSS.out.2.2)).trans HSS.out.2.2
       have hd7:=(HD4.out.below hb47).tight
       clear kg C0 C1 C2 C3 hb7 hb47 hb3c
       have C0:=cR w7 _ 0 _ _ _ S0
       have C1:=cR w7 _ 1 _ _ _ S0
       have C2:=cR w7 _ 2 _ _ _ S0
       have C3:=cR w7 _ 3 _ _ _ S0
       have kq:=HKR.out w7 hb37
       go_wp2_with fail
       refine kq.mono ?_
       rintro e w8 ⟨⟨lv,rfl,hlv⟩,hb8⟩
       have hLV:=LV.of (M:=w7.heap.size) hlv (Nat.le_refl _)
       obtain⟨ax,cx,rfl,hpx⟩:=hLV
       have T0:=(hb8.block _ (zB S0)).trans S0
       have T1:=(hb8.block _ (zB S1)).trans S1
       have T2:=(hb8.block _ (zB S2)).trans S2
       have hd8:=(hd7.below hb8).tight
       have hb08:=hb07.trans (hb8.mono hb07.size)
       clear kq C0 C1 C2 C3 hlv S0 S1 S2 hd7 hb07
       have C0:=cR w8 _ 0 _ _ _ T0
       have C1:=cR w8 _ 1 _ _ _ T0
       have C2:=cR w8 _ 2 _ _ _ T0
       have C3:=cR w8 _ 3 _ _ _ T0
       have kc:=refCompact_any _ (.slice ax lst.length cx) d ⟨wh,g,us,N⟩ lst w8 hd8 hpx.pieces HBL.out.1 HBL.out.2
       rw [← HRC.out] at kc
       unfold DLE logV at kc
       rw [← HN.out] at kc hpx ⊢
       have HPX:=zh hpx
       have HTT:=zh (show _∧_ from ⟨T1,T2⟩)
       have HB08:=zh hb08
       have HM7:=zh hb8.size
       clear hpx T0 T1 T2 hb08 hd8 hb8
       go_wp2_with fail
       refine kc.mono ?_
       rintro e w9 ⟨⟨v',rfl,hd9⟩,hb9⟩
       obtain⟨y1,z1,y2,z2,rfl,_,_⟩:=hd9.parts
       clear kc C0 C1 C2 C3
       obtain⟨w10,hw10⟩:∃ w10,w10=(w9.alloc (.cells #[.slice y1 r.1.secs.length z1,.slice y2 r.1.loose.length z2,.int .i64 r.1.fuse,.bool r.1.down] 38)).alloc (.cells #[.int .i64 r.2.1.half,.int .i64 r.2.1.gen,.int .i64 r.2.1.used,.int .i64 r.2.1.count] 41):=⟨_,rfl⟩
       have hb10:Below w9.heap.size w9 w10:=by rw [hw10];exact Below.alloc (Below.alloc (Below.refl _ _) (Nat.le_refl _) _) (by simp) _
       have U0:w10.heap[w9.heap.size]?=some (.cells #[.slice y1 r.1.secs.length z1,.slice y2 r.1.loose.length z2,.int .i64 r.1.fuse,.bool r.1.down] 38 (0,0)):=by rw [hw10];exact heap_alloc2_old w9 _ _
       have U1:w10.heap[w9.heap.size+1]?=some (.cells #[.int .i64 r.2.1.half,.int .i64 r.2.1.gen,.int .i64 r.2.1.used,.int .i64 r.2.1.count] 41 (0,0)):=by rw [hw10];exact heap_alloc2_new w9 _ _
       have hd10:=(hd9.below hb10).tight
       have hb810:=hb9.trans (hb10.mono hb9.size)
       have hb010:=HB08.out.trans (hb810.mono HB08.out.size)
       have T1:=(hb810.block _ (zB HTT.out.1)).trans HTT.out.1
       have T2:=(hb810.block _ (zB HTT.out.2)).trans HTT.out.2
       have lt1:=zB HTT.out.1
       have lt2:=zB HTT.out.2
       have hle9:=hb9.size
       have hp10:=(HPX.out.below hb810).tight
       have l7:w.heap.size+3≤w7.heap.size:=by have:=hb37.size;omega
       obtain⟨gn,hgn⟩:∃ gn,gn=w9.heap.size:=⟨_,rfl⟩
       rw [← hgn] at U0 U1 hle9
       have HW10:=zh hw10
       have HGN:=zh hgn
       clear hw10 hgn hb10 hb810 hd9 hb9 hb37
       rw [HRC2.out]
       obtain⟨oa,ob,wa,wb,HWA,HWB,s0,sa,sb,L0,L1,L2,L3,M0,M1,M2,M3,D0,D1,D2,D3,Z2,F0,F1,F2,F3,Z3,HX⟩:=exit_all (w:=w) (wx:=w10) U0 U1 T1 T2 hd10 hb010 (by omega) (by omega) (by omega) (by omega) (by omega) (by omega) (by omega)
       have hkb:∀ k,w7.heap.size≤k→k<w10.heap.size→wb.heap[k]?=w10.heap[k]?:=fun k h1 h2=>by
        rw [HWB.out,setFar (by omega),setFar (by omega),setFar (by omega),setFar (by omega),HWA.out]
        show ((((w10.setCell ⟨w.heap.size+1,0,none⟩ _).setCell ⟨w.heap.size+1,1,none⟩ _).setCell ⟨w.heap.size+1,2,none⟩ _).setCell ⟨w.heap.size+1,3,none⟩ _).heap[k]?=_
        rw [setFar (by omega),setFar (by omega),setFar (by omega),setFar (by omega)]
       have HPB:=zh ((hp10.keep hkb).tight.weak (T:=fun b=>w.heap.size≤b) (fun b hb=>Nat.le_trans (by omega) hb))
       clear hkb T1 T2 U0 U1 hd10 hb010 n12 l1 l2 hp10 lt1 lt2 hle9
       go_upto_region 19 with (fail)
       rw [← HW10.out,← HGN.out]
       refine zI [(false,0),(false,1),(false,2),(true,3),(true,4),(false,5),(false,6)] (Two gn (gn+1) oa ob) (by kernel_rfl) (by kernel_rfl) s0 ?_
       repeat (first | (refine zS rfl rfl ?_;simp only [Act.put,zq1,zq2,zq3]) | (refine zT rfl ?_ rfl (fun w' hw'=>?_) ?_;rotate_left;(go_simp;first | done | with_reducible rfl);(try simp only [Act.put,zq1,zq2,zq3])))
       refine zA rfl rfl fun K hK=>?_
       go_simp
       rw [← HWA.out]
       refine hK.out _ _ sa ?_
       clear hK K D0 D1 D2 D3 Z2
       refine zA rfl rfl fun K hK=>?_
       go_simp
       rw [← HWB.out]
       refine hK.out _ _ sb ?_
       clear hK K F0 F1 F2 F3 Z3
       repeat (first | (refine zS rfl rfl ?_;simp only [Act.put,zq1,zq2,zq3]) | (refine zT rfl ?_ rfl (fun w' hw'=>?_) ?_;rotate_left;(go_simp;first | done | with_reducible rfl);(try simp only [Act.put,zq1,zq2,zq3])))
       refine zN ?_
       go_wp2_with fail
       refine bodyPost_ret (results_cctt rfl _ _ (w.heap.size+1) (w.heap.size+1+1) _ _ _ _ _ _ _ _ rfl rfl HX.out.1 HX.out.2.1 Tryz.underlying38 rfl zQ Tryz.underlying41 rfl size_log) rfl ?_
       exact⟨⟨_,_,rfl,HX.out.2.2.1,HPB.out⟩,HX.out.2.2.2⟩
     ·have q3:(r.2.2 != 0)=true:=by simp [hc]
      have hF':openP d=(r.1,log0,[],r.2.2):=by rw [hF,if_pos (by simp [hc])]
      rw [hF']
      clear hF hF' hc
      unfold OpenE logV
      try unfold log0
      go_enter Tryz.func59,Tryz.ntmps59
      go_upto_region 1 with (fail)
      rw [← HW3.out]
      go_wp2_with fail
      refine kr.mono ?_
      rintro e w4 ⟨rfl,hb4⟩
      clear kr C0 C1 C2 C3
      have S0:=(hb4.block _ (zB R0)).trans R0
      have S1:=(hb4.block _ (zB R1)).trans R1
      have S2:=(hb4.block _ (zB R2)).trans R2
      have hd4:=(hd3.below hb4).tight
      have hb04:=hb3.trans (hb4.mono hb3.size)
      have hb3r:=hb4
      have L0:∀ w',Below w4.heap.size w4 w'→w'.cell? ⟨w.heap.size,0,none⟩=some (.slice p1 d.secs.length q1):=fun w' h=>cR w' _ 0 _ _ _ ((h.block _ (zB S0)).trans S0)
      have L1:∀ w',Below w4.heap.size w4 w'→w'.cell? ⟨w.heap.size,1,none⟩=some (.slice p2 d.loose.length q2):=fun w' h=>cR w' _ 1 _ _ _ ((h.block _ (zB S0)).trans S0)
      have L2:∀ w',Below w4.heap.size w4 w'→w'.cell? ⟨w.heap.size,2,none⟩=some (.int .i64 d.fuse):=fun w' h=>cR w' _ 2 _ _ _ ((h.block _ (zB S0)).trans S0)
      have L3:∀ w',Below w4.heap.size w4 w'→w'.cell? ⟨w.heap.size,3,none⟩=some (.bool false):=fun w' h=>cR w' _ 3 _ _ _ ((h.block _ (zB S0)).trans S0)
      have C0:=cR w4 _ 0 _ _ _ S0
      have C1:=cR w4 _ 1 _ _ _ S0
      have C2:=cR w4 _ 2 _ _ _ S0
      have C3:=cR w4 _ 3 _ _ _ S0
      have h00:Below w4.heap.size w4 w4.drew:=zD (Below.refl _ _) 1
      have HB4:=zh hb4
      have HSS:=zh (show _∧_∧_ from ⟨S0,S1,S2⟩)
      have HD4:=zh hd4
      have HB04:=zh hb04
      clear R0 R1 R2 S0 S1 S2 hd hd3 hd4 hb3 hb4 hb04 hb3r
      obtain⟨cg,hcg⟩:∃ c,decide (gA<gB)=c:=⟨_,rfl⟩
      have HCG:=zh (show (if cg=true then (1:Int) else 0)=wh by rw [HWH.out,← hcg];simp)
      go_upto_region 6 with (fail)
      clear C0 C1 C2 C3
      refine zI [(false,0),(false,2),(true,1),(true,3),(false,4)] (fun w'=>Below w4.heap.size w4 w') (by kernel_rfl) (by kernel_rfl) h00 ?_
      repeat (first | (refine zS rfl rfl ?_;simp only [Act.put,zq1,zq2,zq3]) | (refine zT rfl ?_ rfl (fun w' hw'=>?_) ?_;rotate_left;(go_simp;first | done | with_reducible rfl);(try simp only [Act.put,zq1,zq2,zq3])))
      refine zA rfl rfl fun K hK=>?_
      go_simp
      refine (HKG1.out _ (HB4.out.trans (h00.mono HB4.out.size))).mono ?_
      rintro e w5 ⟨rfl,hb5⟩
      have h05:=h00.trans hb5
      refine hK.out _ _ h05 ?_
      clear hK K
      refine zA rfl rfl fun K hK=>?_
      go_simp
      refine (HKG0.out _ (HB4.out.trans (h05.mono HB4.out.size))).mono ?_
      rintro e w6 ⟨rfl,hb6⟩
      have h06:=h05.trans (hb6.mono h05.size)
      refine hK.out _ _ h06 ?_
      clear hK K
      repeat (first | (refine zS rfl rfl ?_;simp only [Act.put,zq1,zq2,zq3]) | (refine zT rfl ?_ rfl (fun w' hw'=>?_) ?_;rotate_left;(go_simp;first | done | with_reducible rfl);(try simp only [Act.put,zq1,zq2,zq3])))
      refine zN ?_
      have HB46:=zh h06
      clear hb5 hb6 h05 h06 h00
      go_upto_if 28 with (fail)
      go_cut [6] from 14 to 28 (fun s6 wx=>s6 = .int .i64 wh∧wx=w6)
      case first =>
       cases cg with
       | true =>
        have HF:=zh (show (1:Int)=wh from HCG.out)
        go_wp2_with fail
        go_meet
        case rel=>exact⟨by rw [← HF.out],rfl⟩
       | false =>
        have HF:=zh (show (0:Int)=wh from HCG.out)
        go_wp2_with fail
        go_meet
        case rel=>exact⟨by rw [← HF.out],rfl⟩
      case rest =>
       obtain⟨rfl,rfl⟩:=hcut
       clear hcg
       have hb3c:=HB4.out.trans (HB46.out.mono HB4.out.size)
       have kg:=HKGX.out wc hb3c
       have C0:=L0 wc HB46.out
       have C1:=L1 wc HB46.out
       have C2:=L2 wc HB46.out
       have C3:=L3 wc HB46.out
       clear L0 L1 L2 L3
       go_wp2_with fail
       refine kg.mono ?_
       rintro e w7 ⟨rfl,hb7⟩
       have hb47:=HB46.out.trans (hb7.mono HB46.out.size)
       have hb37:=HB4.out.trans (hb47.mono HB4.out.size)
       have hb07:=HB04.out.trans (hb47.mono HB04.out.size)
       have S0:=(hb47.block _ (zB HSS.out.1)).trans HSS.out.1
       have S1:=(hb47.block _ (zB HSS.out.2.1)).trans HSS.out.2.1
       have S2:=(hb47.block _ (zB HSS.out.2.2)).trans HSS.out.2.2
       have hd7:=(HD4.out.below hb47).tight
       clear kg C0 C1 C2 C3 hb7 hb47 hb3c
       have C0:=cR w7 _ 0 _ _ _ S0
       have C1:=cR w7 _ 1 _ _ _ S0
       have C2:=cR w7 _ 2 _ _ _ S0
       have C3:=cR w7 _ 3 _ _ _ S0
       have kq:=HKR.out w7 hb37
       go_wp2_with fail
       refine kq.mono ?_
       rintro e w8 ⟨⟨lv,rfl,hlv⟩,hb8⟩
       have hLV:=LV.of (M:=w7.heap.size) hlv (Nat.le_refl _)
       obtain⟨ax,cx,rfl,hpx⟩:=hLV
       have T0:=(hb8.block _ (zB S0)).trans S0
       have T1:=(hb8.block _ (zB S1)).trans S1
       have T2:=(hb8.block _ (zB S2)).trans S2
       have hd8:=(hd7.below hb8).tight
       have hb08:=hb07.trans (hb8.mono hb07.size)
       clear kq C0 C1 C2 C3 hlv S0 S1 S2 hd7 hb07
       have C0:=cR w8 _ 0 _ _ _ T0
       have C1:=cR w8 _ 1 _ _ _ T0
       have C2:=cR w8 _ 2 _ _ _ T0
       have C3:=cR w8 _ 3 _ _ _ T0
       have kc:=refCompact_any _ (.slice ax lst.length cx) d ⟨wh,g,us,N⟩ lst w8 hd8 hpx.pieces HBL.out.1 HBL.out.2
       rw [← HRC.out] at kc
       unfold DLE logV at kc
       rw [← HN.out] at kc hpx ⊢
       have HPX:=zh hpx
       have HTT:=zh (show _∧_ from ⟨T1,T2⟩)
       have HB08:=zh hb08
       have HM7:=zh hb8.size
       clear hpx T0 T1 T2 hb08 hd8 hb8
       go_wp2_with fail
       refine kc.mono ?_
       rintro e w9 ⟨⟨v',rfl,hd9⟩,hb9⟩
       obtain⟨y1,z1,y2,z2,rfl,_,_⟩:=hd9.parts
       clear kc C0 C1 C2 C3
       obtain⟨w10,hw10⟩:∃ w10,w10=(w9.alloc (.cells #[.slice y1 r.1.secs.length z1,.slice y2 r.1.loose.length z2,.int .i64 r.1.fuse,.bool r.1.down] 38)).alloc (.cells #[.int .i64 r.2.1.half,.int .i64 r.2.1.gen,.int .i64 r.2.1.used,.int .i64 r.2.1.count] 41):=⟨_,rfl⟩
       have hb10:Below w9.heap.size w9 w10:=by rw [hw10];exact Below.alloc (Below.alloc (Below.refl _ _) (Nat.le_refl _) _) (by simp) _
       have U0:w10.heap[w9.heap.size]?=some (.cells #[.slice y1 r.1.secs.length z1,.slice y2 r.1.loose.length z2,.int .i64 r.1.fuse,.bool r.1.down] 38 (0,0)):=by rw [hw10];exact heap_alloc2_old w9 _ _
       have U1:w10.heap[w9.heap.size+1]?=some (.cells #[.int .i64 r.2.1.half,.int .i64 r.2.1.gen,.int .i64 r.2.1.used,.int .i64 r.2.1.count] 41 (0,0)):=by rw [hw10];exact heap_alloc2_new w9 _ _
       have hd10:=(hd9.below hb10).tight
       have hb810:=hb9.trans (hb10.mono hb9.size)
       have hb010:=HB08.out.trans (hb810.mono HB08.out.size)
       have T1:=(hb810.block _ (zB HTT.out.1)).trans HTT.out.1
       have T2:=(hb810.block _ (zB HTT.out.2)).trans HTT.out.2
       have lt1:=zB HTT.out.1
       have lt2:=zB HTT.out.2
       have hle9:=hb9.size
       have hp10:=(HPX.out.below hb810).tight
       have l7:w.heap.size+3≤w7.heap.size:=by have:=hb37.size;omega
       obtain⟨gn,hgn⟩:∃ gn,gn=w9.heap.size:=⟨_,rfl⟩
       rw [← hgn] at U0 U1 hle9
       have HW10:=zh hw10
       have HGN:=zh hgn
       clear hw10 hgn hb10 hb810 hd9 hb9 hb37
       have D0:=cR w10 _ 0 _ _ _ T1
       have D1:=cR w10 _ 1 _ _ _ T1
       have D2:=cR w10 _ 2 _ _ _ T1
       have D3:=cR w10 _ 3 _ _ _ T1
       have F0:=cR w10 _ 0 _ _ _ T2
       have F1:=cR w10 _ 1 _ _ _ T2
       have F2:=cR w10 _ 2 _ _ _ T2
       have F3:=cR w10 _ 3 _ _ _ T2
       have C0:=cR w10 _ 0 _ _ _ U0
       have C1:=cR w10 _ 1 _ _ _ U0
       have C2:=cR w10 _ 2 _ _ _ U0
       have C3:=cR w10 _ 3 _ _ _ U0
       have Z2:=zF T1
       have Z3:=zF T2
       have HX:=zh (exit_dl (.int .i64 0) (.int .i64 0) (.int .i64 0) (.int .i64 0) T1 T2 hd10 n12 hb010 l1 l2)
       clear T1 T2 U0 U1 hd10 hb010 n12 l1 l2 hp10 lt1 lt2 hle9
       go_upto_region 18 with (fail)
       rw [← HW10.out,← HGN.out]
       go_wp2_with fail
       refine bodyPost_ret (results_cctt rfl _ _ (w.heap.size+1) (w.heap.size+1+1) _ _ _ _ _ _ _ _ rfl rfl HX.out.1 HX.out.2.1 Tryz.underlying38 rfl zQ Tryz.underlying41 rfl size_log) rfl ?_
       exact⟨⟨_,_,rfl,HX.out.2.2.1,pieces_nil _ _ _⟩,HX.out.2.2.2⟩
    ·have qe:(rr.2.2 != 0)=true:=by simp [he]
     have hX':X=([],0,g,10):=by rw [hX];unfold finR;rw [if_neg he]
     have h10:rr.2.2=10:=by rcases HERR.out with h | h;exact absurd h he;exact h
     have hF:openP d=(d,log0,[],rr.2.2):=by rw [HOP.out,hX',h10];rfl
     rw [hF]
     clear hF he hX hX' hne h10
     unfold OpenE logV
     try unfold log0
     go_enter Tryz.func59,Tryz.ntmps59
     go_upto_region 1 with (fail)
     rw [← HW3.out]
     go_wp2_with fail
     refine kr.mono ?_
     rintro e w4 ⟨rfl,hb4⟩
     clear kr C0 C1 C2 C3
     have S0:=(hb4.block _ (zB R0)).trans R0
     have S1:=(hb4.block _ (zB R1)).trans R1
     have S2:=(hb4.block _ (zB R2)).trans R2
     have hd4:=(hd3.below hb4).tight
     have hb04:=hb3.trans (hb4.mono hb3.size)
     have hb3r:=hb4
     have L0:∀ w',Below w4.heap.size w4 w'→w'.cell? ⟨w.heap.size,0,none⟩=some (.slice p1 d.secs.length q1):=fun w' h=>cR w' _ 0 _ _ _ ((h.block _ (zB S0)).trans S0)
     have L1:∀ w',Below w4.heap.size w4 w'→w'.cell? ⟨w.heap.size,1,none⟩=some (.slice p2 d.loose.length q2):=fun w' h=>cR w' _ 1 _ _ _ ((h.block _ (zB S0)).trans S0)
     have L2:∀ w',Below w4.heap.size w4 w'→w'.cell? ⟨w.heap.size,2,none⟩=some (.int .i64 d.fuse):=fun w' h=>cR w' _ 2 _ _ _ ((h.block _ (zB S0)).trans S0)
     have L3:∀ w',Below w4.heap.size w4 w'→w'.cell? ⟨w.heap.size,3,none⟩=some (.bool false):=fun w' h=>cR w' _ 3 _ _ _ ((h.block _ (zB S0)).trans S0)
     have C0:=cR w4 _ 0 _ _ _ S0
     have C1:=cR w4 _ 1 _ _ _ S0
     have C2:=cR w4 _ 2 _ _ _ S0
     have C3:=cR w4 _ 3 _ _ _ S0
     have h00:Below w4.heap.size w4 w4.drew:=zD (Below.refl _ _) 1
     have HB4:=zh hb4
     have HSS:=zh (show _∧_∧_ from ⟨S0,S1,S2⟩)
     have HD4:=zh hd4
     have HB04:=zh hb04
     clear R0 R1 R2 S0 S1 S2 hd hd3 hd4 hb3 hb4 hb04 hb3r
     obtain⟨cg,hcg⟩:∃ c,decide (gA<gB)=c:=⟨_,rfl⟩
     have HCG:=zh (show (if cg=true then (1:Int) else 0)=wh by rw [HWH.out,← hcg];simp)
     go_upto_region 6 with (fail)
     clear C0 C1 C2 C3
     refine zI [(false,0),(false,2),(true,1),(true,3),(false,4)] (fun w'=>Below w4.heap.size w4 w') (by kernel_rfl) (by kernel_rfl) h00 ?_
     repeat (first | (refine zS rfl rfl ?_;simp only [Act.put,zq1,zq2,zq3]) | (refine zT rfl ?_ rfl (fun w' hw'=>?_) ?_;rotate_left;(go_simp;first | done | with_reducible rfl);(try simp only [Act.put,zq1,zq2,zq3])))
     refine zA rfl rfl fun K hK=>?_
     go_simp
     refine (HKG1.out _ (HB4.out.trans (h00.mono HB4.out.size))).mono ?_
     rintro e w5 ⟨rfl,hb5⟩
     have h05:=h00.trans hb5
     refine hK.out _ _ h05 ?_
     clear hK K
     refine zA rfl rfl fun K hK=>?_
     go_simp
     refine (HKG0.out _ (HB4.out.trans (h05.mono HB4.out.size))).mono ?_
     rintro e w6 ⟨rfl,hb6⟩
     have h06:=h05.trans (hb6.mono h05.size)
     refine hK.out _ _ h06 ?_
     clear hK K
     repeat (first | (refine zS rfl rfl ?_;simp only [Act.put,zq1,zq2,zq3]) | (refine zT rfl ?_ rfl (fun w' hw'=>?_) ?_;rotate_left;(go_simp;first | done | with_reducible rfl);(try simp only [Act.put,zq1,zq2,zq3])))
     refine zN ?_
     have HB46:=zh h06
     clear hb5 hb6 h05 h06 h00
     go_upto_if 28 with (fail)
     go_cut [6] from 14 to 28 (fun s6 wx=>s6 = .int .i64 wh∧wx=w6)
     case first =>
      cases cg with
      | true =>
       have HF:=zh (show (1:Int)=wh from HCG.out)
       go_wp2_with fail
       go_meet
       case rel=>exact⟨by rw [← HF.out],rfl⟩
      | false =>
       have HF:=zh (show (0:Int)=wh from HCG.out)
       go_wp2_with fail
       go_meet
       case rel=>exact⟨by rw [← HF.out],rfl⟩
     case rest =>
      obtain⟨rfl,rfl⟩:=hcut
      clear hcg
      have hb3c:=HB4.out.trans (HB46.out.mono HB4.out.size)
      have kg:=HKGX.out wc hb3c
      have C0:=L0 wc HB46.out
      have C1:=L1 wc HB46.out
      have C2:=L2 wc HB46.out
      have C3:=L3 wc HB46.out
      clear L0 L1 L2 L3
      go_wp2_with fail
      refine kg.mono ?_
      rintro e w7 ⟨rfl,hb7⟩
      have hb47:=HB46.out.trans (hb7.mono HB46.out.size)
      have hb37:=HB4.out.trans (hb47.mono HB4.out.size)
      have hb07:=HB04.out.trans (hb47.mono HB04.out.size)
      have S0:=(hb47.block _ (zB HSS.out.1)).trans HSS.out.1
      have S1:=(hb47.block _ (zB HSS.out.2.1)).trans HSS.out.2.1
      have S2:=(hb47.block _ (zB HSS.out.2.2)).trans HSS.out.2.2
      have hd7:=(HD4.out.below hb47).tight
      clear kg C0 C1 C2 C3 hb7 hb47 hb3c
      have C0:=cR w7 _ 0 _ _ _ S0
      have C1:=cR w7 _ 1 _ _ _ S0
      have C2:=cR w7 _ 2 _ _ _ S0
      have C3:=cR w7 _ 3 _ _ _ S0
      have kq:=HKR.out w7 hb37
      go_wp2_with fail
      refine kq.mono ?_
      rintro e w8 ⟨⟨lv,rfl,hlv⟩,hb8⟩
      have hLV:=LV.of (M:=w7.heap.size) hlv (Nat.le_refl _)
      obtain⟨ax,cx,rfl,hpx⟩:=hLV
      have T0:=(hb8.block _ (zB S0)).trans S0
      have T1:=(hb8.block _ (zB S1)).trans S1
      have T2:=(hb8.block _ (zB S2)).trans S2
      have hd8:=(hd7.below hb8).tight
      have hb08:=hb07.trans (hb8.mono hb07.size)
      clear kq C0 C1 C2 C3 hlv S0 S1 S2 hd7 hb07
      have C0:=cR w8 _ 0 _ _ _ T0
      have C1:=cR w8 _ 1 _ _ _ T0
      have C2:=cR w8 _ 2 _ _ _ T0
      have C3:=cR w8 _ 3 _ _ _ T0
      have D0:=cR w8 _ 0 _ _ _ T1
      have D1:=cR w8 _ 1 _ _ _ T1
      have D2:=cR w8 _ 2 _ _ _ T1
      have D3:=cR w8 _ 3 _ _ _ T1
      have F0:=cR w8 _ 0 _ _ _ T2
      have F1:=cR w8 _ 1 _ _ _ T2
      have F2:=cR w8 _ 2 _ _ _ T2
      have F3:=cR w8 _ 3 _ _ _ T2
      have Z2:=zF T1
      have Z3:=zF T2
      have HX:=zh (exit_dl (.int .i64 0) (.int .i64 0) (.int .i64 0) (.int .i64 0) T1 T2 hd8 n12 hb08 l1 l2)
      clear T0 T1 T2 hd8 hb08 hb8 n12 l1 l2 hpx
      go_wp2_with fail
      refine bodyPost_ret (results_cctt rfl _ _ (w.heap.size+1) (w.heap.size+1+1) _ _ _ _ _ _ _ _ rfl rfl HX.out.1 HX.out.2.1 Tryz.underlying38 rfl zQ Tryz.underlying41 rfl size_log) rfl ?_
      exact⟨⟨_,_,rfl,HX.out.2.2.1,pieces_nil _ _ _⟩,HX.out.2.2.2⟩
end
section
open Go.RowKit KvP
theorem beq_ba (a b:ByteArray):(a == b)=decide (a=b):=by
 have e:(a == b)=(a.data == b.data):=by
  cases a
  cases b
  rfl
 rw [e]
 by_cases h:a=b
 ·subst h
  simp
 ·have h2:a.data≠b.data:=fun h'=>h (by
   cases a
   cases b
   cases h'
   rfl)
  simp [h,h2]
theorem run_equalIn_str (d:Nat) (a b:ByteArray) (w:World):(Op.equalIn (d+1) 9 (.string a) (.string b)).run Tryz.prog w = .ok (decide (a=b)) w:=by
 simp [Op.equalIn,run_underlying Tryz.underlying9]
 exact beq_ba a b
theorem fieldsPair : ∃ f1 f2 : Field, (Tryz.prog.fieldsOf 76).toList = [f1, f2] ∧ f1.name ≠ "_" ∧ f2.name ≠ "_" ∧ f1.type = 9 ∧ f1.offset = 0 ∧ f2.type = 9 ∧ f2.offset = 1 := by
 simp only [Program.fieldsOf,Tryz.underlying76]
 exact⟨_,_,rfl,by decide,by decide,rfl,rfl,rfl,rfl⟩
set_option maxRecDepth 100000 in
theorem equalPair (a b c d:ByteArray) (w:World):(Op.equalIn 10000 76 (.agg #[.string a,.string b]) (.agg #[.string c,.string d])).run Tryz.prog w = .ok (decide (a=c)&&decide (b=d)) w:=by
 rw [run_equalIn_struct w 9999 _ _ _ (by rw [Tryz.underlying76];rfl) (by kernel_rfl)]
 obtain⟨f1,f2,hf,n1,n2,t1,o1,t2,o2⟩:=fieldsPair
 rw [hf]
 have p:∀ (V:Array Value) (k:Nat) (x:ByteArray),V[k]?=some (.string x)→(part 9 V k).run Tryz.prog w = .ok (.string x) w:=fun V k x h=>by simp [part,isAgg,run_underlying Tryz.underlying9,h]
 exact eqFields_two 9999 _ _ _ f1 f2 w _ _ _ _ _ _ n1 n2 (by rw [t1,o1];exact p _ _ a rfl) (by rw [t1,o1];exact p _ _ c rfl) (by rw [t2,o2];exact p _ _ b rfl) (by rw [t2,o2];exact p _ _ d rfl) (by rw [t1];exact run_equalIn_str _ _ _ _) (by rw [t2];exact run_equalIn_str _ _ _ _)
theorem neqPair (a b c d:ByteArray) (w:World):(binOp .neq 76 (.agg #[.string a,.string b]) (.agg #[.string c,.string d])).run Tryz.prog w = .ok (.bool (!(decide (a=c)&&decide (b=d)))) w:=by
 have k:=equalPair a b c d w
 simp only [binOp]
 simp [Op.equal,Op.maxDepth,k]
end
section
open Go.Maps KvP
def AgreeM (D:DataW Unit) (l:List PairP):Prop :=
 Rising l∧(∀ k,Maps.has D (.string k)=(getP l k).isSome)∧∀ k z,D.atKey (.string k) z=match getP l k with | some v=>.lit (.string v) | none=>z
theorem AgreeM.nil:AgreeM (.map []) []:=⟨List.Pairwise.nil,fun _=>rfl,fun _ _=>rfl⟩
theorem isKey_str (k:List UInt8):WideAt.IsKeyLit (.string k):=by
 first | exact trivial | exact⟨_,rfl⟩ | simp [WideAt.IsKeyLit]
theorem AgreeM.put {D:DataW Unit} {l:List PairP} (h:AgreeM D l) (hD:IsMap D) (k v:List UInt8):AgreeM (D.put (.string k) (.lit (.string v))) (putK l k v):=by
 obtain⟨h1,h2,h3⟩:=h
 refine⟨h1.put k v,fun x=>?_,fun x z=>?_⟩
 ·rw [getP_put]
  by_cases hx:k=x
  ·subst hx
   rw [has_put_same hD (isKey_str k),if_pos rfl]
   rfl
  ·rw [has_put_other (fun e=>hx (by cases e;rfl)),h2,if_neg hx]
 ·rw [getP_put]
  by_cases hx:k=x
  ·subst hx
   rw [atKey_put_same hD (isKey_str k),if_pos rfl]
  ·rw [atKey_put_other (fun e=>hx (by cases e;rfl)),h3,if_neg hx]
theorem AgreeM.del {D:DataW Unit} {l:List PairP} (h:AgreeM D l) (k:List UInt8):AgreeM (D.del (.string k)) (delK l k):=by
 obtain⟨h1,h2,h3⟩:=h
 refine⟨h1.del k,fun x=>?_,fun x z=>?_⟩
 ·rw [getP_del]
  by_cases hx:k=x
  ·subst hx
   rw [has_del_same,if_pos rfl]
   rfl
  ·rw [has_del_other (fun e=>hx (by cases e;rfl)),h2,if_neg hx]
 ·rw [getP_del]
  by_cases hx:k=x
  ·subst hx
   rw [atKey_del_same,if_pos rfl]
  ·rw [atKey_del_other (fun e=>hx (by cases e;rfl)),h3,if_neg hx]
theorem putK_end {l:List PairP} {k v:List UInt8} (h:∀ q∈l,q.key<k):putK l k v=l++[⟨k,v⟩]:=by
 induction l with
 | nil=>rfl
 | cons p l ih =>
  rw [putK,if_pos (h p (List.mem_cons_self ..)),ih (fun q hq=>h q (List.mem_cons_of_mem _ hq))]
  rfl
theorem putK_take {l:List PairP} (hr:Rising l) (k:Nat) (hk:k<l.length):putK (l.take k) l[k].key l[k].val=l.take (k+1):=by
 rw [List.take_succ_eq_append_getElem hk,putK_end]
 intro q hq
 obtain⟨i,hi,rfl⟩:=List.mem_iff_getElem.1 hq
 rw [List.length_take] at hi
 rw [List.getElem_take]
 exact List.pairwise_iff_getElem.1 hr i k (by omega) hk (by omega)
theorem getP_mem {l:List PairP} (hr:Rising l) {p:PairP} (hp:p∈l):getP l p.key=some p.val:=by
 induction l with
 | nil=>cases hp
 | cons q l ih =>
  rw [getP_cons]
  rcases List.mem_cons.1 hp with rfl | hp
  ·rw [if_pos rfl]
  ·have h1:=hr.head p hp
   rw [if_neg (fun e=>List.lt_irrefl p.key (by rw [e] at h1;exact h1)),ih hr.tail hp]
theorem getP_isSome {l:List PairP} (hr:Rising l) (k:List UInt8):k∈l.map PairP.key↔(getP l k).isSome=true:=by
 constructor
 ·intro h
  obtain⟨p,hp,rfl⟩:=List.mem_map.1 h
  rw [getP_mem hr hp]
  rfl
 ·intro h
  refine Classical.byContradiction fun hn=>?_
  rw [getP_none_of (fun q hq e=>hn (by rw [← e];exact List.mem_map_of_mem hq))] at h
  cases h
theorem AgreeM.keys {P:Program} {K:TypeId} {R:Value→Option (DataW Unit×List MemPlace)} {w:World} {b n:Nat} {D:DataW Unit} {l:List PairP} (h:AgreeM D l) (hown:w.ownsMap P K R b n D) (hK:Keyed P K) (hk:P.underlying K=some .string)
  {ss:List (List UInt8)} (hp:ss.Perm (strKeys D)):ss.mergeSort (fun x y=>decide (x≤y))=l.map PairP.key:=by
 have hc:Collected D (fun _=>false) (l.map PairP.key):=by
  refine⟨?_,fun x=>?_⟩
  ·refine List.pairwise_map.2 (h.1.imp (fun {a b} hab e=>?_))
   rw [e] at hab
   exact List.lt_irrefl _ hab
  ·rw [getP_isSome h.1,h.2.1]
   simp
 have h2:=hc.perm hown hK hk (fun _=>rfl)
 rw [mergeSort_of_perm (hp.trans h2.symm)]
 refine List.mergeSort_of_pairwise (List.pairwise_map.2 (h.1.imp (fun {a b} hab=>?_)))
 simp only [decide_eq_true_eq]
 exact List.le_of_lt hab
theorem AgreeM.size {P:Program} {K:TypeId} {R:Value→Option (DataW Unit×List MemPlace)} {w:World} {b n:Nat} {D:DataW Unit} {l:List PairP} (h:AgreeM D l) (hown:w.ownsMap P K R b n D) (hK:Keyed P K) (hk:P.underlying K=some .string) :
  Maps.size D=l.length:=by
 have hc:Collected D (fun _=>false) (l.map PairP.key):=by
  refine⟨?_,fun x=>?_⟩
  ·refine List.pairwise_map.2 (h.1.imp (fun {a b} hab e=>?_))
   rw [e] at hab
   exact List.lt_irrefl _ hab
  ·rw [getP_isSome h.1,h.2.1]
   simp
 have h2:=(hc.perm hown hK hk (fun _=>rfl)).length_eq
 obtain⟨es,rfl⟩:=hown.isMap
 rw [List.length_map] at h2
 rw [size_eq,h2]
 simp [strKeys]
end
section
open Go.Shelf
def keys73_ren:Go.Shelf.Ren:=⟨fun | 7=>73 | 10=>119 | n=>n,fun | 23=>102 | 26=>9 | 3=>9 | 28=>106 | 0=>0 | 27=>105 | 33=>151 | 4=>4 | n=>n,fun | n=>n⟩
theorem keys73:Go.Proofs.SlLaysZ.n7 Tryz.prog keys73_ren:={
 mixed:=by kernel_rfl
 f7:=⟨Tryz.f73.name,by decide,Tryz.func73.trans (congrArg some (by kernel_rfl))⟩
 f10:=⟨Tryz.f119.name,by decide,Tryz.func119.trans (congrArg some (by kernel_rfl))⟩
 t0:=Tryz.underlying0
 a0:=Tryz.isAgg0
 z0:=Tryz.sizeOf0
 v0:=Tryz.zeroValue0
 t4:=Tryz.underlying4
 a4:=Tryz.isAgg4
 z4:=Tryz.sizeOf4
 v4:=Tryz.zeroValue4
 t23:=Tryz.underlying102
 a23:=Tryz.isAgg102
 z23:=Tryz.sizeOf102
 v23:=Tryz.zeroValue102
 t26:=Tryz.underlying9
 a26:=Tryz.isAgg9
 z26:=Tryz.sizeOf9
 v26:=Tryz.zeroValue9
 t27:=Tryz.underlying105
 a27:=Tryz.isAgg105
 z27:=Tryz.sizeOf105
 v27:=Tryz.zeroValue105
 t28:=Tryz.underlying106
 a28:=Tryz.isAgg106
 z28:=Tryz.sizeOf106
 v28:=Tryz.zeroValue106
 t33:=Tryz.underlying151
 a33:=Tryz.isAgg151
 z33:=Tryz.sizeOf151
 v33:=Tryz.zeroValue151 }
def sorted72_ren:Go.Shelf.Ren:=⟨fun | 6=>72 | 8=>117 | 9=>118 | 11=>146 | 13=>148 | 12=>147 | 23=>169 | 24=>170 | 14=>160 | 15=>161 | 16=>162 | 17=>163 | 18=>164 | 19=>165 | 20=>166 | 21=>167 | 22=>168 | 25=>176 | 26=>177 | 27=>178 | 28=>179 | 29=>180 | 30=>181 | 31=>182 | n=>n,fun | 26=>9 | 28=>106 | 24=>103 | 0=>0 | 3=>3 | 37=>149 | 48=>143 | 50=>57 | 4=>4 | 40=>194 | 39=>193 | 45=>108 | 5=>5 | 9=>9 | 51=>205 | 55=>209 | 57=>212 | 58=>213 | 33=>151 | n=>n,fun | n=>n⟩
theorem sorted72:Go.Proofs.SlLaysZ.n6 Tryz.prog sorted72_ren:={
 mixed:=by kernel_rfl
 f6:=⟨Tryz.f72.name,by decide,Tryz.func72.trans (congrArg some (by kernel_rfl))⟩
 f8:=⟨Tryz.f117.name,by decide,Tryz.func117.trans (congrArg some (by kernel_rfl))⟩
 f11:=⟨Tryz.f146.name,by decide,Tryz.func146.trans (congrArg some (by kernel_rfl))⟩
 t0:=Tryz.underlying0
 a0:=Tryz.isAgg0
 z0:=Tryz.sizeOf0
 v0:=Tryz.zeroValue0
 t24:=Tryz.underlying103
 a24:=Tryz.isAgg103
 z24:=Tryz.sizeOf103
 v24:=Tryz.zeroValue103
 t26:=Tryz.underlying9
 a26:=Tryz.isAgg9
 z26:=Tryz.sizeOf9
 v26:=Tryz.zeroValue9
 t28:=Tryz.underlying106
 a28:=Tryz.isAgg106
 z28:=Tryz.sizeOf106
 v28:=Tryz.zeroValue106
 i26:=by kernel_rfl }
def sort118_ren:Go.Shelf.Ren:=⟨fun | 6=>118 | 8=>148 | 9=>147 | 19=>169 | 20=>170 | 21=>160 | 22=>161 | 23=>162 | 24=>163 | 25=>164 | 26=>165 | 27=>166 | 28=>167 | 29=>168 | 36=>176 | 31=>177 | 32=>178 | 37=>179 | 38=>180 | 39=>181 | 41=>182 | n=>n,fun | 27=>103 | 29=>9 | 3=>3 | 32=>149 | 26=>103 | 0=>0 | 44=>143 | 46=>57 | 4=>4 | 36=>194 | 35=>193 | 41=>108 | 5=>5 | 9=>9 | 53=>205 | 57=>209 | 63=>212 | 64=>213 | n=>n,fun | n=>n⟩
theorem sort118:Go.Proofs.SlLaysM.n6 Tryz.prog sort118_ren:={
 mixed:=by kernel_rfl
 f6:=⟨Tryz.f118.name,by decide,Tryz.func118.trans (congrArg some (by kernel_rfl))⟩
 f8:=Tryz.func148.trans (congrArg some (by kernel_rfl))
 f9:=⟨Tryz.f147.name,by decide,Tryz.func147.trans (congrArg some (by kernel_rfl))⟩
 f19:=Tryz.func169.trans (congrArg some (by kernel_rfl))
 f20:=Tryz.func170.trans (congrArg some (by kernel_rfl))
 f21:=⟨Tryz.f160.name,by decide,Tryz.func160.trans (congrArg some (by kernel_rfl))⟩
 f22:=⟨Tryz.f161.name,by decide,Tryz.func161.trans (congrArg some (by kernel_rfl))⟩
 f23:=⟨Tryz.f162.name,by decide,Tryz.func162.trans (congrArg some (by kernel_rfl))⟩
 f24:=⟨Tryz.f163.name,by decide,Tryz.func163.trans (congrArg some (by kernel_rfl))⟩
 f25:=⟨Tryz.f164.name,by decide,Tryz.func164.trans (congrArg some (by kernel_rfl))⟩
 f26:=⟨Tryz.f165.name,by decide,Tryz.func165.trans (congrArg some (by kernel_rfl))⟩
 f27:=⟨Tryz.f166.name,by decide,Tryz.func166.trans (congrArg some (by kernel_rfl))⟩
 f28:=⟨Tryz.f167.name,by decide,Tryz.func167.trans (congrArg some (by kernel_rfl))⟩
 f29:=⟨Tryz.f168.name,by decide,Tryz.func168.trans (congrArg some (by kernel_rfl))⟩
 f31:=Tryz.func177.trans (congrArg some (by kernel_rfl))
 f32:=Tryz.func178.trans (congrArg some (by kernel_rfl))
 f36:=⟨Tryz.f176.name,by decide,Tryz.func176.trans (congrArg some (by kernel_rfl))⟩
 f37:=⟨Tryz.f179.name,by decide,Tryz.func179.trans (congrArg some (by kernel_rfl))⟩
 f38:=⟨Tryz.f180.name,by decide,Tryz.func180.trans (congrArg some (by kernel_rfl))⟩
 f39:=⟨Tryz.f181.name,by decide,Tryz.func181.trans (congrArg some (by kernel_rfl))⟩
 f41:=⟨Tryz.f182.name,by decide,Tryz.func182.trans (congrArg some (by kernel_rfl))⟩
 t0:=Tryz.underlying0
 a0:=Tryz.isAgg0
 z0:=Tryz.sizeOf0
 v0:=Tryz.zeroValue0
 t3:=Tryz.underlying3
 a3:=Tryz.isAgg3
 z3:=Tryz.sizeOf3
 v3:=Tryz.zeroValue3
 t4:=Tryz.underlying4
 a4:=Tryz.isAgg4
 z4:=Tryz.sizeOf4
 v4:=Tryz.zeroValue4
 t5:=Tryz.underlying5
 a5:=Tryz.isAgg5
 z5:=Tryz.sizeOf5
 v5:=Tryz.zeroValue5
 t9:=Tryz.underlying9
 a9:=Tryz.isAgg9
 z9:=Tryz.sizeOf9
 v9:=Tryz.zeroValue9
 t26:=Tryz.underlying103
 a26:=Tryz.isAgg103
 z26:=Tryz.sizeOf103
 v26:=Tryz.zeroValue103
 t27:=Tryz.underlying103
 a27:=Tryz.isAgg103
 z27:=Tryz.sizeOf103
 v27:=Tryz.zeroValue103
 t29:=Tryz.underlying9
 a29:=Tryz.isAgg9
 z29:=Tryz.sizeOf9
 v29:=Tryz.zeroValue9
 t32:=Tryz.underlying149
 a32:=Tryz.isAgg149
 z32:=Tryz.sizeOf149
 v32:=Tryz.zeroValue149
 t35:=Tryz.underlying193
 a35:=Tryz.isAgg193
 z35:=Tryz.sizeOf193
 v35:=Tryz.zeroValue193
 t36:=Tryz.underlying194
 a36:=Tryz.isAgg194
 z36:=Tryz.sizeOf194
 v36:=Tryz.zeroValue194
 t41:=Tryz.underlying108
 a41:=Tryz.isAgg108
 z41:=Tryz.sizeOf108
 v41:=Tryz.zeroValue108
 t44:=Tryz.underlying143
 a44:=Tryz.isAgg143
 z44:=Tryz.sizeOf143
 v44:=Tryz.zeroValue143
 t46:=Tryz.underlying57
 a46:=Tryz.isAgg57
 z46:=Tryz.sizeOf57
 v46:=Tryz.zeroValue57
 t53:=Tryz.underlying205
 a53:=Tryz.isAgg205
 z53:=Tryz.sizeOf205
 v53:=Tryz.zeroValue205
 t57:=Tryz.underlying209
 a57:=Tryz.isAgg209
 z57:=Tryz.sizeOf209
 v57:=Tryz.zeroValue209
 t63:=Tryz.underlying212
 a63:=Tryz.isAgg212
 z63:=Tryz.sizeOf212
 v63:=Tryz.zeroValue212
 t64:=Tryz.underlying213
 a64:=Tryz.isAgg213
 z64:=Tryz.sizeOf213
 v64:=Tryz.zeroValue213 }
open Go.RowKit Go.Maps Go.Sort
theorem sorts72 (m:Nat):AnyZ.SortsIn Tryz.prog sorted72_ren Fence.wide m :=
 ⟨fun blk off cap ss W hH hblk hsz=>callsIn_wide.2 (AnyM.slices_Sort_string sort118 blk off cap ss W hH hblk hsz),
  fun p cap W=>callsIn_wide.2 (AnyM.slices_Sort_string_none sort118 p cap W)⟩
theorem maps_Keys_73 (mb:Option Nat) (W:World):CallsIn Fence.wide 5 Tryz.prog 73 #[.map mb] W fun e w'=>e = .returned (.func (.func 119) #[] #[.pointer (some ⟨W.heap.size,0,none⟩)])∧w'=W.alloc (.cells #[.map mb] 102) :=
 AnyZ.keys_in keys73 Fence.wide 5 trivial rfl mb W
set_option maxHeartbeats 1000000 in
theorem slices_Sorted_keys_72_73 {H:Type} (b nn:Nat) (D0:DataW H) (R:Value→Option (DataW H×List MemPlace)) (w:World) (hown:w.ownsMap Tryz.prog 9 R b nn D0) (hmax:Maps.size D0≤maxLen) (hbytes:Maps.size D0*16≤140737488355328) :
  CallsIn Fence.wide 5 Tryz.prog 72 #[.func (.func 119) #[] #[.pointer (some ⟨w.heap.size,0,none⟩)]] (w.alloc (.cells #[.map (some b)] 102)) fun e w'=>∃ (v:Value) (ss:List (List UInt8)),e = .returned v∧ss.Perm (strKeys D0) ∧
   w'.ownsRow (w.alloc (.cells #[.map (some b)] 102)).heap.size 9 1 v ss.length ((ss.mergeSort (fun x y=>decide (x≤y))).map encStr)∧(v = .slice none 0 0↔ss=[])∧Below (w.alloc (.cells #[.map (some b)] 102)).heap.size (w.alloc (.cells #[.map (some b)] 102)) w':=by
 have hbl:=hown.lt
 have hseq:SeqGives Fence.wide 2 Tryz.prog 119 #[.pointer (some ⟨w.heap.size,0,none⟩)] encStr (fun ss=>ss.Perm (strKeys D0)) (Maps.size D0) (w.alloc (.cells #[.map (some b)] 102)) :=
  AnyZ.keys_gives (ρ:=keys73_ren) { keys73 with } Fence.wide _ trivial rfl (by omega) w.heap.size b nn D0 _ (by simp) (by simp) (by
   obtain⟨es,clock,hb,Ft,hs,hD⟩:=hown
   exact⟨es,clock,(Below.heap_alloc _ _ b hbl).trans hb,Ft,hs,hD⟩)
 exact AnyZ.sorted_in sorted72 Fence.wide 5 trivial trivial trivial trivial rfl (by omega) (sorts72 _) (enters_of Tryz.func118 (by kernel_rfl) rfl) 119 #[.pointer (some ⟨w.heap.size,0,none⟩)] trivial (enters_of Tryz.func119 (by kernel_rfl) rfl) _ _ hmax hbytes _ hseq
end
section
open Go.RowKit KvP
set_option maxRecDepth 100000 in
set_option maxHeartbeats 4000000 in
theorem paired_any {B:Nat} (v:Value) (l:List PairP) (w:World) (hv:PairsV B w v l):Calls Tryz.prog 58 #[v] w fun e w'=>e = .returned (.bool (pairsB l))∧Below w.heap.size w w':=by
 have hv:=hv.tight
 obtain⟨_,a,c,rfl,h1,h2,_⟩:=id hv
 unfold maxLen at h2
 obtain⟨N,hN⟩:∃ N,N=l.length:=⟨_,rfl⟩
 rw [← hN] at hv h1 ⊢
 have HN:=zh hN
 have HV:=zh hv
 clear hN hv
 go_enter Tryz.func58,Tryz.ntmps58
 go_wp2_with fail
 go_loopw [3,4,7] (fun _ _ i wr=>∃ k:Nat,k≤N∧i = .int .i64 k∧Below w.heap.size w wr∧Hid (∀ i (_:i<k) (h':i<l.length),goodAt l i l[i]=true)) (fun _ _ i _=>N-(intOf i).toNat)
 case atStart=>exact⟨0,Nat.zero_le _,rfl,Below.refl _ _,zh (fun i h=>absurd h (Nat.not_lt_zero _))⟩
 case round =>
  obtain⟨k,hk,rfl,hb,HG⟩:=hrel
  by_cases hkN:k<N
  ·have hkl:k<l.length:=HN.out▸hkN
   have k1:(0:Int)≤(k:Int):=by omega
   have k2:(k:Int)<(N:Int):=by omega
   have k0:decide ((k:Int)<(N:Int))=true:=by simp;omega
   obtain⟨b,off,rfl,hbb,hc⟩:=load_pair HV.out hkl
   obtain⟨S0,S1⟩:=hc wr hb
   obtain⟨sk,hsk⟩:∃ s,s=ByteArray.mk l[k].key.toArray:=⟨_,rfl⟩
   obtain⟨sv,hsv⟩:∃ s,s=ByteArray.mk l[k].val.toArray:=⟨_,rfl⟩
   change wr.cell? _=some (.string _) at S0
   change wr.cell? _=some (.string _) at S1
   rw [← hsk] at S0
   rw [← hsv] at S1
   obtain⟨w1,hw1⟩:∃ x,x=wr.alloc (.cells #[.string sk,.string sv] 76):=⟨_,rfl⟩
   obtain⟨g,hg⟩:∃ g,g=wr.heap.size:=⟨_,rfl⟩
   have HW1:=zh hw1
   have HGG:=zh hg
   have HSK:=zh hsk
   have HSV:=zh hsv
   clear hsk hsv hw1 hg hc
   go_upto_region 4 with (fail)
   rw [← HW1.out,← HGG.out]
   have hb1:Below w.heap.size w w1:=by rw [HW1.out];exact Below.alloc hb hb.size _
   have hbox:w1.heap[g]?=some (.cells #[.string sk,.string sv] 76 (0,0)):=by rw [HW1.out,HGG.out];exact heap_alloc_new wr _
   have s0:Below w1.heap.size w1 w1.drew:=zD (Below.refl _ _) 1
   have L0:∀ w',Below w1.heap.size w1 w'→w'.cell? ⟨g,0,none⟩=some (.string sk):=fun w' h=>cR w' _ 0 _ _ _ ((h.block _ (zB hbox)).trans hbox)
   have L1:∀ w',Below w1.heap.size w1 w'→w'.cell? ⟨g,1,none⟩=some (.string sv):=fun w' h=>cR w' _ 1 _ _ _ ((h.block _ (zB hbox)).trans hbox)
   have HB1:=zh hb1
   have km:∀ w',Calls Tryz.prog 80 #[.string sk,.string sv] w' fun e w''=>e = .returned (.bool (mayP l[k].key l[k].val))∧w'=w'':=fun w'=>by
    rw [HSK.out,HSV.out]
    exact may_any _ _ w'
   obtain⟨cm,hcm⟩:∃ x,x=mayP l[k].key l[k].val:=⟨_,rfl⟩
   rw [← hcm] at km
   have HCM:=zh hcm
   have KM:=zh km
   clear hcm km hb1 hbox S0 S1
   by_cases h400:400≤k
   ·have c0:decide ((400:Int)≤(k:Int))=true:=by simp;omega
    have hfin:pairsB l=false:=by
     rw [Bool.eq_false_iff]
     intro h
     have:=pairsB_iff.1 h k hkl
     unfold goodAt at this
     rw [decide_eq_false (show ¬ k<400 by omega)] at this
     simp at this
    have HFIN:=zh hfin
    clear hfin
    refine zI [(false,0),(false,1),(false,2),(false,3),(false,4),(false,5),(false,6),(true,7),(false,8),(false,9),(false,10),(false,11),(false,12),(false,13),(false,14),(false,15),(false,16),(false,17),(false,18),(false,19),(false,20),(false,21),(false,22),(false,23),(false,24)] (fun w'=>Below w1.heap.size w1 w') (by kernel_rfl) (by kernel_rfl) s0 ?_
    repeat (first | (refine zS rfl rfl ?_;simp only [Act.put,zq1,zq2,zq3]) | (refine zT rfl ?_ rfl (fun w' hw'=>?_) ?_;rotate_left;(go_simp;first | done | with_reducible rfl);(try simp only [Act.put,zq1,zq2,zq3])))
    refine heldI_pass rfl rfl s0 ?_
    simp only [Act.put,zq1,zq2,zq3]
    repeat (first | (refine zS rfl rfl ?_;simp only [Act.put,zq1,zq2,zq3]) | (refine zT rfl ?_ rfl (fun w' hw'=>?_) ?_;rotate_left;(go_simp;first | done | with_reducible rfl);(try simp only [Act.put,zq1,zq2,zq3])))
    refine zN ?_
    go_wp2_with fail
    go_ret
    exact⟨by rw [HFIN.out];rfl,HB1.out.trans (s0.mono HB1.out.size)⟩
   have c0:decide ((400:Int)≤(k:Int))=false:=by simp;omega
   cases cm with
   | false =>
    have hfin:pairsB l=false:=by
     rw [Bool.eq_false_iff]
     intro h
     have:=pairsB_iff.1 h k hkl
     unfold goodAt at this
     rw [← HCM.out] at this
     simp at this
    have HFIN:=zh hfin
    clear hfin
    refine zI [(false,0),(false,1),(false,2),(false,3),(false,4),(false,5),(false,6),(true,7),(false,8),(false,9),(false,10),(false,11),(false,12),(false,13),(false,14),(false,15),(false,16),(false,17),(false,18),(false,19),(false,20),(false,21),(false,22),(false,23),(false,24)] (fun w'=>Below w1.heap.size w1 w') (by kernel_rfl) (by kernel_rfl) s0 ?_
    repeat (first | (refine zS rfl rfl ?_;simp only [Act.put,zq1,zq2,zq3]) | (refine zT rfl ?_ rfl (fun w' hw'=>?_) ?_;rotate_left;(go_simp;first | done | with_reducible rfl);(try simp only [Act.put,zq1,zq2,zq3])))
    refine zA rfl rfl fun K hK=>?_
    go_simp
    refine (KM.out _).mono ?_
    rintro e w5 ⟨rfl,rfl⟩
    refine hK.out _ _ s0 ?_
    clear hK K
    repeat (first | (refine zS rfl rfl ?_;simp only [Act.put,zq1,zq2,zq3]) | (refine zT rfl ?_ rfl (fun w' hw'=>?_) ?_;rotate_left;(go_simp;first | done | with_reducible rfl);(try simp only [Act.put,zq1,zq2,zq3])))
    refine zN ?_
    go_wp2_with fail
    go_ret
    exact⟨by rw [HFIN.out];rfl,HB1.out.trans (s0.mono HB1.out.size)⟩
   | true =>
    cases k with
    | zero =>
     have hok:goodAt l 0 l[0]=true:=by
      unfold goodAt
      rw [← HCM.out]
      simp
     have HOK:=zh hok
     clear hok
     refine zI [(false,0),(false,1),(false,2),(false,3),(false,4),(false,5),(false,6),(true,7),(false,8),(false,9),(false,10),(false,11),(false,12),(false,13),(false,14),(false,15),(false,16),(false,17),(false,18),(false,19),(false,20),(false,21),(false,22),(false,23),(false,24)] (fun w'=>Below w1.heap.size w1 w') (by kernel_rfl) (by kernel_rfl) s0 ?_
     repeat (first | (refine zS rfl rfl ?_;simp only [Act.put,zq1,zq2,zq3]) | (refine zT rfl ?_ rfl (fun w' hw'=>?_) ?_;rotate_left;(go_simp;first | done | with_reducible rfl);(try simp only [Act.put,zq1,zq2,zq3])))
     refine zA rfl rfl fun K hK=>?_
     go_simp
     refine (KM.out _).mono ?_
     rintro e w5 ⟨rfl,rfl⟩
     refine hK.out _ _ s0 ?_
     clear hK K
     repeat (first | (refine zS rfl rfl ?_;simp only [Act.put,zq1,zq2,zq3]) | (refine zT rfl ?_ rfl (fun w' hw'=>?_) ?_;rotate_left;(go_simp;first | done | with_reducible rfl);(try simp only [Act.put,zq1,zq2,zq3])))
     refine zN ?_
     go_wp2_with fail
     go_roundw
     case rel =>
      refine⟨0+1,by omega,by go_num,HB1.out.trans (s0.mono HB1.out.size),zh (fun i hi h'=>?_)⟩
      by_cases hik:i<0
      ·exact HG.out i hik h'
      ·obtain rfl:i=0:=by omega
       exact HOK.out
     case measure=>simp [intOf];omega
    | succ j =>
     obtain⟨b',off',he',_,hc'⟩:=load_pair HV.out (show j<l.length by omega)
     cases he'
     obtain⟨sp,hsp⟩:∃ s,s=ByteArray.mk l[j].key.toArray:=⟨_,rfl⟩
     have L2:∀ w',Below w1.heap.size w1 w'→w'.cell? ⟨b,off+j*2,none⟩=some (.string sp):=fun w' h=>by
      rw [hsp]
      exact (hc' w' (HB1.out.trans (h.mono HB1.out.size))).1
     obtain⟨cl,hcl⟩:∃ x,x=decide (l[j].key<l[j+1].key):=⟨_,rfl⟩
     have kb:Op.bytesLess sp.toList sk.toList=cl:=by rw [hsp,HSK.out,str_list,str_list,bytesLess_eq,hcl]
     have hok:goodAt l (j+1) l[j+1]=cl:=by
      unfold goodAt
      rw [← HCM.out,decide_eq_true (show j+1<400 by omega),Nat.add_sub_cancel,List.getElem?_eq_getElem (show j<l.length by omega)]
      simp [hcl]
     have HOK:=zh hok
     clear hok hcl hsp hc'
     have j1:(0:Int)≤(j:Int):=by omega
     have hwj:IntKind.i64.wrap (j:Int)=(j:Int):=by
      simp only [IntKind.wrap,IntKind.bits,IntKind.signed]
      simp
      omega
     have c1:decide ((400:Int)≤(j:Int)+1)=false:=by simp;omega
     have c2:decide ((0:Int)<(j:Int)+1)=true:=decide_eq_true (by omega)
     have j2:(j:Int)<(N:Int):=by omega
     cases cl with
     | false =>
      have hfin:pairsB l=false:=by
       rw [Bool.eq_false_iff]
       intro h
       have:=pairsB_iff.1 h (j+1) hkl
       rw [HOK.out] at this
       cases this
      have HFIN:=zh hfin
      clear hfin
      refine zI [(false,0),(false,1),(false,2),(false,3),(false,4),(false,5),(false,6),(true,7),(false,8),(false,9),(false,10),(false,11),(false,12),(false,13),(false,14),(false,15),(false,16),(false,17),(false,18),(false,19),(false,20),(false,21),(false,22),(false,23),(false,24)] (fun w'=>Below w1.heap.size w1 w') (by kernel_rfl) (by kernel_rfl) s0 ?_
      repeat (first | (refine zS rfl rfl ?_;simp only [Act.put,zq1,zq2,zq3]) | (refine zT rfl ?_ rfl (fun w' hw'=>?_) ?_;rotate_left;(go_simp;first | done | with_reducible rfl);(try simp only [Act.put,zq1,zq2,zq3])))
      refine zA rfl rfl fun K hK=>?_
      go_simp
      refine (KM.out _).mono ?_
      rintro e w5 ⟨rfl,rfl⟩
      refine hK.out _ _ s0 ?_
      clear hK K
      repeat (first | (refine zS rfl rfl ?_;simp only [Act.put,zq1,zq2,zq3]) | (refine zT rfl ?_ rfl (fun w' hw'=>?_) ?_;rotate_left;(go_simp;first | done | with_reducible rfl);(try simp only [Act.put,zq1,zq2,zq3])))
      refine zN ?_
      go_wp2_with fail
      go_ret
      exact⟨by rw [HFIN.out];rfl,HB1.out.trans (s0.mono HB1.out.size)⟩
     | true =>
      refine zI [(false,0),(false,1),(false,2),(false,3),(false,4),(false,5),(false,6),(true,7),(false,8),(false,9),(false,10),(false,11),(false,12),(false,13),(false,14),(false,15),(false,16),(false,17),(false,18),(false,19),(false,20),(false,21),(false,22),(false,23),(false,24)] (fun w'=>Below w1.heap.size w1 w') (by kernel_rfl) (by kernel_rfl) s0 ?_
      repeat (first | (refine zS rfl rfl ?_;simp only [Act.put,zq1,zq2,zq3]) | (refine zT rfl ?_ rfl (fun w' hw'=>?_) ?_;rotate_left;(go_simp;first | done | with_reducible rfl);(try simp only [Act.put,zq1,zq2,zq3])))
      refine zA rfl rfl fun K hK=>?_
      go_simp
      refine (KM.out _).mono ?_
      rintro e w5 ⟨rfl,rfl⟩
      refine hK.out _ _ s0 ?_
      clear hK K
      repeat (first | (refine zS rfl rfl ?_;simp only [Act.put,zq1,zq2,zq3]) | (refine zT rfl ?_ rfl (fun w' hw'=>?_) ?_;rotate_left;(go_simp;first | done | with_reducible rfl);(try simp only [Act.put,zq1,zq2,zq3])))
      refine zN ?_
      go_wp2_with fail
      go_roundw
      case rel =>
       refine⟨(j+1)+1,by omega,by go_num,HB1.out.trans (s0.mono HB1.out.size),zh (fun i hi h'=>?_)⟩
       by_cases hik:i<(j+1)
       ·exact HG.out i hik h'
       ·obtain rfl:i=(j+1):=by omega
        exact HOK.out
      case measure=>simp [intOf];omega
  ·have k0:decide ((k:Int)<(N:Int))=false:=by simp;omega
   have hfin:pairsB l=true:=pairsB_iff.2 (fun i hi=>HG.out i (by have:=HN.out;omega) hi)
   have HFIN:=zh hfin
   clear hfin
   go_wp2_with fail
   go_ret
   exact⟨by rw [HFIN.out];rfl,hb⟩
end
section
open Go.RowKit KvP
set_option maxRecDepth 100000 in
set_option maxHeartbeats 4000000 in
theorem changed1_any (c:ChangeP) (w:World):Calls Tryz.prog 79 #[.agg #[str c.key,str c.val,.bool c.gone]] w fun e w'=>e = .returned (.bool (!okC c))∧Below w.heap.size w w':=by
 obtain⟨key,val,gone⟩:=c
 unfold str
 dsimp only
 obtain⟨sk,hsk⟩:∃ s,s=ByteArray.mk key.toArray:=⟨_,rfl⟩
 obtain⟨sv,hsv⟩:∃ s,s=ByteArray.mk val.toArray:=⟨_,rfl⟩
 rw [← hsk,← hsv]
 have HSK:=zh hsk
 have HSV:=zh hsv
 have km:∀ w',Calls Tryz.prog 80 #[.string sk,.string sv] w' fun e w''=>e = .returned (.bool (mayP key val))∧w'=w'':=fun w'=>by
  rw [HSK.out,HSV.out]
  exact may_any _ _ w'
 obtain⟨cm,hcm⟩:∃ x,x=mayP key val:=⟨_,rfl⟩
 obtain⟨ce,hce⟩:∃ x,x=sv.toList.isEmpty:=⟨_,rfl⟩
 have hok:okC ⟨key,val,gone⟩=(cm&&!(gone&&!ce)):=by
  unfold okC
  rw [hcm,hce,HSV.out,str_list]
  cases val <;> simp
 rw [hok]
 rw [← hcm] at km
 have KM:=zh km
 have q0:sv.toList.isEmpty=ce:=hce.symm
 clear hsk hsv hcm hce km hok
 go_enter Tryz.func79,Tryz.ntmps79
 go_wp2_with fail
 refine (KM.out _).mono ?_
 rintro e w5 ⟨rfl,rfl⟩
 have hb:Below w.heap.size w (w.alloc (.cells #[.string sk,.string sv,.bool gone] 33)):=Below.alloc (Below.refl _ _) (Nat.le_refl _) _
 have HB:=zh hb
 clear hb
 cases cm with
 | false =>
  go_wp2_with fail
  go_ret
  exact⟨rfl,HB.out⟩
 | true =>
  cases gone with
  | false =>
   go_wp2_with fail
   go_ret
   exact⟨rfl,HB.out⟩
  | true =>
   cases ce with
   | false =>
    go_wp2_with fail
    go_ret
    exact⟨rfl,HB.out⟩
   | true =>
    go_wp2_with fail
    go_ret
    exact⟨rfl,HB.out⟩
end
end Go.Proofs.YtaijompnohkmaaaGreatDoor
