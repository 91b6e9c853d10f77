/- Layer 6 (kv): Do (the code's). -/
import Derived.Test.YtaijompnohkmaaaGreatDoorOM
import Derived.Shelf.Small.Strs
import Derived.Shelf.Strings.Prefix
set_option linter.unusedSimpArgs false
set_option linter.unusedVariables false
namespace Go.Proofs.YtaijompnohkmaaaGreatDoor
section
open Go.RowKit KvP Go.Maps Go.Sort
set_option maxRecDepth 100000 in
set_option maxHeartbeats 4000000 in
theorem do_any {B B':Nat} (u v:Value) (l:List PairP) (c:List ChangeP) (w:World) (hu:PairsV B w u l) (hv:ChangesV B' w v c) (hr:Rising l) (hl:l.length≤2^20) (hcl:c.length≤2^20)
  (hsl:∀ p∈l,p.key.length≤2^20∧p.val.length≤2^20) (hsc:∀ x∈c,x.key.length≤2^20∧x.val.length≤2^20) :
  Calls Tryz.prog 35 #[u,v] w fun e w'=>∃ x,e = .returned x∧PairsO w.heap.size w' x (doP l c)∧Below w.heap.size w w':=by
 have hu:=hu.tight
 have hv:=hv.tight
 obtain⟨_,a,ca,rfl,h1,h2,_⟩:=id hu
 obtain⟨_,b',cb,rfl,h3,h4,_⟩:=id hv
 unfold maxLen at h2 h4
 obtain⟨N,hN⟩:∃ N,N=l.length:=⟨_,rfl⟩
 obtain⟨M,hM⟩:∃ M,M=c.length:=⟨_,rfl⟩
 obtain⟨m,hm⟩:∃ m,m=w.heap.size:=⟨_,rfl⟩
 rw [← hN,← hm] at hu
 rw [← hM,← hm] at hv
 rw [← hN] at h1 hl ⊢
 rw [← hM] at h3 hcl ⊢
 rw [← hm]
 have kmk:=run_makeMapN N w
 obtain⟨w1,hw1⟩:∃ x,x=w.alloc (.map #[] 0):=⟨_,rfl⟩
 have hown1:w1.ownsMap Tryz.prog 9 (plainElem (H:=Unit) Tryz.prog 9) m 0 (.map []):=by rw [hw1,hm];exact World.ownsMap_made _ _ _ _
 have hb1:Below m w w1:=by rw [hw1];exact Below.alloc (Below.refl _ _) (by rw [hm];exact Nat.le_refl _) _
 rw [← hw1,← hm] at kmk
 have HN:=zh hN
 have HM:=zh hM
 have HU:=zh hu
 have HV:=zh hv
 have HSL:=zh hsl
 have HSC:=zh hsc
 have HR:=zh hr
 have HO1:=zh hown1
 have HLEN:=zh (len_doP l c)
 have HMS:=zh hm
 clear hN hM hm hu hv hsl hsc hr hown1 hw1
 go_enter Tryz.func35,Tryz.ntmps35
 go_wp2_with fail
 clear kmk
 go_loopw [18] (fun i wr=>∃ (k:Nat) (D:DataW Unit),k≤N∧i = .int .i64 k∧wr.ownsMap Tryz.prog 9 (plainElem Tryz.prog 9) m k D∧Below m w wr∧Hid (AgreeM D (l.take k))) (fun i _=>N-(intOf i).toNat)
 case atStart=>exact⟨0,.map [],Nat.zero_le _,rfl,HO1.out,hb1,zh AgreeM.nil⟩
 case round =>
  obtain⟨k,D,hk,rfl,hown,hb,HA⟩:=hrel
  clear HO1 hb1
  by_cases hkN:k<N
  ·have hkl:k<l.length:=HN.out▸hkN
   have k1:(0:Int)≤(k:Int):=by omega
   have k2:(k:Int)<(N:Int):=by omega
   have k0:decide ((k:Int)<(N:Int))=true:=by simp;omega
   obtain⟨b,off,rfl,hbb,hc⟩:=load_pair HU.out hkl
   obtain⟨S0,S1⟩:=hc wr hb
   have hz:=HSL.out _ (List.getElem_mem hkl)
   have hpt:=putK_take HR.out k hkl
   obtain⟨⟨key,val⟩,hx⟩:∃ x,x=l[k]:=⟨_,rfl⟩
   rw [← hx] at S0 S1 hz hpt
   dsimp only at S0 S1 hz hpt
   obtain⟨sk,hsk⟩:∃ s,s=ByteArray.mk key.toArray:=⟨_,rfl⟩
   obtain⟨sv,hsv⟩:∃ s,s=ByteArray.mk val.toArray:=⟨_,rfl⟩
   change wr.cell? _=some (.string _) at S0
   change wr.cell? _=some (.string _) at S1
   rw [← hsk] at S0
   rw [← hsv] at S1
   have hkey:keyOf Tryz.prog 9 (.string sk)=some (.string key):=by
    have h:=WideMaps.keyOf_string_mk (P:=Tryz.prog) Tryz.underlying9 (s:=sk) (by rw [hsk,str_size];unfold maxLen;omega)
    rw [h,hsk]
   have hval:plainElem (H:=Unit) Tryz.prog 9 (.string sv)=some (.lit (.string val),[]):=by
    have h:=plainElem_string (H:=Unit) (P:=Tryz.prog) Tryz.underlying9 (s:=sv) (by rw [hsv,str_size];unfold maxLen;omega)
    rw [h,hsv]
   obtain⟨wA,hwA⟩:∃ x,x=wr.alloc (.cells #[.string sk,.string sv] 76):=⟨_,rfl⟩
   obtain⟨g,hg⟩:∃ g,g=wr.heap.size:=⟨_,rfl⟩
   have hownA:wA.ownsMap Tryz.prog 9 (plainElem Tryz.prog 9) m k D:=by rw [hwA];exact hown.alloc _
   have hmlt:=hown.lt
   have hbA:Below m w wA:=by rw [hwA];exact Below.alloc hb (by omega) _
   have hbox:wA.heap[g]?=some (.cells #[.string sk,.string sv] 76 (0,0)):=by rw [hwA,hg];exact heap_alloc_new wr _
   have hsA:m≤wA.heap.size:=by have:=hownA.lt;omega
   have HWA:=zh hwA
   have HGG:=zh hg
   have HA2:=zh (hpt▸HA.out.put hown.isMap key val)
   clear hsk hsv hwA hg hz hpt hx hc hown hb hmlt
   go_upto_region 5 with (fail)
   rw [← HWA.out,← HGG.out]
   clear S0 S1
   have C0:=cR wA _ 0 _ _ _ hbox
   have C1:=cR wA _ 1 _ _ _ hbox
   go_wp2_with (at_mapUpdate;refine wpList_mapUpdate_own _ rfl _ _ _ 102 rfl 9 9 map_law Tryz.underlying102 (plainElem (H:=Unit) Tryz.prog 9) m k D rfl hownA (by unfold maxLen;omega) _ _ (.string key) rfl rfl hkey (.lit (.string val)) [] hval ?_;intro w5 hown5 hgrow5;refine Halt.in ?_)
   refine Halt.out ?_
   have HB5:=zh (hbA.trans (below_of_only hgrow5 (Nat.le_refl _) hsA))
   have HO5:=zh hown5
   clear C0 C1 hbox hownA hbA hsA hgrow5 hown5 hkey hval HA
   go_wp2_with fail
   go_roundw
   case rel=>exact⟨k+1,_,by omega,by go_num,HO5.out,HB5.out,HA2⟩
   case measure=>simp [intOf];omega
  ·have k0:decide ((k:Int)<(N:Int))=false:=by simp;omega
   obtain rfl:k=N:=by omega
   have HA2:Hid (AgreeM D (doP l (c.take 0))):=zh (by
    have:=HA.out
    rw [List.take_of_length_le (by have:=HN.out;omega)] at this
    exact this)
   have HO2:=zh hown
   have HB2:=zh hb
   clear hown hb HA
   go_wp2_with fail
   go_loopw [30] (fun i wr=>∃ (j:Nat) (D:DataW Unit),j≤M∧i = .int .i64 j∧wr.ownsMap Tryz.prog 9 (plainElem Tryz.prog 9) m (k+j) D∧Below m w wr∧Hid (AgreeM D (doP l (c.take j)))) (fun i _=>M-(intOf i).toNat)
   case atStart=>exact⟨0,D,Nat.zero_le _,rfl,HO2.out,HB2.out,HA2⟩
   case round =>
    obtain⟨j,D,hj,rfl,hown,hb,HA⟩:=hrel
    clear HO2 HB2 HA2
    by_cases hjM:j<M
    ·have hjl:j<c.length:=HM.out▸hjM
     have j1:(0:Int)≤(j:Int):=by omega
     have j2:(j:Int)<(M:Int):=by omega
     have j0:decide ((j:Int)<(M:Int))=true:=by simp;omega
     obtain⟨b,off,rfl,hbb,hc⟩:=load_change HV.out hjl
     obtain⟨S0,S1,S2⟩:=hc wr hb
     have hz:=HSC.out _ (List.getElem_mem hjl)
     have hpt:=doP_take l c j hjl
     obtain⟨⟨key,val,gn⟩,hx⟩:∃ x,x=c[j]:=⟨_,rfl⟩
     rw [← hx] at S0 S1 S2 hz hpt
     dsimp only at S0 S1 S2 hz hpt
     obtain⟨sk,hsk⟩:∃ s,s=ByteArray.mk key.toArray:=⟨_,rfl⟩
     obtain⟨sv,hsv⟩:∃ s,s=ByteArray.mk val.toArray:=⟨_,rfl⟩
     change wr.cell? _=some (.string _) at S0
     change wr.cell? _=some (.string _) at S1
     rw [← hsk] at S0
     rw [← hsv] at S1
     have hkey:keyOf Tryz.prog 9 (.string sk)=some (.string key):=by
      have h:=WideMaps.keyOf_string_mk (P:=Tryz.prog) Tryz.underlying9 (s:=sk) (by rw [hsk,str_size];unfold maxLen;omega)
      rw [h,hsk]
     have hval:plainElem (H:=Unit) Tryz.prog 9 (.string sv)=some (.lit (.string val),[]):=by
      have h:=plainElem_string (H:=Unit) (P:=Tryz.prog) Tryz.underlying9 (s:=sv) (by rw [hsv,str_size];unfold maxLen;omega)
      rw [h,hsv]
     obtain⟨wA,hwA⟩:∃ x,x=wr.alloc (.cells #[.string sk,.string sv,.bool gn] 33):=⟨_,rfl⟩
     obtain⟨g,hg⟩:∃ g,g=wr.heap.size:=⟨_,rfl⟩
     have hownA:wA.ownsMap Tryz.prog 9 (plainElem Tryz.prog 9) m (k+j) D:=by rw [hwA];exact hown.alloc _
     have hmlt:=hown.lt
     have hbA:Below m w wA:=by rw [hwA];exact Below.alloc hb (by omega) _
     have hbox:wA.heap[g]?=some (.cells #[.string sk,.string sv,.bool gn] 33 (0,0)):=by rw [hwA,hg];exact heap_alloc_new wr _
     have hsA:m≤wA.heap.size:=by have:=hownA.lt;omega
     have HWA:=zh hwA
     have HGG:=zh hg
     have HPT:=zh hpt
     have hIM:=hown.isMap
     clear hsk hsv hwA hg hz hpt hx hc hown hb hmlt
     go_upto_region 10 with (fail)
     rw [← HWA.out,← HGG.out]
     clear S0 S1 S2
     have C0:=cR wA _ 0 _ _ _ hbox
     have C1:=cR wA _ 1 _ _ _ hbox
     have C2:=cR wA _ 2 _ _ _ hbox
     cases gn with
     | true =>
      have HA2:Hid (AgreeM (D.del (.string key)) (doP l (c.take (j+1)))):=zh (by rw [HPT.out];exact HA.out.del key)
      go_wp2_with (at_delete;refine wpList_delete_own _ rfl _ _ 102 9 rfl 9 map_law Tryz.underlying102 (plainElem (H:=Unit) Tryz.prog 9) m (k+j) D rfl hownA _ (.string key) rfl hkey ?_;intro w5 hown5 hturn5;refine Halt.in ?_)
      refine Halt.out ?_
      have HB5:=zh (hbA.trans (below_of_only hturn5.grown (Nat.le_refl _) hsA))
      have HO5:=zh (hown5.mono (Nat.le_succ (k+j)))
      clear C0 C1 C2 hbox hownA hbA hsA hturn5 hown5 hkey hval HA hIM
      go_wp2_with fail
      go_roundw
      case rel=>exact⟨j+1,_,by omega,by go_num,HO5.out,HB5.out,HA2⟩
      case measure=>simp [intOf];omega
     | false =>
      have HA2:Hid (AgreeM (D.put (.string key) (.lit (.string val))) (doP l (c.take (j+1)))):=zh (by rw [HPT.out];exact HA.out.put hIM key val)
      go_wp2_with (at_mapUpdate;refine wpList_mapUpdate_own _ rfl _ _ _ 102 rfl 9 9 map_law Tryz.underlying102 (plainElem (H:=Unit) Tryz.prog 9) m (k+j) D rfl hownA (by unfold maxLen;omega) _ _ (.string key) rfl rfl hkey (.lit (.string val)) [] hval ?_;intro w5 hown5 hgrow5;refine Halt.in ?_)
      refine Halt.out ?_
      have HB5:=zh (hbA.trans (below_of_only hgrow5 (Nat.le_refl _) hsA))
      have HO5:=zh hown5
      clear C0 C1 C2 hbox hownA hbA hsA hgrow5 hown5 hkey hval HA hIM
      go_wp2_with fail
      go_roundw
      case rel=>exact⟨j+1,_,by omega,by go_num,HO5.out,HB5.out,HA2⟩
      case measure=>simp [intOf];omega
    ·have j0:decide ((j:Int)<(M:Int))=false:=by simp;omega
     obtain rfl:j=M:=by omega
     have hA:AgreeM D (doP l c):=by
      have:=HA.out
      rwa [List.take_of_length_le (by have:=HM.out;omega)] at this
     obtain⟨L,hL⟩:∃ L,L=doP l c:=⟨_,rfl⟩
     rw [← hL] at hA
     obtain⟨R,hRn⟩:∃ R,R=L.length:=⟨_,rfl⟩
     have hR:R≤2^21:=by rw [hRn,hL];have:=HLEN.out;have:=HN.out;have:=HM.out;omega
     have hsz:=hA.size hown map_law Tryz.underlying9
     rw [← hRn] at hsz
     have hmlt:=hown.lt
     obtain⟨i0,z0,hi,hz0,hz1,hz2,hz3⟩:=zero_parts infoz_pair
     have kms:=run_make (P:=Tryz.prog) wr 42 76 i0 z0 Tryz.underlying42 hi hz0 .i64 .i64 0 (R:Int) (Int.le_refl _) (by omega) (by rw [hz2];omega) (by omega)
     obtain⟨cur,hcur⟩:∃ x,x=madeCells z0.cells ((R:Int).toNat*i0.size):=⟨_,rfl⟩
     have hcs:cur.size=R*2:=by rw [hcur,size_madeCells,hz1,Int.toNat_natCast]
     rw [← hcur,Int.toNat_zero,Int.toNat_natCast] at kms
     obtain⟨w6,hw6⟩:∃ x,x=wr.alloc (.cells cur 76):=⟨_,rfl⟩
     obtain⟨g6,hg6⟩:∃ x,x=wr.heap.size:=⟨_,rfl⟩
     have hout:Own (m+1) w6 76 (.slice (some ⟨g6,0,none⟩) 0 R) 2 0 []:=by rw [hw6,hg6];exact made_own (by omega) hcs (by unfold maxLen;omega)
     have hb6:Below wr.heap.size wr w6:=by rw [hw6];exact Below.alloc (Below.refl _ _) (Nat.le_refl _) _
     rw [← hw6,← hg6] at kms
     have hown6:=ownsMap_below hown hb6 hmlt
     have HB6:=zh (hb.trans (hb6.mono (by omega)))
     have HSZ:=zh hsz
     have HLD:=zh hL
     have HRN:=zh hRn
     have HAL:=zh hA
     have HO6:=zh hown6
     have HOUT:=zh hout
     have hms:m+1≤w6.heap.size:=hown6.lt
     clear hcur hcs hw6 hg6 hi hz0 hz1 hz2 hz3 hb6 hown6 hout hA hL hRn hmlt hb HA
     go_wp2_with (at_len;refine wpList_len_own _ rfl _ 102 rfl 9 9 Tryz.underlying102 (plainElem (H:=Unit) Tryz.prog 9) m (k+j) D rfl hown ?_;rw [HSZ.out];refine Halt.in ?_)
     refine Halt.out ?_
     clear hown hsz
     have kk:=callsIn_wide.1 (maps_Keys_73 (some m) w6)
     go_wp2_with fail
     refine kk.mono ?_
     rintro e w7 ⟨rfl,rfl⟩
     clear kk kms
     have kk:=callsIn_wide.1 (slices_Sorted_keys_72_73 m (k+j) D (plainElem (H:=Unit) Tryz.prog 9) w6 HO6.out (by rw [HSZ.out];unfold maxLen;omega) (by rw [HSZ.out];omega))
     go_wp2_with fail
     refine kk.mono ?_
     rintro e w8 ⟨kv,ss,rfl,hperm,hrow,_,hb8⟩
     clear kk
     have hb68:Below w6.heap.size w6 w8:=(Below.alloc (Below.refl _ _) (Nat.le_refl _) _).trans (hb8.mono (Below.alloc (Below.refl w6.heap.size w6) (Nat.le_refl _) _).size)
     have hkeys:=HAL.out.keys HO6.out map_law Tryz.underlying9 hperm
     have hss:ss.length=R:=by
      have:=congrArg List.length hkeys
      rw [List.length_mergeSort,List.length_map] at this
      rw [this,HRN.out]
     rw [hkeys,hss] at hrow
     have hko:=Own.lower (keys_own hrow) (Nat.zero_le _)
     obtain⟨_,ka,kc,rfl,hkc,hkm,_⟩:=id hko
     have HKO:=zh hko
     have HO8:=zh (ownsMap_below HO6.out hb68 hms)
     have HP8:=zh (Own.below HOUT.out hb68 (Nat.le_refl _))
     have HB8:=zh (HB6.out.trans (hb68.mono (by omega)))
     have hms8:=Nat.le_trans hms hb68.size
     clear hkeys hss hrow hko hperm hb8 hb68 HO6 HOUT HB6 hms
     go_wp2_with fail
     go_loopw [10,52] (fun ov i wx=>∃ q:Nat,q≤R∧i = .int .i64 q∧PairsO (m+1) wx ov (L.take q)∧Own 0 wx 9 (.slice ka R kc) 1 R ((L.map PairP.key).map encStr)∧wx.ownsMap Tryz.prog 9 (plainElem (H:=Unit) Tryz.prog 9) m (k+j) D∧Below m w wx) (fun _ i _=>R-(intOf i).toNat)
     case atStart=>exact⟨0,Nat.zero_le _,rfl,HP8.out,HKO.out,HO8.out,HB8.out⟩
     case round =>
      obtain⟨q,hq,rfl,hP,hK,hown,hb⟩:=hrel
      clear HP8 HKO HO8 HB8 hms8
      by_cases hqR:q<R
      ·have hql:q<L.length:=HRN.out▸hqR
       have q1:(0:Int)≤(q:Int):=by omega
       have q2:(q:Int)<(R:Int):=by omega
       have q0:decide ((q:Int)<(R:Int))=true:=by simp;omega
       obtain⟨_,_,_,hkv,_,_,hcells⟩:=id (Own.row hK)
       cases hkv
       obtain⟨kb,ko,rfl,_,hcell⟩:=hcells (by omega)
       have hg:=getP_mem HAL.out.1 (List.getElem_mem hql)
       have htk:=List.take_succ_eq_append_getElem hql
       have S0:=hcell q (encStr L[q].key) (by rw [List.map_map,List.getElem?_map,List.getElem?_eq_getElem hql];rfl)
       obtain⟨⟨key,val⟩,hx⟩:∃ x,x=L[q]:=⟨_,rfl⟩
       rw [← hx] at hg htk S0
       dsimp only at hg S0
       obtain⟨sk,hsk⟩:∃ s,s=ByteArray.mk key.toArray:=⟨_,rfl⟩
       obtain⟨sv,hsv⟩:∃ s,s=ByteArray.mk val.toArray:=⟨_,rfl⟩
       change wr.cell? _=some (.string _) at S0
       rw [← hsk] at S0
       have hsz9:=HAL.out
       have hkey:keyOf Tryz.prog 9 (.string sk)=some (.string key):=by
        have hl2:=strKeys_le hown Tryz.underlying9 key (by
         obtain⟨es,hes⟩:=hown.isMap
         have hh:=HAL.out.2.1 key
         rw [hg] at hh
         rw [hes] at hh ⊢
         exact mem_strKeys hh)
        have h:=WideMaps.keyOf_string_mk (P:=Tryz.prog) Tryz.underlying9 (s:=sk) (by rw [hsk,str_size];exact hl2)
        rw [h,hsk]
       have hat:=HAL.out.2.2 key (.lit (.string []))
       rw [hg] at hat
       dsimp only at hat
       have hz0':(zeroValue 9).run Tryz.prog wr = .ok (.string (ByteArray.mk #[])) wr:=zero_str wr
       have hzd:plainElem (H:=Unit) Tryz.prog 9 (.string (ByteArray.mk #[]))=some (.lit (.string []),[]):=plainElem_string (H:=Unit) (P:=Tryz.prog) Tryz.underlying9 (s:=ByteArray.mk #[]) (by decide)
       obtain⟨lv,ps,hrun,hlv⟩:=hown.lookup map_law Tryz.underlying102 hz0' hzd hkey
       rw [hat] at hlv
       obtain⟨s,rfl,hs2,_⟩:=plainElem_string_inv Tryz.underlying9 hlv
       have hsv2:s=sv:=by
        simp only [Prod.mk.injEq,DataW.lit.injEq,Lit.string.injEq] at hs2
        rw [hsv,hs2.1]
       subst hsv2
       have hbs:=run_bsP sk s wr
       obtain⟨w9,hw9⟩:∃ x,x=wr.alloc (.cells #[.string sk,.string s] 76):=⟨_,rfl⟩
       obtain⟨gs,hgs⟩:∃ x,x=wr.heap.size:=⟨_,rfl⟩
       rw [← hw9,← hgs] at hbs
       have hsrc:Src Tryz.prog w9 (.slice (some ⟨gs,0,none⟩) 1 1) 2 1 (pairCells ⟨key,val⟩):=by
        rw [hw9,hgs]
        refine Row.src (Row.fresh (by simp [pairCells]) (Nat.le_refl _) (by decide) (fun k u hk=>?_))
        simp only [pairCells,str] at hk
        rw [hsk,hsv];simpa using hk
       have hb9:Below wr.heap.size wr w9:=by rw [hw9];exact Below.alloc (Below.refl _ _) (Nat.le_refl _) _
       have hlq:(L.take q).length=q:=by rw [List.length_take];omega
       have hP9:Own (m+1) w9 76 u10 2 q ((L.take q).map pairCells).flatten:=by
        have:=Own.below hP hb9 (Nat.le_refl _)
        rwa [hlq] at this
       have hK9:=Own.below hK hb9 (Nat.le_refl _)
       have hm9:=hown.lt
       have hown9:=ownsMap_below hown hb9 hm9
       have hbm9:=hb.trans (hb9.mono (by omega))
       have hms9:m+1≤w9.heap.size:=hown9.lt
       have hone:=ones_pair ⟨key,val⟩
       obtain⟨i0,z0,hi,hz0,hz1,hz2,hz3⟩:=zero_parts infoz_pair
       have R1:=zh (show q+1≤maxLen by unfold maxLen;omega)
       have R2:=zh (show (q+1)*32≤140737488355328 by omega)
       have HTK:=zh htk
       have HLQ:=zh hlq
       have HK9:=zh hK9
       have HOW:=zh hown9
       have HBM:=zh hbm9
       clear hsk hsv hw9 hgs hat hz0' hzd hlv hs2 hkey hg htk hx hlq hK9 hown9 hbm9 hb9 hP hK hown hb hm9 hcells hcell hsz9
       go_wp2_with (with_reducible refine wp_buildSlice_r 42 1 [(0,.tmp 61)] hbs rfl ?_;refine Halt.in ?_)
       refine Halt.out ?_
       refine wp_append2 rfl (.tmp 56) (.tmp 62) 42 42 76 rfl i0 z0 2 32 Tryz.underlying42 (.inl ⟨_,Tryz.underlying42⟩) hi hz0 hz1 hz2 hz3 rfl rfl hP9 hsrc hone R1.out R2.out hms9 ?_
       intro v10 w10 hown10 hb10 hty10
       have hP10:PairsO (m+1) w10 v10 (L.take (q+1)):=by
        rw [HTK.out]
        refine PairsO.snoc ?_
        rw [HLQ.out]
        exact hown10
       have HP10:=zh hP10
       have HK10:=zh (Own.typed HK9.out (e2:=76) hty10 (by decide))
       have HO10:=zh (ownsMap_below HOW.out hb10 (Nat.lt_succ_self _))
       have HB10:=zh (HBM.out.trans (hb10.mono (Nat.le_succ m)))
       clear hbs hsrc hP9 hone hown10 hb10 hty10 hP10 hi hz0 hz1 hz2 hz3 hrun S0 HK9 HOW HBM
       go_wp2_with fail
       go_roundw
       case rel=>exact⟨q+1,by omega,by go_num,HP10.out,HK10.out,HO10.out,HB10.out⟩
       case measure=>simp [intOf];omega
      ·have q0:decide ((q:Int)<(R:Int))=false:=by simp;omega
       obtain rfl:q=R:=by omega
       have hP2:PairsO m wr u10 (doP l c):=by
        have:=Own.lower hP (Nat.le_succ m)
        rwa [List.take_of_length_le (by have:=HRN.out;omega),HLD.out] at this
       have HP:=zh hP2
       have HBF:=zh hb
       clear hP hP2 hK hown hb
       go_wp2_with fail
       go_ret
       exact⟨_,rfl,HP.out,HBF.out⟩
end
section
open Go.Shelf
def lays106_ren:Go.Shelf.Ren:=⟨fun | 106=>122 | 213=>149 | 265=>171 | n=>n,fun | 9=>9 | 3=>3 | n=>n,fun | n=>n⟩
theorem lays106:Go.Proofs.Lays.n106 Tryz.prog lays106_ren:={
 mixed:=by kernel_rfl
 f106:=Tryz.func122.trans (congrArg some (by kernel_rfl))
 f213:=Tryz.func149.trans (congrArg some (by kernel_rfl))
 f265:=Tryz.func171.trans (congrArg some (by kernel_rfl))
 t3:=Tryz.underlying3
 a3:=Tryz.isAgg3
 z3:=Tryz.sizeOf3
 v3:=Tryz.zeroValue3
 t9:=Tryz.underlying9
 a9:=Tryz.isAgg9
 z9:=Tryz.sizeOf9
 v9:=Tryz.zeroValue9 }
open Go.RowKit KvP
theorem compare_any (a b:List UInt8) (w:World):Calls Tryz.prog 122 #[.string (ByteArray.mk a.toArray),.string (ByteArray.mk b.toArray)] w fun e w'=>e = .returned (.int .i64 (Lib.compareBytes a b))∧w'=w :=
 Any.strings_Compare lays106 (ByteArray.mk a.toArray) (ByteArray.mk b.toArray) w
theorem cmp_neg:∀ a b:List UInt8,decide (Lib.compareBytes a b<0)=decide (a<b)
 | [],[]=>by simp [Lib.compareBytes]
 | [],_ :: _=>by simp [Lib.compareBytes]
 | _ :: _,[]=>by simp [Lib.compareBytes]
 | x :: a,y :: b=>by
  have ih:=cmp_neg a b
  unfold Lib.compareBytes
  by_cases h:x<y
  ·rw [if_pos h,decide_eq_true (by decide),decide_eq_true (List.cons_lt_cons_iff.2 (.inl h))]
  ·rw [if_neg h]
   by_cases h2:y<x
   ·rw [if_pos h2,decide_eq_false (by decide),decide_eq_false]
    intro h3
    rcases List.cons_lt_cons_iff.1 h3 with h4 | ⟨rfl,_⟩
    ·exact h h4
    ·exact h h2
   ·have e:x=y:=UInt8.le_antisymm (UInt8.not_lt.1 h2) (UInt8.not_lt.1 h)
    rw [if_neg h2,ih]
    subst e
    rw [Bool.eq_iff_iff,decide_eq_true_eq,decide_eq_true_eq,List.cons_lt_cons_iff]
    simp
theorem cmp_zero:∀ a b:List UInt8,(Lib.compareBytes a b == 0)=decide (a=b)
 | [],[]=>by simp [Lib.compareBytes]
 | [],_ :: _=>by simp [Lib.compareBytes]
 | _ :: _,[]=>by simp [Lib.compareBytes]
 | x :: a,y :: b=>by
  have ih:=cmp_zero a b
  unfold Lib.compareBytes
  by_cases h:x<y
  ·have hne:x≠y:=fun e=>UInt8.lt_irrefl x (by rw [← e] at h;exact h)
   rw [if_pos h]
   simp [hne]
  ·rw [if_neg h]
   by_cases h2:y<x
   ·have hne:x≠y:=fun e=>UInt8.lt_irrefl x (by rw [← e] at h2;exact h2)
    rw [if_pos h2]
    simp [hne]
   ·have e:x=y:=UInt8.le_antisymm (UInt8.not_lt.1 h2) (UInt8.not_lt.1 h)
    rw [if_neg h2,ih]
    subst e
    simp
set_option maxRecDepth 100000 in
set_option maxHeartbeats 4000000 in
theorem place1_any (p:PairP) (key:List UInt8) (w:World):Calls Tryz.prog 121 #[.agg #[str p.key,str p.val],str key] w fun e w'=>e = .returned (.int .i64 (Lib.compareBytes p.key key))∧Below w.heap.size w w':=by
 unfold str
 have kc:=compare_any p.key key (w.alloc (.cells #[.string (ByteArray.mk p.key.toArray),.string (ByteArray.mk p.val.toArray)] 76))
 obtain⟨z,hz⟩:∃ z,z=Lib.compareBytes p.key key:=⟨_,rfl⟩
 rw [← hz] at kc ⊢
 obtain⟨sk,hsk⟩:∃ s,s=ByteArray.mk p.key.toArray:=⟨_,rfl⟩
 obtain⟨sv,hsv⟩:∃ s,s=ByteArray.mk p.val.toArray:=⟨_,rfl⟩
 obtain⟨st,hst⟩:∃ s,s=ByteArray.mk key.toArray:=⟨_,rfl⟩
 rw [← hsk,← hsv,← hst] at kc
 rw [← hsk,← hsv,← hst]
 clear hz hsk hsv hst
 go_enter Tryz.func121,Tryz.ntmps121
 go_wp2_with fail
 refine kc.mono ?_
 rintro e w5 ⟨rfl,rfl⟩
 clear kc
 go_wp2_with fail
 go_ret
 exact⟨rfl,Below.alloc (Below.refl _ _) (Nat.le_refl _) _⟩
end
section
open Go.RowKit KvP
theorem key_lt_iff {l:List PairP} (hr:Rising l) (k:List UInt8) (h:Nat) (hh:h<l.length):l[h].key<k↔h<placeN l k:=by
 constructor
 ·intro h1
  refine Nat.lt_of_not_le (fun h2=>?_)
  rcases Nat.lt_or_ge (placeN l k) h with h3 | h3
  ·exact placeN_at l k (by omega) (lt_trans3 (List.pairwise_iff_getElem.1 hr (placeN l k) h (by omega) hh h3) h1)
  ·have e:placeN l k=h:=by omega
   have:=placeN_at l k (by omega)
   simp only [e] at this
   exact this h1
 ·exact placeN_below l k h hh
theorem thereN_eq (l:List PairP) (k:List UInt8) (h:placeN l k<l.length):thereN l k=decide (l[placeN l k].key=k):=by
 unfold thereN
 rw [List.getElem?_eq_getElem h]
theorem thereN_out (l:List PairP) (k:List UInt8) (h:¬ placeN l k<l.length):thereN l k=false:=by
 unfold thereN
 rw [List.getElem?_eq_none (by omega)]
set_option maxRecDepth 100000 in
set_option maxHeartbeats 4000000 in
theorem bsearch_any {B:Nat} (v:Value) (l:List PairP) (key:List UInt8) (w:World) (hv:PairsV B w v l) (hr:Rising l) (hl:l.length≤2^20) :
  Calls Tryz.prog 120 #[v,str key,.func (.func 121) #[] #[]] w fun e w'=>e = .returned (.tuple #[.int .i64 (placeN l key:Nat),.bool (thereN l key)])∧Below w.heap.size w w':=by
 have hv:=hv.tight
 obtain⟨_,a,c,rfl,h1,h2,_⟩:=id hv
 unfold maxLen at h2
 obtain⟨N,hN⟩:∃ N,N=l.length:=⟨_,rfl⟩
 obtain⟨p,hp⟩:∃ p,p=placeN l key:=⟨_,rfl⟩
 have hpN:p≤N:=by rw [hp,hN];exact placeN_le l key
 rw [← hN] at hv h1 hl ⊢
 rw [← hp]
 have HN:=zh hN
 have HP:=zh hp
 have HV:=zh hv
 have HR:=zh hr
 have kc1:∀ (q:PairP) (w':World),Calls Tryz.prog 121 #[.agg #[str q.key,str q.val],str key] w' fun e w''=>e = .returned (.int .i64 (Lib.compareBytes q.key key))∧Below w'.heap.size w' w'':=fun q w'=>place1_any q key w'
 obtain⟨kv,hkv⟩:∃ x,x=str key:=⟨_,rfl⟩
 rw [← hkv] at kc1 ⊢
 have KC:=zh kc1
 clear hN hv hp hr kc1 hkv
 go_enter Tryz.func120,Tryz.ntmps120
 go_wp2_with fail
 go_loopw [9,10] (fun i j wr=>∃ x y:Nat,i = .int .i64 x∧j = .int .i64 y∧x≤p∧p≤y∧y≤N∧Below w.heap.size w wr) (fun i j _=>(intOf j-intOf i).toNat)
 case atStart=>exact⟨0,N,rfl,rfl,Nat.zero_le _,hpN,Nat.le_refl _,Below.refl _ _⟩
 case round =>
  obtain⟨x,y,rfl,rfl,hxp,hpy,hyN,hb⟩:=hrel
  by_cases hxy:x<y
  ·have k0:decide ((x:Int)<(y:Int))=true:=by simp;omega
   obtain⟨h,hh⟩:∃ h,h=(x+y) / 2:=⟨_,rfl⟩
   have hh1:x≤h:=by omega
   have hh2:h<y:=by omega
   have hE:((x:Int)+(y:Int)) / 2=(h:Int):=by omega
   have hhl:h<l.length:=by have:=HN.out;omega
   obtain⟨b,off,rfl,hbb,hc⟩:=load_pair HV.out hhl
   obtain⟨S0,S1⟩:=hc wr hb
   have hiff:=key_lt_iff HR.out key h hhl
   have hcn:=cmp_neg l[h].key key
   have kc:=KC.out l[h] wr
   obtain⟨q,hq⟩:∃ q,q=l[h]:=⟨_,rfl⟩
   rw [← hq] at S0 S1 hcn kc hiff
   obtain⟨z,hz⟩:∃ z,z=Lib.compareBytes q.key key:=⟨_,rfl⟩
   rw [← hz] at hcn kc
   have i1:(0:Int)≤(h:Int):=by omega
   have i2:(h:Int)<(N:Int):=by have:=HN.out;omega
   have HIFF:=zh hiff
   have HCN:=zh hcn
   have HE:=zh hE
   have HH:=zh hh
   clear hh hE hc hq hz hiff hcn
   go_upto_region 5 with (fail)
   rw [HE.out]
   go_wp2_with fail
   refine kc.mono ?_
   rintro e w5 ⟨rfl,hb5⟩
   clear kc S0 S1
   have HB5:=zh (hb.trans (hb5.mono hb.size))
   clear hb hb5
   rw [← HP.out] at HIFF
   by_cases hlt:q.key<key
   ·have hz0:decide (z<0)=true:=by rw [HCN.out];exact decide_eq_true hlt
    have hp2:h<p:=HIFF.out.1 hlt
    clear hlt
    go_wp2_with fail
    go_roundw
    case rel=>exact⟨h+1,y,by go_num,rfl,by omega,hpy,hyN,HB5.out⟩
    case measure=>simp [intOf];omega
   ·have hz0:decide (z<0)=false:=by rw [HCN.out];exact decide_eq_false hlt
    have hp2:p≤h:=Nat.le_of_not_lt (fun h'=>hlt (HIFF.out.2 h'))
    clear hlt
    go_wp2_with fail
    go_roundw
    case rel=>exact⟨x,h,rfl,rfl,hxp,hp2,by omega,HB5.out⟩
    case measure=>simp [intOf];omega
  ·have k0:decide ((x:Int)<(y:Int))=false:=by simp;omega
   obtain rfl:x=p:=by omega
   by_cases hxN:x<N
   ·have q0:decide ((x:Int)<(N:Int))=true:=by simp;omega
    have hhl:x<l.length:=by have:=HN.out;omega
    obtain⟨b,off,rfl,hbb,hc⟩:=load_pair HV.out hhl
    obtain⟨S0,S1⟩:=hc wr hb
    have hcz:=cmp_zero l[x].key key
    have hth:thereN l key=decide (l[x].key=key):=by
     rw [thereN_eq l key (by rw [← HP.out];exact hhl)]
     simp only [← HP.out]
    have kc:=KC.out l[x] wr
    obtain⟨q,hq⟩:∃ q,q=l[x]:=⟨_,rfl⟩
    rw [← hq] at S0 S1 hcz kc hth
    obtain⟨z,hz⟩:∃ z,z=Lib.compareBytes q.key key:=⟨_,rfl⟩
    rw [← hz] at hcz kc
    rw [← hcz] at hth
    have HTH:=zh hth
    have i1:(0:Int)≤(x:Int):=by omega
    have i2:(x:Int)<(N:Int):=by omega
    clear hc hq hz hcz hth
    go_wp2_with fail
    refine kc.mono ?_
    rintro e w5 ⟨rfl,hb5⟩
    clear kc S0 S1
    have HB5:=zh (hb.trans (hb5.mono hb.size))
    clear hb hb5
    go_wp2_with fail
    go_ret2
    exact⟨by rw [HTH.out];rfl,HB5.out⟩
   ·have q0:decide ((x:Int)<(N:Int))=false:=by simp;omega
    have hth:thereN l key=false:=thereN_out l key (by have:=HP.out;have:=HN.out;omega)
    have HTH:=zh hth
    clear hth
    go_wp2_with fail
    go_ret2
    exact⟨by rw [HTH.out];rfl,hb⟩
set_option maxRecDepth 100000 in
set_option maxHeartbeats 4000000 in
theorem place_any {B:Nat} (v:Value) (l:List PairP) (key:List UInt8) (w:World) (hv:PairsV B w v l) (hr:Rising l) (hl:l.length≤2^20) :
  Calls Tryz.prog 74 #[v,str key] w fun e w'=>e = .returned (.tuple #[.int .i64 (placeN l key:Nat),.bool (thereN l key)])∧Below w.heap.size w w':=by
 have kc:=bsearch_any v l key w hv hr hl
 obtain⟨kv,hkv⟩:∃ x,x=str key:=⟨_,rfl⟩
 rw [← hkv] at kc ⊢
 obtain⟨p,hp⟩:∃ x,x=placeN l key:=⟨_,rfl⟩
 obtain⟨t,ht⟩:∃ x,x=thereN l key:=⟨_,rfl⟩
 rw [← hp,← ht] at kc ⊢
 clear hkv hp ht
 go_enter Tryz.func74,Tryz.ntmps74
 go_wp2_with fail
 refine kc.mono ?_
 rintro e w5 ⟨rfl,hb5⟩
 clear kc
 go_wp2_with fail
 go_ret2
 exact⟨rfl,hb5⟩
end
section
open Go.RowKit KvP PackP WalP
def storeV (l:LogP) (pv:Value):Value:=.agg #[.int .i64 l.half,.int .i64 l.gen,.int .i64 l.used,.int .i64 l.count,pv]
def StoreV (B:Nat) (w:World) (v:Value) (s:StoreP):Prop:=∃ pv,v=storeV s.log pv∧PairsV B w pv s.pairs
theorem StoreV.below {B:Nat} {w w':World} {v:Value} {s:StoreP} (h:StoreV B w v s) (hb:Below B w w'):StoreV B w' v s:=let ⟨p,e,h1⟩:=h;⟨p,e,h1.below hb⟩
theorem StoreV.tight {B:Nat} {w:World} {v:Value} {s:StoreP} (h:StoreV B w v s):StoreV w.heap.size w v s:=let ⟨p,e,h1⟩:=h;⟨p,e,h1.tight⟩
def KE (w:World) (r:DiskP×StoreP×Int) (e:Ending) (w':World):Prop :=
 (∃ v' sv,e = .returned (.tuple #[v',sv,.int .i64 r.2.2])∧DiskV w'.heap.size w' v' r.1∧StoreV w'.heap.size w' sv r.2.1)∧Below w.heap.size w w'
theorem pairs_len {B:Nat} {w:World} {v:Value} {l:List PairP} (h:PairsV B w v l):∃ a c,v = .slice a l.length c∧l.length≤c:=by
 obtain⟨_,a,c,rfl,h1,_⟩:=h
 exact⟨a,c,rfl,h1⟩
set_option maxRecDepth 100000 in
set_option maxHeartbeats 4000000 in
theorem get_any {B:Nat} (v:Value) (s:StoreP) (key:List UInt8) (w:World) (hv:StoreV B w v s) (hr:Rising s.pairs) (hl:s.pairs.length≤2^20) :
  Calls Tryz.prog 37 #[v,str key] w fun e w'=>e = .returned (.tuple #[str ((getP s.pairs key).getD []),.bool (getP s.pairs key).isSome])∧Below w.heap.size w w':=by
 obtain⟨pv,rfl,hp⟩:=hv
 have hp:=hp.tight
 obtain⟨l,hll⟩:∃ l,l=s.pairs:=⟨_,rfl⟩
 rw [← hll] at hp hr hl ⊢
 obtain⟨lg,hlg⟩:∃ l,l=s.log:=⟨_,rfl⟩
 rw [← hlg]
 clear hll hlg
 obtain⟨a,c,rfl,hlc⟩:=pairs_len hp
 obtain⟨N,hN⟩:∃ N,N=l.length:=⟨_,rfl⟩
 rw [← hN] at hp hlc ⊢
 have HN:=zh hN
 obtain⟨w1,hw1⟩:∃ x,x=w.alloc (.cells #[.int .i64 lg.half,.int .i64 lg.gen,.int .i64 lg.used,.int .i64 lg.count,.slice a N c] 44):=⟨_,rfl⟩
 obtain⟨g,hg⟩:∃ g,g=w.heap.size:=⟨_,rfl⟩
 have hb1:Below w.heap.size w w1:=by rw [hw1];exact Below.alloc (Below.refl _ _) (Nat.le_refl _) _
 have hbox:w1.heap[g]?=some (.cells #[.int .i64 lg.half,.int .i64 lg.gen,.int .i64 lg.used,.int .i64 lg.count,.slice a N c] 44 (0,0)):=by rw [hw1,hg];exact heap_alloc_new w _
 have C4:=cR w1 _ 4 _ _ _ hbox
 have kc:=place_any (.slice a N c) l key w1 (hp.below hb1) hr hl
 have hgt:=getP_place hr key
 have HV:=zh hp
 obtain⟨kv,hkv⟩:∃ x,x=str key:=⟨_,rfl⟩
 rw [← hkv] at kc ⊢
 obtain⟨p,hpp⟩:∃ x,x=placeN l key:=⟨_,rfl⟩
 obtain⟨t,ht⟩:∃ x,x=thereN l key:=⟨_,rfl⟩
 rw [← hpp,← ht] at kc hgt
 have HW1:=zh hw1
 have HG:=zh hg
 have HGT:=zh hgt
 have htl:t=true→p<l.length:=fun h=>by
  rw [ht] at h
  unfold thereN at h
  rw [← hpp] at h
  refine Nat.lt_of_not_le (fun h'=>?_)
  rw [List.getElem?_eq_none h'] at h
  cases h
 have HTL:=zh htl
 clear hw1 hg hgt hkv hpp ht htl hN
 unfold storeV
 go_enter Tryz.func37,Tryz.ntmps37
 go_upto_region 1 with (fail)
 rw [← HW1.out,← HG.out]
 go_wp2_with fail
 refine kc.mono ?_
 rintro e w5 ⟨rfl,hb5⟩
 clear kc C4
 have hbx:=(hb5.block _ (zB hbox)).trans hbox
 have C4:=cR w5 _ 4 _ _ _ hbx
 have HB5:=zh (hb1.trans (hb5.mono hb1.size))
 clear hb1 hb5 hbx hbox
 cases t with
 | false =>
  have hfin:getP l key=none:=by rw [HGT.out];rfl
  have HFIN:=zh hfin
  clear hfin
  go_wp2_with fail
  go_ret2
  exact⟨by rw [HFIN.out];rfl,HB5.out⟩
 | true =>
  have hpl:=HTL.out rfl
  have i1:(0:Int)≤(p:Int):=by omega
  have i2:(p:Int)<(N:Int):=by have:=HN.out;omega
  obtain⟨b,off,rfl,_,hc⟩:=load_pair HV.out hpl
  obtain⟨_,S1⟩:=hc w5 HB5.out
  have hfin:getP l key=some l[p].val:=by rw [HGT.out,if_pos rfl,List.getElem?_eq_getElem hpl];rfl
  have HFIN:=zh hfin
  obtain⟨x,hx⟩:∃ x,x=str l[p].val:=⟨_,rfl⟩
  rw [← hx] at S1
  have HX:=zh hx
  clear hfin hc hx
  go_wp2_with fail
  go_ret2
  exact⟨by rw [HFIN.out,HX.out];rfl,HB5.out⟩
end
section
open Go.RowKit KvP PackP WalP
set_option maxRecDepth 100000 in
set_option maxHeartbeats 4000000 in
theorem kright_any {B B':Nat} (v sv:Value) (d:DiskP) (s:StoreP) (w:World) (hd:DiskV B w v d) (hs:StoreV B' w sv s) (hl0:-9223372036854775808≤s.log.half∧s.log.half≤9223372036854775807) :
  Calls Tryz.prog 26 #[v,sv] w fun e w'=>e = .returned (.bool (rightS d s))∧Below w.heap.size w w':=by
 have hd:=hd.tight
 obtain⟨pv,rfl,hp⟩:=hs
 have hp:=hp.tight
 obtain⟨p1,q1,p2,q2,rfl,_,_⟩:=hd.parts
 obtain⟨l,hl⟩:∃ l,l=s.pairs:=⟨_,rfl⟩
 obtain⟨lg,hlg⟩:∃ l,l=s.log:=⟨_,rfl⟩
 have hfin:rightS d s=(rightL d lg&&pairsB l):=by unfold rightS;rw [hl,hlg]
 rw [hfin]
 rw [← hl] at hp
 rw [← hlg] at hl0 ⊢
 clear hl hlg hfin
 obtain⟨a,c,rfl,hlc⟩:=pairs_len hp
 obtain⟨N,hN⟩:∃ N,N=l.length:=⟨_,rfl⟩
 rw [← hN] at hp hlc ⊢
 unfold storeV
 obtain⟨w1,hw1⟩:∃ x,x=(w.alloc (.cells #[.slice p1 d.secs.length q1,.slice p2 d.loose.length q2,.int .i64 d.fuse,.bool d.down] 38)).alloc (.cells #[.int .i64 lg.half,.int .i64 lg.gen,.int .i64 lg.used,.int .i64 lg.count,.slice a N c] 44):=⟨_,rfl⟩
 have hb1:Below w.heap.size w w1:=by rw [hw1];exact Below.alloc (Below.alloc (Below.refl _ _) (Nat.le_refl _) _) (by simp) _
 have RD:w1.heap[w.heap.size]?=some (.cells #[.slice p1 d.secs.length q1,.slice p2 d.loose.length q2,.int .i64 d.fuse,.bool d.down] 38 (0,0)):=by rw [hw1];exact heap_alloc2_old w _ _
 have RS:w1.heap[w.heap.size+1]?=some (.cells #[.int .i64 lg.half,.int .i64 lg.gen,.int .i64 lg.used,.int .i64 lg.count,.slice a N c] 44 (0,0)):=by rw [hw1];exact heap_alloc2_new w _ _
 have D0:=cR w1 _ 0 _ _ _ RD
 have D1:=cR w1 _ 1 _ _ _ RD
 have D2:=cR w1 _ 2 _ _ _ RD
 have D3:=cR w1 _ 3 _ _ _ RD
 have S0:=cR w1 _ 0 _ _ _ RS
 have S1:=cR w1 _ 1 _ _ _ RS
 have S2:=cR w1 _ 2 _ _ _ RS
 have S3:=cR w1 _ 3 _ _ _ RS
 have kr:=walRight_any _ d lg w1 (hd.below hb1) hl0
 unfold logV at kr
 obtain⟨R,hR⟩:∃ R,R=rightL d lg:=⟨_,rfl⟩
 rw [← hR] at kr ⊢
 have HV:=zh hp
 have HW1:=zh hw1
 have HR:=zh hR
 have HB1:=zh hb1
 have HRS:=zh RS
 clear hw1 hR hp RD RS hd hb1 hN
 go_enter Tryz.func26,Tryz.ntmps26
 go_upto_region 1 with (fail)
 rw [← HW1.out]
 go_wp2_with fail
 refine kr.mono ?_
 rintro e w5 ⟨rfl,hb5⟩
 clear kr D0 D1 D2 D3 S0 S1 S2 S3
 have S4:=cR w5 _ 4 _ _ _ ((hb5.block _ (zB HRS.out)).trans HRS.out)
 have HB5:=zh (HB1.out.trans (hb5.mono HB1.out.size))
 clear hb5
 cases R with
 | false =>
  go_wp2_with fail
  go_ret
  exact⟨rfl,HB5.out⟩
 | true =>
  have kp:=paired_any _ l w5 (HV.out.below HB5.out)
  obtain⟨pb,hpb⟩:∃ x,x=pairsB l:=⟨_,rfl⟩
  rw [← hpb] at kp
  have HPB:=zh hpb
  clear hpb
  go_wp2_with fail
  refine kp.mono ?_
  rintro e w6 ⟨rfl,hb6⟩
  clear kp S4
  have HB6:=zh (HB5.out.trans (hb6.mono HB5.out.size))
  clear hb6
  go_wp2_with fail
  go_ret
  exact⟨by rw [← HPB.out];rfl,HB6.out⟩
theorem info_store:∃ i,Tryz.prog.info? 44=some i∧i.size=5:=by
 have h:(Tryz.prog.info? 44).map (·.size)=some 5:=by kernel_rfl
 exact Option.map_eq_some_iff.1 h
theorem size_store:(Tryz.prog.info? 44).map (·.size)=some 5:=by kernel_rfl
theorem zero_store:∀ w,(zeroValue 44).run Tryz.prog w = .ok (.agg #[.int .i64 0,.int .i64 0,.int .i64 0,.int .i64 0,.slice none 0 0]) w:=by
 have h:(Tryz.prog.info? 44).bind (fun i=>i.zero)=some (.agg #[.int .i64 0,.int .i64 0,.int .i64 0,.int .i64 0,.slice none 0 0]):=by kernel_rfl
 obtain⟨i,hi,hz⟩:=Option.bind_eq_some_iff.1 h
 intro w
 simp [zeroValue,typeInfo,hi,hz]
theorem ones5 {a b c d e:Value} (h0:a.oneCell'=true) (h1:b.oneCell'=true) (h2:c.oneCell'=true) (h3:d.oneCell'=true) (h4:e.oneCell'=true):∀ v∈(#[a,b,c,d,e]:Array Value).toList,v.oneCell'=true:=by
 intro v hv
 simp only [List.mem_cons,List.not_mem_nil,or_false] at hv
 rcases hv with rfl | rfl | rfl | rfl | rfl <;> assumption
theorem laid_DS {wx:World} {C E:Nat} {cc:Array Value} {ce:Array Value} {a0 a1:Option Addr} {n0 n1:Nat} {d:DiskP} {l:LogP} {pv:Value} {s:List PairP}
  (hC:wx.heap[C]?=some (.cells cc 38 (0,0))) (hcc:cc.size=4) (hE:wx.heap[E]?=some (.cells ce 44 (0,0))) (hce:ce.size=5) (hne:C≠E)
  (hd:DiskV wx.heap.size wx (.agg #[.slice a0 d.secs.length n0,.slice a1 d.loose.length n1,.int .i64 d.fuse,.bool d.down]) d) (hv:∃ a c,pv = .slice a s.length c)
  (hp:∀ w':World,(∀ k,k≠C→k≠E→w'.heap[k]?=wx.heap[k]?)→w'.heap.size=wx.heap.size→PairsV w'.heap.size w' pv s) :
  ∃ wa wb,(storeVar 38 ⟨C,0,none⟩ (.agg #[.slice a0 d.secs.length n0,.slice a1 d.loose.length n1,.int .i64 d.fuse,.bool d.down])).run Tryz.prog wx = .ok () wa ∧
   (storeVar 44 ⟨E,0,none⟩ (.agg #[.int .i64 l.half,.int .i64 l.gen,.int .i64 l.used,.int .i64 l.count,pv])).run Tryz.prog wa = .ok () wb ∧
   (∀ k,k≠C→wa.heap[k]?=wx.heap[k]?)∧(∀ k,k≠C→k≠E→wb.heap[k]?=wx.heap[k]?) ∧
   Hid (wb.heap[C]?=some (.cells #[.slice a0 d.secs.length n0,.slice a1 d.loose.length n1,.int .i64 d.fuse,.bool d.down] 38 (0,0))∧wb.heap[E]?=some (.cells #[.int .i64 l.half,.int .i64 l.gen,.int .i64 l.used,.int .i64 l.count,pv] 44 (0,0)) ∧
    DiskV wb.heap.size wb (.agg #[.slice a0 d.secs.length n0,.slice a1 d.loose.length n1,.int .i64 d.fuse,.bool d.down]) d∧StoreV wb.heap.size wb (.agg #[.int .i64 l.half,.int .i64 l.gen,.int .i64 l.used,.int .i64 l.count,pv]) ⟨l,s⟩∧(∀ B w0,Below B w0 wx→B≤C→B≤E→Below B w0 wb)):=by
 obtain⟨pa,pc,rfl⟩:=hv
 obtain⟨wa,r1,r2,r3,r4,r5,_⟩:=storeBig info_disk hC hcc #[.slice a0 d.secs.length n0,.slice a1 d.loose.length n1,.int .i64 d.fuse,.bool d.down] rfl (ones4 rfl rfl rfl rfl)
 have hE2:=(r5 E (Ne.symm hne)).trans hE
 obtain⟨wb,t1,t2,t3,t4,t5,_⟩:=storeBig info_store hE2 hce #[.int .i64 l.half,.int .i64 l.gen,.int .i64 l.used,.int .i64 l.count,.slice pa s.length pc] rfl (ones5 rfl rfl rfl rfl rfl)
 have hk:∀ k,k≠C→k≠E→wb.heap[k]?=wx.heap[k]?:=fun k h1 h2=>(t5 k h2).trans (r5 k h1)
 refine⟨wa,wb,r1,t1,r5,hk,zh ⟨(t5 C hne).trans r2,t2,?_,⟨_,rfl,hp wb hk (t4.trans r4)⟩,fun B w0 hb h1 h2=>(hb.trans (r3.mono h1)).trans (t3.mono h2)⟩⟩
 have hd1:=hd.kept hC (by omega) r5
 have hd2:=hd1.kept hE2 (by omega) t5
 rw [t4,r4]
 exact hd2
end
section
open Go.RowKit KvP PackP WalP
def zK (C E:Nat) (w w':World):Prop:=∀ k,k≠C→k≠E→w'.heap[k]?=w.heap[k]?
theorem zK.refl (C E:Nat) (w:World):zK C E w w:=fun _ _ _=>rfl
theorem zK.drew {C E:Nat} {w w':World} (h:zK C E w w'):zK C E w w'.drew:=h
theorem zK.trans_ {C E:Nat} {w w' w'':World} (h:zK C E w w') (k:zK C E w' w''):zK C E w w'':=fun x h1 h2=>(k x h1 h2).trans (h x h1 h2)
def Always (_:World):Prop:=True
def FormatMid (w:World) (r:DiskP×LogP×Int) (wx:World) (s5 s6:Value):Prop :=
 ∃ G,s5 = .pointer (some ⟨G,0,none⟩)∧s6 = .int .i64 r.2.2∧w.heap.size+3≤G∧DAt wx w.heap.size r.1∧LAt wx G r.2.1 ∧
  wx.heap[w.heap.size+1]?=some (.cells #[.slice none 0 0,.slice none 0 0,.int .i64 0,.bool false] 38 (0,0)) ∧
  wx.heap[w.heap.size+1+1]?=some (.cells #[.int .i64 0,.int .i64 0,.int .i64 0,.int .i64 0,.slice none 0 0] 44 (0,0))∧Below w.heap.size w wx
theorem snapP_nil:snapP []=[bytesP []]:=rfl
theorem len_bytes_nil:(bytesP []).length=8:=bytes_nil
set_option maxRecDepth 100000 in
set_option maxHeartbeats 8000000 in
theorem kformat_any {B:Nat} (v:Value) (d:DiskP) (w:World) (hd:DiskV B w v d) (ht:TabAt w) (hT:1<w.heap.size) :
  Calls Tryz.prog 20 #[v] w (KE w (formatK d)):=by
 have hd:=hd.tight
 obtain⟨p1,q1,p2,q2,rfl,_,_⟩:=hd.parts
 obtain⟨w1,hw1,hb1,hs1,R0,R1,R2⟩:=three w (.cells #[.slice p1 d.secs.length q1,.slice p2 d.loose.length q2,.int .i64 d.fuse,.bool d.down] 38) (.cells #[.slice none 0 0,.slice none 0 0,.int .i64 0,.bool false] 38) (.cells #[.int .i64 0,.int .i64 0,.int .i64 0,.int .i64 0,.slice none 0 0] 44)
 have hd1:=(hd.below hb1).tight
 obtain⟨r,hr⟩:∃ r,r=formatP d (snapP []):=⟨_,rfl⟩
 have hfk:formatK d=(r.1,⟨r.2.1,[]⟩,r.2.2):=by unfold formatK;rw [hr]
 rw [hfk]
 have HR:=zh hr
 have HW1:=zh hw1
 have HT:=zh (ht.below hb1 hT)
 have hT1:1<w1.heap.size:=Nat.lt_of_lt_of_le hT hb1.size
 have s0:Below w1.heap.size w1 w1.drew:=zD (Below.refl _ _) 1
 have HS1:=zh hs1
 clear hr hfk hw1 hd ht hs1
 go_enter Tryz.func20,Tryz.ntmps20
 go_upto_region 1 with (fail)
 rw [← HW1.out]
 go_cut [5,6] from 7 to 13 (fun s5 s6 wx=>FormatMid w r wx s5 s6)
 case first =>
  refine wp_region_start Always (by kernel_rfl) trivial ?_
  refine wpAnyH_ready (rs:=[0,1,7]) (by kernel_rfl) (by simp) ?_
  refine zR rfl rfl (fun K hK=>?_) (zR rfl rfl (fun K hK=>?_) (zR rfl rfl (fun K hK=>?_) AllReadyH.nil))
  ·skip
   refine op_load (.tmp 1) 38 rfl rfl (run_loadVar_row (P:=Tryz.prog) w1.drew w.heap.size 38 38 _ (0,0) _ ((s0.block _ (zB R0)).trans R0) Tryz.underlying38 rfl zQ) ?_
   refine hK.out _ _ trivial ?_
   clear hK K
   simp only [Act.put,zq1,zq2,zq3]
   refine wpAnyH_ready (rs:=[1,7]) (by kernel_rfl) (by simp) ?_
   refine zR rfl rfl (fun K hK=>?_) (zR rfl rfl (fun K hK=>?_) AllReadyH.nil)
   ·skip
    have kc:=snapshot_any (.slice none 0 0) [] w1.drew (Row.nil 0 w1.drew 2) (by simp) (by simp)
    go_simp
    refine kc.mono ?_
    rintro e wt1 ⟨u1,rfl,hu1,hb⟩
    clear kc
    have st1:=s0.trans (hb.mono s0.size)
    have hrec:=hu1.pieces
    clear hu1
    refine hK.out _ _ trivial ?_
    clear hK K hb
    refine wpAnyH_ready (rs:=[2,7]) (by kernel_rfl) (by simp) ?_
    refine zR rfl rfl (fun K hK=>?_) (zR rfl rfl (fun K hK=>?_) AllReadyH.nil)
    ·skip
     have kc:=format_any _ _ d (snapP []) wt1 (hd1.below st1).tight hrec (HT.out.below st1 hT1) (Nat.lt_of_lt_of_le hT1 st1.size) (by rw [snapP_nil];intro b hb;rw [List.mem_singleton.1 hb,len_bytes_nil];decide) (by rw [snapP_nil];decide)
     rw [← HR.out] at kc
     unfold DLE at kc
     simp only [logV] at kc
     go_simp
     refine kc.mono ?_
     rintro e wt2 ⟨⟨vr,rfl,hdr⟩,hb⟩
     clear kc hrec
     obtain⟨r1,r2,r3,r4,rfl,_,_⟩:=hdr.parts
     have st2:=st1.trans (hb.mono st1.size)
     refine hK.out _ _ trivial ?_
     clear hK K hb
     refine wpAnyH_part [(false,3),(false,4),(false,5),(false,6)] (by kernel_rfl) trivial ?_
     repeat (first | (refine zS rfl rfl ?_;simp only [Act.put,zq1,zq2,zq3]) | (refine zT rfl ?_ rfl (fun w' hw'=>?_) ?_;rotate_left;(go_simp;first | done | with_reducible rfl);(try simp only [Act.put,zq1,zq2,zq3])))
     refine zN ?_
     refine wpAnyH_ready (rs:=[7]) (by kernel_rfl) (by simp) ?_
     refine zR rfl rfl (fun K hK=>?_) AllReadyH.nil
     ·skip
      obtain⟨wt3,G,hw,hg,hG,hb,hlt,hle⟩:=fresh_log wt2
      have st3:=st2.trans (hb.mono st2.size)
      have lG:w1.heap.size≤G:=Nat.le_trans st2.size hle
      have hdr:=(hdr.below hb).tight
      refine op_alloc 41 rfl (zero_log _) hw.out ?_
      rw [← hg.out]
      refine hK.out _ _ trivial ?_
      clear hK K hw hg hb hlt hle
      simp only [Act.put,zq1,zq2,zq3]
      have hs1:=HS1.out
      have hRD:=(st3.block _ (zB R0)).trans R0
      obtain⟨wx,hst,hnA,hbx,hzx,hkx,_⟩:=storeBig info_disk hRD rfl #[.slice r1 r.1.secs.length r2,.slice r3 r.1.loose.length r4,.int .i64 r.1.fuse,.bool r.1.down] rfl (ones4 rfl rfl rfl rfl)
      have hGx:wx.heap[G]?=_:=(hkx G (by omega)).trans hG
      obtain⟨wy,hst2,hnB,hby,hzy,hky,_⟩:=storeBig info_log hGx rfl #[.int .i64 r.2.1.half,.int .i64 r.2.1.gen,.int .i64 r.2.1.used,.int .i64 r.2.1.count] rfl (ones4 rfl rfl rfl rfl)
      have hdx:=hdr.kept hRD (by simp) hkx
      have hdy:=hdx.kept hGx (by simp) hky
      have hmid:FormatMid w r wy (.pointer (some ⟨G,0,none⟩)) (.int .i64 r.2.2):=by
       refine⟨G,rfl,rfl,by omega,⟨r1,r2,r3,r4,(hky _ (by omega)).trans hnA,by rw [hzy,hzx];exact hdy⟩,hnB,?_,?_,?_⟩
       ·exact (hky _ (by omega)).trans ((hkx _ (by omega)).trans ((st3.block _ (zB R1)).trans R1))
       ·exact (hky _ (by omega)).trans ((hkx _ (by omega)).trans ((st3.block _ (zB R2)).trans R2))
       ·exact (((hb1.trans (st3.mono hb1.size)).trans hbx).trans (hby.mono (by omega)))
      have HMID:=zh hmid
      refine wpAnyH_end [(true,8),(true,9),(false,10)] (by kernel_rfl) trivial ?_
      refine zA rfl rfl fun K hK=>?_
      refine op_store (.tmp 1) (.tmp 11) 38 rfl rfl rfl hst ?_
      refine hK.out _ _ trivial ?_
      clear hK K hst
      simp only [Act.put,zq1,zq2,zq3]
      refine zA rfl rfl fun K hK=>?_
      refine op_store (.tmp 5) (.tmp 12) 41 rfl rfl rfl hst2 ?_
      refine hK.out _ _ trivial ?_
      clear hK K hst2
      simp only [Act.put,zq1,zq2,zq3]
      repeat (first | (refine zS rfl rfl ?_;simp only [Act.put,zq1,zq2,zq3]) | (refine zT rfl ?_ rfl (fun w' hw'=>?_) ?_;rotate_left;(go_simp;first | done | with_reducible rfl);(try simp only [Act.put,zq1,zq2,zq3])))
      refine zN ?_
      clear hmid hdx hdy hkx hky hnA hnB hRD hGx hG hdr
      go_wp2_with fail
      go_meet
      case rel=>exact HMID.out
    ·skip
     obtain⟨wt4,G,hw,hg,hG,hb,hlt,hle⟩:=fresh_log wt1
     have st4:=st1.trans (hb.mono st1.size)
     have lG:w1.heap.size≤G:=Nat.le_trans st1.size hle
     have hrec:=(hrec.below hb).tight
     refine op_alloc 41 rfl (zero_log _) hw.out ?_
     rw [← hg.out]
     refine hK.out _ _ trivial ?_
     clear hK K hw hg hb hlt hle
     simp only [Act.put,zq1,zq2,zq3]
     refine wpAnyH_ready (rs:=[2]) (by kernel_rfl) (by simp) ?_
     refine zR rfl rfl (fun K hK=>?_) AllReadyH.nil
     ·skip
      have kc:=format_any _ _ d (snapP []) wt4 (hd1.below st4).tight hrec (HT.out.below st4 hT1) (Nat.lt_of_lt_of_le hT1 st4.size) (by rw [snapP_nil];intro b hb;rw [List.mem_singleton.1 hb,len_bytes_nil];decide) (by rw [snapP_nil];decide)
      rw [← HR.out] at kc
      unfold DLE at kc
      simp only [logV] at kc
      go_simp
      refine kc.mono ?_
      rintro e wt5 ⟨⟨vr,rfl,hdr⟩,hb⟩
      clear kc hrec
      obtain⟨r1,r2,r3,r4,rfl,_,_⟩:=hdr.parts
      have st5:=st4.trans (hb.mono st4.size)
      have hG:=hG.below hb
      refine hK.out _ _ trivial ?_
      clear hK K hb
      refine wpAnyH_part [(false,3),(false,4),(false,5),(false,6)] (by kernel_rfl) trivial ?_
      repeat (first | (refine zS rfl rfl ?_;simp only [Act.put,zq1,zq2,zq3]) | (refine zT rfl ?_ rfl (fun w' hw'=>?_) ?_;rotate_left;(go_simp;first | done | with_reducible rfl);(try simp only [Act.put,zq1,zq2,zq3])))
      refine zN ?_
      have hs1:=HS1.out
      have hRD:=(st5.block _ (zB R0)).trans R0
      obtain⟨wx,hst,hnA,hbx,hzx,hkx,_⟩:=storeBig info_disk hRD rfl #[.slice r1 r.1.secs.length r2,.slice r3 r.1.loose.length r4,.int .i64 r.1.fuse,.bool r.1.down] rfl (ones4 rfl rfl rfl rfl)
      have hGx:wx.heap[G]?=_:=(hkx G (by omega)).trans hG
      obtain⟨wy,hst2,hnB,hby,hzy,hky,_⟩:=storeBig info_log hGx rfl #[.int .i64 r.2.1.half,.int .i64 r.2.1.gen,.int .i64 r.2.1.used,.int .i64 r.2.1.count] rfl (ones4 rfl rfl rfl rfl)
      have hdx:=hdr.kept hRD (by simp) hkx
      have hdy:=hdx.kept hGx (by simp) hky
      have hmid:FormatMid w r wy (.pointer (some ⟨G,0,none⟩)) (.int .i64 r.2.2):=by
       refine⟨G,rfl,rfl,by omega,⟨r1,r2,r3,r4,(hky _ (by omega)).trans hnA,by rw [hzy,hzx];exact hdy⟩,hnB,?_,?_,?_⟩
       ·exact (hky _ (by omega)).trans ((hkx _ (by omega)).trans ((st5.block _ (zB R1)).trans R1))
       ·exact (hky _ (by omega)).trans ((hkx _ (by omega)).trans ((st5.block _ (zB R2)).trans R2))
       ·exact (((hb1.trans (st5.mono hb1.size)).trans hbx).trans (hby.mono (by omega)))
      have HMID:=zh hmid
      refine wpAnyH_end [(true,8),(true,9),(false,10)] (by kernel_rfl) trivial ?_
      refine zA rfl rfl fun K hK=>?_
      refine op_store (.tmp 1) (.tmp 11) 38 rfl rfl rfl hst ?_
      refine hK.out _ _ trivial ?_
      clear hK K hst
      simp only [Act.put,zq1,zq2,zq3]
      refine zA rfl rfl fun K hK=>?_
      refine op_store (.tmp 5) (.tmp 12) 41 rfl rfl rfl hst2 ?_
      refine hK.out _ _ trivial ?_
      clear hK K hst2
      simp only [Act.put,zq1,zq2,zq3]
      repeat (first | (refine zS rfl rfl ?_;simp only [Act.put,zq1,zq2,zq3]) | (refine zT rfl ?_ rfl (fun w' hw'=>?_) ?_;rotate_left;(go_simp;first | done | with_reducible rfl);(try simp only [Act.put,zq1,zq2,zq3])))
      refine zN ?_
      clear hmid hdx hdy hkx hky hnA hnB hRD hGx hG hdr
      go_wp2_with fail
      go_meet
      case rel=>exact HMID.out
   ·skip
    obtain⟨wt6,G,hw,hg,hG,hb,hlt,hle⟩:=fresh_log w1.drew
    have st6:=s0.trans (hb.mono s0.size)
    have lG:w1.heap.size≤G:=Nat.le_trans s0.size hle
    refine op_alloc 41 rfl (zero_log _) hw.out ?_
    rw [← hg.out]
    refine hK.out _ _ trivial ?_
    clear hK K hw hg hb hlt hle
    simp only [Act.put,zq1,zq2,zq3]
    refine wpAnyH_ready (rs:=[1]) (by kernel_rfl) (by simp) ?_
    refine zR rfl rfl (fun K hK=>?_) AllReadyH.nil
    ·skip
     have kc:=snapshot_any (.slice none 0 0) [] wt6 (Row.nil 0 wt6 2) (by simp) (by simp)
     go_simp
     refine kc.mono ?_
     rintro e wt7 ⟨u1,rfl,hu1,hb⟩
     clear kc
     have st7:=st6.trans (hb.mono st6.size)
     have hrec:=hu1.pieces
     clear hu1
     have hG:=hG.below hb
     refine hK.out _ _ trivial ?_
     clear hK K hb
     refine wpAnyH_ready (rs:=[2]) (by kernel_rfl) (by simp) ?_
     refine zR rfl rfl (fun K hK=>?_) AllReadyH.nil
     ·skip
      have kc:=format_any _ _ d (snapP []) wt7 (hd1.below st7).tight hrec (HT.out.below st7 hT1) (Nat.lt_of_lt_of_le hT1 st7.size) (by rw [snapP_nil];intro b hb;rw [List.mem_singleton.1 hb,len_bytes_nil];decide) (by rw [snapP_nil];decide)
      rw [← HR.out] at kc
      unfold DLE at kc
      simp only [logV] at kc
      go_simp
      refine kc.mono ?_
      rintro e wt8 ⟨⟨vr,rfl,hdr⟩,hb⟩
      clear kc hrec
      obtain⟨r1,r2,r3,r4,rfl,_,_⟩:=hdr.parts
      have st8:=st7.trans (hb.mono st7.size)
      have hG:=hG.below hb
      refine hK.out _ _ trivial ?_
      clear hK K hb
      refine wpAnyH_part [(false,3),(false,4),(false,5),(false,6)] (by kernel_rfl) trivial ?_
      repeat (first | (refine zS rfl rfl ?_;simp only [Act.put,zq1,zq2,zq3]) | (refine zT rfl ?_ rfl (fun w' hw'=>?_) ?_;rotate_left;(go_simp;first | done | with_reducible rfl);(try simp only [Act.put,zq1,zq2,zq3])))
      refine zN ?_
      have hs1:=HS1.out
      have hRD:=(st8.block _ (zB R0)).trans R0
      obtain⟨wx,hst,hnA,hbx,hzx,hkx,_⟩:=storeBig info_disk hRD rfl #[.slice r1 r.1.secs.length r2,.slice r3 r.1.loose.length r4,.int .i64 r.1.fuse,.bool r.1.down] rfl (ones4 rfl rfl rfl rfl)
      have hGx:wx.heap[G]?=_:=(hkx G (by omega)).trans hG
      obtain⟨wy,hst2,hnB,hby,hzy,hky,_⟩:=storeBig info_log hGx rfl #[.int .i64 r.2.1.half,.int .i64 r.2.1.gen,.int .i64 r.2.1.used,.int .i64 r.2.1.count] rfl (ones4 rfl rfl rfl rfl)
      have hdx:=hdr.kept hRD (by simp) hkx
      have hdy:=hdx.kept hGx (by simp) hky
      have hmid:FormatMid w r wy (.pointer (some ⟨G,0,none⟩)) (.int .i64 r.2.2):=by
       refine⟨G,rfl,rfl,by omega,⟨r1,r2,r3,r4,(hky _ (by omega)).trans hnA,by rw [hzy,hzx];exact hdy⟩,hnB,?_,?_,?_⟩
       ·exact (hky _ (by omega)).trans ((hkx _ (by omega)).trans ((st8.block _ (zB R1)).trans R1))
       ·exact (hky _ (by omega)).trans ((hkx _ (by omega)).trans ((st8.block _ (zB R2)).trans R2))
       ·exact (((hb1.trans (st8.mono hb1.size)).trans hbx).trans (hby.mono (by omega)))
      have HMID:=zh hmid
      refine wpAnyH_end [(true,8),(true,9),(false,10)] (by kernel_rfl) trivial ?_
      refine zA rfl rfl fun K hK=>?_
      refine op_store (.tmp 1) (.tmp 11) 38 rfl rfl rfl hst ?_
      refine hK.out _ _ trivial ?_
      clear hK K hst
      simp only [Act.put,zq1,zq2,zq3]
      refine zA rfl rfl fun K hK=>?_
      refine op_store (.tmp 5) (.tmp 12) 41 rfl rfl rfl hst2 ?_
      refine hK.out _ _ trivial ?_
      clear hK K hst2
      simp only [Act.put,zq1,zq2,zq3]
      repeat (first | (refine zS rfl rfl ?_;simp only [Act.put,zq1,zq2,zq3]) | (refine zT rfl ?_ rfl (fun w' hw'=>?_) ?_;rotate_left;(go_simp;first | done | with_reducible rfl);(try simp only [Act.put,zq1,zq2,zq3])))
      refine zN ?_
      clear hmid hdx hdy hkx hky hnA hnB hRD hGx hG hdr
      go_wp2_with fail
      go_meet
      case rel=>exact HMID.out
  ·skip
   have kc:=snapshot_any (.slice none 0 0) [] w1.drew (Row.nil 0 w1.drew 2) (by simp) (by simp)
   go_simp
   refine kc.mono ?_
   rintro e wt9 ⟨u1,rfl,hu1,hb⟩
   clear kc
   have st9:=s0.trans (hb.mono s0.size)
   have hrec:=hu1.pieces
   clear hu1
   refine hK.out _ _ trivial ?_
   clear hK K hb
   refine wpAnyH_ready (rs:=[0,7]) (by kernel_rfl) (by simp) ?_
   refine zR rfl rfl (fun K hK=>?_) (zR rfl rfl (fun K hK=>?_) AllReadyH.nil)
   ·skip
    refine op_load (.tmp 1) 38 rfl rfl (run_loadVar_row (P:=Tryz.prog) wt9 w.heap.size 38 38 _ (0,0) _ ((st9.block _ (zB R0)).trans R0) Tryz.underlying38 rfl zQ) ?_
    refine hK.out _ _ trivial ?_
    clear hK K
    simp only [Act.put,zq1,zq2,zq3]
    refine wpAnyH_ready (rs:=[2,7]) (by kernel_rfl) (by simp) ?_
    refine zR rfl rfl (fun K hK=>?_) (zR rfl rfl (fun K hK=>?_) AllReadyH.nil)
    ·skip
     have kc:=format_any _ _ d (snapP []) wt9 (hd1.below st9).tight hrec (HT.out.below st9 hT1) (Nat.lt_of_lt_of_le hT1 st9.size) (by rw [snapP_nil];intro b hb;rw [List.mem_singleton.1 hb,len_bytes_nil];decide) (by rw [snapP_nil];decide)
     rw [← HR.out] at kc
     unfold DLE at kc
     simp only [logV] at kc
     go_simp
     refine kc.mono ?_
     rintro e wt10 ⟨⟨vr,rfl,hdr⟩,hb⟩
     clear kc hrec
     obtain⟨r1,r2,r3,r4,rfl,_,_⟩:=hdr.parts
     have st10:=st9.trans (hb.mono st9.size)
     refine hK.out _ _ trivial ?_
     clear hK K hb
     refine wpAnyH_part [(false,3),(false,4),(false,5),(false,6)] (by kernel_rfl) trivial ?_
     repeat (first | (refine zS rfl rfl ?_;simp only [Act.put,zq1,zq2,zq3]) | (refine zT rfl ?_ rfl (fun w' hw'=>?_) ?_;rotate_left;(go_simp;first | done | with_reducible rfl);(try simp only [Act.put,zq1,zq2,zq3])))
     refine zN ?_
     refine wpAnyH_ready (rs:=[7]) (by kernel_rfl) (by simp) ?_
     refine zR rfl rfl (fun K hK=>?_) AllReadyH.nil
     ·skip
      obtain⟨wt11,G,hw,hg,hG,hb,hlt,hle⟩:=fresh_log wt10
      have st11:=st10.trans (hb.mono st10.size)
      have lG:w1.heap.size≤G:=Nat.le_trans st10.size hle
      have hdr:=(hdr.below hb).tight
      refine op_alloc 41 rfl (zero_log _) hw.out ?_
      rw [← hg.out]
      refine hK.out _ _ trivial ?_
      clear hK K hw hg hb hlt hle
      simp only [Act.put,zq1,zq2,zq3]
      have hs1:=HS1.out
      have hRD:=(st11.block _ (zB R0)).trans R0
      obtain⟨wx,hst,hnA,hbx,hzx,hkx,_⟩:=storeBig info_disk hRD rfl #[.slice r1 r.1.secs.length r2,.slice r3 r.1.loose.length r4,.int .i64 r.1.fuse,.bool r.1.down] rfl (ones4 rfl rfl rfl rfl)
      have hGx:wx.heap[G]?=_:=(hkx G (by omega)).trans hG
      obtain⟨wy,hst2,hnB,hby,hzy,hky,_⟩:=storeBig info_log hGx rfl #[.int .i64 r.2.1.half,.int .i64 r.2.1.gen,.int .i64 r.2.1.used,.int .i64 r.2.1.count] rfl (ones4 rfl rfl rfl rfl)
      have hdx:=hdr.kept hRD (by simp) hkx
      have hdy:=hdx.kept hGx (by simp) hky
      have hmid:FormatMid w r wy (.pointer (some ⟨G,0,none⟩)) (.int .i64 r.2.2):=by
       refine⟨G,rfl,rfl,by omega,⟨r1,r2,r3,r4,(hky _ (by omega)).trans hnA,by rw [hzy,hzx];exact hdy⟩,hnB,?_,?_,?_⟩
       ·exact (hky _ (by omega)).trans ((hkx _ (by omega)).trans ((st11.block _ (zB R1)).trans R1))
       ·exact (hky _ (by omega)).trans ((hkx _ (by omega)).trans ((st11.block _ (zB R2)).trans R2))
       ·exact (((hb1.trans (st11.mono hb1.size)).trans hbx).trans (hby.mono (by omega)))
      have HMID:=zh hmid
      refine wpAnyH_end [(true,8),(true,9),(false,10)] (by kernel_rfl) trivial ?_
      refine zA rfl rfl fun K hK=>?_
      refine op_store (.tmp 1) (.tmp 11) 38 rfl rfl rfl hst ?_
      refine hK.out _ _ trivial ?_
      clear hK K hst
      simp only [Act.put,zq1,zq2,zq3]
      refine zA rfl rfl fun K hK=>?_
      refine op_store (.tmp 5) (.tmp 12) 41 rfl rfl rfl hst2 ?_
      refine hK.out _ _ trivial ?_
      clear hK K hst2
      simp only [Act.put,zq1,zq2,zq3]
      repeat (first | (refine zS rfl rfl ?_;simp only [Act.put,zq1,zq2,zq3]) | (refine zT rfl ?_ rfl (fun w' hw'=>?_) ?_;rotate_left;(go_simp;first | done | with_reducible rfl);(try simp only [Act.put,zq1,zq2,zq3])))
      refine zN ?_
      clear hmid hdx hdy hkx hky hnA hnB hRD hGx hG hdr
      go_wp2_with fail
      go_meet
      case rel=>exact HMID.out
    ·skip
     obtain⟨wt12,G,hw,hg,hG,hb,hlt,hle⟩:=fresh_log wt9
     have st12:=st9.trans (hb.mono st9.size)
     have lG:w1.heap.size≤G:=Nat.le_trans st9.size hle
     have hrec:=(hrec.below hb).tight
     refine op_alloc 41 rfl (zero_log _) hw.out ?_
     rw [← hg.out]
     refine hK.out _ _ trivial ?_
     clear hK K hw hg hb hlt hle
     simp only [Act.put,zq1,zq2,zq3]
     refine wpAnyH_ready (rs:=[2]) (by kernel_rfl) (by simp) ?_
     refine zR rfl rfl (fun K hK=>?_) AllReadyH.nil
     ·skip
      have kc:=format_any _ _ d (snapP []) wt12 (hd1.below st12).tight hrec (HT.out.below st12 hT1) (Nat.lt_of_lt_of_le hT1 st12.size) (by rw [snapP_nil];intro b hb;rw [List.mem_singleton.1 hb,len_bytes_nil];decide) (by rw [snapP_nil];decide)
      rw [← HR.out] at kc
      unfold DLE at kc
      simp only [logV] at kc
      go_simp
      refine kc.mono ?_
      rintro e wt13 ⟨⟨vr,rfl,hdr⟩,hb⟩
      clear kc hrec
      obtain⟨r1,r2,r3,r4,rfl,_,_⟩:=hdr.parts
      have st13:=st12.trans (hb.mono st12.size)
      have hG:=hG.below hb
      refine hK.out _ _ trivial ?_
      clear hK K hb
      refine wpAnyH_part [(false,3),(false,4),(false,5),(false,6)] (by kernel_rfl) trivial ?_
      repeat (first | (refine zS rfl rfl ?_;simp only [Act.put,zq1,zq2,zq3]) | (refine zT rfl ?_ rfl (fun w' hw'=>?_) ?_;rotate_left;(go_simp;first | done | with_reducible rfl);(try simp only [Act.put,zq1,zq2,zq3])))
      refine zN ?_
      have hs1:=HS1.out
      have hRD:=(st13.block _ (zB R0)).trans R0
      obtain⟨wx,hst,hnA,hbx,hzx,hkx,_⟩:=storeBig info_disk hRD rfl #[.slice r1 r.1.secs.length r2,.slice r3 r.1.loose.length r4,.int .i64 r.1.fuse,.bool r.1.down] rfl (ones4 rfl rfl rfl rfl)
      have hGx:wx.heap[G]?=_:=(hkx G (by omega)).trans hG
      obtain⟨wy,hst2,hnB,hby,hzy,hky,_⟩:=storeBig info_log hGx rfl #[.int .i64 r.2.1.half,.int .i64 r.2.1.gen,.int .i64 r.2.1.used,.int .i64 r.2.1.count] rfl (ones4 rfl rfl rfl rfl)
      have hdx:=hdr.kept hRD (by simp) hkx
      have hdy:=hdx.kept hGx (by simp) hky
      have hmid:FormatMid w r wy (.pointer (some ⟨G,0,none⟩)) (.int .i64 r.2.2):=by
       refine⟨G,rfl,rfl,by omega,⟨r1,r2,r3,r4,(hky _ (by omega)).trans hnA,by rw [hzy,hzx];exact hdy⟩,hnB,?_,?_,?_⟩
       ·exact (hky _ (by omega)).trans ((hkx _ (by omega)).trans ((st13.block _ (zB R1)).trans R1))
       ·exact (hky _ (by omega)).trans ((hkx _ (by omega)).trans ((st13.block _ (zB R2)).trans R2))
       ·exact (((hb1.trans (st13.mono hb1.size)).trans hbx).trans (hby.mono (by omega)))
      have HMID:=zh hmid
      refine wpAnyH_end [(true,8),(true,9),(false,10)] (by kernel_rfl) trivial ?_
      refine zA rfl rfl fun K hK=>?_
      refine op_store (.tmp 1) (.tmp 11) 38 rfl rfl rfl hst ?_
      refine hK.out _ _ trivial ?_
      clear hK K hst
      simp only [Act.put,zq1,zq2,zq3]
      refine zA rfl rfl fun K hK=>?_
      refine op_store (.tmp 5) (.tmp 12) 41 rfl rfl rfl hst2 ?_
      refine hK.out _ _ trivial ?_
      clear hK K hst2
      simp only [Act.put,zq1,zq2,zq3]
      repeat (first | (refine zS rfl rfl ?_;simp only [Act.put,zq1,zq2,zq3]) | (refine zT rfl ?_ rfl (fun w' hw'=>?_) ?_;rotate_left;(go_simp;first | done | with_reducible rfl);(try simp only [Act.put,zq1,zq2,zq3])))
      refine zN ?_
      clear hmid hdx hdy hkx hky hnA hnB hRD hGx hG hdr
      go_wp2_with fail
      go_meet
      case rel=>exact HMID.out
   ·skip
    obtain⟨wt14,G,hw,hg,hG,hb,hlt,hle⟩:=fresh_log wt9
    have st14:=st9.trans (hb.mono st9.size)
    have lG:w1.heap.size≤G:=Nat.le_trans st9.size hle
    have hrec:=(hrec.below hb).tight
    refine op_alloc 41 rfl (zero_log _) hw.out ?_
    rw [← hg.out]
    refine hK.out _ _ trivial ?_
    clear hK K hw hg hb hlt hle
    simp only [Act.put,zq1,zq2,zq3]
    refine wpAnyH_ready (rs:=[0]) (by kernel_rfl) (by simp) ?_
    refine zR rfl rfl (fun K hK=>?_) AllReadyH.nil
    ·skip
     refine op_load (.tmp 1) 38 rfl rfl (run_loadVar_row (P:=Tryz.prog) wt14 w.heap.size 38 38 _ (0,0) _ ((st14.block _ (zB R0)).trans R0) Tryz.underlying38 rfl zQ) ?_
     refine hK.out _ _ trivial ?_
     clear hK K
     simp only [Act.put,zq1,zq2,zq3]
     refine wpAnyH_ready (rs:=[2]) (by kernel_rfl) (by simp) ?_
     refine zR rfl rfl (fun K hK=>?_) AllReadyH.nil
     ·skip
      have kc:=format_any _ _ d (snapP []) wt14 (hd1.below st14).tight hrec (HT.out.below st14 hT1) (Nat.lt_of_lt_of_le hT1 st14.size) (by rw [snapP_nil];intro b hb;rw [List.mem_singleton.1 hb,len_bytes_nil];decide) (by rw [snapP_nil];decide)
      rw [← HR.out] at kc
      unfold DLE at kc
      simp only [logV] at kc
      go_simp
      refine kc.mono ?_
      rintro e wt15 ⟨⟨vr,rfl,hdr⟩,hb⟩
      clear kc hrec
      obtain⟨r1,r2,r3,r4,rfl,_,_⟩:=hdr.parts
      have st15:=st14.trans (hb.mono st14.size)
      have hG:=hG.below hb
      refine hK.out _ _ trivial ?_
      clear hK K hb
      refine wpAnyH_part [(false,3),(false,4),(false,5),(false,6)] (by kernel_rfl) trivial ?_
      repeat (first | (refine zS rfl rfl ?_;simp only [Act.put,zq1,zq2,zq3]) | (refine zT rfl ?_ rfl (fun w' hw'=>?_) ?_;rotate_left;(go_simp;first | done | with_reducible rfl);(try simp only [Act.put,zq1,zq2,zq3])))
      refine zN ?_
      have hs1:=HS1.out
      have hRD:=(st15.block _ (zB R0)).trans R0
      obtain⟨wx,hst,hnA,hbx,hzx,hkx,_⟩:=storeBig info_disk hRD rfl #[.slice r1 r.1.secs.length r2,.slice r3 r.1.loose.length r4,.int .i64 r.1.fuse,.bool r.1.down] rfl (ones4 rfl rfl rfl rfl)
      have hGx:wx.heap[G]?=_:=(hkx G (by omega)).trans hG
      obtain⟨wy,hst2,hnB,hby,hzy,hky,_⟩:=storeBig info_log hGx rfl #[.int .i64 r.2.1.half,.int .i64 r.2.1.gen,.int .i64 r.2.1.used,.int .i64 r.2.1.count] rfl (ones4 rfl rfl rfl rfl)
      have hdx:=hdr.kept hRD (by simp) hkx
      have hdy:=hdx.kept hGx (by simp) hky
      have hmid:FormatMid w r wy (.pointer (some ⟨G,0,none⟩)) (.int .i64 r.2.2):=by
       refine⟨G,rfl,rfl,by omega,⟨r1,r2,r3,r4,(hky _ (by omega)).trans hnA,by rw [hzy,hzx];exact hdy⟩,hnB,?_,?_,?_⟩
       ·exact (hky _ (by omega)).trans ((hkx _ (by omega)).trans ((st15.block _ (zB R1)).trans R1))
       ·exact (hky _ (by omega)).trans ((hkx _ (by omega)).trans ((st15.block _ (zB R2)).trans R2))
       ·exact (((hb1.trans (st15.mono hb1.size)).trans hbx).trans (hby.mono (by omega)))
      have HMID:=zh hmid
      refine wpAnyH_end [(true,8),(true,9),(false,10)] (by kernel_rfl) trivial ?_
      refine zA rfl rfl fun K hK=>?_
      refine op_store (.tmp 1) (.tmp 11) 38 rfl rfl rfl hst ?_
      refine hK.out _ _ trivial ?_
      clear hK K hst
      simp only [Act.put,zq1,zq2,zq3]
      refine zA rfl rfl fun K hK=>?_
      refine op_store (.tmp 5) (.tmp 12) 41 rfl rfl rfl hst2 ?_
      refine hK.out _ _ trivial ?_
      clear hK K hst2
      simp only [Act.put,zq1,zq2,zq3]
      repeat (first | (refine zS rfl rfl ?_;simp only [Act.put,zq1,zq2,zq3]) | (refine zT rfl ?_ rfl (fun w' hw'=>?_) ?_;rotate_left;(go_simp;first | done | with_reducible rfl);(try simp only [Act.put,zq1,zq2,zq3])))
      refine zN ?_
      clear hmid hdx hdy hkx hky hnA hnB hRD hGx hG hdr
      go_wp2_with fail
      go_meet
      case rel=>exact HMID.out
  ·skip
   obtain⟨wt16,G,hw,hg,hG,hb,hlt,hle⟩:=fresh_log w1.drew
   have st16:=s0.trans (hb.mono s0.size)
   have lG:w1.heap.size≤G:=Nat.le_trans s0.size hle
   refine op_alloc 41 rfl (zero_log _) hw.out ?_
   rw [← hg.out]
   refine hK.out _ _ trivial ?_
   clear hK K hw hg hb hlt hle
   simp only [Act.put,zq1,zq2,zq3]
   refine wpAnyH_ready (rs:=[0,1]) (by kernel_rfl) (by simp) ?_
   refine zR rfl rfl (fun K hK=>?_) (zR rfl rfl (fun K hK=>?_) AllReadyH.nil)
   ·skip
    refine op_load (.tmp 1) 38 rfl rfl (run_loadVar_row (P:=Tryz.prog) wt16 w.heap.size 38 38 _ (0,0) _ ((st16.block _ (zB R0)).trans R0) Tryz.underlying38 rfl zQ) ?_
    refine hK.out _ _ trivial ?_
    clear hK K
    simp only [Act.put,zq1,zq2,zq3]
    refine wpAnyH_ready (rs:=[1]) (by kernel_rfl) (by simp) ?_
    refine zR rfl rfl (fun K hK=>?_) AllReadyH.nil
    ·skip
     have kc:=snapshot_any (.slice none 0 0) [] wt16 (Row.nil 0 wt16 2) (by simp) (by simp)
     go_simp
     refine kc.mono ?_
     rintro e wt17 ⟨u1,rfl,hu1,hb⟩
     clear kc
     have st17:=st16.trans (hb.mono st16.size)
     have hrec:=hu1.pieces
     clear hu1
     have hG:=hG.below hb
     refine hK.out _ _ trivial ?_
     clear hK K hb
     refine wpAnyH_ready (rs:=[2]) (by kernel_rfl) (by simp) ?_
     refine zR rfl rfl (fun K hK=>?_) AllReadyH.nil
     ·skip
      have kc:=format_any _ _ d (snapP []) wt17 (hd1.below st17).tight hrec (HT.out.below st17 hT1) (Nat.lt_of_lt_of_le hT1 st17.size) (by rw [snapP_nil];intro b hb;rw [List.mem_singleton.1 hb,len_bytes_nil];decide) (by rw [snapP_nil];decide)
      rw [← HR.out] at kc
      unfold DLE at kc
      simp only [logV] at kc
      go_simp
      refine kc.mono ?_
      rintro e wt18 ⟨⟨vr,rfl,hdr⟩,hb⟩
      clear kc hrec
      obtain⟨r1,r2,r3,r4,rfl,_,_⟩:=hdr.parts
      have st18:=st17.trans (hb.mono st17.size)
      have hG:=hG.below hb
      refine hK.out _ _ trivial ?_
      clear hK K hb
      refine wpAnyH_part [(false,3),(false,4),(false,5),(false,6)] (by kernel_rfl) trivial ?_
      repeat (first | (refine zS rfl rfl ?_;simp only [Act.put,zq1,zq2,zq3]) | (refine zT rfl ?_ rfl (fun w' hw'=>?_) ?_;rotate_left;(go_simp;first | done | with_reducible rfl);(try simp only [Act.put,zq1,zq2,zq3])))
      refine zN ?_
      have hs1:=HS1.out
      have hRD:=(st18.block _ (zB R0)).trans R0
      obtain⟨wx,hst,hnA,hbx,hzx,hkx,_⟩:=storeBig info_disk hRD rfl #[.slice r1 r.1.secs.length r2,.slice r3 r.1.loose.length r4,.int .i64 r.1.fuse,.bool r.1.down] rfl (ones4 rfl rfl rfl rfl)
      have hGx:wx.heap[G]?=_:=(hkx G (by omega)).trans hG
      obtain⟨wy,hst2,hnB,hby,hzy,hky,_⟩:=storeBig info_log hGx rfl #[.int .i64 r.2.1.half,.int .i64 r.2.1.gen,.int .i64 r.2.1.used,.int .i64 r.2.1.count] rfl (ones4 rfl rfl rfl rfl)
      have hdx:=hdr.kept hRD (by simp) hkx
      have hdy:=hdx.kept hGx (by simp) hky
      have hmid:FormatMid w r wy (.pointer (some ⟨G,0,none⟩)) (.int .i64 r.2.2):=by
       refine⟨G,rfl,rfl,by omega,⟨r1,r2,r3,r4,(hky _ (by omega)).trans hnA,by rw [hzy,hzx];exact hdy⟩,hnB,?_,?_,?_⟩
       ·exact (hky _ (by omega)).trans ((hkx _ (by omega)).trans ((st18.block _ (zB R1)).trans R1))
       ·exact (hky _ (by omega)).trans ((hkx _ (by omega)).trans ((st18.block _ (zB R2)).trans R2))
       ·exact (((hb1.trans (st18.mono hb1.size)).trans hbx).trans (hby.mono (by omega)))
      have HMID:=zh hmid
      refine wpAnyH_end [(true,8),(true,9),(false,10)] (by kernel_rfl) trivial ?_
      refine zA rfl rfl fun K hK=>?_
      refine op_store (.tmp 1) (.tmp 11) 38 rfl rfl rfl hst ?_
      refine hK.out _ _ trivial ?_
      clear hK K hst
      simp only [Act.put,zq1,zq2,zq3]
      refine zA rfl rfl fun K hK=>?_
      refine op_store (.tmp 5) (.tmp 12) 41 rfl rfl rfl hst2 ?_
      refine hK.out _ _ trivial ?_
      clear hK K hst2
      simp only [Act.put,zq1,zq2,zq3]
      repeat (first | (refine zS rfl rfl ?_;simp only [Act.put,zq1,zq2,zq3]) | (refine zT rfl ?_ rfl (fun w' hw'=>?_) ?_;rotate_left;(go_simp;first | done | with_reducible rfl);(try simp only [Act.put,zq1,zq2,zq3])))
      refine zN ?_
      clear hmid hdx hdy hkx hky hnA hnB hRD hGx hG hdr
      go_wp2_with fail
      go_meet
      case rel=>exact HMID.out
   ·skip
    have kc:=snapshot_any (.slice none 0 0) [] wt16 (Row.nil 0 wt16 2) (by simp) (by simp)
    go_simp
    refine kc.mono ?_
    rintro e wt19 ⟨u1,rfl,hu1,hb⟩
    clear kc
    have st19:=st16.trans (hb.mono st16.size)
    have hrec:=hu1.pieces
    clear hu1
    have hG:=hG.below hb
    refine hK.out _ _ trivial ?_
    clear hK K hb
    refine wpAnyH_ready (rs:=[0]) (by kernel_rfl) (by simp) ?_
    refine zR rfl rfl (fun K hK=>?_) AllReadyH.nil
    ·skip
     refine op_load (.tmp 1) 38 rfl rfl (run_loadVar_row (P:=Tryz.prog) wt19 w.heap.size 38 38 _ (0,0) _ ((st19.block _ (zB R0)).trans R0) Tryz.underlying38 rfl zQ) ?_
     refine hK.out _ _ trivial ?_
     clear hK K
     simp only [Act.put,zq1,zq2,zq3]
     refine wpAnyH_ready (rs:=[2]) (by kernel_rfl) (by simp) ?_
     refine zR rfl rfl (fun K hK=>?_) AllReadyH.nil
     ·skip
      have kc:=format_any _ _ d (snapP []) wt19 (hd1.below st19).tight hrec (HT.out.below st19 hT1) (Nat.lt_of_lt_of_le hT1 st19.size) (by rw [snapP_nil];intro b hb;rw [List.mem_singleton.1 hb,len_bytes_nil];decide) (by rw [snapP_nil];decide)
      rw [← HR.out] at kc
      unfold DLE at kc
      simp only [logV] at kc
      go_simp
      refine kc.mono ?_
      rintro e wt20 ⟨⟨vr,rfl,hdr⟩,hb⟩
      clear kc hrec
      obtain⟨r1,r2,r3,r4,rfl,_,_⟩:=hdr.parts
      have st20:=st19.trans (hb.mono st19.size)
      have hG:=hG.below hb
      refine hK.out _ _ trivial ?_
      clear hK K hb
      refine wpAnyH_part [(false,3),(false,4),(false,5),(false,6)] (by kernel_rfl) trivial ?_
      repeat (first | (refine zS rfl rfl ?_;simp only [Act.put,zq1,zq2,zq3]) | (refine zT rfl ?_ rfl (fun w' hw'=>?_) ?_;rotate_left;(go_simp;first | done | with_reducible rfl);(try simp only [Act.put,zq1,zq2,zq3])))
      refine zN ?_
      have hs1:=HS1.out
      have hRD:=(st20.block _ (zB R0)).trans R0
      obtain⟨wx,hst,hnA,hbx,hzx,hkx,_⟩:=storeBig info_disk hRD rfl #[.slice r1 r.1.secs.length r2,.slice r3 r.1.loose.length r4,.int .i64 r.1.fuse,.bool r.1.down] rfl (ones4 rfl rfl rfl rfl)
      have hGx:wx.heap[G]?=_:=(hkx G (by omega)).trans hG
      obtain⟨wy,hst2,hnB,hby,hzy,hky,_⟩:=storeBig info_log hGx rfl #[.int .i64 r.2.1.half,.int .i64 r.2.1.gen,.int .i64 r.2.1.used,.int .i64 r.2.1.count] rfl (ones4 rfl rfl rfl rfl)
      have hdx:=hdr.kept hRD (by simp) hkx
      have hdy:=hdx.kept hGx (by simp) hky
      have hmid:FormatMid w r wy (.pointer (some ⟨G,0,none⟩)) (.int .i64 r.2.2):=by
       refine⟨G,rfl,rfl,by omega,⟨r1,r2,r3,r4,(hky _ (by omega)).trans hnA,by rw [hzy,hzx];exact hdy⟩,hnB,?_,?_,?_⟩
       ·exact (hky _ (by omega)).trans ((hkx _ (by omega)).trans ((st20.block _ (zB R1)).trans R1))
       ·exact (hky _ (by omega)).trans ((hkx _ (by omega)).trans ((st20.block _ (zB R2)).trans R2))
       ·exact (((hb1.trans (st20.mono hb1.size)).trans hbx).trans (hby.mono (by omega)))
      have HMID:=zh hmid
      refine wpAnyH_end [(true,8),(true,9),(false,10)] (by kernel_rfl) trivial ?_
      refine zA rfl rfl fun K hK=>?_
      refine op_store (.tmp 1) (.tmp 11) 38 rfl rfl rfl hst ?_
      refine hK.out _ _ trivial ?_
      clear hK K hst
      simp only [Act.put,zq1,zq2,zq3]
      refine zA rfl rfl fun K hK=>?_
      refine op_store (.tmp 5) (.tmp 12) 41 rfl rfl rfl hst2 ?_
      refine hK.out _ _ trivial ?_
      clear hK K hst2
      simp only [Act.put,zq1,zq2,zq3]
      repeat (first | (refine zS rfl rfl ?_;simp only [Act.put,zq1,zq2,zq3]) | (refine zT rfl ?_ rfl (fun w' hw'=>?_) ?_;rotate_left;(go_simp;first | done | with_reducible rfl);(try simp only [Act.put,zq1,zq2,zq3])))
      refine zN ?_
      clear hmid hdx hdy hkx hky hnA hnB hRD hGx hG hdr
      go_wp2_with fail
      go_meet
      case rel=>exact HMID.out
 case rest =>
  obtain⟨G,rfl,rfl,hG3,hDx,hLx,hRC,hRS,hbx⟩:=hcut
  obtain⟨a0,n0,b0,m0,TX,hvX⟩:=id hDx
  have s0:zK (w.heap.size+1) (w.heap.size+1+1) wc wc.drew:=zK.drew (zK.refl _ _ _)
  obtain⟨wa,wb,st1,st2,ka,kb,HLD⟩:=laid_DS (wx:=wc.drew) (a0:=a0) (a1:=b0) (n0:=n0) (n1:=m0) (d:=r.1) (l:=r.2.1) (pv:=(.slice none 0 0)) (s:=[]) hRC rfl hRS rfl (by omega) ((hvX.below (zD (Below.refl _ _) 1)).tight) ⟨none,0,rfl⟩ (fun w' _ _=>Row.nil _ _ _)
  have sa:zK (w.heap.size+1) (w.heap.size+1+1) wc wa:=zK.trans_ s0 (fun k h1 _=>ka k h1)
  have sb:zK (w.heap.size+1) (w.heap.size+1+1) wc wb:=zK.trans_ s0 kb
  have X0:∀ w':World,zK (w.heap.size+1) (w.heap.size+1+1) wc w'→w'.cell? ⟨w.heap.size,0,none⟩=some (.slice a0 r.1.secs.length n0):=fun w' h=>cR w' _ 0 _ _ _ ((h w.heap.size (by omega) (by omega)).trans TX)
  have X1:∀ w':World,zK (w.heap.size+1) (w.heap.size+1+1) wc w'→w'.cell? ⟨w.heap.size,1,none⟩=some (.slice b0 r.1.loose.length m0):=fun w' h=>cR w' _ 1 _ _ _ ((h w.heap.size (by omega) (by omega)).trans TX)
  have X2:∀ w':World,zK (w.heap.size+1) (w.heap.size+1+1) wc w'→w'.cell? ⟨w.heap.size,2,none⟩=some (.int .i64 r.1.fuse):=fun w' h=>cR w' _ 2 _ _ _ ((h w.heap.size (by omega) (by omega)).trans TX)
  have X3:∀ w':World,zK (w.heap.size+1) (w.heap.size+1+1) wc w'→w'.cell? ⟨w.heap.size,3,none⟩=some (.bool r.1.down):=fun w' h=>cR w' _ 3 _ _ _ ((h w.heap.size (by omega) (by omega)).trans TX)
  have N0:∀ w':World,zK (w.heap.size+1) (w.heap.size+1+1) wc w'→w'.cell? ⟨G,0,none⟩=some (.int .i64 r.2.1.half):=fun w' h=>cR w' _ 0 _ _ _ ((h G (by omega) (by omega)).trans hLx)
  have N1:∀ w':World,zK (w.heap.size+1) (w.heap.size+1+1) wc w'→w'.cell? ⟨G,1,none⟩=some (.int .i64 r.2.1.gen):=fun w' h=>cR w' _ 1 _ _ _ ((h G (by omega) (by omega)).trans hLx)
  have N2:∀ w':World,zK (w.heap.size+1) (w.heap.size+1+1) wc w'→w'.cell? ⟨G,2,none⟩=some (.int .i64 r.2.1.used):=fun w' h=>cR w' _ 2 _ _ _ ((h G (by omega) (by omega)).trans hLx)
  have N3:∀ w':World,zK (w.heap.size+1) (w.heap.size+1+1) wc w'→w'.cell? ⟨G,3,none⟩=some (.int .i64 r.2.1.count):=fun w' h=>cR w' _ 3 _ _ _ ((h G (by omega) (by omega)).trans hLx)
  have HBZ:=zh (HLD.out.2.2.2.2 w.heap.size w ((hbx).trans (zD (Below.refl _ _) 1)) (by omega) (by omega))
  clear ka kb TX hvX
  go_wp2_with fail
  refine zI [(false,0),(false,1),(false,2),(false,3),(true,4),(true,5),(false,6)] (zK (w.heap.size+1) (w.heap.size+1+1) wc) (by kernel_rfl) (by kernel_rfl) s0 ?_
  repeat (first | (refine zS rfl rfl ?_;simp only [Act.put,zq1,zq2,zq3]) | (refine zT rfl ?_ rfl (fun w' hw'=>?_) ?_;rotate_left;(go_simp;first | done | with_reducible rfl);(try simp only [Act.put,zq1,zq2,zq3])))
  refine zA rfl rfl fun K hK=>?_
  refine op_store (.tmp 2) (.tmp 14) 38 rfl rfl rfl st1 ?_
  refine hK.out _ _ sa ?_
  clear hK K st1
  simp only [Act.put,zq1,zq2,zq3]
  refine zA rfl rfl fun K hK=>?_
  refine op_store (.tmp 3) (.tmp 16) 44 rfl rfl rfl st2 ?_
  refine hK.out _ _ sb ?_
  clear hK K st2
  simp only [Act.put,zq1,zq2,zq3]
  repeat (first | (refine zS rfl rfl ?_;simp only [Act.put,zq1,zq2,zq3]) | (refine zT rfl ?_ rfl (fun w' hw'=>?_) ?_;rotate_left;(go_simp;first | done | with_reducible rfl);(try simp only [Act.put,zq1,zq2,zq3])))
  refine zN ?_
  go_wp2_with fail
  refine bodyPost_ret (results_cct rfl _ _ (w.heap.size+1) (w.heap.size+1+1) _ _ _ _ _ _ _ _ rfl rfl HLD.out.1 HLD.out.2.1 Tryz.underlying38 rfl zQ Tryz.underlying44 rfl size_store) rfl ?_
  exact⟨⟨_,_,rfl,HLD.out.2.2.1,HLD.out.2.2.2.1⟩,HBZ.out⟩
end
end Go.Proofs.YtaijompnohkmaaaGreatDoor
