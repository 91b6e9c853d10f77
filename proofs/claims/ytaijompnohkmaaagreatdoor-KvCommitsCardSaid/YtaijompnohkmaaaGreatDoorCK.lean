/- Layer 5 (wal), the document's answer: a half is laid. -/
import Derived.Test.YtaijompnohkmaaaGreatDoorCJ
import Derived.Maps.OwnSet
import Derived.Maps.StringElems
import Derived.Sort.KeysCollected
import Derived.Shelf.SlIter.Nil
import Derived.Shelf.SortM.Plain
import Derived.Shelf.SortM.SortNone
import Derived.Ground.GgzProg
import Derived.Ground.SlgmProg
import Derived.Test.YtaijompnohkmaaaGreatDoorProg
import Derived.Sort.Walk0
set_option linter.unusedSimpArgs false
set_option linter.unusedVariables false
namespace Go.Proofs.YtaijompnohkmaaaGreatDoor
section
open Go.RowKit WalP PackP
set_option maxRecDepth 100000 in
set_option maxHeartbeats 4000000 in
theorem wlay_any {g:Nat} (x:DiskP×Int) (which gen:Int) (v:Value) (list:List (List UInt8)) (w:World) (hh:WorkAt g w x) (hv:Pieces g w v list)
  (hw0:0≤which*(half x.1:Nat)) (hw1:which*(half x.1:Nat)≤2^20) (hl1:∀ b∈list,b.length≤2^20) (hl2:list.length≤2^20) (hl3:list≠[]) :
  Calls Tryz.prog 103 #[.pointer (some ⟨g,0,none⟩),.int .i64 which,.int .i64 gen,v] w fun e w'=>e = .returned (.tuple #[])∧WorkAt g w' ((layD (half x.1) which gen list).foldl stepW x)∧w.grownBy w' (some g):=by
 obtain⟨H,hH⟩:∃ H,H=half x.1:=⟨_,rfl⟩
 have HH:=zh hh
 have hlt:=hh.lt
 obtain⟨p1,q1,p2,q2,hg,hd⟩:=hh
 have hS2:x.1.secs.length≤2^63-1:=by
  obtain⟨sv,lv,hv',h1,_⟩:=hd
  cases hv'
  obtain⟨_,a',c',hv',hn,hc,_⟩:=h1.2
  cases hv'
  unfold maxLen at hc
  omega
 have hH2:H≤2^62:=by rw [hH];unfold half;omega
 obtain⟨a,c,rfl,hnc,hc63,hat⟩:=hv.at_
 rw [← hH] at hw0 hw1 ⊢
 have C0:=cR w _ 0 _ _ _ hg
 obtain⟨S,hS⟩:∃ S,S=x.1.secs.length:=⟨_,rfl⟩
 rw [← hS] at C0 hS2
 have hSH:(S:Int) / 2=(H:Int):=by rw [hH,hS];unfold half;omega
 have HAT:=zh hat
 have HL1:=zh hl1
 have HL3:=zh hl3
 have HHH:=zh hH
 have HB0:=fun w=>zh (run_build0 w)
 obtain⟨Z,hZ⟩:∃ Z,Z=(u8s zeroS).toArray:=⟨_,rfl⟩
 simp only [← hZ] at HB0
 have HZ:=zh hZ
 obtain⟨n,hn⟩:∃ n,n=list.length:=⟨_,rfl⟩
 rw [← hn] at hnc hl2 ⊢
 have HN:=zh hn
 have HSH:=zh hSH
 clear hv hat hl1 hl3 hg hd hH hZ hn hS hSH
 go_enter Tryz.func103,Tryz.ntmps103
 go_upto_region 1 with (fail)
 rw [HSH.out]
 obtain⟨F,hF⟩:∃ F,F=which*(H:Int):=⟨_,rfl⟩
 go_upto_region 2 with (fail)
 rw [← hF] at hw0 hw1 ⊢
 have HF:=zh hF
 clear hF
 go_wp2_with fail
 go_loopw [10] (fun z wr=>∃ (k:Nat) (xk:DiskP×Int),k≤H∧z = .int .i64 k∧WorkAt g wr xk∧xk=((zerosD F H).take k).foldl stepW x∧w.grownBy wr (some g)) (fun z _=>H-(intOf z).toNat)
 case atStart=>exact⟨0,x,Nat.zero_le _,rfl,HH.out,rfl,only_refl _ _⟩
 case round =>
  obtain⟨k,xk,hk,rfl,hh,hxk,ho⟩:=hrel
  have HXK:=zh hxk
  have HO:=zh ho
  have HWK:=zh hh
  clear hh hxk ho
  by_cases hkH:k<H
  ·have k0:decide ((k:Int)<(H:Int))=true:=by simp;omega
   have hsum:IntKind.i64.wrap (F+(k:Int))=F+(k:Int):=by
    simp only [IntKind.wrap,IntKind.bits,IntKind.signed]
    simp
    omega
   have kp:=wput_any xk (F+(k:Int)) zeroS wr HWK.out rfl
   rw [← HZ.out] at kp
   have hst:stepW xk (.put (F+(k:Int)) zeroS)=((zerosD F H).take (k+1)).foldl stepW x:=by
    rw [zerosD_succ F H k hkH,List.foldl_append,← HXK.out];rfl
   rw [hst] at kp
   have hb0:=(HB0 wr).out
   clear hst
   go_wp2_with (refine wp_build_l 94 [] rfl rfl rfl hb0 ?_;refine Halt.in ?_)
   refine Halt.out ?_
   clear hb0
   go_wp2_with fail
   refine kp.mono ?_
   rintro e w3 ⟨rfl,hw3,ho3⟩
   have HO3:=zh (zO HO.out ho3)
   have HW3:=zh hw3
   clear kp hw3 ho3
   go_wp2_with fail
   go_roundw
   case rel=>exact⟨k+1,_,by omega,by go_num,HW3.out,rfl,HO3.out⟩
   case measure=>simp [intOf];omega
  ·have k0:decide ((k:Int)<(H:Int))=false:=by simp;omega
   obtain rfl:k=H:=by omega
   have kf:=wflush_any xk wr HWK.out
   have hst:stepW xk .flush=(layA F k gen list 0).foldl stepW x:=by
    rw [layA_zero,List.foldl_append,HXK.out,zerosD_all F k k (Nat.le_refl _)];rfl
   rw [hst] at kf
   clear hst
   go_wp2_with fail
   refine kf.mono ?_
   rintro e w3 ⟨rfl,hw3,ho3⟩
   have HO3:=zh (zO HO.out ho3)
   have HW3:=zh hw3
   clear kf hw3 ho3
   go_wp2_with fail
   go_loopw [11,12] (fun y z wr=>∃ (i:Nat) (xi:DiskP×Int),i≤n∧z = .int .i64 i∧y = .int .i64 (F+posN (list.take i))∧WorkAt g wr xi∧xi=(layA F k gen list i).foldl stepW x∧w.grownBy wr (some g)) (fun _ z _=>n-(intOf z).toNat)
   case atStart=>exact⟨0,_,Nat.zero_le _,rfl,by simp [posN],HW3.out,rfl,HO3.out⟩
   case round =>
    obtain⟨i,xi,hi,rfl,rfl,hh,hxi,ho⟩:=hrel
    have HXI:=zh hxi
    have HOI:=zh ho
    have HWI:=zh hh
    have hbg:=below_hand ho hlt
    have hpl:=posN_le (list.take i)
    have hpl2:(list.take i).length≤i:=List.length_take_le _ _
    obtain⟨ps,hps⟩:∃ ps,ps=posN (list.take i):=⟨_,rfl⟩
    rw [← hps] at hpl ⊢
    have HPS:=zh hps
    clear hh hxi ho HW3 HO3 HWK HO hps
    obtain⟨at_,hate⟩:∃ z,z=F+(ps:Int):=⟨_,rfl⟩
    have hat0:0≤at_:=by omega
    have hat1:at_≤2^30:=by omega
    rw [← hate]
    have HATE:=zh hate
    by_cases hin:i<n
    ·have k1:decide ((i:Int)<(n:Int))=true:=by simp;omega
     have hil:i<list.length:=HN.out▸hin
     obtain⟨b,off,a2,c2,rfl,hbg2,hcell⟩:=HAT.out i hil
     obtain⟨hE,hBy⟩:=hcell wr hbg
     have HCELL:=zh hcell
     have hbl:=HL1.out _ (List.getElem_mem hil)
     obtain⟨bl,hbe⟩:∃ bl,bl=list[i]:=⟨_,rfl⟩
     rw [← hbe] at hE hBy hbl
     have HBE:=zh hbe
     have kb:=wbytes_any xi at_ _ bl wr HWI.out hBy hbl hat0 (by omega)
     have HBY:=zh hBy
     have hstep:layA F k gen list (i+1)=layA F k gen list i++recD at_ gen i bl:=by
      rw [layA_succ F k gen list i hil,HATE.out,HPS.out,HBE.out]
     have HSTEP:=zh hstep
     have hpos:(F+(posN (list.take (i+1)):Nat):Int)=at_+(takes bl.length:Nat):=by
      have e:list.take (i+1)=list.take i++[list[i]]:=by rw [List.take_add_one,List.getElem?_eq_getElem hil];rfl
      rw [e,posN_append,HATE.out,HPS.out,HBE.out]
      simp [posN]
      omega
     have HPOS:=zh hpos
     have hi0:(0:Int)≤(i:Int):=by omega
     have hi1:(i:Int)<(n:Int):=by omega
     have htk:=takes_le bl.length
     clear hcell hBy hbe hate hstep hpos
     go_wp2_with fail
     refine kb.mono ?_
     rintro e w4 ⟨rfl,hw4,ho4⟩
     have HO4:=zh (zO HOI.out ho4)
     have HW4:=zh hw4
     have hbg4:=below_hand HO4.out hlt
     obtain⟨hE4,hBy4⟩:=HCELL.out w4 hbg4
     rw [← HBE.out] at hE4 hBy4
     have kt:=fun w=>refTakes_any (bl.length:Int) w
     simp only [takesZ_nat] at kt
     clear kb hw4 ho4 hbg4 hE hbg
     by_cases hi0':i=0
     ·subst hi0'
      have hst:(bytesD at_ bl).foldl stepW xi=(layA F k gen list (0+1)).foldl stepW x:=by
       rw [HSTEP.out,List.foldl_append,← HXI.out,recD,if_neg (Nat.lt_irrefl 0),List.append_nil]
      have HST:=zh hst
      have kt:=kt w4
      rw [Nat.add_zero] at hE4
      clear hst hBy4
      go_wp2_with fail
      refine kt.mono ?_
      rintro e w9 ⟨rfl,rfl⟩
      clear kt
      go_wp2_with fail
      go_roundw
      case rel=>exact⟨0+1,_,by omega,by go_num,by rw [HPOS.out],HW4.out,HST.out,HO4.out⟩
      case measure=>simp [intOf];omega
     ·have hi2:decide ((0:Int)<(i:Int))=true:=by simp;omega
      have hbl40:bl.length≤2^40:=by omega
      have km:=refMark_any gen i _ bl w4 hBy4 hbl40
      clear hBy4
      go_wp2_with fail
      refine km.mono ?_
      rintro e w5 ⟨rfl,hb5⟩
      have hw5:=HW4.out.below hb5
      have kp:=wput_any _ at_ (markOf gen i bl) w5 hw5 (length_markS _ _ _ _)
      have hst:stepW ((bytesD at_ bl).foldl stepW xi) (.put at_ (markOf gen i bl))=(layA F k gen list (i+1)).foldl stepW x:=by
       rw [HSTEP.out,List.foldl_append,← HXI.out,recD,if_pos (by omega),List.foldl_append];rfl
      rw [hst] at kp
      have HO5:=zh (zO HO4.out (only_of_below hb5))
      clear hst hw5 hb5 km
      go_wp2_with fail
      refine kp.mono ?_
      rintro e w6 ⟨rfl,hw6,ho6⟩
      have HO6:=zh (zO HO5.out ho6)
      have HW6:=zh hw6
      have hbg6:=below_hand HO6.out hlt
      obtain⟨hE6,hBy6⟩:=HCELL.out w6 hbg6
      rw [← HBE.out] at hE6 hBy6
      have kt:=kt w6
      clear kp hw6 ho6 hbg6 hBy6 hE4
      go_wp2_with fail
      refine kt.mono ?_
      rintro e w9 ⟨rfl,rfl⟩
      clear kt
      go_wp2_with fail
      go_roundw
      case rel=>exact⟨i+1,_,by omega,by go_num,by rw [HPOS.out],HW6.out,rfl,HO6.out⟩
      case measure=>simp [intOf];omega
    ·have k1:decide ((i:Int)<(n:Int))=false:=by simp;omega
     obtain rfl:i=n:=by omega
     have kf:=wflush_any xi wr HWI.out
     have hn0:0<i:=by
      rw [HN.out]
      exact List.length_pos_iff.2 HL3.out
     have hil:0<list.length:=HN.out▸hn0
     obtain⟨b,off,a2,c2,rfl,hbg2,hcell⟩:=HAT.out 0 hil
     have HCELL:=zh hcell
     have hhead:list.headD []=list[0]:=by cases list with | nil=>simp at hil | cons x l=>rfl
     have heq:=layD_eq k which gen list
     rw [← HF.out,hhead] at heq
     have hbl:=HL1.out _ (List.getElem_mem hil)
     obtain⟨bl,hbe⟩:∃ bl,bl=list[0]:=⟨_,rfl⟩
     rw [← hbe] at heq hbl
     have HBE:=zh hbe
     have HEQ:=zh heq
     have hi1:(0:Int)<(i:Int):=by omega
     clear hcell hhead heq hbe
     go_wp2_with fail
     refine kf.mono ?_
     rintro e w3 ⟨rfl,hw3,ho3⟩
     have HO3:=zh (zO HOI.out ho3)
     have HW3:=zh hw3
     have hbg3:=below_hand HO3.out hlt
     obtain⟨hE,hBy⟩:=HCELL.out w3 hbg3
     rw [Nat.add_zero] at hE
     rw [← HBE.out] at hE hBy
     have km:=refMark_any gen 0 _ bl w3 hBy (by omega)
     clear kf hw3 ho3 hbg3 hBy
     go_wp2_with fail
     refine km.mono ?_
     rintro e w5 ⟨rfl,hb5⟩
     have hw5:=HW3.out.below hb5
     have kp:=wput_any _ F (markOf gen 0 bl) w5 hw5 (length_markS _ _ _ _)
     have HO5:=zh (zO HO3.out (only_of_below hb5))
     clear hw5 hb5 km hE
     go_wp2_with fail
     refine kp.mono ?_
     rintro e w6 ⟨rfl,hw6,ho6⟩
     have HO6:=zh (zO HO5.out ho6)
     have kf:=wflush_any _ w6 hw6
     have hall:stepW (stepW (stepW xi .flush) (.put F (markOf gen 0 bl))) .flush=(layD k which gen list).foldl stepW x:=by
      rw [HEQ.out,List.foldl_append,← HN.out,← HXI.out];rfl
     rw [hall] at kf
     clear hall kp hw6 ho6
     go_wp2_with fail
     refine kf.mono ?_
     rintro e w7 ⟨rfl,hw7,ho7⟩
     have HO7:=zh (zO HO6.out ho7)
     have HW7:=zh hw7
     clear kf hw7 ho7
     go_wp2_with fail
     go_end0
     exact⟨rfl,HW7.out,HO7.out⟩
end
section
open Go.RowKit WalP PackP
theorem exit_work {w wx:World} {ga gb gc ge:Nat} {x0 x1 x2 x3 x4 y0 y1 y2 y3:Value} {d:DiskP} (A:wx.heap[ga]?=some (.cells #[x0,x1,x2,x3,x4] 140 (0,0))) (B:wx.heap[gb]?=some (.cells #[y0,y1,y2,y3] 41 (0,0)))
  (C:wx.heap[gc]?=some (.cells #[.slice none 0 0,.slice none 0 0,.int .i64 0,.bool false] 38 (0,0))) (E:wx.heap[ge]?=some (.cells #[.int .i64 0,.int .i64 0,.int .i64 0,.int .i64 0] 41 (0,0)))
  (hd:DiskV wx.heap.size wx (.agg #[x0,x1,x2,x3]) d) (hb:Below w.heap.size w wx) (hc:w.heap.size≤gc) (he:w.heap.size≤ge) (nce:gc≠ge) (nca:gc≠ga) (ncb:gc≠gb) (nea:ge≠ga) (neb:ge≠gb) :
  ∃ oa ob wa wb,Hid (wa=((((wx.setCell ⟨gc,0,none⟩ x0).setCell ⟨gc,1,none⟩ x1).setCell ⟨gc,2,none⟩ x2).setCell ⟨gc,3,none⟩ x3).drew)∧Hid (wb=(((wa.setCell ⟨ge,0,none⟩ y0).setCell ⟨ge,1,none⟩ y1).setCell ⟨ge,2,none⟩ y2).setCell ⟨ge,3,none⟩ y3)∧Two ga gb oa ob wx.drew∧Two ga gb oa ob wa∧Two ga gb oa ob wb ∧
   (∀ w',Two ga gb oa ob w'→w'.cell? ⟨ga,0,none⟩=some x0)∧(∀ w',Two ga gb oa ob w'→w'.cell? ⟨ga,1,none⟩=some x1)∧(∀ w',Two ga gb oa ob w'→w'.cell? ⟨ga,2,none⟩=some x2)∧(∀ w',Two ga gb oa ob w'→w'.cell? ⟨ga,3,none⟩=some x3)∧(∀ w',Two ga gb oa ob w'→w'.cell? ⟨ga,4,none⟩=some x4) ∧
   (∀ w',Two ga gb oa ob w'→w'.cell? ⟨gb,0,none⟩=some y0)∧(∀ w',Two ga gb oa ob w'→w'.cell? ⟨gb,1,none⟩=some y1)∧(∀ w',Two ga gb oa ob w'→w'.cell? ⟨gb,2,none⟩=some y2)∧(∀ w',Two ga gb oa ob w'→w'.cell? ⟨gb,3,none⟩=some y3) ∧
   wx.cell? ⟨gc,0,none⟩=some (.slice none 0 0)∧wx.cell? ⟨gc,1,none⟩=some (.slice none 0 0)∧wx.cell? ⟨gc,2,none⟩=some (.int .i64 0)∧wx.cell? ⟨gc,3,none⟩=some (.bool false)∧(∀ o,wx.frozen? ⟨gc,o,none⟩=false) ∧
   wa.cell? ⟨ge,0,none⟩=some (.int .i64 0)∧wa.cell? ⟨ge,1,none⟩=some (.int .i64 0)∧wa.cell? ⟨ge,2,none⟩=some (.int .i64 0)∧wa.cell? ⟨ge,3,none⟩=some (.int .i64 0)∧(∀ o,wa.frozen? ⟨ge,o,none⟩=false) ∧
   Hid (wb.heap[gc]?=some (.cells #[x0,x1,x2,x3] 38 (0,0))∧wb.heap[ge]?=some (.cells #[y0,y1,y2,y3] 41 (0,0))∧DiskV wb.heap.size wb (.agg #[x0,x1,x2,x3]) d∧Below w.heap.size w wb):=by
 have C':wx.drew.heap[gc]?=some (.cells #[.slice none 0 0,.slice none 0 0,.int .i64 0,.bool false] 38 (0,0)):=C
 have E':wx.drew.heap[ge]?=some (.cells #[.int .i64 0,.int .i64 0,.int .i64 0,.int .i64 0] 41 (0,0)):=E
 have s0:Two ga gb (.cells #[x0,x1,x2,x3,x4] 140 (0,0)) (.cells #[y0,y1,y2,y3] 41 (0,0)) wx.drew:=⟨A,B⟩
 have sa:Two ga gb (.cells #[x0,x1,x2,x3,x4] 140 (0,0)) (.cells #[y0,y1,y2,y3] 41 (0,0)) (put4 wx.drew gc x0 x1 x2 x3):=⟨put4_far s0.1 nca _ _ _ _,put4_far s0.2 ncb _ _ _ _⟩
 have sb:Two ga gb (.cells #[x0,x1,x2,x3,x4] 140 (0,0)) (.cells #[y0,y1,y2,y3] 41 (0,0)) (put4 (put4 wx.drew gc x0 x1 x2 x3) ge y0 y1 y2 y3):=⟨put4_far sa.1 nea _ _ _ _,put4_far sa.2 neb _ _ _ _⟩
 have Ea:(put4 wx.drew gc x0 x1 x2 x3).heap[ge]?=some (.cells #[.int .i64 0,.int .i64 0,.int .i64 0,.int .i64 0] 41 (0,0)):=put4_far E' nce _ _ _ _
 exact⟨_,_,put4 wx.drew gc x0 x1 x2 x3,put4 (put4 wx.drew gc x0 x1 x2 x3) ge y0 y1 y2 y3,zh rfl,zh rfl,s0,sa,sb,
  fun w' h=>cR w' _ 0 _ _ _ h.1,fun w' h=>cR w' _ 1 _ _ _ h.1,fun w' h=>cR w' _ 2 _ _ _ h.1,fun w' h=>cR w' _ 3 _ _ _ h.1,fun w' h=>cR w' _ 4 _ _ _ h.1,
  fun w' h=>cR w' _ 0 _ _ _ h.2,fun w' h=>cR w' _ 1 _ _ _ h.2,fun w' h=>cR w' _ 2 _ _ _ h.2,fun w' h=>cR w' _ 3 _ _ _ h.2,
  cR wx _ 0 _ _ _ C,cR wx _ 1 _ _ _ C,cR wx _ 2 _ _ _ C,cR wx _ 3 _ _ _ C,zF C,
  cR _ _ 0 _ _ _ Ea,cR _ _ 1 _ _ _ Ea,cR _ _ 2 _ _ _ Ea,cR _ _ 3 _ _ _ Ea,zF Ea,
  zh (exit_dl y0 y1 y2 y3 C' E' hd nce (zD hb 1) hc he)⟩
theorem work_new {w:World} {g:Nat} {a0 a1:Option Addr} {n0 n1:Nat} {d:DiskP} (hg:w.heap[g]?=some (.cells #[.slice a0 d.secs.length n0,.slice a1 d.loose.length n1,.int .i64 d.fuse,.bool d.down,.int .i64 0] 140 (0,0))) (hd:DiskV w.heap.size w (.agg #[.slice a0 d.secs.length n0,.slice a1 d.loose.length n1,.int .i64 d.fuse,.bool d.down]) d):WorkAt g w (d,0):=⟨a0,n0,a1,n1,hg,hd⟩
set_option maxRecDepth 100000 in
set_option maxHeartbeats 8000000 in
theorem refAppend_any {B:Nat} (v bv:Value) (d:DiskP) (l:LogP) (b:List UInt8) (w:World) (hd:DiskV B w v d) (hv:Bytes B w bv b) :
  Calls Tryz.prog 65 #[v,logV l,bv] w (DLE w (appendP d l b)):=by
 have hd:=hd.tight
 have hv:=hv.tight
 obtain⟨sa,sc,rfl⟩:=hv.form
 obtain⟨p1,q1,p2,q2,rfl,_,_⟩:=hd.parts
 obtain⟨w4,hw4,hb4,hs4,R0,R1,R2,R3⟩:=four w (.cells #[.slice p1 d.secs.length q1,.slice p2 d.loose.length q2,.int .i64 d.fuse,.bool d.down] 38) (.cells #[.int .i64 l.half,.int .i64 l.gen,.int .i64 l.used,.int .i64 l.count] 41) (.cells #[.slice none 0 0,.slice none 0 0,.int .i64 0,.bool false] 38) (.cells #[.int .i64 0,.int .i64 0,.int .i64 0,.int .i64 0] 41)
 have hd4:=(hd.below hb4).tight
 have hv4:=hv.below hb4
 have HW4:=zh hw4
 clear hw4
 have k1:=refTakes_any (b.length:Int) w4
 rw [takesZ_nat] at k1
 obtain⟨tk,htk⟩:∃ tk,tk=takes b.length:=⟨_,rfl⟩
 rw [← htk] at k1
 have HTK:=zh htk
 have kr:=refRight5_any _ d l w4 hd4
 simp only [logV] at kr
 obtain⟨R,hR⟩:∃ R,R=rightL d l:=⟨_,rfl⟩
 rw [← hR] at kr
 have HR:=zh hR
 clear htk hR
 have C0:=cR w4 _ 0 _ _ _ R0
 have C1:=cR w4 _ 1 _ _ _ R0
 have C2:=cR w4 _ 2 _ _ _ R0
 have C3:=cR w4 _ 3 _ _ _ R0
 have N0:=cR w4 _ 0 _ _ _ R1
 have N1:=cR w4 _ 1 _ _ _ R1
 have N2:=cR w4 _ 2 _ _ _ R1
 have N3:=cR w4 _ 3 _ _ _ R1
 cases R with
 | false =>
  have hF:appendP d l b=(d,l,1):=by unfold appendP;rw [if_pos (.inr HR.out.symm)]
  rw [hF]
  clear hF
  unfold DLE logV
  go_enter Tryz.func65,Tryz.ntmps65
  go_upto_region 1 with (fail)
  rw [← HW4.out]
  go_wp2_with fail
  refine k1.mono ?_
  rintro e w5 ⟨rfl,rfl⟩
  clear k1
  go_wp2_with fail
  refine kr.mono ?_
  rintro e w6 ⟨rfl,hb6⟩
  clear C0 C1 C2 C3 N0 N1 N2 N3 kr
  have S0:=(hb6.block _ (zB R0)).trans R0
  have S1:=(hb6.block _ (zB R1)).trans R1
  have S2:=(hb6.block _ (zB R2)).trans R2
  have S3:=(hb6.block _ (zB R3)).trans R3
  have hd6:=(hd4.below hb6).tight
  have hb06:=hb4.trans (hb6.mono hb4.size)
  obtain⟨oa,ob,wa,wb,HWA,HWB,s0,sa,sb,L0,L1,L2,L3,M0,M1,M2,M3,D0,D1,D2,D3,Z2,F0,F1,F2,F3,Z3,HX⟩:=exit_all (w:=w) (wx:=w6) S0 S1 S2 S3 hd6 hb06 (by omega) (by omega) (by omega) (by omega) (by omega) (by omega) (by omega)
  clear R0 R1 R2 R3 S0 S1 S2 S3 hd hv hd4 hv4 hb4 hs4 hd6 hb6 hb06
  go_wp2_with fail
  refine zI [(false,0),(false,1),(true,2),(true,3),(false,4)] (Two w.heap.size (w.heap.size+1) oa ob) (by kernel_rfl) (by kernel_rfl) s0 ?_
  repeat (first | (refine zS rfl rfl ?_;simp only [Act.put,zq1,zq2,zq3]) | (refine zT rfl ?_ rfl (fun w' hw'=>?_) ?_;rotate_left;(go_simp;first | done | with_reducible rfl);(try simp only [Act.put,zq1,zq2,zq3])))
  refine zA rfl rfl fun K hK=>?_
  go_simp
  rw [← HWA.out]
  refine hK.out _ _ sa ?_
  clear hK K D0 D1 D2 D3 Z2
  refine zA rfl rfl fun K hK=>?_
  go_simp
  rw [← HWB.out]
  refine hK.out _ _ sb ?_
  clear hK K F0 F1 F2 F3 Z3
  repeat (first | (refine zS rfl rfl ?_;simp only [Act.put,zq1,zq2,zq3]) | (refine zT rfl ?_ rfl (fun w' hw'=>?_) ?_;rotate_left;(go_simp;first | done | with_reducible rfl);(try simp only [Act.put,zq1,zq2,zq3])))
  refine zN ?_
  go_wp2_with fail
  refine bodyPost_ret (results_cct rfl _ _ (w.heap.size+1+1) (w.heap.size+1+1+1) _ _ _ _ _ _ _ _ rfl rfl HX.out.1 HX.out.2.1 Tryz.underlying38 rfl zQ Tryz.underlying41 rfl size_log) rfl ?_
  exact⟨⟨_,rfl,HX.out.2.2.1⟩,HX.out.2.2.2⟩
 | true =>
  by_cases ht0:tk=0
  ·subst ht0
   have hF:appendP d l b=(d,l,1):=by unfold appendP;rw [if_pos (.inl HTK.out.symm)]
   rw [hF]
   clear hF
   unfold DLE logV
   go_enter Tryz.func65,Tryz.ntmps65
   go_upto_region 1 with (fail)
   rw [← HW4.out]
   go_wp2_with fail
   refine k1.mono ?_
   rintro e w5 ⟨rfl,rfl⟩
   clear k1
   go_wp2_with fail
   refine kr.mono ?_
   rintro e w6 ⟨rfl,hb6⟩
   clear C0 C1 C2 C3 N0 N1 N2 N3 kr
   have S0:=(hb6.block _ (zB R0)).trans R0
   have S1:=(hb6.block _ (zB R1)).trans R1
   have S2:=(hb6.block _ (zB R2)).trans R2
   have S3:=(hb6.block _ (zB R3)).trans R3
   have hd6:=(hd4.below hb6).tight
   have hb06:=hb4.trans (hb6.mono hb4.size)
   obtain⟨oa,ob,wa,wb,HWA,HWB,s0,sa,sb,L0,L1,L2,L3,M0,M1,M2,M3,D0,D1,D2,D3,Z2,F0,F1,F2,F3,Z3,HX⟩:=exit_all (w:=w) (wx:=w6) S0 S1 S2 S3 hd6 hb06 (by omega) (by omega) (by omega) (by omega) (by omega) (by omega) (by omega)
   clear R0 R1 R2 R3 S0 S1 S2 S3 hd hv hd4 hv4 hb4 hs4 hd6 hb6 hb06
   go_wp2_with fail
   refine zI [(false,0),(false,1),(true,2),(true,3),(false,4)] (Two w.heap.size (w.heap.size+1) oa ob) (by kernel_rfl) (by kernel_rfl) s0 ?_
   repeat (first | (refine zS rfl rfl ?_;simp only [Act.put,zq1,zq2,zq3]) | (refine zT rfl ?_ rfl (fun w' hw'=>?_) ?_;rotate_left;(go_simp;first | done | with_reducible rfl);(try simp only [Act.put,zq1,zq2,zq3])))
   refine zA rfl rfl fun K hK=>?_
   go_simp
   rw [← HWA.out]
   refine hK.out _ _ sa ?_
   clear hK K D0 D1 D2 D3 Z2
   refine zA rfl rfl fun K hK=>?_
   go_simp
   rw [← HWB.out]
   refine hK.out _ _ sb ?_
   clear hK K F0 F1 F2 F3 Z3
   repeat (first | (refine zS rfl rfl ?_;simp only [Act.put,zq1,zq2,zq3]) | (refine zT rfl ?_ rfl (fun w' hw'=>?_) ?_;rotate_left;(go_simp;first | done | with_reducible rfl);(try simp only [Act.put,zq1,zq2,zq3])))
   refine zN ?_
   go_wp2_with fail
   refine bodyPost_ret (results_cct rfl _ _ (w.heap.size+1+1) (w.heap.size+1+1+1) _ _ _ _ _ _ _ _ rfl rfl HX.out.1 HX.out.2.1 Tryz.underlying38 rfl zQ Tryz.underlying41 rfl size_log) rfl ?_
   exact⟨⟨_,rfl,HX.out.2.2.1⟩,HX.out.2.2.2⟩
  ·have t0:decide ((tk:Int)=0)=false:=by simp;omega
   obtain⟨b1,b2,b3,b4,b5,b6,b7,b8⟩:=rightL_bounds HR.out.symm
   obtain⟨Rm,hRm⟩:∃ Rm,Rm=roomP d l:=⟨_,rfl⟩
   have kroom:∀ w6:World,DiskV w6.heap.size w6 (.agg #[.slice p1 d.secs.length q1,.slice p2 d.loose.length q2,.int .i64 d.fuse,.bool d.down]) d→Calls Tryz.prog 113 #[.agg #[.slice p1 d.secs.length q1,.slice p2 d.loose.length q2,.int .i64 d.fuse,.bool d.down],.agg #[.int .i64 l.half,.int .i64 l.gen,.int .i64 l.used,.int .i64 l.count]] w6 fun e w'=>e = .returned (.int .i64 Rm)∧Below w6.heap.size w6 w':=fun w6 h=>by
    have:=refRoom_any _ d l w6 h
    rw [← hRm] at this
    exact this
   have HRM:=zh hRm
   have HKR:=zh kroom
   have htk95:tk≤95:=by rw [HTK.out];exact takes_le _
   clear hRm kroom
   by_cases hgt:Rm<(tk:Int)
   ·have hgt1:decide ((Rm:Int)<(tk:Int))=true:=by simp;omega
    have hF:appendP d l b=(d,l,8):=by
     unfold appendP
     rw [if_neg (by rw [← HTK.out,← HR.out];simp [ht0]),if_pos (by rw [← HRM.out,← HTK.out];exact hgt)]
    rw [hF]
    clear hF b1 b2 b3 b4 b5 b6 b7 b8
    unfold DLE logV
    go_enter Tryz.func65,Tryz.ntmps65
    go_upto_region 1 with (fail)
    rw [← HW4.out]
    go_wp2_with fail
    refine k1.mono ?_
    rintro e w5 ⟨rfl,rfl⟩
    clear k1
    go_wp2_with fail
    refine kr.mono ?_
    rintro e w6 ⟨rfl,hb6⟩
    clear C0 C1 C2 C3 N0 N1 N2 N3 kr
    have S0:=(hb6.block _ (zB R0)).trans R0
    have S1:=(hb6.block _ (zB R1)).trans R1
    have S2:=(hb6.block _ (zB R2)).trans R2
    have S3:=(hb6.block _ (zB R3)).trans R3
    have hd6:=(hd4.below hb6).tight
    have hb06:=hb4.trans (hb6.mono hb4.size)
    have C0:=cR w6 _ 0 _ _ _ S0
    have C1:=cR w6 _ 1 _ _ _ S0
    have C2:=cR w6 _ 2 _ _ _ S0
    have C3:=cR w6 _ 3 _ _ _ S0
    have N0:=cR w6 _ 0 _ _ _ S1
    have N1:=cR w6 _ 1 _ _ _ S1
    have N2:=cR w6 _ 2 _ _ _ S1
    have N3:=cR w6 _ 3 _ _ _ S1
    have kroom:=HKR.out w6 hd6
    go_wp2_with fail
    refine kroom.mono ?_
    rintro e w7 ⟨rfl,hb7⟩
    clear C0 C1 C2 C3 N0 N1 N2 N3 kroom
    have hb47:=hb6.trans (hb7.mono hb6.size)
    have hd7:=(hd6.below hb7).tight
    have hb07:=hb06.trans (hb7.mono (Nat.le_trans hb4.size hb6.size))
    clear S0 S1 S2 S3
    have S0:=(hb47.block _ (zB R0)).trans R0
    have S1:=(hb47.block _ (zB R1)).trans R1
    have S2:=(hb47.block _ (zB R2)).trans R2
    have S3:=(hb47.block _ (zB R3)).trans R3
    obtain⟨oa,ob,wa,wb,HWA,HWB,s0,sa,sb,L0,L1,L2,L3,M0,M1,M2,M3,D0,D1,D2,D3,Z2,F0,F1,F2,F3,Z3,HX⟩:=exit_all (w:=w) (wx:=w7) S0 S1 S2 S3 hd7 hb07 (by omega) (by omega) (by omega) (by omega) (by omega) (by omega) (by omega)
    clear R0 R1 R2 R3 S0 S1 S2 S3 hd hv hd4 hv4 hb4 hs4 hd6 hb6 hb06 hd7 hb7 hb07 hb47
    go_wp2_with fail
    refine zI [(false,0),(false,1),(true,2),(true,3),(false,4)] (Two w.heap.size (w.heap.size+1) oa ob) (by kernel_rfl) (by kernel_rfl) s0 ?_
    repeat (first | (refine zS rfl rfl ?_;simp only [Act.put,zq1,zq2,zq3]) | (refine zT rfl ?_ rfl (fun w' hw'=>?_) ?_;rotate_left;(go_simp;first | done | with_reducible rfl);(try simp only [Act.put,zq1,zq2,zq3])))
    refine zA rfl rfl fun K hK=>?_
    go_simp
    rw [← HWA.out]
    refine hK.out _ _ sa ?_
    clear hK K D0 D1 D2 D3 Z2
    refine zA rfl rfl fun K hK=>?_
    go_simp
    rw [← HWB.out]
    refine hK.out _ _ sb ?_
    clear hK K F0 F1 F2 F3 Z3
    repeat (first | (refine zS rfl rfl ?_;simp only [Act.put,zq1,zq2,zq3]) | (refine zT rfl ?_ rfl (fun w' hw'=>?_) ?_;rotate_left;(go_simp;first | done | with_reducible rfl);(try simp only [Act.put,zq1,zq2,zq3])))
    refine zN ?_
    go_wp2_with fail
    refine bodyPost_ret (results_cct rfl _ _ (w.heap.size+1+1) (w.heap.size+1+1+1) _ _ _ _ _ _ _ _ rfl rfl HX.out.1 HX.out.2.1 Tryz.underlying38 rfl zQ Tryz.underlying41 rfl size_log) rfl ?_
    exact⟨⟨_,rfl,HX.out.2.2.1⟩,HX.out.2.2.2⟩
   ·have hgt1:decide ((Rm:Int)<(tk:Int))=false:=by simp;omega
    obtain⟨at_,hat⟩:∃ a,a=l.half*(half d:Nat)+l.used:=⟨_,rfl⟩
    have hat0:0≤at_:=by rw [hat];rcases b1 with h | h <;> rw [h] <;> omega
    have hat1:at_≤2^20:=by rw [hat];rcases b1 with h | h <;> rw [h] <;> omega
    obtain⟨ds,hds⟩:∃ ds,ds=appendD d l b:=⟨_,rfl⟩
    obtain⟨r,hr⟩:∃ r,r=run d ds:=⟨_,rfl⟩
    have hF:appendP d l b=if r.2=0 then (r.1,{ l with used:=l.used+tk,count:=l.count+1 },0) else (r.1,l,r.2):=by
     unfold appendP
     rw [if_neg (by rw [← HTK.out,← HR.out];simp [ht0]),if_neg (by rw [← HRM.out,← HTK.out];exact hgt),← hds,← hr,HTK.out]
    have hlen:b.length≤2^20:=by
     have h:=HTK.out
     unfold takes at h
     split at h
     ·omega
     ·omega
    obtain⟨kn,hkn⟩:∃ kn:Nat,l.count=kn:=⟨l.count.toNat,by omega⟩
    have hds2:stepW (stepW (stepW ((bytesD at_ b).foldl stepW (d,0)) .flush) (.put at_ (markOf l.gen kn b))) .flush=r:=by
     rw [hr,hds]
     have e:=stepW_run (appendD d l b) (d,0)
     rw [if_pos rfl] at e
     rw [← e]
     unfold appendD
     rw [← hat,List.foldl_append,hkn]
     rfl
    have HDS:=zh hds2
    have HF:=zh hF
    obtain⟨Hf,hHf⟩:∃ Hf,Hf=half d:=⟨_,rfl⟩
    have hSH:(d.secs.length:Int) / 2=(Hf:Int):=by rw [hHf];unfold half;omega
    rw [← hHf] at hat b5 b8
    have hS13:d.secs.length≤2^13:=by omega
    have hm0:0≤l.half*((d.secs.length:Int) / 2):=by rcases b1 with h | h <;> rw [h] <;> omega
    have hm1:l.half*((d.secs.length:Int) / 2)≤2^20:=by rcases b1 with h | h <;> rw [h] <;> omega
    have hat2:l.half*((d.secs.length:Int) / 2)+l.used=at_:=by rw [hat,hSH]
    have HAT2:=zh hat2
    have HAT:=zh hat
    have HSH:=zh hSH
    have HKN:=zh hkn
    clear hF hr hds hds2 hat hHf hSH hkn hat2
    rw [HF.out]
    unfold DLE logV
    go_enter Tryz.func65,Tryz.ntmps65
    go_upto_region 1 with (fail)
    rw [← HW4.out]
    go_wp2_with fail
    refine k1.mono ?_
    rintro e w5 ⟨rfl,rfl⟩
    clear k1
    go_wp2_with fail
    refine kr.mono ?_
    rintro e w6 ⟨rfl,hb6⟩
    clear C0 C1 C2 C3 N0 N1 N2 N3 kr
    have S0:=(hb6.block _ (zB R0)).trans R0
    have S1:=(hb6.block _ (zB R1)).trans R1
    have S2:=(hb6.block _ (zB R2)).trans R2
    have S3:=(hb6.block _ (zB R3)).trans R3
    have hd6:=(hd4.below hb6).tight
    have hb06:=hb4.trans (hb6.mono hb4.size)
    have C0:=cR w6 _ 0 _ _ _ S0
    have C1:=cR w6 _ 1 _ _ _ S0
    have C2:=cR w6 _ 2 _ _ _ S0
    have C3:=cR w6 _ 3 _ _ _ S0
    have N0:=cR w6 _ 0 _ _ _ S1
    have N1:=cR w6 _ 1 _ _ _ S1
    have N2:=cR w6 _ 2 _ _ _ S1
    have N3:=cR w6 _ 3 _ _ _ S1
    have kroom:=HKR.out w6 hd6
    go_wp2_with fail
    refine kroom.mono ?_
    rintro e w7 ⟨rfl,hb7⟩
    clear C0 C1 C2 C3 N0 N1 N2 N3 kroom
    have hb47:=hb6.trans (hb7.mono hb6.size)
    have hd7:=(hd6.below hb7).tight
    have hb07:=hb06.trans (hb7.mono (Nat.le_trans hb4.size hb6.size))
    clear S0 S1 S2 S3
    have S0:=(hb47.block _ (zB R0)).trans R0
    have S1:=(hb47.block _ (zB R1)).trans R1
    have S2:=(hb47.block _ (zB R2)).trans R2
    have S3:=(hb47.block _ (zB R3)).trans R3
    obtain⟨w8,hw8⟩:∃ w8,w8=w7.alloc (.cells #[.slice p1 d.secs.length q1,.slice p2 d.loose.length q2,.int .i64 d.fuse,.bool d.down,.int .i64 0] 140):=⟨_,rfl⟩
    have C0:=cR w7 _ 0 _ _ _ S0
    have C1:=cR w7 _ 1 _ _ _ S0
    have C2:=cR w7 _ 2 _ _ _ S0
    have C3:=cR w7 _ 3 _ _ _ S0
    have N0:=cR w7 _ 0 _ _ _ S1
    have N1:=cR w7 _ 1 _ _ _ S1
    have N2:=cR w7 _ 2 _ _ _ S1
    have N3:=cR w7 _ 3 _ _ _ S1
    have hb8:Below w7.heap.size w7 w8:=by rw [hw8];exact Below.alloc (Below.refl _ _) (Nat.le_refl _) _
    have hrow8:w8.heap[w7.heap.size]?=some (.cells #[.slice p1 d.secs.length q1,.slice p2 d.loose.length q2,.int .i64 d.fuse,.bool d.down,.int .i64 0] 140 (0,0)):=by rw [hw8];exact heap_alloc_new w7 _
    have HWA8:=zh (work_new hrow8 (hd7.below hb8).tight)
    have HW8:=zh hw8
    have HRR:=zh (show _∧_∧_∧_ from ⟨R0,R1,R2,R3⟩)
    have HB4:=zh hb4
    have HB47:=zh hb47
    have HV7:=zh (hv4.below (hb47.mono hb4.size))
    have HB78:=zh hb8
    have hs7:=hb47.size
    obtain⟨g,hg⟩:∃ g,g=w7.heap.size:=⟨_,rfl⟩
    rw [← hg] at hrow8 HWA8 hs7
    have HG:=zh hg
    clear R0 R1 R2 R3 S0 S1 S2 S3 hd hv hd4 hv4 hb4 hd6 hb6 hb06 hd7 hb7 hb07 hb47 hw8 hb8 hrow8 hg
    go_upto_region 7 with (fail)
    rw [← HW8.out,← HG.out]
    clear C0 C1 C2 C3 N0 N1 N2 N3
    obtain⟨R0,R1,R2,R3⟩:=HRR.out
    have HB48:=zh (HB47.out.trans (HB78.out.mono HB47.out.size))
    have S0:=(HB48.out.block _ (zB R0)).trans R0
    have S1:=(HB48.out.block _ (zB R1)).trans R1
    have S2:=(HB48.out.block _ (zB R2)).trans R2
    have S3:=(HB48.out.block _ (zB R3)).trans R3
    have C0:=cR w8 _ 0 _ _ _ S0
    have N0:=cR w8 _ 0 _ _ _ S1
    have N1:=cR w8 _ 1 _ _ _ S1
    have N2:=cR w8 _ 2 _ _ _ S1
    have N3:=cR w8 _ 3 _ _ _ S1
    have HSS:=zh (show _∧_∧_∧_ from ⟨S0,S1,S2,S3⟩)
    have h8g:Below g w7 w8:=by rw [HG.out];exact HB78.out
    have HVG:=zh (show Bytes g w8 _ b from (HV7.out.below (h8g.mono (by omega))).mono (by omega))
    clear R0 R1 R2 R3 S0 S1 S2 S3 h8g
    go_upto_region 8 with (fail)
    rw [HAT2.out]
    have kb:=wbytes_any (d,0) at_ _ b w8 HWA8.out HVG.out hlen hat0 (by omega)
    clear C0 N0 N1 N2 N3
    go_wp2_with fail
    refine kb.mono ?_
    rintro e w9 ⟨rfl,hw9,ho9⟩
    have hlt:=HWA8.out.lt
    have kf:=wflush_any _ w9 hw9
    have HO9:=zh ho9
    clear kb hw9 ho9
    go_wp2_with fail
    refine kf.mono ?_
    rintro e w10 ⟨rfl,hw10,ho10⟩
    have HO10:=zh (zO HO9.out ho10)
    have HW10:=zh hw10
    have hb10:=below_hand HO10.out hlt
    have hv10:=HVG.out.below hb10
    have km:=refMark_any l.gen kn _ b w10 hv10 (by omega)
    rw [← HKN.out] at km
    have S1:=(hb10.block _ (by omega)).trans HSS.out.2.1
    have N0:=cR w10 _ 0 _ _ _ S1
    have N1:=cR w10 _ 1 _ _ _ S1
    have N2:=cR w10 _ 2 _ _ _ S1
    have N3:=cR w10 _ 3 _ _ _ S1
    clear kf hw10 ho10 hb10 hv10 S1
    go_wp2_with fail
    refine km.mono ?_
    rintro e w11 ⟨rfl,hb11⟩
    have kp:=wput_any _ at_ (markOf l.gen kn b) w11 (HW10.out.below hb11) (length_markS _ _ _ _)
    have HO11:=zh (zO HO10.out (only_of_below hb11))
    clear km hb11 N0 N1 N2 N3
    go_wp2_with fail
    refine kp.mono ?_
    rintro e w12 ⟨rfl,hw12,ho12⟩
    have kf:=wflush_any _ w12 hw12
    have HO12:=zh (zO HO11.out ho12)
    rw [HDS.out] at kf
    clear kp hw12 ho12
    go_wp2_with fail
    refine kf.mono ?_
    rintro e w13 ⟨rfl,hw13,ho13⟩
    have ho13:=zO HO12.out ho13
    clear kf
    obtain⟨a0,n0,a1,n1,T5,hd13⟩:=hw13
    have hb13:=below_hand ho13 hlt
    have S0:=(hb13.block _ (by omega)).trans HSS.out.1
    have S1:=(hb13.block _ (by omega)).trans HSS.out.2.1
    have S2:=(hb13.block _ (by omega)).trans HSS.out.2.2.1
    have S3:=(hb13.block _ (by omega)).trans HSS.out.2.2.2
    have hb013:Below w.heap.size w w13:=(HB4.out.trans (HB48.out.mono HB4.out.size)).trans (hb13.mono (by omega))
    have E4:=cR w13 _ 4 _ _ _ T5
    have HT0:=zh T5
    have HT1:=zh S1
    have HT2:=zh S2
    have HT3:=zh S3
    have HD13:=zh hd13
    have HB13:=zh hb013
    clear T5 hd13 S0 S1 S2 S3 hb13 hb013 ho13
    by_cases he:r.2=0
    ·have hne0:(r.2 != 0)=false:=by simp [he]
     rw [he] at hne0 HT0 E4
     have hwu:IntKind.i64.wrap (l.used+(tk:Int))=l.used+tk:=by
      simp only [IntKind.wrap,IntKind.bits,IntKind.signed]
      simp
      omega
     have hwc:IntKind.i64.wrap (l.count+1)=l.count+1:=by
      simp only [IntKind.wrap,IntKind.bits,IntKind.signed]
      simp
      omega
     obtain⟨w14,hw14,U1,hd14,keep14,below14⟩:=log_put (.int .i64 (l.used+tk)) (.int .i64 (l.count+1)) HT1.out HD13.out
     have U0:=keep14 _ _ (by omega) HT0.out
     have U2:=keep14 _ _ (by omega) HT2.out
     have U3:=keep14 _ _ (by omega) HT3.out
     have hb14:=below14 _ _ HB13.out (by omega)
     have HW14:=zh hw14
     have HU0:=zh U0
     have HU1:=zh U1
     have HU2:=zh U2
     have HU3:=zh U3
     have HD14:=zh hd14
     have HB14:=zh hb14
     have N0:=cR w13 _ 0 _ _ _ HT1.out
     have N1:=cR w13 _ 1 _ _ _ HT1.out
     have N2:=cR w13 _ 2 _ _ _ HT1.out
     have N3:=cR w13 _ 3 _ _ _ HT1.out
     have Z1:=zF HT1.out
     clear hw14 U0 U1 U2 U3 hd14 hb14 keep14 below14
     go_upto_region 15 with (fail)
     rw [← HW14.out]
     clear N0 N1 N2 N3 Z1 hwu hwc E4
     obtain⟨oa,ob,wa,wb,HWA,HWB,s0,sa,sb,L0,L1,L2,L3,L4,M0,M1,M2,M3,D0,D1,D2,D3,Z2,F0,F1,F2,F3,Z3,HX⟩:=exit_work (w:=w) (wx:=w14) HU0.out HU1.out HU2.out HU3.out HD14.out HB14.out (by omega) (by omega) (by omega) (by omega) (by omega) (by omega) (by omega)
     go_wp2_with fail
     refine zI [(false,0),(false,1),(false,2),(true,3),(true,4),(false,5)] (Two g (w.heap.size+1) oa ob) (by kernel_rfl) (by kernel_rfl) s0 ?_
     repeat (first | (refine zS rfl rfl ?_;simp only [Act.put,zq1,zq2,zq3]) | (refine zT rfl ?_ rfl (fun w' hw'=>?_) ?_;rotate_left;(go_simp;first | done | with_reducible rfl);(try simp only [Act.put,zq1,zq2,zq3])))
     refine zA rfl rfl fun K hK=>?_
     go_simp
     rw [← HWA.out]
     refine hK.out _ _ sa ?_
     clear hK K D0 D1 D2 D3 Z2
     refine zA rfl rfl fun K hK=>?_
     go_simp
     rw [← HWB.out]
     refine hK.out _ _ sb ?_
     clear hK K F0 F1 F2 F3 Z3
     repeat (first | (refine zS rfl rfl ?_;simp only [Act.put,zq1,zq2,zq3]) | (refine zT rfl ?_ rfl (fun w' hw'=>?_) ?_;rotate_left;(go_simp;first | done | with_reducible rfl);(try simp only [Act.put,zq1,zq2,zq3])))
     refine zN ?_
     go_wp2_with fail
     refine bodyPost_ret (results_cct rfl _ _ (w.heap.size+1+1) (w.heap.size+1+1+1) _ _ _ _ _ _ _ _ rfl rfl HX.out.1 HX.out.2.1 Tryz.underlying38 rfl zQ Tryz.underlying41 rfl size_log) rfl ?_
     exact⟨⟨_,rfl,HX.out.2.2.1⟩,HX.out.2.2.2⟩
    ·have hne0:(r.2 != 0)=true:=by simp [he]
     obtain⟨oa,ob,wa,wb,HWA,HWB,s0,sa,sb,L0,L1,L2,L3,L4,M0,M1,M2,M3,D0,D1,D2,D3,Z2,F0,F1,F2,F3,Z3,HX⟩:=exit_work (w:=w) (wx:=w13) HT0.out HT1.out HT2.out HT3.out HD13.out HB13.out (by omega) (by omega) (by omega) (by omega) (by omega) (by omega) (by omega)
     go_wp2_with fail
     refine zI [(false,0),(false,1),(false,2),(false,3),(false,4),(true,5),(true,6),(false,7)] (Two g (w.heap.size+1) oa ob) (by kernel_rfl) (by kernel_rfl) s0 ?_
     repeat (first | (refine zS rfl rfl ?_;simp only [Act.put,zq1,zq2,zq3]) | (refine zT rfl ?_ rfl (fun w' hw'=>?_) ?_;rotate_left;(go_simp;first | done | with_reducible rfl);(try simp only [Act.put,zq1,zq2,zq3])))
     refine zA rfl rfl fun K hK=>?_
     go_simp
     rw [← HWA.out]
     refine hK.out _ _ sa ?_
     clear hK K D0 D1 D2 D3 Z2
     refine zA rfl rfl fun K hK=>?_
     go_simp
     rw [← HWB.out]
     refine hK.out _ _ sb ?_
     clear hK K F0 F1 F2 F3 Z3
     repeat (first | (refine zS rfl rfl ?_;simp only [Act.put,zq1,zq2,zq3]) | (refine zT rfl ?_ rfl (fun w' hw'=>?_) ?_;rotate_left;(go_simp;first | done | with_reducible rfl);(try simp only [Act.put,zq1,zq2,zq3])))
     refine zN ?_
     go_wp2_with fail
     refine bodyPost_ret (results_cct rfl _ _ (w.heap.size+1+1) (w.heap.size+1+1+1) _ _ _ _ _ _ _ _ rfl rfl HX.out.1 HX.out.2.1 Tryz.underlying38 rfl zQ Tryz.underlying41 rfl size_log) rfl ?_
     exact⟨⟨_,rfl,HX.out.2.2.1⟩,HX.out.2.2.2⟩
end
section
open Go.RowKit WalP PackP
theorem exit_work2 {w wx:World} {ga gb gc ge:Nat} {x0 x1 x2 x3 x4 y0 y1 y2 y3:Value} {d:DiskP} (z0 z1 z2 z3:Value) (A:wx.heap[ga]?=some (.cells #[x0,x1,x2,x3,x4] 140 (0,0))) (B:wx.heap[gb]?=some (.cells #[y0,y1,y2,y3] 41 (0,0)))
  (C:wx.heap[gc]?=some (.cells #[.slice none 0 0,.slice none 0 0,.int .i64 0,.bool false] 38 (0,0))) (E:wx.heap[ge]?=some (.cells #[.int .i64 0,.int .i64 0,.int .i64 0,.int .i64 0] 41 (0,0)))
  (hd:DiskV wx.heap.size wx (.agg #[x0,x1,x2,x3]) d) (hb:Below w.heap.size w wx) (hc:w.heap.size≤gc) (he:w.heap.size≤ge) (nce:gc≠ge) (nca:gc≠ga) (ncb:gc≠gb) (nea:ge≠ga) (neb:ge≠gb) :
  ∃ oa ob wa wb,Hid (wa=((((wx.setCell ⟨gc,0,none⟩ x0).setCell ⟨gc,1,none⟩ x1).setCell ⟨gc,2,none⟩ x2).setCell ⟨gc,3,none⟩ x3).drew)∧Hid (wb=(((wa.setCell ⟨ge,0,none⟩ z0).setCell ⟨ge,1,none⟩ z1).setCell ⟨ge,2,none⟩ z2).setCell ⟨ge,3,none⟩ z3)∧Two ga gb oa ob wx.drew∧Two ga gb oa ob wa∧Two ga gb oa ob wb ∧
   (∀ w',Two ga gb oa ob w'→w'.cell? ⟨ga,0,none⟩=some x0)∧(∀ w',Two ga gb oa ob w'→w'.cell? ⟨ga,1,none⟩=some x1)∧(∀ w',Two ga gb oa ob w'→w'.cell? ⟨ga,2,none⟩=some x2)∧(∀ w',Two ga gb oa ob w'→w'.cell? ⟨ga,3,none⟩=some x3)∧(∀ w',Two ga gb oa ob w'→w'.cell? ⟨ga,4,none⟩=some x4) ∧
   (∀ w',Two ga gb oa ob w'→w'.cell? ⟨gb,0,none⟩=some y0)∧(∀ w',Two ga gb oa ob w'→w'.cell? ⟨gb,1,none⟩=some y1)∧(∀ w',Two ga gb oa ob w'→w'.cell? ⟨gb,2,none⟩=some y2)∧(∀ w',Two ga gb oa ob w'→w'.cell? ⟨gb,3,none⟩=some y3) ∧
   wx.cell? ⟨gc,0,none⟩=some (.slice none 0 0)∧wx.cell? ⟨gc,1,none⟩=some (.slice none 0 0)∧wx.cell? ⟨gc,2,none⟩=some (.int .i64 0)∧wx.cell? ⟨gc,3,none⟩=some (.bool false)∧(∀ o,wx.frozen? ⟨gc,o,none⟩=false) ∧
   wa.cell? ⟨ge,0,none⟩=some (.int .i64 0)∧wa.cell? ⟨ge,1,none⟩=some (.int .i64 0)∧wa.cell? ⟨ge,2,none⟩=some (.int .i64 0)∧wa.cell? ⟨ge,3,none⟩=some (.int .i64 0)∧(∀ o,wa.frozen? ⟨ge,o,none⟩=false) ∧
   Hid (wb.heap[gc]?=some (.cells #[x0,x1,x2,x3] 38 (0,0))∧wb.heap[ge]?=some (.cells #[z0,z1,z2,z3] 41 (0,0))∧DiskV wb.heap.size wb (.agg #[x0,x1,x2,x3]) d∧Below w.heap.size w wb):=by
 have C':wx.drew.heap[gc]?=some (.cells #[.slice none 0 0,.slice none 0 0,.int .i64 0,.bool false] 38 (0,0)):=C
 have E':wx.drew.heap[ge]?=some (.cells #[.int .i64 0,.int .i64 0,.int .i64 0,.int .i64 0] 41 (0,0)):=E
 have s0:Two ga gb (.cells #[x0,x1,x2,x3,x4] 140 (0,0)) (.cells #[y0,y1,y2,y3] 41 (0,0)) wx.drew:=⟨A,B⟩
 have sa:Two ga gb (.cells #[x0,x1,x2,x3,x4] 140 (0,0)) (.cells #[y0,y1,y2,y3] 41 (0,0)) (put4 wx.drew gc x0 x1 x2 x3):=⟨put4_far s0.1 nca _ _ _ _,put4_far s0.2 ncb _ _ _ _⟩
 have sb:Two ga gb (.cells #[x0,x1,x2,x3,x4] 140 (0,0)) (.cells #[y0,y1,y2,y3] 41 (0,0)) (put4 (put4 wx.drew gc x0 x1 x2 x3) ge z0 z1 z2 z3):=⟨put4_far sa.1 nea _ _ _ _,put4_far sa.2 neb _ _ _ _⟩
 have Ea:(put4 wx.drew gc x0 x1 x2 x3).heap[ge]?=some (.cells #[.int .i64 0,.int .i64 0,.int .i64 0,.int .i64 0] 41 (0,0)):=put4_far E' nce _ _ _ _
 exact⟨_,_,put4 wx.drew gc x0 x1 x2 x3,put4 (put4 wx.drew gc x0 x1 x2 x3) ge z0 z1 z2 z3,zh rfl,zh rfl,s0,sa,sb,
  fun w' h=>cR w' _ 0 _ _ _ h.1,fun w' h=>cR w' _ 1 _ _ _ h.1,fun w' h=>cR w' _ 2 _ _ _ h.1,fun w' h=>cR w' _ 3 _ _ _ h.1,fun w' h=>cR w' _ 4 _ _ _ h.1,
  fun w' h=>cR w' _ 0 _ _ _ h.2,fun w' h=>cR w' _ 1 _ _ _ h.2,fun w' h=>cR w' _ 2 _ _ _ h.2,fun w' h=>cR w' _ 3 _ _ _ h.2,
  cR wx _ 0 _ _ _ C,cR wx _ 1 _ _ _ C,cR wx _ 2 _ _ _ C,cR wx _ 3 _ _ _ C,zF C,
  cR _ _ 0 _ _ _ Ea,cR _ _ 1 _ _ _ Ea,cR _ _ 2 _ _ _ Ea,cR _ _ 3 _ _ _ Ea,zF Ea,
  zh (exit_dl z0 z1 z2 z3 C' E' hd nce (zD hb 1) hc he)⟩
set_option maxRecDepth 100000 in
set_option maxHeartbeats 8000000 in
theorem refCompact_any {B:Nat} (v lv:Value) (d:DiskP) (l:LogP) (list:List (List UInt8)) (w:World) (hd:DiskV B w v d) (hv:Pieces B w lv list) (hl1:∀ b∈list,b.length≤2^20) (hl2:list.length≤2^20) :
  Calls Tryz.prog 66 #[v,logV l,lv] w (DLE w (compactP d l list)):=by
 have hd:=hd.tight
 have hv:=hv.tight
 obtain⟨la,lc,rfl,_,_,_⟩:=id hv.at_
 obtain⟨p1,q1,p2,q2,rfl,_,_⟩:=hd.parts
 obtain⟨w4,hw4,hb4,hs4,R0,R1,R2,R3⟩:=four w (.cells #[.slice p1 d.secs.length q1,.slice p2 d.loose.length q2,.int .i64 d.fuse,.bool d.down] 38) (.cells #[.int .i64 l.half,.int .i64 l.gen,.int .i64 l.used,.int .i64 l.count] 41) (.cells #[.slice none 0 0,.slice none 0 0,.int .i64 0,.bool false] 38) (.cells #[.int .i64 0,.int .i64 0,.int .i64 0,.int .i64 0] 41)
 have hd4:=(hd.below hb4).tight
 have hv4:=hv.below hb4
 have HW4:=zh hw4
 clear hw4
 have k1:=refTakesL_any _ list w4 hv4 (by omega)
 have kr:=refRight5_any _ d l w4 hd4
 simp only [logV] at kr
 obtain⟨R,hR⟩:∃ R,R=rightL d l:=⟨_,rfl⟩
 rw [← hR] at kr
 have HR:=zh hR
 clear hR
 have C0:=cR w4 _ 0 _ _ _ R0
 have C1:=cR w4 _ 1 _ _ _ R0
 have C2:=cR w4 _ 2 _ _ _ R0
 have C3:=cR w4 _ 3 _ _ _ R0
 have N0:=cR w4 _ 0 _ _ _ R1
 have N1:=cR w4 _ 1 _ _ _ R1
 have N2:=cR w4 _ 2 _ _ _ R1
 have N3:=cR w4 _ 3 _ _ _ R1
 cases htot:total list with
 | none =>
  have hT':takesL list = -1:=by unfold takesL;rw [htot]
  rw [hT'] at k1
  have hF:compactP d l list=(d,l,1):=by unfold compactP;rw [htot]
  rw [hF]
  clear hF hT' htot
  unfold DLE logV
  cases R with
  | false =>
   go_enter Tryz.func66,Tryz.ntmps66
   go_upto_region 1 with (fail)
   rw [← HW4.out]
   go_wp2_with fail
   refine k1.mono ?_
   rintro e w5 ⟨rfl,rfl⟩
   clear k1
   go_wp2_with fail
   refine kr.mono ?_
   rintro e w6 ⟨rfl,hb6⟩
   clear C0 C1 C2 C3 N0 N1 N2 N3 kr
   have S0:=(hb6.block _ (zB R0)).trans R0
   have S1:=(hb6.block _ (zB R1)).trans R1
   have S2:=(hb6.block _ (zB R2)).trans R2
   have S3:=(hb6.block _ (zB R3)).trans R3
   have hd6:=(hd4.below hb6).tight
   have hb06:=hb4.trans (hb6.mono hb4.size)
   obtain⟨oa,ob,wa,wb,HWA,HWB,s0,sa,sb,L0,L1,L2,L3,M0,M1,M2,M3,D0,D1,D2,D3,Z2,F0,F1,F2,F3,Z3,HX⟩:=exit_all (w:=w) (wx:=w6) S0 S1 S2 S3 hd6 hb06 (by omega) (by omega) (by omega) (by omega) (by omega) (by omega) (by omega)
   clear R0 R1 R2 R3 S0 S1 S2 S3 hd hv hd4 hv4 hb4 hs4 hd6 hb6 hb06
   go_wp2_with fail
   refine zI [(false,0),(false,1),(true,2),(true,3),(false,4)] (Two w.heap.size (w.heap.size+1) oa ob) (by kernel_rfl) (by kernel_rfl) s0 ?_
   repeat (first | (refine zS rfl rfl ?_;simp only [Act.put,zq1,zq2,zq3]) | (refine zT rfl ?_ rfl (fun w' hw'=>?_) ?_;rotate_left;(go_simp;first | done | with_reducible rfl);(try simp only [Act.put,zq1,zq2,zq3])))
   refine zA rfl rfl fun K hK=>?_
   go_simp
   rw [← HWA.out]
   refine hK.out _ _ sa ?_
   clear hK K D0 D1 D2 D3 Z2
   refine zA rfl rfl fun K hK=>?_
   go_simp
   rw [← HWB.out]
   refine hK.out _ _ sb ?_
   clear hK K F0 F1 F2 F3 Z3
   repeat (first | (refine zS rfl rfl ?_;simp only [Act.put,zq1,zq2,zq3]) | (refine zT rfl ?_ rfl (fun w' hw'=>?_) ?_;rotate_left;(go_simp;first | done | with_reducible rfl);(try simp only [Act.put,zq1,zq2,zq3])))
   refine zN ?_
   go_wp2_with fail
   refine bodyPost_ret (results_cct rfl _ _ (w.heap.size+1+1) (w.heap.size+1+1+1) _ _ _ _ _ _ _ _ rfl rfl HX.out.1 HX.out.2.1 Tryz.underlying38 rfl zQ Tryz.underlying41 rfl size_log) rfl ?_
   exact⟨⟨_,rfl,HX.out.2.2.1⟩,HX.out.2.2.2⟩
  | true =>
   go_enter Tryz.func66,Tryz.ntmps66
   go_upto_region 1 with (fail)
   rw [← HW4.out]
   go_wp2_with fail
   refine k1.mono ?_
   rintro e w5 ⟨rfl,rfl⟩
   clear k1
   go_wp2_with fail
   refine kr.mono ?_
   rintro e w6 ⟨rfl,hb6⟩
   clear C0 C1 C2 C3 N0 N1 N2 N3 kr
   have S0:=(hb6.block _ (zB R0)).trans R0
   have S1:=(hb6.block _ (zB R1)).trans R1
   have S2:=(hb6.block _ (zB R2)).trans R2
   have S3:=(hb6.block _ (zB R3)).trans R3
   have hd6:=(hd4.below hb6).tight
   have hb06:=hb4.trans (hb6.mono hb4.size)
   obtain⟨oa,ob,wa,wb,HWA,HWB,s0,sa,sb,L0,L1,L2,L3,M0,M1,M2,M3,D0,D1,D2,D3,Z2,F0,F1,F2,F3,Z3,HX⟩:=exit_all (w:=w) (wx:=w6) S0 S1 S2 S3 hd6 hb06 (by omega) (by omega) (by omega) (by omega) (by omega) (by omega) (by omega)
   clear R0 R1 R2 R3 S0 S1 S2 S3 hd hv hd4 hv4 hb4 hs4 hd6 hb6 hb06
   go_wp2_with fail
   refine zI [(false,0),(false,1),(true,2),(true,3),(false,4)] (Two w.heap.size (w.heap.size+1) oa ob) (by kernel_rfl) (by kernel_rfl) s0 ?_
   repeat (first | (refine zS rfl rfl ?_;simp only [Act.put,zq1,zq2,zq3]) | (refine zT rfl ?_ rfl (fun w' hw'=>?_) ?_;rotate_left;(go_simp;first | done | with_reducible rfl);(try simp only [Act.put,zq1,zq2,zq3])))
   refine zA rfl rfl fun K hK=>?_
   go_simp
   rw [← HWA.out]
   refine hK.out _ _ sa ?_
   clear hK K D0 D1 D2 D3 Z2
   refine zA rfl rfl fun K hK=>?_
   go_simp
   rw [← HWB.out]
   refine hK.out _ _ sb ?_
   clear hK K F0 F1 F2 F3 Z3
   repeat (first | (refine zS rfl rfl ?_;simp only [Act.put,zq1,zq2,zq3]) | (refine zT rfl ?_ rfl (fun w' hw'=>?_) ?_;rotate_left;(go_simp;first | done | with_reducible rfl);(try simp only [Act.put,zq1,zq2,zq3])))
   refine zN ?_
   go_wp2_with fail
   refine bodyPost_ret (results_cct rfl _ _ (w.heap.size+1+1) (w.heap.size+1+1+1) _ _ _ _ _ _ _ _ rfl rfl HX.out.1 HX.out.2.1 Tryz.underlying38 rfl zQ Tryz.underlying41 rfl size_log) rfl ?_
   exact⟨⟨_,rfl,HX.out.2.2.1⟩,HX.out.2.2.2⟩
 | some n =>
  have hT':takesL list=(n:Int):=by unfold takesL;rw [htot]
  rw [hT'] at k1
  have HNE:=zh (total_ne htot)
  have HTOT:=zh htot
  have n0:decide ((n:Int)<0)=false:=by simp
  clear hT' htot
  cases R with
  | false =>
   have hF:compactP d l list=(d,l,1):=by unfold compactP;rw [HTOT.out,← HR.out];rfl
   rw [hF]
   clear hF
   unfold DLE logV
   go_enter Tryz.func66,Tryz.ntmps66
   go_upto_region 1 with (fail)
   rw [← HW4.out]
   go_wp2_with fail
   refine k1.mono ?_
   rintro e w5 ⟨rfl,rfl⟩
   clear k1
   go_wp2_with fail
   refine kr.mono ?_
   rintro e w6 ⟨rfl,hb6⟩
   clear C0 C1 C2 C3 N0 N1 N2 N3 kr
   have S0:=(hb6.block _ (zB R0)).trans R0
   have S1:=(hb6.block _ (zB R1)).trans R1
   have S2:=(hb6.block _ (zB R2)).trans R2
   have S3:=(hb6.block _ (zB R3)).trans R3
   have hd6:=(hd4.below hb6).tight
   have hb06:=hb4.trans (hb6.mono hb4.size)
   obtain⟨oa,ob,wa,wb,HWA,HWB,s0,sa,sb,L0,L1,L2,L3,M0,M1,M2,M3,D0,D1,D2,D3,Z2,F0,F1,F2,F3,Z3,HX⟩:=exit_all (w:=w) (wx:=w6) S0 S1 S2 S3 hd6 hb06 (by omega) (by omega) (by omega) (by omega) (by omega) (by omega) (by omega)
   clear R0 R1 R2 R3 S0 S1 S2 S3 hd hv hd4 hv4 hb4 hs4 hd6 hb6 hb06
   go_wp2_with fail
   refine zI [(false,0),(false,1),(true,2),(true,3),(false,4)] (Two w.heap.size (w.heap.size+1) oa ob) (by kernel_rfl) (by kernel_rfl) s0 ?_
   repeat (first | (refine zS rfl rfl ?_;simp only [Act.put,zq1,zq2,zq3]) | (refine zT rfl ?_ rfl (fun w' hw'=>?_) ?_;rotate_left;(go_simp;first | done | with_reducible rfl);(try simp only [Act.put,zq1,zq2,zq3])))
   refine zA rfl rfl fun K hK=>?_
   go_simp
   rw [← HWA.out]
   refine hK.out _ _ sa ?_
   clear hK K D0 D1 D2 D3 Z2
   refine zA rfl rfl fun K hK=>?_
   go_simp
   rw [← HWB.out]
   refine hK.out _ _ sb ?_
   clear hK K F0 F1 F2 F3 Z3
   repeat (first | (refine zS rfl rfl ?_;simp only [Act.put,zq1,zq2,zq3]) | (refine zT rfl ?_ rfl (fun w' hw'=>?_) ?_;rotate_left;(go_simp;first | done | with_reducible rfl);(try simp only [Act.put,zq1,zq2,zq3])))
   refine zN ?_
   go_wp2_with fail
   refine bodyPost_ret (results_cct rfl _ _ (w.heap.size+1+1) (w.heap.size+1+1+1) _ _ _ _ _ _ _ _ rfl rfl HX.out.1 HX.out.2.1 Tryz.underlying38 rfl zQ Tryz.underlying41 rfl size_log) rfl ?_
   exact⟨⟨_,rfl,HX.out.2.2.1⟩,HX.out.2.2.2⟩
  | true =>
   obtain⟨b1,b2,b3,b4,b5,b6,b7,b8⟩:=rightL_bounds HR.out.symm
   obtain⟨H,hH⟩:∃ H,H=half d:=⟨_,rfl⟩
   have hSH:(d.secs.length:Int) / 2=(H:Int):=by rw [hH];unfold half;omega
   rw [← hH] at b5 b8
   have HHH:=zh hH
   have hS13:d.secs.length≤2^13:=by omega
   clear hH
   by_cases hgt:H<n
   ·have hgt1:decide ((d.secs.length:Int) / 2<(n:Int))=true:=by rw [hSH];simp;omega
    have hF:compactP d l list=(d,l,8):=by
     unfold compactP;rw [HTOT.out]
     simp only [← HR.out,if_true]
     rw [if_pos (by rw [← HHH.out];exact hgt)]
    rw [hF]
    clear hF b1 b2 b3 b4 b5 b6 b7 b8 hSH
    unfold DLE logV
    go_enter Tryz.func66,Tryz.ntmps66
    go_upto_region 1 with (fail)
    rw [← HW4.out]
    go_wp2_with fail
    refine k1.mono ?_
    rintro e w5 ⟨rfl,rfl⟩
    clear k1
    go_wp2_with fail
    refine kr.mono ?_
    rintro e w6 ⟨rfl,hb6⟩
    clear C0 C1 C2 C3 N0 N1 N2 N3 kr
    have S0:=(hb6.block _ (zB R0)).trans R0
    have S1:=(hb6.block _ (zB R1)).trans R1
    have S2:=(hb6.block _ (zB R2)).trans R2
    have S3:=(hb6.block _ (zB R3)).trans R3
    have hd6:=(hd4.below hb6).tight
    have hb06:=hb4.trans (hb6.mono hb4.size)
    have C0:=cR w6 _ 0 _ _ _ S0
    go_upto_region 5 with (fail)
    obtain⟨oa,ob,wa,wb,HWA,HWB,s0,sa,sb,L0,L1,L2,L3,M0,M1,M2,M3,D0,D1,D2,D3,Z2,F0,F1,F2,F3,Z3,HX⟩:=exit_all (w:=w) (wx:=w6) S0 S1 S2 S3 hd6 hb06 (by omega) (by omega) (by omega) (by omega) (by omega) (by omega) (by omega)
    clear R0 R1 R2 R3 S0 S1 S2 S3 hd hv hd4 hv4 hb4 hs4 hd6 hb6 hb06 C0
    go_wp2_with fail
    refine zI [(false,0),(false,1),(true,2),(true,3),(false,4)] (Two w.heap.size (w.heap.size+1) oa ob) (by kernel_rfl) (by kernel_rfl) s0 ?_
    repeat (first | (refine zS rfl rfl ?_;simp only [Act.put,zq1,zq2,zq3]) | (refine zT rfl ?_ rfl (fun w' hw'=>?_) ?_;rotate_left;(go_simp;first | done | with_reducible rfl);(try simp only [Act.put,zq1,zq2,zq3])))
    refine zA rfl rfl fun K hK=>?_
    go_simp
    rw [← HWA.out]
    refine hK.out _ _ sa ?_
    clear hK K D0 D1 D2 D3 Z2
    refine zA rfl rfl fun K hK=>?_
    go_simp
    rw [← HWB.out]
    refine hK.out _ _ sb ?_
    clear hK K F0 F1 F2 F3 Z3
    repeat (first | (refine zS rfl rfl ?_;simp only [Act.put,zq1,zq2,zq3]) | (refine zT rfl ?_ rfl (fun w' hw'=>?_) ?_;rotate_left;(go_simp;first | done | with_reducible rfl);(try simp only [Act.put,zq1,zq2,zq3])))
    refine zN ?_
    go_wp2_with fail
    refine bodyPost_ret (results_cct rfl _ _ (w.heap.size+1+1) (w.heap.size+1+1+1) _ _ _ _ _ _ _ _ rfl rfl HX.out.1 HX.out.2.1 Tryz.underlying38 rfl zQ Tryz.underlying41 rfl size_log) rfl ?_
    exact⟨⟨_,rfl,HX.out.2.2.1⟩,HX.out.2.2.2⟩
   ·have hgt1:decide ((d.secs.length:Int) / 2<(n:Int))=false:=by rw [hSH];simp;omega
    by_cases hg40:l.gen=1099511627776
    ·have hg41:(l.gen == 1099511627776)=true:=by simp [hg40]
     have hF:compactP d l list=(d,l,15):=by
      unfold compactP;rw [HTOT.out]
      simp only [← HR.out,if_true]
      rw [if_neg (by rw [← HHH.out];exact hgt),if_pos hg40]
     rw [hF]
     clear hF b1 b2 b3 b4 b5 b6 b7 b8 hg40 hSH
     unfold DLE logV
     go_enter Tryz.func66,Tryz.ntmps66
     go_upto_region 1 with (fail)
     rw [← HW4.out]
     go_wp2_with fail
     refine k1.mono ?_
     rintro e w5 ⟨rfl,rfl⟩
     clear k1
     go_wp2_with fail
     refine kr.mono ?_
     rintro e w6 ⟨rfl,hb6⟩
     clear C0 C1 C2 C3 N0 N1 N2 N3 kr
     have S0:=(hb6.block _ (zB R0)).trans R0
     have S1:=(hb6.block _ (zB R1)).trans R1
     have S2:=(hb6.block _ (zB R2)).trans R2
     have S3:=(hb6.block _ (zB R3)).trans R3
     have hd6:=(hd4.below hb6).tight
     have hb06:=hb4.trans (hb6.mono hb4.size)
     have C0:=cR w6 _ 0 _ _ _ S0
     have N0:=cR w6 _ 0 _ _ _ S1
     have N1:=cR w6 _ 1 _ _ _ S1
     have N2:=cR w6 _ 2 _ _ _ S1
     have N3:=cR w6 _ 3 _ _ _ S1
     go_upto_region 7 with (fail)
     clear N0 N1 N2 N3
     obtain⟨oa,ob,wa,wb,HWA,HWB,s0,sa,sb,L0,L1,L2,L3,M0,M1,M2,M3,D0,D1,D2,D3,Z2,F0,F1,F2,F3,Z3,HX⟩:=exit_all (w:=w) (wx:=w6) S0 S1 S2 S3 hd6 hb06 (by omega) (by omega) (by omega) (by omega) (by omega) (by omega) (by omega)
     clear R0 R1 R2 R3 S0 S1 S2 S3 hd hv hd4 hv4 hb4 hs4 hd6 hb6 hb06 C0
     go_wp2_with fail
     refine zI [(false,0),(false,1),(true,2),(true,3),(false,4)] (Two w.heap.size (w.heap.size+1) oa ob) (by kernel_rfl) (by kernel_rfl) s0 ?_
     repeat (first | (refine zS rfl rfl ?_;simp only [Act.put,zq1,zq2,zq3]) | (refine zT rfl ?_ rfl (fun w' hw'=>?_) ?_;rotate_left;(go_simp;first | done | with_reducible rfl);(try simp only [Act.put,zq1,zq2,zq3])))
     refine zA rfl rfl fun K hK=>?_
     go_simp
     rw [← HWA.out]
     refine hK.out _ _ sa ?_
     clear hK K D0 D1 D2 D3 Z2
     refine zA rfl rfl fun K hK=>?_
     go_simp
     rw [← HWB.out]
     refine hK.out _ _ sb ?_
     clear hK K F0 F1 F2 F3 Z3
     repeat (first | (refine zS rfl rfl ?_;simp only [Act.put,zq1,zq2,zq3]) | (refine zT rfl ?_ rfl (fun w' hw'=>?_) ?_;rotate_left;(go_simp;first | done | with_reducible rfl);(try simp only [Act.put,zq1,zq2,zq3])))
     refine zN ?_
     go_wp2_with fail
     refine bodyPost_ret (results_cct rfl _ _ (w.heap.size+1+1) (w.heap.size+1+1+1) _ _ _ _ _ _ _ _ rfl rfl HX.out.1 HX.out.2.1 Tryz.underlying38 rfl zQ Tryz.underlying41 rfl size_log) rfl ?_
     exact⟨⟨_,rfl,HX.out.2.2.1⟩,HX.out.2.2.2⟩
    ·have hg41:(l.gen == 1099511627776)=false:=by simp [hg40]
     obtain⟨r,hr⟩:∃ r,r=run d (layD (half d) (1-l.half) (l.gen+1) list):=⟨_,rfl⟩
     have hF:compactP d l list=if r.2=0 then (r.1,⟨1-l.half,l.gen+1,n,list.length⟩,0) else (r.1,l,r.2):=by
      unfold compactP;rw [HTOT.out]
      simp only [← HR.out,if_true]
      rw [if_neg (by rw [← HHH.out];exact hgt),if_neg hg40,← hr]
     have hds2:(layD (half d) (1-l.half) (l.gen+1) list).foldl stepW (d,0)=r:=by
      rw [hr]
      have e:=stepW_run (layD (half d) (1-l.half) (l.gen+1) list) (d,0)
      rw [if_pos rfl] at e
      exact e
     have HDS:=zh hds2
     have HF:=zh hF
     have hw1:IntKind.i64.wrap (1-l.half)=1-l.half:=by
      simp only [IntKind.wrap,IntKind.bits,IntKind.signed]
      rcases b1 with h | h <;> rw [h] <;> decide
     have hw2:IntKind.i64.wrap (l.gen+1)=l.gen+1:=by
      simp only [IntKind.wrap,IntKind.bits,IntKind.signed]
      simp
      omega
     have hm0:0≤(1-l.half)*(half d:Nat):=by rw [← HHH.out];rcases b1 with h | h <;> rw [h] <;> omega
     have hm1:(1-l.half)*(half d:Nat)≤2^20:=by rw [← HHH.out];rcases b1 with h | h <;> rw [h] <;> omega
     have HM0:=zh hm0
     have HM1:=zh hm1
     have HL1:=zh hl1
     clear hF hr hds2 hSH hm0 hm1 b1 b2 b3 b4 b5 b6 b7 b8 hl1
     rw [HF.out]
     unfold DLE logV
     go_enter Tryz.func66,Tryz.ntmps66
     go_upto_region 1 with (fail)
     rw [← HW4.out]
     go_wp2_with fail
     refine k1.mono ?_
     rintro e w5 ⟨rfl,rfl⟩
     clear k1
     go_wp2_with fail
     refine kr.mono ?_
     rintro e w6 ⟨rfl,hb6⟩
     clear C0 C1 C2 C3 N0 N1 N2 N3 kr
     have S0:=(hb6.block _ (zB R0)).trans R0
     have S1:=(hb6.block _ (zB R1)).trans R1
     have S2:=(hb6.block _ (zB R2)).trans R2
     have S3:=(hb6.block _ (zB R3)).trans R3
     have hd6:=(hd4.below hb6).tight
     have hb06:=hb4.trans (hb6.mono hb4.size)
     obtain⟨w8,hw8⟩:∃ w8,w8=w6.alloc (.cells #[.slice p1 d.secs.length q1,.slice p2 d.loose.length q2,.int .i64 d.fuse,.bool d.down,.int .i64 0] 140):=⟨_,rfl⟩
     have C0:=cR w6 _ 0 _ _ _ S0
     have C1:=cR w6 _ 1 _ _ _ S0
     have C2:=cR w6 _ 2 _ _ _ S0
     have C3:=cR w6 _ 3 _ _ _ S0
     have N0:=cR w6 _ 0 _ _ _ S1
     have N1:=cR w6 _ 1 _ _ _ S1
     have N2:=cR w6 _ 2 _ _ _ S1
     have N3:=cR w6 _ 3 _ _ _ S1
     have hb8:Below w6.heap.size w6 w8:=by rw [hw8];exact Below.alloc (Below.refl _ _) (Nat.le_refl _) _
     have hrow8:w8.heap[w6.heap.size]?=some (.cells #[.slice p1 d.secs.length q1,.slice p2 d.loose.length q2,.int .i64 d.fuse,.bool d.down,.int .i64 0] 140 (0,0)):=by rw [hw8];exact heap_alloc_new w6 _
     have HWA8:=zh (work_new hrow8 (hd6.below hb8).tight)
     have HW8:=zh hw8
     have HRR:=zh (show _∧_∧_∧_ from ⟨R0,R1,R2,R3⟩)
     have HB4:=zh hb4
     have HB46:=zh hb6
     have HV6:=zh (hv4.below (hb6.mono hb4.size))
     have HB68:=zh hb8
     have hs7:=hb6.size
     obtain⟨g,hg⟩:∃ g,g=w6.heap.size:=⟨_,rfl⟩
     rw [← hg] at hrow8 HWA8 hs7
     have HG:=zh hg
     clear R0 R1 R2 R3 S0 S1 S2 S3 hd hv hd4 hv4 hb4 hd6 hb6 hb06 hw8 hb8 hrow8 hg
     go_upto_region 9 with (fail)
     rw [← HW8.out,← HG.out]
     clear C0 C1 C2 C3 N0 N1 N2 N3
     obtain⟨R0,R1,R2,R3⟩:=HRR.out
     have HB48:=zh (HB46.out.trans (HB68.out.mono HB46.out.size))
     have S0:=(HB48.out.block _ (zB R0)).trans R0
     have S1:=(HB48.out.block _ (zB R1)).trans R1
     have S2:=(HB48.out.block _ (zB R2)).trans R2
     have S3:=(HB48.out.block _ (zB R3)).trans R3
     have N0:=cR w8 _ 0 _ _ _ S1
     have N1:=cR w8 _ 1 _ _ _ S1
     have N2:=cR w8 _ 2 _ _ _ S1
     have N3:=cR w8 _ 3 _ _ _ S1
     have HSS:=zh (show _∧_∧_∧_ from ⟨S0,S1,S2,S3⟩)
     have h8g:Below g w6 w8:=by rw [HG.out];exact HB68.out
     have HVG:=zh (show Pieces g w8 _ list from (HV6.out.below (h8g.mono (by omega))).mono (by omega))
     clear R0 R1 R2 R3 S0 S1 S2 S3 h8g
     have kb:=wlay_any (d,0) (1-l.half) (l.gen+1) _ list w8 HWA8.out HVG.out HM0.out HM1.out HL1.out hl2 HNE.out
     have hlt:=HWA8.out.lt
     dsimp only at kb
     rw [HDS.out] at kb
     go_wp2_with fail
     refine kb.mono ?_
     rintro e w13 ⟨rfl,hw13,ho13⟩
     clear kb N0 N1 N2 N3
     obtain⟨a0,n0',a1,n1',T5,hd13⟩:=hw13
     have hb13:=below_hand ho13 hlt
     have S0:=(hb13.block _ (by omega)).trans HSS.out.1
     have S1:=(hb13.block _ (by omega)).trans HSS.out.2.1
     have S2:=(hb13.block _ (by omega)).trans HSS.out.2.2.1
     have S3:=(hb13.block _ (by omega)).trans HSS.out.2.2.2
     have hb013:Below w.heap.size w w13:=(HB4.out.trans (HB48.out.mono HB4.out.size)).trans (hb13.mono (by omega))
     have E4:=cR w13 _ 4 _ _ _ T5
     have HT0:=zh T5
     have HT1:=zh S1
     have HT2:=zh S2
     have HT3:=zh S3
     have HD13:=zh hd13
     have HB13:=zh hb013
     clear T5 hd13 S0 S1 S2 S3 hb13 hb013 ho13
     by_cases he:r.2=0
     ·have hne0:(r.2 != 0)=false:=by simp [he]
      rw [he] at hne0 HT0 E4
      obtain⟨oa,ob,wa,wb,HWA,HWB,s0,sa,sb,L0,L1,L2,L3,L4,M0,M1,M2,M3,D0,D1,D2,D3,Z2,F0,F1,F2,F3,Z3,HX⟩:=exit_work2 (.int .i64 (1-l.half)) (.int .i64 (l.gen+1)) (.int .i64 n) (.int .i64 list.length) (w:=w) (wx:=w13) HT0.out HT1.out HT2.out HT3.out HD13.out HB13.out (by omega) (by omega) (by omega) (by omega) (by omega) (by omega) (by omega)
      go_wp2_with fail
      refine zI [(false,0),(false,1),(false,2),(false,3),(false,4),(false,5),(false,6),(false,7),(false,8),(false,9),(false,10),(false,11),(true,12),(true,13),(false,14)] (Two g (w.heap.size+1) oa ob) (by kernel_rfl) (by kernel_rfl) s0 ?_
      repeat (first | (refine zS rfl rfl ?_;simp only [Act.put,zq1,zq2,zq3]) | (refine zT rfl ?_ rfl (fun w' hw'=>?_) ?_;rotate_left;(go_simp;first | done | with_reducible rfl);(try simp only [Act.put,zq1,zq2,zq3])))
      refine zA rfl rfl fun K hK=>?_
      go_simp
      rw [← HWA.out]
      refine hK.out _ _ sa ?_
      clear hK K D0 D1 D2 D3 Z2
      refine zA rfl rfl fun K hK=>?_
      go_simp
      rw [← HWB.out]
      refine hK.out _ _ sb ?_
      clear hK K F0 F1 F2 F3 Z3
      repeat (first | (refine zS rfl rfl ?_;simp only [Act.put,zq1,zq2,zq3]) | (refine zT rfl ?_ rfl (fun w' hw'=>?_) ?_;rotate_left;(go_simp;first | done | with_reducible rfl);(try simp only [Act.put,zq1,zq2,zq3])))
      refine zN ?_
      go_wp2_with fail
      refine bodyPost_ret (results_cct rfl _ _ (w.heap.size+1+1) (w.heap.size+1+1+1) _ _ _ _ _ _ _ _ rfl rfl HX.out.1 HX.out.2.1 Tryz.underlying38 rfl zQ Tryz.underlying41 rfl size_log) rfl ?_
      exact⟨⟨_,rfl,HX.out.2.2.1⟩,HX.out.2.2.2⟩
     ·have hne0:(r.2 != 0)=true:=by simp [he]
      obtain⟨oa,ob,wa,wb,HWA,HWB,s0,sa,sb,L0,L1,L2,L3,L4,M0,M1,M2,M3,D0,D1,D2,D3,Z2,F0,F1,F2,F3,Z3,HX⟩:=exit_work (w:=w) (wx:=w13) HT0.out HT1.out HT2.out HT3.out HD13.out HB13.out (by omega) (by omega) (by omega) (by omega) (by omega) (by omega) (by omega)
      go_wp2_with fail
      refine zI [(false,0),(false,1),(false,2),(false,3),(false,4),(true,5),(true,6),(false,7)] (Two g (w.heap.size+1) oa ob) (by kernel_rfl) (by kernel_rfl) s0 ?_
      repeat (first | (refine zS rfl rfl ?_;simp only [Act.put,zq1,zq2,zq3]) | (refine zT rfl ?_ rfl (fun w' hw'=>?_) ?_;rotate_left;(go_simp;first | done | with_reducible rfl);(try simp only [Act.put,zq1,zq2,zq3])))
      refine zA rfl rfl fun K hK=>?_
      go_simp
      rw [← HWA.out]
      refine hK.out _ _ sa ?_
      clear hK K D0 D1 D2 D3 Z2
      refine zA rfl rfl fun K hK=>?_
      go_simp
      rw [← HWB.out]
      refine hK.out _ _ sb ?_
      clear hK K F0 F1 F2 F3 Z3
      repeat (first | (refine zS rfl rfl ?_;simp only [Act.put,zq1,zq2,zq3]) | (refine zT rfl ?_ rfl (fun w' hw'=>?_) ?_;rotate_left;(go_simp;first | done | with_reducible rfl);(try simp only [Act.put,zq1,zq2,zq3])))
      refine zN ?_
      go_wp2_with fail
      refine bodyPost_ret (results_cct rfl _ _ (w.heap.size+1+1) (w.heap.size+1+1+1) _ _ _ _ _ _ _ _ rfl rfl HX.out.1 HX.out.2.1 Tryz.underlying38 rfl zQ Tryz.underlying41 rfl size_log) rfl ?_
      exact⟨⟨_,rfl,HX.out.2.2.1⟩,HX.out.2.2.2⟩
end
section
open Go.RowKit KvP
theorem beq_ba (a b:ByteArray):(a == b)=decide (a=b):=by
 have e:(a == b)=(a.data == b.data):=by
  cases a
  cases b
  rfl
 rw [e]
 by_cases h:a=b
 ·subst h
  simp
 ·have h2:a.data≠b.data:=fun h'=>h (by
   cases a
   cases b
   cases h'
   rfl)
  simp [h,h2]
theorem run_equalIn_str (d:Nat) (a b:ByteArray) (w:World):(Op.equalIn (d+1) 9 (.string a) (.string b)).run Tryz.prog w = .ok (decide (a=b)) w:=by
 simp [Op.equalIn,run_underlying Tryz.underlying9]
 exact beq_ba a b
theorem fieldsPair : ∃ f1 f2 : Field, (Tryz.prog.fieldsOf 76).toList = [f1, f2] ∧ f1.name ≠ "_" ∧ f2.name ≠ "_" ∧ f1.type = 9 ∧ f1.offset = 0 ∧ f2.type = 9 ∧ f2.offset = 1 := by
 simp only [Program.fieldsOf,Tryz.underlying76]
 exact⟨_,_,rfl,by decide,by decide,rfl,rfl,rfl,rfl⟩
set_option maxRecDepth 100000 in
theorem equalPair (a b c d:ByteArray) (w:World):(Op.equalIn 10000 76 (.agg #[.string a,.string b]) (.agg #[.string c,.string d])).run Tryz.prog w = .ok (decide (a=c)&&decide (b=d)) w:=by
 rw [run_equalIn_struct w 9999 _ _ _ (by rw [Tryz.underlying76];rfl) (by kernel_rfl)]
 obtain⟨f1,f2,hf,n1,n2,t1,o1,t2,o2⟩:=fieldsPair
 rw [hf]
 have p:∀ (V:Array Value) (k:Nat) (x:ByteArray),V[k]?=some (.string x)→(part 9 V k).run Tryz.prog w = .ok (.string x) w:=fun V k x h=>by simp [part,isAgg,run_underlying Tryz.underlying9,h]
 exact eqFields_two 9999 _ _ _ f1 f2 w _ _ _ _ _ _ n1 n2 (by rw [t1,o1];exact p _ _ a rfl) (by rw [t1,o1];exact p _ _ c rfl) (by rw [t2,o2];exact p _ _ b rfl) (by rw [t2,o2];exact p _ _ d rfl) (by rw [t1];exact run_equalIn_str _ _ _ _) (by rw [t2];exact run_equalIn_str _ _ _ _)
theorem neqPair (a b c d:ByteArray) (w:World):(binOp .neq 76 (.agg #[.string a,.string b]) (.agg #[.string c,.string d])).run Tryz.prog w = .ok (.bool (!(decide (a=c)&&decide (b=d)))) w:=by
 have k:=equalPair a b c d w
 simp only [binOp]
 simp [Op.equal,Op.maxDepth,k]
end
section
open Go.Maps KvP
def AgreeM (D:DataW Unit) (l:List PairP):Prop :=
 Rising l∧(∀ k,Maps.has D (.string k)=(getP l k).isSome)∧∀ k z,D.atKey (.string k) z=match getP l k with | some v=>.lit (.string v) | none=>z
theorem AgreeM.nil:AgreeM (.map []) []:=⟨List.Pairwise.nil,fun _=>rfl,fun _ _=>rfl⟩
theorem isKey_str (k:List UInt8):WideAt.IsKeyLit (.string k):=by
 first | exact trivial | exact⟨_,rfl⟩ | simp [WideAt.IsKeyLit]
theorem AgreeM.put {D:DataW Unit} {l:List PairP} (h:AgreeM D l) (hD:IsMap D) (k v:List UInt8):AgreeM (D.put (.string k) (.lit (.string v))) (putK l k v):=by
 obtain⟨h1,h2,h3⟩:=h
 refine⟨h1.put k v,fun x=>?_,fun x z=>?_⟩
 ·rw [getP_put]
  by_cases hx:k=x
  ·subst hx
   rw [has_put_same hD (isKey_str k),if_pos rfl]
   rfl
  ·rw [has_put_other (fun e=>hx (by cases e;rfl)),h2,if_neg hx]
 ·rw [getP_put]
  by_cases hx:k=x
  ·subst hx
   rw [atKey_put_same hD (isKey_str k),if_pos rfl]
  ·rw [atKey_put_other (fun e=>hx (by cases e;rfl)),h3,if_neg hx]
theorem AgreeM.del {D:DataW Unit} {l:List PairP} (h:AgreeM D l) (k:List UInt8):AgreeM (D.del (.string k)) (delK l k):=by
 obtain⟨h1,h2,h3⟩:=h
 refine⟨h1.del k,fun x=>?_,fun x z=>?_⟩
 ·rw [getP_del]
  by_cases hx:k=x
  ·subst hx
   rw [has_del_same,if_pos rfl]
   rfl
  ·rw [has_del_other (fun e=>hx (by cases e;rfl)),h2,if_neg hx]
 ·rw [getP_del]
  by_cases hx:k=x
  ·subst hx
   rw [atKey_del_same,if_pos rfl]
  ·rw [atKey_del_other (fun e=>hx (by cases e;rfl)),h3,if_neg hx]
theorem putK_end {l:List PairP} {k v:List UInt8} (h:∀ q∈l,q.key<k):putK l k v=l++[⟨k,v⟩]:=by
 induction l with
 | nil=>rfl
 | cons p l ih =>
  rw [putK,if_pos (h p (List.mem_cons_self ..)),ih (fun q hq=>h q (List.mem_cons_of_mem _ hq))]
  rfl
theorem putK_take {l:List PairP} (hr:Rising l) (k:Nat) (hk:k<l.length):putK (l.take k) l[k].key l[k].val=l.take (k+1):=by
 rw [List.take_succ_eq_append_getElem hk,putK_end]
 intro q hq
 obtain⟨i,hi,rfl⟩:=List.mem_iff_getElem.1 hq
 rw [List.length_take] at hi
 rw [List.getElem_take]
 exact List.pairwise_iff_getElem.1 hr i k (by omega) hk (by omega)
theorem getP_mem {l:List PairP} (hr:Rising l) {p:PairP} (hp:p∈l):getP l p.key=some p.val:=by
 induction l with
 | nil=>cases hp
 | cons q l ih =>
  rw [getP_cons]
  rcases List.mem_cons.1 hp with rfl | hp
  ·rw [if_pos rfl]
  ·have h1:=hr.head p hp
   rw [if_neg (fun e=>List.lt_irrefl p.key (by rw [e] at h1;exact h1)),ih hr.tail hp]
theorem getP_isSome {l:List PairP} (hr:Rising l) (k:List UInt8):k∈l.map PairP.key↔(getP l k).isSome=true:=by
 constructor
 ·intro h
  obtain⟨p,hp,rfl⟩:=List.mem_map.1 h
  rw [getP_mem hr hp]
  rfl
 ·intro h
  refine Classical.byContradiction fun hn=>?_
  rw [getP_none_of (fun q hq e=>hn (by rw [← e];exact List.mem_map_of_mem hq))] at h
  cases h
theorem AgreeM.keys {P:Program} {K:TypeId} {R:Value→Option (DataW Unit×List MemPlace)} {w:World} {b n:Nat} {D:DataW Unit} {l:List PairP} (h:AgreeM D l) (hown:w.ownsMap P K R b n D) (hK:Keyed P K) (hk:P.underlying K=some .string)
  {ss:List (List UInt8)} (hp:ss.Perm (strKeys D)):ss.mergeSort (fun x y=>decide (x≤y))=l.map PairP.key:=by
 have hc:Collected D (fun _=>false) (l.map PairP.key):=by
  refine⟨?_,fun x=>?_⟩
  ·refine List.pairwise_map.2 (h.1.imp (fun {a b} hab e=>?_))
   rw [e] at hab
   exact List.lt_irrefl _ hab
  ·rw [getP_isSome h.1,h.2.1]
   simp
 have h2:=hc.perm hown hK hk (fun _=>rfl)
 rw [mergeSort_of_perm (hp.trans h2.symm)]
 refine List.mergeSort_of_pairwise (List.pairwise_map.2 (h.1.imp (fun {a b} hab=>?_)))
 simp only [decide_eq_true_eq]
 exact List.le_of_lt hab
theorem AgreeM.size {P:Program} {K:TypeId} {R:Value→Option (DataW Unit×List MemPlace)} {w:World} {b n:Nat} {D:DataW Unit} {l:List PairP} (h:AgreeM D l) (hown:w.ownsMap P K R b n D) (hK:Keyed P K) (hk:P.underlying K=some .string) :
  Maps.size D=l.length:=by
 have hc:Collected D (fun _=>false) (l.map PairP.key):=by
  refine⟨?_,fun x=>?_⟩
  ·refine List.pairwise_map.2 (h.1.imp (fun {a b} hab e=>?_))
   rw [e] at hab
   exact List.lt_irrefl _ hab
  ·rw [getP_isSome h.1,h.2.1]
   simp
 have h2:=(hc.perm hown hK hk (fun _=>rfl)).length_eq
 obtain⟨es,rfl⟩:=hown.isMap
 rw [List.length_map] at h2
 rw [size_eq,h2]
 simp [strKeys]
end
section
open Go.Shelf
def keys73_ren:Go.Shelf.Ren:=⟨fun | 7=>73 | 10=>119 | n=>n,fun | 23=>102 | 26=>9 | 3=>9 | 28=>106 | 0=>0 | 27=>105 | 33=>151 | 4=>4 | n=>n,fun | n=>n⟩
theorem keys73:Go.Proofs.SlLaysZ.n7 Tryz.prog keys73_ren:={
 mixed:=by kernel_rfl
 f7:=⟨Tryz.f73.name,by decide,Tryz.func73.trans (congrArg some (by kernel_rfl))⟩
 f10:=⟨Tryz.f119.name,by decide,Tryz.func119.trans (congrArg some (by kernel_rfl))⟩
 t0:=Tryz.underlying0
 a0:=Tryz.isAgg0
 z0:=Tryz.sizeOf0
 v0:=Tryz.zeroValue0
 t4:=Tryz.underlying4
 a4:=Tryz.isAgg4
 z4:=Tryz.sizeOf4
 v4:=Tryz.zeroValue4
 t23:=Tryz.underlying102
 a23:=Tryz.isAgg102
 z23:=Tryz.sizeOf102
 v23:=Tryz.zeroValue102
 t26:=Tryz.underlying9
 a26:=Tryz.isAgg9
 z26:=Tryz.sizeOf9
 v26:=Tryz.zeroValue9
 t27:=Tryz.underlying105
 a27:=Tryz.isAgg105
 z27:=Tryz.sizeOf105
 v27:=Tryz.zeroValue105
 t28:=Tryz.underlying106
 a28:=Tryz.isAgg106
 z28:=Tryz.sizeOf106
 v28:=Tryz.zeroValue106
 t33:=Tryz.underlying151
 a33:=Tryz.isAgg151
 z33:=Tryz.sizeOf151
 v33:=Tryz.zeroValue151 }
def sorted72_ren:Go.Shelf.Ren:=⟨fun | 6=>72 | 8=>117 | 9=>118 | 11=>146 | 13=>148 | 12=>147 | 23=>169 | 24=>170 | 14=>160 | 15=>161 | 16=>162 | 17=>163 | 18=>164 | 19=>165 | 20=>166 | 21=>167 | 22=>168 | 25=>176 | 26=>177 | 27=>178 | 28=>179 | 29=>180 | 30=>181 | 31=>182 | n=>n,fun | 26=>9 | 28=>106 | 24=>103 | 0=>0 | 3=>3 | 37=>149 | 48=>143 | 50=>57 | 4=>4 | 40=>194 | 39=>193 | 45=>108 | 5=>5 | 9=>9 | 51=>205 | 55=>209 | 57=>212 | 58=>213 | 33=>151 | n=>n,fun | n=>n⟩
theorem sorted72:Go.Proofs.SlLaysZ.n6 Tryz.prog sorted72_ren:={
 mixed:=by kernel_rfl
 f6:=⟨Tryz.f72.name,by decide,Tryz.func72.trans (congrArg some (by kernel_rfl))⟩
 f8:=⟨Tryz.f117.name,by decide,Tryz.func117.trans (congrArg some (by kernel_rfl))⟩
 f11:=⟨Tryz.f146.name,by decide,Tryz.func146.trans (congrArg some (by kernel_rfl))⟩
 t0:=Tryz.underlying0
 a0:=Tryz.isAgg0
 z0:=Tryz.sizeOf0
 v0:=Tryz.zeroValue0
 t24:=Tryz.underlying103
 a24:=Tryz.isAgg103
 z24:=Tryz.sizeOf103
 v24:=Tryz.zeroValue103
 t26:=Tryz.underlying9
 a26:=Tryz.isAgg9
 z26:=Tryz.sizeOf9
 v26:=Tryz.zeroValue9
 t28:=Tryz.underlying106
 a28:=Tryz.isAgg106
 z28:=Tryz.sizeOf106
 v28:=Tryz.zeroValue106
 i26:=by kernel_rfl }
def sort118_ren:Go.Shelf.Ren:=⟨fun | 6=>118 | 8=>148 | 9=>147 | 19=>169 | 20=>170 | 21=>160 | 22=>161 | 23=>162 | 24=>163 | 25=>164 | 26=>165 | 27=>166 | 28=>167 | 29=>168 | 36=>176 | 31=>177 | 32=>178 | 37=>179 | 38=>180 | 39=>181 | 41=>182 | n=>n,fun | 27=>103 | 29=>9 | 3=>3 | 32=>149 | 26=>103 | 0=>0 | 44=>143 | 46=>57 | 4=>4 | 36=>194 | 35=>193 | 41=>108 | 5=>5 | 9=>9 | 53=>205 | 57=>209 | 63=>212 | 64=>213 | n=>n,fun | n=>n⟩
theorem sort118:Go.Proofs.SlLaysM.n6 Tryz.prog sort118_ren:={
 mixed:=by kernel_rfl
 f6:=⟨Tryz.f118.name,by decide,Tryz.func118.trans (congrArg some (by kernel_rfl))⟩
 f8:=Tryz.func148.trans (congrArg some (by kernel_rfl))
 f9:=⟨Tryz.f147.name,by decide,Tryz.func147.trans (congrArg some (by kernel_rfl))⟩
 f19:=Tryz.func169.trans (congrArg some (by kernel_rfl))
 f20:=Tryz.func170.trans (congrArg some (by kernel_rfl))
 f21:=⟨Tryz.f160.name,by decide,Tryz.func160.trans (congrArg some (by kernel_rfl))⟩
 f22:=⟨Tryz.f161.name,by decide,Tryz.func161.trans (congrArg some (by kernel_rfl))⟩
 f23:=⟨Tryz.f162.name,by decide,Tryz.func162.trans (congrArg some (by kernel_rfl))⟩
 f24:=⟨Tryz.f163.name,by decide,Tryz.func163.trans (congrArg some (by kernel_rfl))⟩
 f25:=⟨Tryz.f164.name,by decide,Tryz.func164.trans (congrArg some (by kernel_rfl))⟩
 f26:=⟨Tryz.f165.name,by decide,Tryz.func165.trans (congrArg some (by kernel_rfl))⟩
 f27:=⟨Tryz.f166.name,by decide,Tryz.func166.trans (congrArg some (by kernel_rfl))⟩
 f28:=⟨Tryz.f167.name,by decide,Tryz.func167.trans (congrArg some (by kernel_rfl))⟩
 f29:=⟨Tryz.f168.name,by decide,Tryz.func168.trans (congrArg some (by kernel_rfl))⟩
 f31:=Tryz.func177.trans (congrArg some (by kernel_rfl))
 f32:=Tryz.func178.trans (congrArg some (by kernel_rfl))
 f36:=⟨Tryz.f176.name,by decide,Tryz.func176.trans (congrArg some (by kernel_rfl))⟩
 f37:=⟨Tryz.f179.name,by decide,Tryz.func179.trans (congrArg some (by kernel_rfl))⟩
 f38:=⟨Tryz.f180.name,by decide,Tryz.func180.trans (congrArg some (by kernel_rfl))⟩
 f39:=⟨Tryz.f181.name,by decide,Tryz.func181.trans (congrArg some (by kernel_rfl))⟩
 f41:=⟨Tryz.f182.name,by decide,Tryz.func182.trans (congrArg some (by kernel_rfl))⟩
 t0:=Tryz.underlying0
 a0:=Tryz.isAgg0
 z0:=Tryz.sizeOf0
 v0:=Tryz.zeroValue0
 t3:=Tryz.underlying3
 a3:=Tryz.isAgg3
 z3:=Tryz.sizeOf3
 v3:=Tryz.zeroValue3
 t4:=Tryz.underlying4
 a4:=Tryz.isAgg4
 z4:=Tryz.sizeOf4
 v4:=Tryz.zeroValue4
 t5:=Tryz.underlying5
 a5:=Tryz.isAgg5
 z5:=Tryz.sizeOf5
 v5:=Tryz.zeroValue5
 t9:=Tryz.underlying9
 a9:=Tryz.isAgg9
 z9:=Tryz.sizeOf9
 v9:=Tryz.zeroValue9
 t26:=Tryz.underlying103
 a26:=Tryz.isAgg103
 z26:=Tryz.sizeOf103
 v26:=Tryz.zeroValue103
 t27:=Tryz.underlying103
 a27:=Tryz.isAgg103
 z27:=Tryz.sizeOf103
 v27:=Tryz.zeroValue103
 t29:=Tryz.underlying9
 a29:=Tryz.isAgg9
 z29:=Tryz.sizeOf9
 v29:=Tryz.zeroValue9
 t32:=Tryz.underlying149
 a32:=Tryz.isAgg149
 z32:=Tryz.sizeOf149
 v32:=Tryz.zeroValue149
 t35:=Tryz.underlying193
 a35:=Tryz.isAgg193
 z35:=Tryz.sizeOf193
 v35:=Tryz.zeroValue193
 t36:=Tryz.underlying194
 a36:=Tryz.isAgg194
 z36:=Tryz.sizeOf194
 v36:=Tryz.zeroValue194
 t41:=Tryz.underlying108
 a41:=Tryz.isAgg108
 z41:=Tryz.sizeOf108
 v41:=Tryz.zeroValue108
 t44:=Tryz.underlying143
 a44:=Tryz.isAgg143
 z44:=Tryz.sizeOf143
 v44:=Tryz.zeroValue143
 t46:=Tryz.underlying57
 a46:=Tryz.isAgg57
 z46:=Tryz.sizeOf57
 v46:=Tryz.zeroValue57
 t53:=Tryz.underlying205
 a53:=Tryz.isAgg205
 z53:=Tryz.sizeOf205
 v53:=Tryz.zeroValue205
 t57:=Tryz.underlying209
 a57:=Tryz.isAgg209
 z57:=Tryz.sizeOf209
 v57:=Tryz.zeroValue209
 t63:=Tryz.underlying212
 a63:=Tryz.isAgg212
 z63:=Tryz.sizeOf212
 v63:=Tryz.zeroValue212
 t64:=Tryz.underlying213
 a64:=Tryz.isAgg213
 z64:=Tryz.sizeOf213
 v64:=Tryz.zeroValue213 }
open Go.RowKit Go.Maps Go.Sort
theorem sorts72 (m:Nat):AnyZ.SortsIn Tryz.prog sorted72_ren Fence.wide m :=
 ⟨fun blk off cap ss W hH hblk hsz=>callsIn_wide.2 (AnyM.slices_Sort_string sort118 blk off cap ss W hH hblk hsz),
  fun p cap W=>callsIn_wide.2 (AnyM.slices_Sort_string_none sort118 p cap W)⟩
theorem maps_Keys_73 (mb:Option Nat) (W:World):CallsIn Fence.wide 5 Tryz.prog 73 #[.map mb] W fun e w'=>e = .returned (.func (.func 119) #[] #[.pointer (some ⟨W.heap.size,0,none⟩)])∧w'=W.alloc (.cells #[.map mb] 102) :=
 AnyZ.keys_in keys73 Fence.wide 5 trivial rfl mb W
set_option maxHeartbeats 1000000 in
theorem slices_Sorted_keys_72_73 {H:Type} (b nn:Nat) (D0:DataW H) (R:Value→Option (DataW H×List MemPlace)) (w:World) (hown:w.ownsMap Tryz.prog 9 R b nn D0) (hmax:Maps.size D0≤maxLen) (hbytes:Maps.size D0*16≤140737488355328) :
  CallsIn Fence.wide 5 Tryz.prog 72 #[.func (.func 119) #[] #[.pointer (some ⟨w.heap.size,0,none⟩)]] (w.alloc (.cells #[.map (some b)] 102)) fun e w'=>∃ (v:Value) (ss:List (List UInt8)),e = .returned v∧ss.Perm (strKeys D0) ∧
   w'.ownsRow (w.alloc (.cells #[.map (some b)] 102)).heap.size 9 1 v ss.length ((ss.mergeSort (fun x y=>decide (x≤y))).map encStr)∧(v = .slice none 0 0↔ss=[])∧Below (w.alloc (.cells #[.map (some b)] 102)).heap.size (w.alloc (.cells #[.map (some b)] 102)) w':=by
 have hbl:=hown.lt
 have hseq:SeqGives Fence.wide 2 Tryz.prog 119 #[.pointer (some ⟨w.heap.size,0,none⟩)] encStr (fun ss=>ss.Perm (strKeys D0)) (Maps.size D0) (w.alloc (.cells #[.map (some b)] 102)) :=
  AnyZ.keys_gives (ρ:=keys73_ren) { keys73 with } Fence.wide _ trivial rfl (by omega) w.heap.size b nn D0 _ (by simp) (by simp) (by
   obtain⟨es,clock,hb,Ft,hs,hD⟩:=hown
   exact⟨es,clock,(Below.heap_alloc _ _ b hbl).trans hb,Ft,hs,hD⟩)
 exact AnyZ.sorted_in sorted72 Fence.wide 5 trivial trivial trivial trivial rfl (by omega) (sorts72 _) (enters_of Tryz.func118 (by kernel_rfl) rfl) 119 #[.pointer (some ⟨w.heap.size,0,none⟩)] trivial (enters_of Tryz.func119 (by kernel_rfl) rfl) _ _ hmax hbytes _ hseq
end
section
open Go.RowKit KvP
set_option maxRecDepth 100000 in
set_option maxHeartbeats 4000000 in
theorem paired_any {B:Nat} (v:Value) (l:List PairP) (w:World) (hv:PairsV B w v l):Calls Tryz.prog 58 #[v] w fun e w'=>e = .returned (.bool (pairsB l))∧Below w.heap.size w w':=by
 have hv:=hv.tight
 obtain⟨_,a,c,rfl,h1,h2,_⟩:=id hv
 unfold maxLen at h2
 obtain⟨N,hN⟩:∃ N,N=l.length:=⟨_,rfl⟩
 rw [← hN] at hv h1 ⊢
 have HN:=zh hN
 have HV:=zh hv
 clear hN hv
 go_enter Tryz.func58,Tryz.ntmps58
 go_wp2_with fail
 go_loopw [3,4,7] (fun _ _ i wr=>∃ k:Nat,k≤N∧i = .int .i64 k∧Below w.heap.size w wr∧Hid (∀ i (_:i<k) (h':i<l.length),goodAt l i l[i]=true)) (fun _ _ i _=>N-(intOf i).toNat)
 case atStart=>exact⟨0,Nat.zero_le _,rfl,Below.refl _ _,zh (fun i h=>absurd h (Nat.not_lt_zero _))⟩
 case round =>
  obtain⟨k,hk,rfl,hb,HG⟩:=hrel
  by_cases hkN:k<N
  ·have hkl:k<l.length:=HN.out▸hkN
   have k1:(0:Int)≤(k:Int):=by omega
   have k2:(k:Int)<(N:Int):=by omega
   have k0:decide ((k:Int)<(N:Int))=true:=by simp;omega
   obtain⟨b,off,rfl,hbb,hc⟩:=load_pair HV.out hkl
   obtain⟨S0,S1⟩:=hc wr hb
   obtain⟨sk,hsk⟩:∃ s,s=ByteArray.mk l[k].key.toArray:=⟨_,rfl⟩
   obtain⟨sv,hsv⟩:∃ s,s=ByteArray.mk l[k].val.toArray:=⟨_,rfl⟩
   change wr.cell? _=some (.string _) at S0
   change wr.cell? _=some (.string _) at S1
   rw [← hsk] at S0
   rw [← hsv] at S1
   obtain⟨w1,hw1⟩:∃ x,x=wr.alloc (.cells #[.string sk,.string sv] 76):=⟨_,rfl⟩
   obtain⟨g,hg⟩:∃ g,g=wr.heap.size:=⟨_,rfl⟩
   have HW1:=zh hw1
   have HGG:=zh hg
   have HSK:=zh hsk
   have HSV:=zh hsv
   clear hsk hsv hw1 hg hc
   go_upto_region 4 with (fail)
   rw [← HW1.out,← HGG.out]
   have hb1:Below w.heap.size w w1:=by rw [HW1.out];exact Below.alloc hb hb.size _
   have hbox:w1.heap[g]?=some (.cells #[.string sk,.string sv] 76 (0,0)):=by rw [HW1.out,HGG.out];exact heap_alloc_new wr _
   have s0:Below w1.heap.size w1 w1.drew:=zD (Below.refl _ _) 1
   have L0:∀ w',Below w1.heap.size w1 w'→w'.cell? ⟨g,0,none⟩=some (.string sk):=fun w' h=>cR w' _ 0 _ _ _ ((h.block _ (zB hbox)).trans hbox)
   have L1:∀ w',Below w1.heap.size w1 w'→w'.cell? ⟨g,1,none⟩=some (.string sv):=fun w' h=>cR w' _ 1 _ _ _ ((h.block _ (zB hbox)).trans hbox)
   have HB1:=zh hb1
   have km:∀ w',Calls Tryz.prog 80 #[.string sk,.string sv] w' fun e w''=>e = .returned (.bool (mayP l[k].key l[k].val))∧w'=w'':=fun w'=>by
    rw [HSK.out,HSV.out]
    exact may_any _ _ w'
   obtain⟨cm,hcm⟩:∃ x,x=mayP l[k].key l[k].val:=⟨_,rfl⟩
   rw [← hcm] at km
   have HCM:=zh hcm
   have KM:=zh km
   clear hcm km hb1 hbox S0 S1
   by_cases h400:400≤k
   ·have c0:decide ((400:Int)≤(k:Int))=true:=by simp;omega
    have hfin:pairsB l=false:=by
     rw [Bool.eq_false_iff]
     intro h
     have:=pairsB_iff.1 h k hkl
     unfold goodAt at this
     rw [decide_eq_false (show ¬ k<400 by omega)] at this
     simp at this
    have HFIN:=zh hfin
    clear hfin
    refine zI [(false,0),(false,1),(false,2),(false,3),(false,4),(false,5),(false,6),(true,7),(false,8),(false,9),(false,10),(false,11),(false,12),(false,13),(false,14),(false,15),(false,16),(false,17),(false,18),(false,19),(false,20),(false,21),(false,22),(false,23),(false,24)] (fun w'=>Below w1.heap.size w1 w') (by kernel_rfl) (by kernel_rfl) s0 ?_
    repeat (first | (refine zS rfl rfl ?_;simp only [Act.put,zq1,zq2,zq3]) | (refine zT rfl ?_ rfl (fun w' hw'=>?_) ?_;rotate_left;(go_simp;first | done | with_reducible rfl);(try simp only [Act.put,zq1,zq2,zq3])))
    refine heldI_pass rfl rfl s0 ?_
    simp only [Act.put,zq1,zq2,zq3]
    repeat (first | (refine zS rfl rfl ?_;simp only [Act.put,zq1,zq2,zq3]) | (refine zT rfl ?_ rfl (fun w' hw'=>?_) ?_;rotate_left;(go_simp;first | done | with_reducible rfl);(try simp only [Act.put,zq1,zq2,zq3])))
    refine zN ?_
    go_wp2_with fail
    go_ret
    exact⟨by rw [HFIN.out];rfl,HB1.out.trans (s0.mono HB1.out.size)⟩
   have c0:decide ((400:Int)≤(k:Int))=false:=by simp;omega
   cases cm with
   | false =>
    have hfin:pairsB l=false:=by
     rw [Bool.eq_false_iff]
     intro h
     have:=pairsB_iff.1 h k hkl
     unfold goodAt at this
     rw [← HCM.out] at this
     simp at this
    have HFIN:=zh hfin
    clear hfin
    refine zI [(false,0),(false,1),(false,2),(false,3),(false,4),(false,5),(false,6),(true,7),(false,8),(false,9),(false,10),(false,11),(false,12),(false,13),(false,14),(false,15),(false,16),(false,17),(false,18),(false,19),(false,20),(false,21),(false,22),(false,23),(false,24)] (fun w'=>Below w1.heap.size w1 w') (by kernel_rfl) (by kernel_rfl) s0 ?_
    repeat (first | (refine zS rfl rfl ?_;simp only [Act.put,zq1,zq2,zq3]) | (refine zT rfl ?_ rfl (fun w' hw'=>?_) ?_;rotate_left;(go_simp;first | done | with_reducible rfl);(try simp only [Act.put,zq1,zq2,zq3])))
    refine zA rfl rfl fun K hK=>?_
    go_simp
    refine (KM.out _).mono ?_
    rintro e w5 ⟨rfl,rfl⟩
    refine hK.out _ _ s0 ?_
    clear hK K
    repeat (first | (refine zS rfl rfl ?_;simp only [Act.put,zq1,zq2,zq3]) | (refine zT rfl ?_ rfl (fun w' hw'=>?_) ?_;rotate_left;(go_simp;first | done | with_reducible rfl);(try simp only [Act.put,zq1,zq2,zq3])))
    refine zN ?_
    go_wp2_with fail
    go_ret
    exact⟨by rw [HFIN.out];rfl,HB1.out.trans (s0.mono HB1.out.size)⟩
   | true =>
    cases k with
    | zero =>
     have hok:goodAt l 0 l[0]=true:=by
      unfold goodAt
      rw [← HCM.out]
      simp
     have HOK:=zh hok
     clear hok
     refine zI [(false,0),(false,1),(false,2),(false,3),(false,4),(false,5),(false,6),(true,7),(false,8),(false,9),(false,10),(false,11),(false,12),(false,13),(false,14),(false,15),(false,16),(false,17),(false,18),(false,19),(false,20),(false,21),(false,22),(false,23),(false,24)] (fun w'=>Below w1.heap.size w1 w') (by kernel_rfl) (by kernel_rfl) s0 ?_
     repeat (first | (refine zS rfl rfl ?_;simp only [Act.put,zq1,zq2,zq3]) | (refine zT rfl ?_ rfl (fun w' hw'=>?_) ?_;rotate_left;(go_simp;first | done | with_reducible rfl);(try simp only [Act.put,zq1,zq2,zq3])))
     refine zA rfl rfl fun K hK=>?_
     go_simp
     refine (KM.out _).mono ?_
     rintro e w5 ⟨rfl,rfl⟩
     refine hK.out _ _ s0 ?_
     clear hK K
     repeat (first | (refine zS rfl rfl ?_;simp only [Act.put,zq1,zq2,zq3]) | (refine zT rfl ?_ rfl (fun w' hw'=>?_) ?_;rotate_left;(go_simp;first | done | with_reducible rfl);(try simp only [Act.put,zq1,zq2,zq3])))
     refine zN ?_
     go_wp2_with fail
     go_roundw
     case rel =>
      refine⟨0+1,by omega,by go_num,HB1.out.trans (s0.mono HB1.out.size),zh (fun i hi h'=>?_)⟩
      by_cases hik:i<0
      ·exact HG.out i hik h'
      ·obtain rfl:i=0:=by omega
       exact HOK.out
     case measure=>simp [intOf];omega
    | succ j =>
     obtain⟨b',off',he',_,hc'⟩:=load_pair HV.out (show j<l.length by omega)
     cases he'
     obtain⟨sp,hsp⟩:∃ s,s=ByteArray.mk l[j].key.toArray:=⟨_,rfl⟩
     have L2:∀ w',Below w1.heap.size w1 w'→w'.cell? ⟨b,off+j*2,none⟩=some (.string sp):=fun w' h=>by
      rw [hsp]
      exact (hc' w' (HB1.out.trans (h.mono HB1.out.size))).1
     obtain⟨cl,hcl⟩:∃ x,x=decide (l[j].key<l[j+1].key):=⟨_,rfl⟩
     have kb:Op.bytesLess sp.toList sk.toList=cl:=by rw [hsp,HSK.out,str_list,str_list,bytesLess_eq,hcl]
     have hok:goodAt l (j+1) l[j+1]=cl:=by
      unfold goodAt
      rw [← HCM.out,decide_eq_true (show j+1<400 by omega),Nat.add_sub_cancel,List.getElem?_eq_getElem (show j<l.length by omega)]
      simp [hcl]
     have HOK:=zh hok
     clear hok hcl hsp hc'
     have j1:(0:Int)≤(j:Int):=by omega
     have hwj:IntKind.i64.wrap (j:Int)=(j:Int):=by
      simp only [IntKind.wrap,IntKind.bits,IntKind.signed]
      simp
      omega
     have c1:decide ((400:Int)≤(j:Int)+1)=false:=by simp;omega
     have c2:decide ((0:Int)<(j:Int)+1)=true:=decide_eq_true (by omega)
     have j2:(j:Int)<(N:Int):=by omega
     cases cl with
     | false =>
      have hfin:pairsB l=false:=by
       rw [Bool.eq_false_iff]
       intro h
       have:=pairsB_iff.1 h (j+1) hkl
       rw [HOK.out] at this
       cases this
      have HFIN:=zh hfin
      clear hfin
      refine zI [(false,0),(false,1),(false,2),(false,3),(false,4),(false,5),(false,6),(true,7),(false,8),(false,9),(false,10),(false,11),(false,12),(false,13),(false,14),(false,15),(false,16),(false,17),(false,18),(false,19),(false,20),(false,21),(false,22),(false,23),(false,24)] (fun w'=>Below w1.heap.size w1 w') (by kernel_rfl) (by kernel_rfl) s0 ?_
      repeat (first | (refine zS rfl rfl ?_;simp only [Act.put,zq1,zq2,zq3]) | (refine zT rfl ?_ rfl (fun w' hw'=>?_) ?_;rotate_left;(go_simp;first | done | with_reducible rfl);(try simp only [Act.put,zq1,zq2,zq3])))
      refine zA rfl rfl fun K hK=>?_
      go_simp
      refine (KM.out _).mono ?_
      rintro e w5 ⟨rfl,rfl⟩
      refine hK.out _ _ s0 ?_
      clear hK K
      repeat (first | (refine zS rfl rfl ?_;simp only [Act.put,zq1,zq2,zq3]) | (refine zT rfl ?_ rfl (fun w' hw'=>?_) ?_;rotate_left;(go_simp;first | done | with_reducible rfl);(try simp only [Act.put,zq1,zq2,zq3])))
      refine zN ?_
      go_wp2_with fail
      go_ret
      exact⟨by rw [HFIN.out];rfl,HB1.out.trans (s0.mono HB1.out.size)⟩
     | true =>
      refine zI [(false,0),(false,1),(false,2),(false,3),(false,4),(false,5),(false,6),(true,7),(false,8),(false,9),(false,10),(false,11),(false,12),(false,13),(false,14),(false,15),(false,16),(false,17),(false,18),(false,19),(false,20),(false,21),(false,22),(false,23),(false,24)] (fun w'=>Below w1.heap.size w1 w') (by kernel_rfl) (by kernel_rfl) s0 ?_
      repeat (first | (refine zS rfl rfl ?_;simp only [Act.put,zq1,zq2,zq3]) | (refine zT rfl ?_ rfl (fun w' hw'=>?_) ?_;rotate_left;(go_simp;first | done | with_reducible rfl);(try simp only [Act.put,zq1,zq2,zq3])))
      refine zA rfl rfl fun K hK=>?_
      go_simp
      refine (KM.out _).mono ?_
      rintro e w5 ⟨rfl,rfl⟩
      refine hK.out _ _ s0 ?_
      clear hK K
      repeat (first | (refine zS rfl rfl ?_;simp only [Act.put,zq1,zq2,zq3]) | (refine zT rfl ?_ rfl (fun w' hw'=>?_) ?_;rotate_left;(go_simp;first | done | with_reducible rfl);(try simp only [Act.put,zq1,zq2,zq3])))
      refine zN ?_
      go_wp2_with fail
      go_roundw
      case rel =>
       refine⟨(j+1)+1,by omega,by go_num,HB1.out.trans (s0.mono HB1.out.size),zh (fun i hi h'=>?_)⟩
       by_cases hik:i<(j+1)
       ·exact HG.out i hik h'
       ·obtain rfl:i=(j+1):=by omega
        exact HOK.out
      case measure=>simp [intOf];omega
  ·have k0:decide ((k:Int)<(N:Int))=false:=by simp;omega
   have hfin:pairsB l=true:=pairsB_iff.2 (fun i hi=>HG.out i (by have:=HN.out;omega) hi)
   have HFIN:=zh hfin
   clear hfin
   go_wp2_with fail
   go_ret
   exact⟨by rw [HFIN.out];rfl,hb⟩
end
section
open Go.RowKit KvP
set_option maxRecDepth 100000 in
set_option maxHeartbeats 4000000 in
theorem changed1_any (c:ChangeP) (w:World):Calls Tryz.prog 79 #[.agg #[str c.key,str c.val,.bool c.gone]] w fun e w'=>e = .returned (.bool (!okC c))∧Below w.heap.size w w':=by
 obtain⟨key,val,gone⟩:=c
 unfold str
 dsimp only
 obtain⟨sk,hsk⟩:∃ s,s=ByteArray.mk key.toArray:=⟨_,rfl⟩
 obtain⟨sv,hsv⟩:∃ s,s=ByteArray.mk val.toArray:=⟨_,rfl⟩
 rw [← hsk,← hsv]
 have HSK:=zh hsk
 have HSV:=zh hsv
 have km:∀ w',Calls Tryz.prog 80 #[.string sk,.string sv] w' fun e w''=>e = .returned (.bool (mayP key val))∧w'=w'':=fun w'=>by
  rw [HSK.out,HSV.out]
  exact may_any _ _ w'
 obtain⟨cm,hcm⟩:∃ x,x=mayP key val:=⟨_,rfl⟩
 obtain⟨ce,hce⟩:∃ x,x=sv.toList.isEmpty:=⟨_,rfl⟩
 have hok:okC ⟨key,val,gone⟩=(cm&&!(gone&&!ce)):=by
  unfold okC
  rw [hcm,hce,HSV.out,str_list]
  cases val <;> simp
 rw [hok]
 rw [← hcm] at km
 have KM:=zh km
 have q0:sv.toList.isEmpty=ce:=hce.symm
 clear hsk hsv hcm hce km hok
 go_enter Tryz.func79,Tryz.ntmps79
 go_wp2_with fail
 refine (KM.out _).mono ?_
 rintro e w5 ⟨rfl,rfl⟩
 have hb:Below w.heap.size w (w.alloc (.cells #[.string sk,.string sv,.bool gone] 33)):=Below.alloc (Below.refl _ _) (Nat.le_refl _) _
 have HB:=zh hb
 clear hb
 cases cm with
 | false =>
  go_wp2_with fail
  go_ret
  exact⟨rfl,HB.out⟩
 | true =>
  cases gone with
  | false =>
   go_wp2_with fail
   go_ret
   exact⟨rfl,HB.out⟩
  | true =>
   cases ce with
   | false =>
    go_wp2_with fail
    go_ret
    exact⟨rfl,HB.out⟩
   | true =>
    go_wp2_with fail
    go_ret
    exact⟨rfl,HB.out⟩
end
end Go.Proofs.YtaijompnohkmaaaGreatDoor
