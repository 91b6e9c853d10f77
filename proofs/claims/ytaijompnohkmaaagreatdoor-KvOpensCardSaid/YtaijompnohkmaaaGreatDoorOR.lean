/- Layer 6 (kv), the document's answer: may changes be. -/
import Derived.Test.YtaijompnohkmaaaGreatDoorOQ
import Derived.Test.YtaijompnohkmaaaGreatDoorCards
import Derived.Test.YtaijompnohkmaaaGreatDoorTie
import Derived.Deep.DeepHandedRow
import Derived.Lib.LaidTab
import Derived.ChangeSame
import Derived.OpenShut
import Derived.Carry
import Derived.ProofKit
import Derived.KernelRfl
set_option linter.unusedSimpArgs false
set_option linter.unusedVariables false
namespace Go.Proofs.YtaijompnohkmaaaGreatDoor
section
open Go.RowKit KvP
theorem okC_eq (c:ChangeP):okC c=(mayP c.key c.val&&!(c.gone&&!c.val.isEmpty)):=by
 unfold okC
 cases c.val <;> simp
set_option maxRecDepth 100000 in
set_option maxHeartbeats 4000000 in
theorem refchanges_any {B:Nat} (v:Value) (l:List ChangeP) (w:World) (hv:ChangesV B w v l):Calls Tryz.prog 36 #[v] w fun e w'=>e = .returned (.bool (changesB l))∧Below w.heap.size w w':=by
 have hv:=hv.tight
 obtain⟨_,a,c,rfl,h1,h2,_⟩:=id hv
 unfold maxLen at h2
 obtain⟨N,hN⟩:∃ N,N=l.length:=⟨_,rfl⟩
 rw [← hN] at hv h1 ⊢
 have HN:=zh hN
 have HV:=zh hv
 clear hN hv
 go_enter Tryz.func36,Tryz.ntmps36
 go_wp2_with fail
 go_loopw [3] (fun i wr=>∃ k:Nat,k≤N∧k≤401∧i = .int .i64 k∧Below w.heap.size w wr∧Hid (∀ c∈l.take k,okC c=true)) (fun i _=>N-(intOf i).toNat)
 case atStart=>exact⟨0,Nat.zero_le _,by decide,rfl,Below.refl _ _,zh (fun c h=>by simp at h)⟩
 case round =>
  obtain⟨k,hk,hk401,rfl,hb,HG⟩:=hrel
  by_cases hkN:k<N
  ·have k0:decide ((k:Int)<(N:Int))=true:=by simp;omega
   by_cases hk4:k<401
   ·have q4:decide ((k:Int)<401)=true:=by simp;omega
    have hkl:k<l.length:=HN.out▸hkN
    have k1:(0:Int)≤(k:Int):=by omega
    have k2:(k:Int)<(N:Int):=by omega
    obtain⟨b,off,rfl,hbb,hc⟩:=load_change HV.out hkl
    obtain⟨x,hx⟩:∃ x,x=l[k]:=⟨_,rfl⟩
    have hbad:okC x=false→changesB l=false:=fun h=>by
     unfold changesB
     rw [Bool.and_eq_false_iff]
     refine .inr ?_
     rw [Bool.eq_false_iff]
     intro h'
     have:=List.all_eq_true.1 h' _ (List.getElem_mem hkl)
     rw [← hx,h] at this
     cases this
    have hgood:okC x=true→∀ c∈l.take (k+1),okC c=true:=fun h c hc=>by
     rw [List.take_succ_eq_append_getElem hkl] at hc
     rcases List.mem_append.1 hc with hc | hc
     ·exact HG.out c hc
     ·rw [List.mem_singleton.1 hc,← hx];exact h
    rw [← hx] at hc
    obtain⟨key,val,gn⟩:=x
    dsimp only at hc
    obtain⟨sk,hsk⟩:∃ s,s=ByteArray.mk key.toArray:=⟨_,rfl⟩
    obtain⟨sv,hsv⟩:∃ s,s=ByteArray.mk val.toArray:=⟨_,rfl⟩
    have L0:∀ w',Below w.heap.size w w'→w'.cell? ⟨b,off+k*3,none⟩=some (.string sk):=fun w' h=>by rw [hsk];exact (hc w' h).1
    have L1:∀ w',Below w.heap.size w w'→w'.cell? ⟨b,off+k*3+1,none⟩=some (.string sv):=fun w' h=>by rw [hsv];exact (hc w' h).2.1
    have L2:∀ w',Below w.heap.size w w'→w'.cell? ⟨b,off+k*3+2,none⟩=some (.bool gn):=fun w' h=>(hc w' h).2.2
    have s0:Below w.heap.size w wr.drew:=zD hb 1
    have HSK:=zh hsk
    have HSV:=zh hsv
    have km:∀ w',Calls Tryz.prog 71 #[.string sk,.string sv] w' fun e w''=>e = .returned (.bool (mayP key val))∧w'=w'':=fun w'=>by
     rw [HSK.out,HSV.out]
     exact refmay_any _ _ w'
    obtain⟨cm,hcm⟩:∃ x,x=mayP key val:=⟨_,rfl⟩
    obtain⟨ce,hce⟩:∃ x,x=sv.toList.isEmpty:=⟨_,rfl⟩
    have hok:okC ⟨key,val,gn⟩=(cm&&!(gn&&!ce)):=by rw [okC_eq,hcm,hce,HSV.out,str_list]
    rw [hok] at hbad hgood
    rw [← hcm] at km
    have q0:sv.toList.isEmpty=ce:=hce.symm
    have HBAD:=zh hbad
    have HGOOD:=zh hgood
    have KM:=zh km
    clear hcm km hsk hsv hc hx hbad hgood hok hce
    go_upto_region 4 with (fail)
    cases cm <;> cases gn <;> cases ce
    ·skip
     refine zI [(false,0),(false,1),(false,2),(false,3),(false,4),(false,5),(false,6),(false,7),(false,8),(false,9),(true,10),(false,11),(false,12),(false,13),(false,14),(false,15),(false,16),(false,17),(false,18),(false,19),(false,20),(false,21),(false,22),(false,23),(false,24),(false,25),(false,26)] (fun w'=>Below w.heap.size w w') (by kernel_rfl) (by kernel_rfl) s0 ?_
     repeat (first | (refine zS rfl rfl ?_;simp only [Act.put,zq1,zq2,zq3]) | (refine zT rfl ?_ rfl (fun w' hw'=>?_) ?_;rotate_left;(go_simp;first | done | with_reducible rfl);(try simp only [Act.put,zq1,zq2,zq3])))
     refine zA rfl rfl fun K hK=>?_
     go_simp
     refine (KM.out _).mono ?_
     rintro e w5 ⟨rfl,rfl⟩
     refine hK.out _ _ s0 ?_
     clear hK K
     repeat (first | (refine zS rfl rfl ?_;simp only [Act.put,zq1,zq2,zq3]) | (refine zT rfl ?_ rfl (fun w' hw'=>?_) ?_;rotate_left;(go_simp;first | done | with_reducible rfl);(try simp only [Act.put,zq1,zq2,zq3])))
     refine zN ?_
     go_wp2_with fail
     go_ret
     exact⟨by rw [HBAD.out rfl];rfl,s0⟩
    ·skip
     refine zI [(false,0),(false,1),(false,2),(false,3),(false,4),(false,5),(false,6),(false,7),(false,8),(false,9),(true,10),(false,11),(false,12),(false,13),(false,14),(false,15),(false,16),(false,17),(false,18),(false,19),(false,20),(false,21),(false,22),(false,23),(false,24),(false,25),(false,26)] (fun w'=>Below w.heap.size w w') (by kernel_rfl) (by kernel_rfl) s0 ?_
     repeat (first | (refine zS rfl rfl ?_;simp only [Act.put,zq1,zq2,zq3]) | (refine zT rfl ?_ rfl (fun w' hw'=>?_) ?_;rotate_left;(go_simp;first | done | with_reducible rfl);(try simp only [Act.put,zq1,zq2,zq3])))
     refine zA rfl rfl fun K hK=>?_
     go_simp
     refine (KM.out _).mono ?_
     rintro e w5 ⟨rfl,rfl⟩
     refine hK.out _ _ s0 ?_
     clear hK K
     repeat (first | (refine zS rfl rfl ?_;simp only [Act.put,zq1,zq2,zq3]) | (refine zT rfl ?_ rfl (fun w' hw'=>?_) ?_;rotate_left;(go_simp;first | done | with_reducible rfl);(try simp only [Act.put,zq1,zq2,zq3])))
     refine zN ?_
     go_wp2_with fail
     go_ret
     exact⟨by rw [HBAD.out rfl];rfl,s0⟩
    ·skip
     refine zI [(false,0),(false,1),(false,2),(false,3),(false,4),(false,5),(false,6),(false,7),(false,8),(false,9),(true,10),(false,11),(false,12),(false,13),(false,14),(false,15),(false,16),(false,17),(false,18),(false,19),(false,20),(false,21),(false,22),(false,23),(false,24),(false,25),(false,26)] (fun w'=>Below w.heap.size w w') (by kernel_rfl) (by kernel_rfl) s0 ?_
     repeat (first | (refine zS rfl rfl ?_;simp only [Act.put,zq1,zq2,zq3]) | (refine zT rfl ?_ rfl (fun w' hw'=>?_) ?_;rotate_left;(go_simp;first | done | with_reducible rfl);(try simp only [Act.put,zq1,zq2,zq3])))
     refine zA rfl rfl fun K hK=>?_
     go_simp
     refine (KM.out _).mono ?_
     rintro e w5 ⟨rfl,rfl⟩
     refine hK.out _ _ s0 ?_
     clear hK K
     repeat (first | (refine zS rfl rfl ?_;simp only [Act.put,zq1,zq2,zq3]) | (refine zT rfl ?_ rfl (fun w' hw'=>?_) ?_;rotate_left;(go_simp;first | done | with_reducible rfl);(try simp only [Act.put,zq1,zq2,zq3])))
     refine zN ?_
     go_wp2_with fail
     go_ret
     exact⟨by rw [HBAD.out rfl];rfl,s0⟩
    ·skip
     refine zI [(false,0),(false,1),(false,2),(false,3),(false,4),(false,5),(false,6),(false,7),(false,8),(false,9),(true,10),(false,11),(false,12),(false,13),(false,14),(false,15),(false,16),(false,17),(false,18),(false,19),(false,20),(false,21),(false,22),(false,23),(false,24),(false,25),(false,26)] (fun w'=>Below w.heap.size w w') (by kernel_rfl) (by kernel_rfl) s0 ?_
     repeat (first | (refine zS rfl rfl ?_;simp only [Act.put,zq1,zq2,zq3]) | (refine zT rfl ?_ rfl (fun w' hw'=>?_) ?_;rotate_left;(go_simp;first | done | with_reducible rfl);(try simp only [Act.put,zq1,zq2,zq3])))
     refine zA rfl rfl fun K hK=>?_
     go_simp
     refine (KM.out _).mono ?_
     rintro e w5 ⟨rfl,rfl⟩
     refine hK.out _ _ s0 ?_
     clear hK K
     repeat (first | (refine zS rfl rfl ?_;simp only [Act.put,zq1,zq2,zq3]) | (refine zT rfl ?_ rfl (fun w' hw'=>?_) ?_;rotate_left;(go_simp;first | done | with_reducible rfl);(try simp only [Act.put,zq1,zq2,zq3])))
     refine zN ?_
     go_wp2_with fail
     go_ret
     exact⟨by rw [HBAD.out rfl];rfl,s0⟩
    ·skip
     refine zI [(false,0),(false,1),(false,2),(false,3),(false,4),(false,5),(false,6),(false,7),(false,8),(false,9),(true,10),(false,11),(false,12),(false,13),(false,14),(false,15),(false,16),(false,17),(false,18),(false,19),(false,20),(false,21),(false,22),(false,23),(false,24),(false,25),(false,26)] (fun w'=>Below w.heap.size w w') (by kernel_rfl) (by kernel_rfl) s0 ?_
     repeat (first | (refine zS rfl rfl ?_;simp only [Act.put,zq1,zq2,zq3]) | (refine zT rfl ?_ rfl (fun w' hw'=>?_) ?_;rotate_left;(go_simp;first | done | with_reducible rfl);(try simp only [Act.put,zq1,zq2,zq3])))
     refine zA rfl rfl fun K hK=>?_
     go_simp
     refine (KM.out _).mono ?_
     rintro e w5 ⟨rfl,rfl⟩
     refine hK.out _ _ s0 ?_
     clear hK K
     repeat (first | (refine zS rfl rfl ?_;simp only [Act.put,zq1,zq2,zq3]) | (refine zT rfl ?_ rfl (fun w' hw'=>?_) ?_;rotate_left;(go_simp;first | done | with_reducible rfl);(try simp only [Act.put,zq1,zq2,zq3])))
     refine zN ?_
     go_wp2_with fail
     go_roundw
     case rel=>exact⟨k+1,by omega,by omega,by go_num,s0,zh (HGOOD.out rfl)⟩
     case measure=>simp [intOf];omega
    ·skip
     refine zI [(false,0),(false,1),(false,2),(false,3),(false,4),(false,5),(false,6),(false,7),(false,8),(false,9),(true,10),(false,11),(false,12),(false,13),(false,14),(false,15),(false,16),(false,17),(false,18),(false,19),(false,20),(false,21),(false,22),(false,23),(false,24),(false,25),(false,26)] (fun w'=>Below w.heap.size w w') (by kernel_rfl) (by kernel_rfl) s0 ?_
     repeat (first | (refine zS rfl rfl ?_;simp only [Act.put,zq1,zq2,zq3]) | (refine zT rfl ?_ rfl (fun w' hw'=>?_) ?_;rotate_left;(go_simp;first | done | with_reducible rfl);(try simp only [Act.put,zq1,zq2,zq3])))
     refine zA rfl rfl fun K hK=>?_
     go_simp
     refine (KM.out _).mono ?_
     rintro e w5 ⟨rfl,rfl⟩
     refine hK.out _ _ s0 ?_
     clear hK K
     repeat (first | (refine zS rfl rfl ?_;simp only [Act.put,zq1,zq2,zq3]) | (refine zT rfl ?_ rfl (fun w' hw'=>?_) ?_;rotate_left;(go_simp;first | done | with_reducible rfl);(try simp only [Act.put,zq1,zq2,zq3])))
     refine zN ?_
     go_wp2_with fail
     go_roundw
     case rel=>exact⟨k+1,by omega,by omega,by go_num,s0,zh (HGOOD.out rfl)⟩
     case measure=>simp [intOf];omega
    ·skip
     refine zI [(false,0),(false,1),(false,2),(false,3),(false,4),(false,5),(false,6),(false,7),(false,8),(false,9),(true,10),(false,11),(false,12),(false,13),(false,14),(false,15),(false,16),(false,17),(false,18),(false,19),(false,20),(false,21),(false,22),(false,23),(false,24),(false,25),(false,26)] (fun w'=>Below w.heap.size w w') (by kernel_rfl) (by kernel_rfl) s0 ?_
     repeat (first | (refine zS rfl rfl ?_;simp only [Act.put,zq1,zq2,zq3]) | (refine zT rfl ?_ rfl (fun w' hw'=>?_) ?_;rotate_left;(go_simp;first | done | with_reducible rfl);(try simp only [Act.put,zq1,zq2,zq3])))
     refine zA rfl rfl fun K hK=>?_
     go_simp
     refine (KM.out _).mono ?_
     rintro e w5 ⟨rfl,rfl⟩
     refine hK.out _ _ s0 ?_
     clear hK K
     repeat (first | (refine zS rfl rfl ?_;simp only [Act.put,zq1,zq2,zq3]) | (refine zT rfl ?_ rfl (fun w' hw'=>?_) ?_;rotate_left;(go_simp;first | done | with_reducible rfl);(try simp only [Act.put,zq1,zq2,zq3])))
     refine zN ?_
     go_wp2_with fail
     go_ret
     exact⟨by rw [HBAD.out rfl];rfl,s0⟩
    ·skip
     refine zI [(false,0),(false,1),(false,2),(false,3),(false,4),(false,5),(false,6),(false,7),(false,8),(false,9),(true,10),(false,11),(false,12),(false,13),(false,14),(false,15),(false,16),(false,17),(false,18),(false,19),(false,20),(false,21),(false,22),(false,23),(false,24),(false,25),(false,26)] (fun w'=>Below w.heap.size w w') (by kernel_rfl) (by kernel_rfl) s0 ?_
     repeat (first | (refine zS rfl rfl ?_;simp only [Act.put,zq1,zq2,zq3]) | (refine zT rfl ?_ rfl (fun w' hw'=>?_) ?_;rotate_left;(go_simp;first | done | with_reducible rfl);(try simp only [Act.put,zq1,zq2,zq3])))
     refine zA rfl rfl fun K hK=>?_
     go_simp
     refine (KM.out _).mono ?_
     rintro e w5 ⟨rfl,rfl⟩
     refine hK.out _ _ s0 ?_
     clear hK K
     repeat (first | (refine zS rfl rfl ?_;simp only [Act.put,zq1,zq2,zq3]) | (refine zT rfl ?_ rfl (fun w' hw'=>?_) ?_;rotate_left;(go_simp;first | done | with_reducible rfl);(try simp only [Act.put,zq1,zq2,zq3])))
     refine zN ?_
     go_wp2_with fail
     go_roundw
     case rel=>exact⟨k+1,by omega,by omega,by go_num,s0,zh (HGOOD.out rfl)⟩
     case measure=>simp [intOf];omega
   ·have q4:decide ((k:Int)<401)=false:=by simp;omega
    have q5:decide ((N:Int)≤400)=false:=by simp;omega
    have hfin:changesB l=false:=by
     unfold changesB
     rw [decide_eq_false (show ¬ l.length≤400 by have:=HN.out;omega)]
     rfl
    have HFIN:=zh hfin
    clear hfin
    go_wp2_with fail
    go_ret
    exact⟨by rw [HFIN.out];rfl,hb⟩
  ·have k0:decide ((k:Int)<(N:Int))=false:=by simp;omega
   obtain⟨le,hle⟩:∃ x,x=decide ((N:Int)≤400):=⟨_,rfl⟩
   have hfin:changesB l=le:=by
    unfold changesB
    rw [List.all_eq_true.2 (fun c hc=>HG.out c (by rw [List.take_of_length_le (by have:=HN.out;omega)];exact hc)),Bool.and_true,hle,← HN.out]
    by_cases h:N≤400
    ·rw [decide_eq_true h,decide_eq_true (by omega)]
    ·rw [decide_eq_false h,decide_eq_false (by omega)]
   have HFIN:=zh hfin
   have HLE:=zh hle
   clear hfin hle
   go_wp2_with fail
   go_ret
   exact⟨by rw [HFIN.out,HLE.out];rfl,hb⟩
end
section
open Go.RowKit KvP PackP
theorem refdoneE_any (B g:Nat) (w:World) (r:RS) (h:RdAt 87 B g w r):Calls Tryz.prog 56 #[.pointer (some ⟨g,0,none⟩)] w fun e w'=>e = .returned (.int .i64 r.doneE)∧RdEnd 87 B g w w' r:=by
 refine (refRDone_any B g w r h).mono ?_
 rintro e w' ⟨rfl,rfl⟩
 exact⟨rfl,h,only_refl _ _⟩
set_option maxRecDepth 100000 in
set_option maxHeartbeats 4000000 in
theorem refdecode_any {B:Nat} (v:Value) (bs:List UInt8) (w:World) (hv:Bytes B w v bs) :
  Calls Tryz.prog 15 #[v] w fun e w'=>(∃ u,e = .returned (.tuple #[u,.int .i64 (decodeP bs).2])∧ChangesO w.heap.size w' u (decodeP bs).1)∧Below w.heap.size w w':=by
 have hv:=hv.tight
 obtain⟨M,hM,hM4⟩:=count_nat (RS.mk bs 0)
 obtain⟨g,hg⟩:∃ g,g=w.heap.size:=⟨_,rfl⟩
 obtain⟨r0,hr0⟩:∃ r,r=((RS.mk bs 0).count 400).1:=⟨_,rfl⟩
 have hD1:=decodeP_bad bs M hM
 have hD2:=decodeP_form bs M hM
 have hD3:=decodeP_good bs M hM
 rw [← hr0] at hD1 hD2 hD3
 have HD1:=zh hD1
 have HD2:=zh hD2
 have HD3:=zh hD3
 have HG:=zh hg
 clear hD1 hD2 hD3 hg
 obtain⟨_,a,c,rfl,_,_,_⟩:=id hv
 have hbw:Below w.heap.size w (w.alloc (.cells #[.slice a bs.length c,.int .i64 0] 87)):=Below.alloc (Below.refl _ _) (Nat.le_refl _) _
 have hR0:RdAt 87 w.heap.size w.heap.size (w.alloc (.cells #[.slice a bs.length c,.int .i64 0] 87)) ⟨bs,0⟩:=⟨_,heap_alloc_new w _,hv.below hbw,Nat.le_refl _⟩
 obtain⟨w1,hw1⟩:∃ x,x=w.alloc (.cells #[.slice a bs.length c,.int .i64 0] 87):=⟨_,rfl⟩
 rw [← hw1,← HG.out] at hR0 hbw
 have kcount:=refRCount_any g g w1 ⟨bs,0⟩ 400 hR0
 rw [hM,← hr0] at kcount
 have HW1:=zh hw1
 clear hw1 hM hr0 hv
 rw [← HG.out]
 go_enter Tryz.func15,Tryz.ntmps15
 go_upto_region 3 with (fail)
 rw [← HW1.out,← HG.out]
 go_wp2_with fail
 refine kcount.mono ?_
 rintro e w2 ⟨rfl,hR,hgw⟩
 have hb2:Below g w w2:=hbw.trans (below_of_only hgw (Nat.le_refl _) (by have:=hbw.size;have:=HG.out;omega))
 have hs2:g+1≤w2.heap.size:=by have:=hR.parts;obtain⟨_,h,_⟩:=this;exact zB h
 clear kcount hbw hR0 hgw
 have HR2:=zh hR
 clear hR
 go_wp2_with fail
 go_loopw [5,6] (fun l i wr=>∃ k:Nat,k≤M∧i = .int .i64 ((M-k:Nat):Int)∧RdAt 87 g g wr (decN k r0).1∧ChangesO (g+1) wr l (decN k r0).2∧Below g w wr∧g+1≤wr.heap.size) (fun _ i _=>(intOf i).toNat)
 case atStart=>exact⟨0,Nat.zero_le _,rfl,HR2.out,ChangesO.none _ _ _,hb2,hs2⟩
 case round =>
  obtain⟨k,hk,rfl,hR,hO,hb,hs⟩:=hrel
  clear hb2 hs2 HR2
  obtain⟨r,hr⟩:∃ x,x=(decN k r0).1:=⟨_,rfl⟩
  obtain⟨cs,hcs⟩:∃ x,x=(decN k r0).2:=⟨_,rfl⟩
  have hlen:cs.length=k:=by rw [hcs,len_decN]
  have hsn:=decN_snoc k r0
  rw [← hr,← hcs] at hsn
  rw [← hr] at hR
  rw [← hcs] at hO
  by_cases hkM:k<M
  ·have k0:decide ((0:Int)<((M-k:Nat):Int))=true:=by simp;omega
   obtain⟨_,C0,_,_,_,C1,_,_⟩:=hR.parts
   clear C0
   by_cases hre:r.e=0
   ·have q0:(r.e == 0)=true:=by rw [hre];rfl
    obtain⟨z,hz⟩:∃ x,x=r.num.2:=⟨_,rfl⟩
    obtain⟨r1,hr1⟩:∃ x,x=r.num.1:=⟨_,rfl⟩
    obtain⟨r2,hr2⟩:∃ x,x=r1.fail (decide (1<z)) 3:=⟨_,rfl⟩
    obtain⟨r3,hr3⟩:∃ x,x=r2.text.1:=⟨_,rfl⟩
    obtain⟨s,hs0⟩:∃ x,x=r2.text.2:=⟨_,rfl⟩
    have kc:=refRNum_any g g _ r hR
    rw [← hz,← hr1] at kc
    have HO:=zh hO
    have HRK:=zh hR
    have HLEN:=zh hlen
    have HSN:=zh hsn
    have HB:=zh hb
    have e1:z=1→(decN (k+1) r0)=(r3,cs++[⟨s,[],true⟩]):=fun h=>by
     rw [hsn,dec1_gone (by rw [← hz];exact h),← hr1,← hz,← hr2,← hr3,← hs0]
    have e2:z≠1→(decN (k+1) r0)=(r3.text.1,cs++[⟨s,r3.text.2,false⟩]):=fun h=>by
     rw [hsn,dec1_put (by rw [← hz];exact h),← hr1,← hz,← hr2,← hr3,← hs0]
    have E1:=zh e1
    have E2:=zh e2
    have kf:=fun w1 (h:RdAt 87 g g w1 r1)=>refRFail_any g g w1 r1 (decide (1<z)) h
    rw [← hr2] at kf
    have kt:=fun w1 (h:RdAt 87 g g w1 r2)=>refRText_any g g w1 r2 h
    rw [← hr3,← hs0] at kt
    have KF:=zh kf
    have KT:=zh kt
    clear hz hr1 hr2 hr3 hs0 hsn hlen hR hO e1 e2 kf kt hb hr hcs
    try clear hre
    go_wp2_with fail
    refine kc.mono ?_
    rintro e w3 ⟨rfl,hR3,hg3⟩
    clear kc
    try clear C1
    have kc:=KF.out w3 hR3
    clear hR3
    go_wp2_with fail
    refine kc.mono ?_
    rintro e w4 ⟨rfl,hR4,hg4⟩
    clear kc KF
    have kc:=KT.out w4 hR4
    have hO4:=(Own.far HO.out hg3 (Nat.lt_succ_self _)).far hg4 (Nat.lt_succ_self _)
    have hgs:w4.grownBy w4 (some g):=only_refl _ _
    clear hR4 HO HRK
    go_wp2_with fail
    refine kc.mono ?_
    rintro e w5 ⟨rfl,hR5,hg5⟩
    clear kc KT hgs
    have hO5:=Own.far hO4 hg5 (Nat.lt_succ_self _)
    have hb35:=zO (zO hg3 hg4) hg5
    have hs5:=Nat.le_trans hs hb35.size
    have hb5:Below g w w5:=HB.out.trans (below_of_only hb35 (Nat.le_refl _) (by omega))
    clear hO4 hg3 hg4 hg5 HB hb35 hs
    obtain⟨i0,z0,hi,hz0,hz1,hz2,hz3⟩:=zero_parts infoz_change
    obtain⟨S,hS⟩:∃ x,x=strB s:=⟨_,rfl⟩
    rw [← hS]
    have HS:=zh hS
    clear hS
    by_cases hz1':z=1
    ·have c1:(z == 1)=true:=by rw [hz1'];rfl
     obtain⟨w6,hw6⟩:∃ x,x=w5.alloc (.cells #[.string S,.string (ByteArray.mk #[]),.bool true] 33):=⟨_,rfl⟩
     obtain⟨gc,hgc⟩:∃ x,x=w5.heap.size:=⟨_,rfl⟩
     have hb56:Below w5.heap.size w5 w6:=by rw [hw6];exact Below.alloc (Below.refl _ _) (Nat.le_refl _) _
     have hbox:w6.heap[gc]?=some (.cells #[.string S,.string (ByteArray.mk #[]),.bool true] 33 (0,0)):=by rw [hw6,hgc];exact heap_alloc_new w5 _
     have HW6:=zh hw6
     have HGC:=zh hgc
     have HE:=zh (E1.out hz1')
     have hO6:=Own.below hO5 hb56 (Nat.le_refl _)
     have hR6:=hR5.below (hb56.mono hs5)
     have hs6:=Nat.le_trans hs5 hb56.size
     have hb6:=hb5.trans (hb56.mono (by omega))
     clear hw6 hgc E1 E2 hO5 hR5 hb5 hb56 hs5 hz1'
     go_upto_region 11 with (fail)
     rw [← HW6.out,← HGC.out]
     have C0:=cR w6 _ 0 _ _ _ hbox
     have C1:=cR w6 _ 1 _ _ _ hbox
     have C2:=cR w6 _ 2 _ _ _ hbox
     clear hbox
     have hbs:=run_bsC S (ByteArray.mk #[]) true w6
     obtain⟨w8,hw8⟩:∃ x,x=w6.alloc (.cells #[.string S,.string (ByteArray.mk #[]),.bool true] 33):=⟨_,rfl⟩
     obtain⟨gs,hgs⟩:∃ x,x=w6.heap.size:=⟨_,rfl⟩
     rw [← hw8,← hgs] at hbs
     have hsrc:Src Tryz.prog w8 (.slice (some ⟨gs,0,none⟩) 1 1) 3 1 (changeCells ⟨s,[],true⟩):=by
      rw [hw8,hgs]
      refine Row.src (Row.fresh (by simp [changeCells]) (Nat.le_refl _) (by decide) (fun k u hk=>?_))
      simp only [changeCells,str] at hk
      rw [HS.out];simpa [strB] using hk
     have hb68:Below w6.heap.size w6 w8:=by rw [hw8];exact Below.alloc (Below.refl _ _) (Nat.le_refl _) _
     have hO8:=Own.below hO6 hb68 (Nat.le_refl _)
     have hs8:g+1≤w8.heap.size:=Nat.le_trans hs6 hb68.size
     have hone:=ones_change ⟨s,[],true⟩
     have hn:cs.length+1≤maxLen:=by have:=HLEN.out;unfold maxLen;omega
     have hn2:(cs.length+1)*40≤140737488355328:=by have:=HLEN.out;omega
     have R1:=zh hn
     have R2:=zh hn2
     have HB6:=zh (hb6.trans (hb68.mono (by omega)))
     have HRd:=zh (hR6.below (hb68.mono (by omega)))
     have HW8:=zh hw8
     clear hw8 hgs hn hn2 hO6 hb68 hb6 hs6
     go_wp2_with (with_reducible refine wp_buildSlice_r 22 1 [(0,.tmp 44)] hbs rfl ?_;refine Halt.in ?_)
     refine Halt.out ?_
     refine wp_append2 rfl (.tmp 43) (.tmp 45) 22 22 33 rfl i0 z0 3 40 Tryz.underlying22 (.inl ⟨_,Tryz.underlying22⟩) hi hz0 hz1 hz2 hz3 rfl rfl hO8 hsrc hone R1.out R2.out hs8 ?_
     intro v9 w9 hown9 hb9 _
     have HO9:=zh (ChangesO.snoc hown9)
     have HR9:=zh (HRd.out.below hb9)
     have HB9:=zh (HB6.out.trans (hb9.mono (by omega)))
     have hs9:=Nat.le_trans hs8 hb9.size
     clear hbs hsrc hO8 hone hown9 hb9 HRd HB6 hi hz0 hz1 hz2 hz3
     go_wp2_with fail
     go_roundw
     case rel=>exact⟨k+1,by omega,by first | go_num | (congr 2;omega) | (simp;omega),by rw [HE.out];exact HR9.out,by rw [HE.out];exact HO9.out,HB9.out,hs9⟩
     case measure=>simp [intOf];omega
    ·have c1:(z == 1)=false:=by rw [beq_eq_false_iff_ne];exact hz1'
     obtain⟨w6,hw6⟩:∃ x,x=w5.alloc (.cells #[.string S,.string (ByteArray.mk #[]),.bool false] 33):=⟨_,rfl⟩
     obtain⟨gc,hgc⟩:∃ x,x=w5.heap.size:=⟨_,rfl⟩
     have hb56:Below w5.heap.size w5 w6:=by rw [hw6];exact Below.alloc (Below.refl _ _) (Nat.le_refl _) _
     have hbox:w6.heap[gc]?=some (.cells #[.string S,.string (ByteArray.mk #[]),.bool false] 33 (0,0)):=by rw [hw6,hgc];exact heap_alloc_new w5 _
     have HW6:=zh hw6
     have HGC:=zh hgc
     have hgcl:g<gc:=by omega
     have hO6:=Own.below hO5 hb56 (Nat.le_refl _)
     have hR6:=hR5.below (hb56.mono hs5)
     have hs6:=Nat.le_trans hs5 hb56.size
     have hb6:=hb5.trans (hb56.mono (by omega))
     have hb5':=hb5
     clear hw6 E1 hR5 hb5 hb56
     go_upto_region 10 with (fail)
     rw [← HW6.out,← HGC.out]
     have kc:=refRText_any g g w6 r3 hR6
     obtain⟨s2,hs2⟩:∃ x,x=r3.text.2:=⟨_,rfl⟩
     obtain⟨r4,hr4⟩:∃ x,x=r3.text.1:=⟨_,rfl⟩
     have hE2:=E2.out hz1'
     rw [← hs2,← hr4] at hE2 kc
     have HE:=zh hE2
     obtain⟨S2,hS2⟩:∃ x,x=strB s2:=⟨_,rfl⟩
     rw [← hS2] at kc
     have HS2:=zh hS2
     clear E2 hs2 hr4 hE2 hS2 hR6 hz1'
     go_wp2_with fail
     refine kc.mono ?_
     rintro e w7 ⟨rfl,hR7,hg7⟩
     clear kc
     have hbox7:=(hg7.block gc (zB hbox) (fun e=>by cases e;omega)).trans hbox
     obtain⟨wq,hwq⟩:∃ x,x=w7.setCell ⟨gc,1,none⟩ (.string S2):=⟨_,rfl⟩
     have hgq:w7.grownBy wq (some gc):=by rw [hwq];exact only_set _ _ _ _
     have hboxq:wq.heap[gc]?=some (.cells #[.string S,.string S2,.bool false] 33 (0,0)):=by rw [hwq];simp [World.setCell,Array.getElem?_modify,hbox7]
     have hg56:w5.grownBy w6 (some g):=by rw [HW6.out];exact World.grownBy_alloc _ _ _
     have hg5q:w5.grownBy wq (some g):=only_new (zO hg56 hg7) hgq (by omega)
     have hO6q:=Own.far hO5 hg5q (Nat.lt_succ_self _)
     have hRq:=hR7.far hgq (fun k e=>by cases e;exact⟨by omega,by omega⟩)
     have hbq:=hb5'.trans (below_of_only hg5q (Nat.le_refl _) (by omega))
     have hsq:=Nat.le_trans hs5 hg5q.size
     have D0:=cR w7 _ 0 _ _ _ hbox7
     have D1:=cR w7 _ 1 _ _ _ hbox7
     have D2:=cR w7 _ 2 _ _ _ hbox7
     have DF:w7.frozen? ⟨gc,1,none⟩=false:=by simp [World.frozen?,hbox7]
     have C0:=cR wq _ 0 _ _ _ hboxq
     have C1:=cR wq _ 1 _ _ _ hboxq
     have C2:=cR wq _ 2 _ _ _ hboxq
     have HWQ:=zh hwq
     clear hwq hboxq hbox7 hbox hgq hg56 hg5q hR7 hg7 hO5 hO6 hb6 hs6 hb5' hgc
     go_upto_region 11 with (fail)
     rw [← HWQ.out]
     clear D0 D1 D2 DF
     have hO6:=hO6q
     have hb6:=hbq
     have hs6:=hsq
     clear hO6q hbq hsq
     have hbs:=run_bsC S S2 false wq
     obtain⟨w8,hw8⟩:∃ x,x=wq.alloc (.cells #[.string S,.string S2,.bool false] 33):=⟨_,rfl⟩
     obtain⟨gs,hgs⟩:∃ x,x=wq.heap.size:=⟨_,rfl⟩
     rw [← hw8,← hgs] at hbs
     have hsrc:Src Tryz.prog w8 (.slice (some ⟨gs,0,none⟩) 1 1) 3 1 (changeCells ⟨s,s2,false⟩):=by
      rw [hw8,hgs]
      refine Row.src (Row.fresh (by simp [changeCells]) (Nat.le_refl _) (by decide) (fun k u hk=>?_))
      simp only [changeCells,str] at hk
      rw [HS.out,HS2.out];simpa [strB] using hk
     have hb68:Below wq.heap.size wq w8:=by rw [hw8];exact Below.alloc (Below.refl _ _) (Nat.le_refl _) _
     have hO8:=Own.below hO6 hb68 (Nat.le_refl _)
     have hs8:g+1≤w8.heap.size:=Nat.le_trans hs6 hb68.size
     have hone:=ones_change ⟨s,s2,false⟩
     have hn:cs.length+1≤maxLen:=by have:=HLEN.out;unfold maxLen;omega
     have hn2:(cs.length+1)*40≤140737488355328:=by have:=HLEN.out;omega
     have R1:=zh hn
     have R2:=zh hn2
     have HB6:=zh (hb6.trans (hb68.mono (by omega)))
     have HRd:=zh (hRq.below (hb68.mono (by omega)))
     have HW8:=zh hw8
     clear hw8 hgs hn hn2 hO6 hb68 hb6 hs6
     go_wp2_with (with_reducible refine wp_buildSlice_r 22 1 [(0,.tmp 44)] hbs rfl ?_;refine Halt.in ?_)
     refine Halt.out ?_
     refine wp_append2 rfl (.tmp 43) (.tmp 45) 22 22 33 rfl i0 z0 3 40 Tryz.underlying22 (.inl ⟨_,Tryz.underlying22⟩) hi hz0 hz1 hz2 hz3 rfl rfl hO8 hsrc hone R1.out R2.out hs8 ?_
     intro v9 w9 hown9 hb9 _
     have HO9:=zh (ChangesO.snoc hown9)
     have HR9:=zh (HRd.out.below hb9)
     have HB9:=zh (HB6.out.trans (hb9.mono (by omega)))
     have hs9:=Nat.le_trans hs8 hb9.size
     clear hbs hsrc hO8 hone hown9 hb9 HRd HB6 hi hz0 hz1 hz2 hz3
     go_wp2_with fail
     go_roundw
     case rel=>exact⟨k+1,by omega,by first | go_num | (congr 2;omega) | (simp;omega),by rw [HE.out];exact HR9.out,by rw [HE.out];exact HO9.out,HB9.out,hs9⟩
     case measure=>simp [intOf];omega
   ·have q0:(r.e == 0)=false:=by rw [beq_eq_false_iff_ne];exact hre
    have hbadM:(decN M r0).1.e≠0∧(decN M r0).1.doneE=r.e:=by
     have h:=decN_stuck M k r0 (by omega) (by rw [← hr];exact hre)
     rw [h,← hr]
     exact⟨hre,doneE_bad hre⟩
    have hdp:decodeP bs=([],r.e):=by
     have:=HD1.out (by rw [hbadM.2];exact hre)
     rw [this,hbadM.2]
    have hde:r.doneE=r.e:=doneE_bad hre
    have HDP:=zh hdp
    have q1:(r.e == 0)=false:=q0
    have kc:=refdoneE_any g g _ r hR
    rw [hde] at kc
    obtain⟨E,hE⟩:∃ x,x=r.e:=⟨_,rfl⟩
    rw [← hE] at kc C1 q0 q1 HDP
    clear hre hbadM hdp hde hsn hr hcs hlen
    go_wp2_with fail
    refine kc.mono ?_
    rintro e w3 ⟨rfl,hR3,hg3⟩
    clear kc C1 hE
    have HBF:=zh (hb.trans (below_of_only hg3 (Nat.le_refl _) (by omega)))
    clear hR3 hg3 hb hR hO
    go_wp2_with fail
    go_ret2
    exact⟨⟨_,by rw [HDP.out];rfl,by rw [HDP.out];exact ChangesO.none _ _ none⟩,by first | exact HBF.out | (rw [← HG.out];exact HBF.out)⟩
  ·have k0:decide ((0:Int)<((M-k:Nat):Int))=false:=by simp;omega
   obtain rfl:k=M:=by omega
   have kc:=refdoneE_any g g _ r hR
   rw [← hr] at HD1 HD2 HD3
   rw [← hcs] at HD2 HD3
   obtain⟨E,hE⟩:∃ x,x=r.doneE:=⟨_,rfl⟩
   rw [← hE] at kc HD1 HD2 HD3
   have HO:=zh hO
   have HB:=zh hb
   clear hE hsn hr hcs hO hb
   go_wp2_with fail
   refine kc.mono ?_
   rintro e w3 ⟨rfl,hR3,hg3⟩
   clear kc
   have hO3:=Own.far HO.out hg3 (Nat.lt_succ_self _)
   have hb3:Below g w w3:=HB.out.trans (below_of_only hg3 (Nat.le_refl _) (by omega))
   clear hR3 hg3 HO HB hR hlen
   by_cases hE0:E=0
   ·have q0:(E == 0)=true:=by rw [hE0];rfl
    have kc:=refchanges_any _ cs w3 (ChangesO.v hO3)
    obtain⟨cb,hcb⟩:∃ x,x=changesB cs:=⟨_,rfl⟩
    rw [← hcb] at kc
    have HCB:=zh hcb
    have HE0:=zh hE0
    have HO3:=zh hO3
    have HB3:=zh hb3
    clear hcb hE0 hO3 hb3
    go_wp2_with fail
    refine kc.mono ?_
    rintro e w4 ⟨rfl,hb4⟩
    clear kc
    have hs3:=HB3.out.size
    have HB4:=zh (HB3.out.trans (hb4.mono (by have:=HG.out;omega)))
    have HO4:=zh (Own.below HO3.out hb4 (Nat.le_refl _))
    clear hb4 HO3 HB3 hs3
    cases cb with
    | false =>
     have hdp:=HD2.out HE0.out HCB.out.symm
     have HDP:=zh hdp
     clear hdp
     go_wp2_with fail
     go_ret2
     exact⟨⟨_,by rw [HDP.out];rfl,by rw [HDP.out];exact ChangesO.none _ _ none⟩,by first | exact HB4.out | (rw [← HG.out];exact HB4.out)⟩
    | true =>
     have hdp:=HD3.out HE0.out HCB.out.symm
     have HDP:=zh hdp
     clear hdp
     go_wp2_with fail
     go_ret2
     exact⟨⟨_,by rw [HDP.out];rfl,by rw [HDP.out];exact Own.lower HO4.out (by have:=HG.out;omega)⟩,by first | exact HB4.out | (rw [← HG.out];exact HB4.out)⟩
   ·have q0:(E == 0)=false:=by rw [beq_eq_false_iff_ne];exact hE0
    have hdp:=HD1.out hE0
    have HDP:=zh hdp
    have HB3:=zh hb3
    clear hdp hE0 hb3 hO3
    go_wp2_with fail
    go_ret2
    exact⟨⟨_,by rw [HDP.out];rfl,by rw [HDP.out];exact ChangesO.none _ _ none⟩,by first | exact HB3.out | (rw [← HG.out];exact HB3.out)⟩
end
section
open Go.RowKit KvP PackP WalP
set_option maxRecDepth 100000 in
set_option maxHeartbeats 8000000 in
theorem refplayed_any {B:Nat} (v:Value) (recs:List (List UInt8)) (w:World) (hv:Pieces B w v recs) :
  Calls Tryz.prog 60 #[v] w fun e w'=>(∃ x,e = .returned (.tuple #[x,.int .i64 (playedP recs []).2])∧PairsO w.heap.size w' x (playedP recs []).1)∧Below w.heap.size w w':=by
 have hv:=hv.tight
 obtain⟨la,lc,rfl,hlc,hlm,hat⟩:=hv.at_
 obtain⟨M,hM⟩:∃ M,M=recs.length:=⟨_,rfl⟩
 obtain⟨K0,hK0⟩:∃ x,x=playedP recs []:=⟨_,rfl⟩
 rw [← hM] at hlc ⊢
 rw [← hK0]
 have HMM:=zh hM
 have HAT:=zh hat
 have HK0:=zh hK0
 clear hM hat hv hK0
 go_enter Tryz.func60,Tryz.ntmps60
 go_wp2_with fail
 go_loopw [4,5] (fun s4 i wr=>∃ (j:Nat) (P:List PairP),j≤M∧i = .int .i64 j∧PairsO w.heap.size wr s4 P∧Below w.heap.size w wr∧Hid (pairsB P=true∧playedP recs []=playedP (recs.drop j) P)) (fun _ i _=>M-(intOf i).toNat)
 case atStart=>exact⟨0,[],Nat.zero_le _,rfl,PairsO.none _ _ _,Below.refl _ _,zh ⟨rfl,rfl⟩⟩
 case round =>
  obtain⟨j,P,hj,rfl,hP,hb,HPL⟩:=hrel
  by_cases hjM:j<M
  ·have j0:decide ((j:Int)<(M:Int))=true:=by simp;omega
   have j1:(0:Int)≤(j:Int):=by omega
   have j2:(j:Int)<(M:Int):=by omega
   have hjl:j<recs.length:=HMM.out▸hjM
   obtain⟨b,off,a2,c2,rfl,hbB,hcell⟩:=HAT.out j hjl
   obtain⟨S0,hby⟩:=hcell wr hb
   have hst:=played_step (P:=P) hjl
   obtain⟨bs,hbs⟩:∃ x,x=recs[j]:=⟨_,rfl⟩
   rw [← hbs] at S0 hby hst
   have kd:=refdecode_any _ bs wr hby
   obtain⟨dp,hdp⟩:∃ x,x=decodeP bs:=⟨_,rfl⟩
   rw [← hdp] at kd hst
   have HDP:=zh hdp
   have HST:=zh hst
   have HP:=zh hP
   have HB:=zh hb
   clear hst hdp hbs hcell hby hP hb
   go_wp2_with fail
   refine kd.mono ?_
   rintro e w7 ⟨⟨u,rfl,hC7⟩,hb7⟩
   clear kd S0
   have HC7:=zh hC7
   have HB7:=zh (HB.out.trans (hb7.mono HB.out.size))
   have HP7:=zh (Own.below HP.out hb7 (Nat.le_refl _))
   clear hC7 hb7 HP HB
   by_cases hde:dp.2=0
   ·have q7:(dp.2 != 0)=false:=by simp [hde]
    have hch:changesB dp.1=true:=by rw [HDP.out];exact decodeP_changes (by rw [← HDP.out];exact hde)
    obtain⟨cl1,cl2⟩:=changesB_len hch
    obtain⟨pl1,pl2,pl3⟩:=pairs_lens HPL.out.1
    have kk:=refdo_any _ _ P dp.1 w7 (PairsO.v HP7.out) (ChangesO.v HC7.out) pl2 (by omega) (by omega)
    obtain⟨P2,hP2⟩:∃ x,x=doP P dp.1:=⟨_,rfl⟩
    rw [← hP2] at kk
    have HP2:=zh hP2
    have HDE:=zh hde
    clear hch cl1 cl2 pl1 pl2 pl3 hP2 hde
    go_wp2_with fail
    refine kk.mono ?_
    rintro e w8 ⟨x8,rfl,hP8,hb8⟩
    clear kk
    have hs7:=HB7.out.size
    have HP8:=zh (Own.lower hP8 hs7)
    have HB8:=zh (HB7.out.trans (hb8.mono hs7))
    have kp:=refpairs_any _ P2 w8 (PairsO.v HP8.out)
    obtain⟨pb,hpb⟩:∃ x,x=pairsB P2:=⟨_,rfl⟩
    rw [← hpb] at kp
    have HPB:=zh hpb
    clear hP8 hb8 hpb HP7 HC7
    go_wp2_with fail
    refine kp.mono ?_
    rintro e w9 ⟨rfl,hb9⟩
    clear kp
    have hs8:=HB8.out.size
    have HP9:=zh (Own.below HP8.out hb9 (Nat.le_refl _))
    have HB9:=zh (HB8.out.trans (hb9.mono hs8))
    clear hb9 HP8 HB8 HB7
    cases pb with
    | false =>
     have HKF:=zh (show K0=([],3) by rw [HK0.out,HPL.out.2,HST.out,if_pos HDE.out,← HP2.out,← HPB.out];rfl)
     go_wp2_with fail
     go_ret2
     exact⟨⟨_,by rw [HKF.out];rfl,by rw [HKF.out];exact PairsO.none _ _ _⟩,HB9.out⟩
    | true =>
     have hnext:playedP recs []=playedP (recs.drop (j+1)) P2:=by rw [HPL.out.2,HST.out,if_pos HDE.out,← HP2.out,← HPB.out,if_pos rfl]
     have HNX:=zh (And.intro HPB.out.symm hnext)
     clear hnext
     go_wp2_with fail
     go_roundw
     case rel=>exact⟨j+1,P2,by omega,by go_num,HP9.out,HB9.out,HNX⟩
     case measure=>simp [intOf];omega
   ·have q7:(dp.2 != 0)=true:=by simp [hde]
    have HDE:=zh hde
    have HKF:=zh (show K0=([],3) by rw [HK0.out,HPL.out.2,HST.out,if_neg HDE.out])
    clear hde
    go_wp2_with fail
    go_ret2
    exact⟨⟨_,by rw [HKF.out];rfl,by rw [HKF.out];exact PairsO.none _ _ _⟩,HB7.out⟩
  ·have j0:decide ((j:Int)<(M:Int))=false:=by simp;omega
   obtain rfl:j=M:=by omega
   have hend:playedP recs []=(P,0):=by
    rw [HPL.out.2,List.drop_eq_nil_of_le (by have:=HMM.out;omega)]
    rfl
   have HKF:=zh (show K0=(P,0) by rw [HK0.out,hend])
   have HP:=zh hP
   have HB:=zh hb
   clear hend hP hb
   go_wp2_with fail
   go_ret2
   exact⟨⟨_,by rw [HKF.out];rfl,by rw [HKF.out];exact HP.out⟩,HB.out⟩
end
section
open Go.RowKit KvP PackP WalP
theorem played_err:∀ (l:List (List UInt8)) (x:List PairP),(playedP l x).2≠0→(playedP l x).2=3
 | [],x,h=>absurd rfl h
 | b :: bs,x,h=>by
  rw [playedP] at h ⊢
  by_cases h1:(decodeP b).2=0
  ·rw [if_pos h1] at h ⊢
   by_cases h2:pairsB (doP x (decodeP b).1)=true
   ·rw [if_pos h2] at h ⊢
    exact played_err bs _ h
   ·rw [if_neg h2]
  ·rw [if_neg h1]
set_option maxRecDepth 100000 in
set_option maxHeartbeats 8000000 in
theorem rkopen_any {B:Nat} (v:Value) (d:DiskP) (w:World) (hd:DiskV B w v d) :
  Calls Tryz.prog 19 #[v] w (KE w (openK d)):=by
 have hd:=hd.tight
 obtain⟨p1,q1,p2,q2,rfl,_,_⟩:=hd.parts
 obtain⟨w1,hw1,hb1,hs1,R0,R1,R2⟩:=three w (.cells #[.slice p1 d.secs.length q1,.slice p2 d.loose.length q2,.int .i64 d.fuse,.bool d.down] 38) (.cells #[.slice none 0 0,.slice none 0 0,.int .i64 0,.bool false] 38) (.cells #[.int .i64 0,.int .i64 0,.int .i64 0,.int .i64 0,.slice none 0 0] 44)
 have hd1:=(hd.below hb1).tight
 obtain⟨r,hr⟩:∃ r,r=openP d:=⟨_,rfl⟩
 obtain⟨K0,hK0⟩:∃ x,x=openK d:=⟨_,rfl⟩
 have hKo:K0=if r.2.2.2=0 then (if (playedP r.2.2.1 []).2=0 then (r.1,⟨r.2.1,(playedP r.2.2.1 []).1⟩,0) else (r.1,store0,3)) else (r.1,store0,r.2.2.2):=by rw [hK0,hr];rfl
 rw [← hK0]
 have HK0:=zh hKo
 have ko:=refOpen_any _ d w1 hd1
 rw [← hr] at ko
 unfold OpenE logV at ko
 have HW1:=zh hw1
 have HS1:=zh hs1
 have C0:=cR w1 _ 0 _ _ _ R0
 have C1:=cR w1 _ 1 _ _ _ R0
 have C2:=cR w1 _ 2 _ _ _ R0
 have C3:=cR w1 _ 3 _ _ _ R0
 clear hr hK0 hKo hw1 hs1
 go_enter Tryz.func19,Tryz.ntmps19
 go_upto_region 1 with (fail)
 rw [← HW1.out]
 go_wp2_with fail
 refine ko.mono ?_
 rintro e w4 ⟨⟨va,lv,rfl,hda,hpa⟩,hb4⟩
 clear ko C0 C1 C2 C3
 obtain⟨y1,z1,y2,z2,rfl,_,_⟩:=hda.parts
 have hD4:DAt w4 w.heap.size d:=⟨p1,q1,p2,q2,(hb4.block _ (zB R0)).trans R0,(hd1.below hb4).tight⟩
 have S1:=(hb4.block _ (zB R1)).trans R1
 have S2:=(hb4.block _ (zB R2)).trans R2
 have hs1:=HS1.out
 have hs4:=hb4.size
 obtain⟨w5,G,HWb,HGb,hL5,hb5,lt5,le5⟩:=fresh_log w4
 have hDg:w.heap.size≠G:=by omega
 obtain⟨w6,x0,x1,x2,x3,hw6,⟨C0,C1,C2,C3,Z⟩,⟨N0,N1,N2,N3,Y⟩,HX6⟩:=pack_store r.2.1 (hD4.below hb5) hL5 (hda.below hb5).tight hDg
 have hw6:=hw6.out
 try dsimp only at hw6
 have HW6:=zh hw6
 clear hw6
 go_wp2_with (with_reducible refine wp_alloc_to (w':=w5) 41 rfl rfl (zero_log _) HWb.out ?_;refine Halt.in ?_)
 refine Halt.out ?_
 rw [← HGb.out]
 go_upto_region 2 with (fail)
 rw [← HW6.out]
 clear C0 C1 C2 C3 Z N0 N1 N2 N3 Y
 obtain⟨hD6,hL6,hz6,hk6,hbb6⟩:=HX6.out
 have hs6:w6.heap.size=w5.heap.size:=hz6
 have hRC:w6.heap[w.heap.size+1]?=_:=(hk6 _ (by omega) (by omega)).trans ((hb5.block _ (by omega)).trans S1)
 have hRS:w6.heap[w.heap.size+1+1]?=_:=(hk6 _ (by omega) (by omega)).trans ((hb5.block _ (by omega)).trans S2)
 have hb06:Below w.heap.size w w6:=hbb6 w.heap.size w ((hb1.trans (hb4.mono hb1.size)).trans (hb5.mono (by omega))) (Nat.le_refl _) (by omega)
 have hlv6:PiecesS (fun b=>w1.heap.size≤b) w4.heap.size w6 lv r.2.2.1:=hpa.keep (fun k h1 h2=>(hk6 k (by omega) (by omega)).trans (hb5.block k h2))
 have hPV:=hlv6.tight.pieces
 obtain⟨la,lc,rfl,hlc,hlm,hat⟩:=hPV.at_
 obtain⟨M,hM⟩:∃ M,M=r.2.2.1.length:=⟨_,rfl⟩
 rw [← hM] at hlc hPV ⊢
 have HPV6:=zh hPV
 have hs36:w.heap.size+3≤w6.heap.size:=by omega
 have hG6:w.heap.size+3≤G:=by omega
 have HMM:=zh hM
 have HAT:=zh hat
 have HD6:=zh hD6
 have HL6:=zh hL6
 have HRC:=zh hRC
 have HRS:=zh hRS
 have HB06:=zh hb06
 clear hM hat hD6 hL6 hz6 hk6 hbb6 HX6 hlv6 hPV hpa hda hD4 hL5 hb4 hb5 S1 S2 lt5 le5 hDg hRC hRS hb06 R0 R1 R2 hd1 hb1
 by_cases he:r.2.2.2=0
 ·have q0:(r.2.2.2 != 0)=false:=by simp [he]
  have HE:=zh he
  clear he
  have hPV6:Pieces w6.heap.size w6 (.slice la M lc) r.2.2.1:=HPV6.out
  have kp:=refplayed_any _ r.2.2.1 w6 hPV6
  obtain⟨pr,hpr⟩:∃ x,x=playedP r.2.2.1 []:=⟨_,rfl⟩
  rw [← hpr] at kp
  have HPR:=zh hpr
  clear hPV6 hpr
  go_wp2_with fail
  refine kp.mono ?_
  rintro e w7 ⟨⟨x7,rfl,hP7⟩,hb7⟩
  clear kp
  have HB7:=zh hb7
  have HP7:=zh hP7
  have hs3:w.heap.size+3≤w6.heap.size:=hs36
  clear hb7 hP7
  by_cases hpe:pr.2=0
  ·have q7:(pr.2 != 0)=false:=by simp [hpe]
   have hKF:K0=(r.1,⟨r.2.1,pr.1⟩,0):=by rw [HK0.out,if_pos HE.out,← HPR.out,if_pos hpe]
   have HKF:=zh hKF
   have HPX:=HP7
   have hbx:=HB06.out.trans (HB7.out.mono HB06.out.size)
   have hDx:=HD6.out.below HB7.out
   have hLx:=HL6.out.below HB7.out
   have hRC:=(HB7.out.block _ (by omega)).trans HRC.out
   have hRS:=(HB7.out.block _ (by omega)).trans HRS.out
   obtain⟨pa,pc,hpv,_⟩:=pairs_len (PairsO.v HP7.out)
   subst hpv
   obtain⟨P,hPP⟩:∃ x,x=pr.1:=⟨_,rfl⟩
   rw [← hPP] at HPX HKF ⊢
   clear hKF hpe hPP HP7
   obtain⟨a0,n0,b0,m0,TX,hvX⟩:=id hDx
   have s0:zK (w.heap.size+1) (w.heap.size+1+1) w7 w7.drew:=zK.drew (zK.refl _ _ _)
   obtain⟨wa,wb,st1,st2,ka,kb,HLD⟩:=laid_DS (wx:=w7.drew) (a0:=a0) (a1:=b0) (n0:=n0) (n1:=m0) (d:=r.1) (l:=r.2.1) (pv:=(.slice pa P.length pc)) (s:=P) hRC rfl hRS rfl (by omega) ((hvX.below (zD (Below.refl _ _) 1)).tight) ⟨pa,pc,rfl⟩ (fun w' hk hz=>by have:=Own.kept HPX.out (w':=w') (fun k hk1=>hk k (by omega) (by omega));exact Own.row this)
   have sa:zK (w.heap.size+1) (w.heap.size+1+1) w7 wa:=zK.trans_ s0 (fun k h1 _=>ka k h1)
   have sb:zK (w.heap.size+1) (w.heap.size+1+1) w7 wb:=zK.trans_ s0 kb
   have X0:∀ w':World,zK (w.heap.size+1) (w.heap.size+1+1) w7 w'→w'.cell? ⟨w.heap.size,0,none⟩=some (.slice a0 r.1.secs.length n0):=fun w' h=>cR w' _ 0 _ _ _ ((h w.heap.size (by omega) (by omega)).trans TX)
   have X1:∀ w':World,zK (w.heap.size+1) (w.heap.size+1+1) w7 w'→w'.cell? ⟨w.heap.size,1,none⟩=some (.slice b0 r.1.loose.length m0):=fun w' h=>cR w' _ 1 _ _ _ ((h w.heap.size (by omega) (by omega)).trans TX)
   have X2:∀ w':World,zK (w.heap.size+1) (w.heap.size+1+1) w7 w'→w'.cell? ⟨w.heap.size,2,none⟩=some (.int .i64 r.1.fuse):=fun w' h=>cR w' _ 2 _ _ _ ((h w.heap.size (by omega) (by omega)).trans TX)
   have X3:∀ w':World,zK (w.heap.size+1) (w.heap.size+1+1) w7 w'→w'.cell? ⟨w.heap.size,3,none⟩=some (.bool r.1.down):=fun w' h=>cR w' _ 3 _ _ _ ((h w.heap.size (by omega) (by omega)).trans TX)
   have N0:∀ w':World,zK (w.heap.size+1) (w.heap.size+1+1) w7 w'→w'.cell? ⟨G,0,none⟩=some (.int .i64 r.2.1.half):=fun w' h=>cR w' _ 0 _ _ _ ((h G (by omega) (by omega)).trans hLx)
   have N1:∀ w':World,zK (w.heap.size+1) (w.heap.size+1+1) w7 w'→w'.cell? ⟨G,1,none⟩=some (.int .i64 r.2.1.gen):=fun w' h=>cR w' _ 1 _ _ _ ((h G (by omega) (by omega)).trans hLx)
   have N2:∀ w':World,zK (w.heap.size+1) (w.heap.size+1+1) w7 w'→w'.cell? ⟨G,2,none⟩=some (.int .i64 r.2.1.used):=fun w' h=>cR w' _ 2 _ _ _ ((h G (by omega) (by omega)).trans hLx)
   have N3:∀ w':World,zK (w.heap.size+1) (w.heap.size+1+1) w7 w'→w'.cell? ⟨G,3,none⟩=some (.int .i64 r.2.1.count):=fun w' h=>cR w' _ 3 _ _ _ ((h G (by omega) (by omega)).trans hLx)
   have HBZ:=zh (HLD.out.2.2.2.2 w.heap.size w ((hbx).trans (zD (Below.refl _ _) 1)) (by omega) (by omega))
   clear ka kb TX hvX
   go_wp2_with fail
   refine zI [(false,0),(false,1),(false,2),(false,3),(true,4),(true,5),(false,6)] (zK (w.heap.size+1) (w.heap.size+1+1) w7) (by kernel_rfl) (by kernel_rfl) s0 ?_
   repeat (first | (refine zS rfl rfl ?_;simp only [Act.put,zq1,zq2,zq3]) | (refine zT rfl ?_ rfl (fun w' hw'=>?_) ?_;rotate_left;(go_simp;first | done | with_reducible rfl);(try simp only [Act.put,zq1,zq2,zq3])))
   refine zA rfl rfl fun K hK=>?_
   refine op_store (.tmp 2) (.tmp 31) 38 rfl rfl rfl st1 ?_
   refine hK.out _ _ sa ?_
   clear hK K st1
   simp only [Act.put,zq1,zq2,zq3]
   refine zA rfl rfl fun K hK=>?_
   refine op_store (.tmp 3) (.tmp 34) 44 rfl rfl rfl st2 ?_
   refine hK.out _ _ sb ?_
   clear hK K st2
   simp only [Act.put,zq1,zq2,zq3]
   repeat (first | (refine zS rfl rfl ?_;simp only [Act.put,zq1,zq2,zq3]) | (refine zT rfl ?_ rfl (fun w' hw'=>?_) ?_;rotate_left;(go_simp;first | done | with_reducible rfl);(try simp only [Act.put,zq1,zq2,zq3])))
   refine zN ?_
   go_wp2_with fail
   refine bodyPost_ret (results_cct rfl _ _ (w.heap.size+1) (w.heap.size+1+1) _ _ _ _ _ _ _ _ rfl rfl HLD.out.1 HLD.out.2.1 Tryz.underlying38 rfl zQ Tryz.underlying44 rfl size_store) rfl ?_
   rw [HKF.out]
   exact⟨⟨_,_,rfl,HLD.out.2.2.1,HLD.out.2.2.2.1⟩,HBZ.out⟩
  ·have q7:(pr.2 != 0)=true:=by simp [hpe]
   have hp3:pr.2=3:=by rw [HPR.out];exact played_err _ _ (by rw [← HPR.out];exact hpe)
   have HPE:=zh hpe
   have HP3:=zh hp3
   have hbx:=HB06.out.trans (HB7.out.mono HB06.out.size)
   have hDx:=HD6.out.below HB7.out
   have hRC:=(HB7.out.block _ (by omega)).trans HRC.out
   have hRS:=(HB7.out.block _ (by omega)).trans HRS.out
   clear hpe hp3
   obtain⟨a0,n0,b0,m0,TX,hvX⟩:=id hDx
   obtain⟨wa,wb,st1,st2,ka,kb,HLD⟩:=laid_DS (wx:=w7) (a0:=a0) (a1:=b0) (n0:=n0) (n1:=m0) (d:=r.1) (l:=log0) (pv:=(.slice none 0 0)) (s:=([]:List PairP)) hRC rfl hRS rfl (by omega) hvX ⟨none,0,rfl⟩ (fun w' _ _=>Row.nil _ _ _)
   have HBZ:=zh (HLD.out.2.2.2.2 w.heap.size w hbx (by omega) (by omega))
   have C0:=cR w7 _ 0 _ _ _ TX
   have C1:=cR w7 _ 1 _ _ _ TX
   have C2:=cR w7 _ 2 _ _ _ TX
   have C3:=cR w7 _ 3 _ _ _ TX
   have HKF:=zh (show K0=(r.1,⟨log0,[]⟩,pr.2) from by rw [HK0.out,if_pos HE.out,← HPR.out,if_neg HPE.out,HP3.out];rfl)
   have ST2:=zh st2
   clear ka kb TX hvX st2
   go_wp2_with (with_reducible refine wp_store_r (.tmp 2) (.tmp 28) 38 st1 rfl rfl ?_;refine Halt.in ?_)
   refine Halt.out ?_
   have st2:=ST2.out
   clear st1 C0 C1 C2 C3
   go_wp2_with (with_reducible refine wp_store_r (.tmp 3) (.tmp 29) 44 st2 rfl rfl ?_;refine Halt.in ?_)
   refine Halt.out ?_
   clear st2
   go_wp2_with fail
   refine bodyPost_ret (results_cct rfl _ _ (w.heap.size+1) (w.heap.size+1+1) _ _ _ _ _ _ _ _ rfl rfl HLD.out.1 HLD.out.2.1 Tryz.underlying38 rfl zQ Tryz.underlying44 rfl size_store) rfl ?_
   rw [HKF.out]
   exact⟨⟨_,_,rfl,HLD.out.2.2.1,HLD.out.2.2.2.1⟩,HBZ.out⟩
 ·have q0:(r.2.2.2 != 0)=true:=by simp [he]
  have hDx:=HD6.out
  have hRC:=HRC.out
  have hRS:=HRS.out
  have hbx:=HB06.out
  have HE:=zh he
  clear he
  obtain⟨a0,n0,b0,m0,TX,hvX⟩:=id hDx
  obtain⟨wa,wb,st1,st2,ka,kb,HLD⟩:=laid_DS (wx:=w6) (a0:=a0) (a1:=b0) (n0:=n0) (n1:=m0) (d:=r.1) (l:=log0) (pv:=(.slice none 0 0)) (s:=([]:List PairP)) hRC rfl hRS rfl (by omega) hvX ⟨none,0,rfl⟩ (fun w' _ _=>Row.nil _ _ _)
  have HBZ:=zh (HLD.out.2.2.2.2 w.heap.size w hbx (by omega) (by omega))
  have C0:=cR w6 _ 0 _ _ _ TX
  have C1:=cR w6 _ 1 _ _ _ TX
  have C2:=cR w6 _ 2 _ _ _ TX
  have C3:=cR w6 _ 3 _ _ _ TX
  have HKF:=zh (show K0=(r.1,⟨log0,[]⟩,r.2.2.2) from by rw [HK0.out,if_neg HE.out];rfl)
  have ST2:=zh st2
  clear ka kb TX hvX st2
  go_wp2_with (with_reducible refine wp_store_r (.tmp 2) (.tmp 18) 38 st1 rfl rfl ?_;refine Halt.in ?_)
  refine Halt.out ?_
  have st2:=ST2.out
  clear st1 C0 C1 C2 C3
  go_wp2_with (with_reducible refine wp_store_r (.tmp 3) (.tmp 19) 44 st2 rfl rfl ?_;refine Halt.in ?_)
  refine Halt.out ?_
  clear st2
  go_wp2_with fail
  refine bodyPost_ret (results_cct rfl _ _ (w.heap.size+1) (w.heap.size+1+1) _ _ _ _ _ _ _ _ rfl rfl HLD.out.1 HLD.out.2.1 Tryz.underlying38 rfl zQ Tryz.underlying44 rfl size_store) rfl ?_
  rw [HKF.out]
  exact⟨⟨_,_,rfl,HLD.out.2.2.1,HLD.out.2.2.2.1⟩,HBZ.out⟩
end
section
open Go.RowKit KvP
instance:DecidableEq PairP:=fun a b=>decidable_of_iff (a.key=b.key∧a.val=b.val) ⟨fun h=>by cases a;cases b;simp at h;rw [h.1,h.2],fun h=>by rw [h];exact⟨rfl,rfl⟩⟩
theorem mk_inj (a b:List UInt8):(ByteArray.mk a.toArray=ByteArray.mk b.toArray)↔a=b:=by
 constructor
 ·intro h
  have:=congrArg (fun x=>x.data.toList) h
  simpa using this
 ·intro h
  rw [h]
theorem pair_same (p q:PairP):(decide (ByteArray.mk p.key.toArray=ByteArray.mk q.key.toArray)&&decide (ByteArray.mk p.val.toArray=ByteArray.mk q.val.toArray))=decide (p=q):=by
 rw [Bool.eq_iff_iff,Bool.and_eq_true,decide_eq_true_eq,decide_eq_true_eq,decide_eq_true_eq,mk_inj,mk_inj]
 constructor
 ·rintro ⟨h1,h2⟩
  cases p
  cases q
  simp at h1 h2
  rw [h1,h2]
 ·rintro rfl
  exact⟨rfl,rfl⟩
theorem list_ne_of {l m:List PairP} {k:Nat} (h1:k<l.length) (h2:k<m.length) (h:l[k]≠m[k]):l≠m:=fun e=>h (by subst e;rfl)
theorem list_eq_of {l m:List PairP} (hl:l.length=m.length) (h:∀ k (h1:k<l.length) (h2:k<m.length),l[k]=m[k]):l=m:=List.ext_getElem hl h
set_option maxRecDepth 100000 in
set_option maxHeartbeats 8000000 in
theorem samePairs_any {B B':Nat} (u v:Value) (l m:List PairP) (w:World) (hu:PairsV B w u l) (hv:PairsV B' w v m) :
  Calls Tryz.prog 32 #[u,v] w fun e w'=>e = .returned (.bool (decide (l=m)))∧Below w.heap.size w w':=by
 have hu:=hu.tight
 have hv:=hv.tight
 obtain⟨_,a,ca,rfl,h1,h2,_⟩:=id hu
 obtain⟨_,b',cb,rfl,h3,h4,_⟩:=id hv
 unfold maxLen at h2 h4
 obtain⟨N,hN⟩:∃ N,N=l.length:=⟨_,rfl⟩
 obtain⟨M,hM⟩:∃ M,M=m.length:=⟨_,rfl⟩
 rw [← hN] at hu h1 ⊢
 rw [← hM] at hv h3 ⊢
 have HN:=zh hN
 have HM:=zh hM
 have HU:=zh hu
 have HV:=zh hv
 clear hN hM hu hv
 by_cases hNM:N=M
 rotate_left
 ·have q0:((N:Int) != (M:Int))=true:=by simp;omega
  have hfin:decide (l=m)=false:=decide_eq_false (fun e=>hNM (by rw [HN.out,HM.out,e]))
  rw [hfin]
  go_enter Tryz.func32,Tryz.ntmps32
  go_wp2_with fail
  go_ret
  exact⟨rfl,Below.refl _ _⟩
 ·have q0:((N:Int) != (M:Int))=false:=by rw [hNM];simp
  obtain⟨D,hD⟩:∃ D,D=decide (l=m):=⟨_,rfl⟩
  rw [← hD]
  have HD:=zh hD
  have HNM:=zh hNM
  clear hD hNM
  go_enter Tryz.func32,Tryz.ntmps32
  go_wp2_with fail
  go_loopw [5] (fun i wr=>∃ k:Nat,k≤N∧i = .int .i64 k∧Below w.heap.size w wr∧Hid (∀ x (h1:x<l.length) (h2:x<m.length),x<k→l[x]=m[x])) (fun i _=>N-(intOf i).toNat)
  case atStart=>exact⟨0,Nat.zero_le _,rfl,Below.refl _ _,zh (fun x _ _ h=>absurd h (Nat.not_lt_zero _))⟩
  case round =>
   obtain⟨k,hk,rfl,hb,HG⟩:=hrel
   by_cases hkN:k<N
   ·have k0:decide ((k:Int)<(N:Int))=true:=by simp;omega
    have k1:(0:Int)≤(k:Int):=by omega
    have k2:(k:Int)<(N:Int):=by omega
    have k3:(k:Int)<(M:Int):=by have:=HNM.out;omega
    have hkl:k<l.length:=HN.out▸hkN
    have hkm:k<m.length:=by have:=HNM.out;have:=HM.out;omega
    obtain⟨b,off,rfl,_,hcA⟩:=load_pair HU.out hkl
    obtain⟨b2,off2,rfl,_,hcB⟩:=load_pair HV.out hkm
    have hps:=pair_same l[k] m[k]
    have hne:=list_ne_of hkl hkm
    have hgd:l[k]=m[k]→∀ x (h1:x<l.length) (h2:x<m.length),x<k+1→l[x]=m[x]:=fun h x h1 h2 h3=>by
     rcases Nat.lt_or_ge x k with h4 | h4
     ·exact HG.out x h1 h2 h4
     ·obtain rfl:x=k:=by omega
      exact h
    obtain⟨c,hc⟩:∃ c,c=decide (l[k]=m[k]):=⟨_,rfl⟩
    rw [← hc] at hps
    obtain⟨sk,hsk⟩:∃ s,s=ByteArray.mk l[k].key.toArray:=⟨_,rfl⟩
    obtain⟨sv,hsv⟩:∃ s,s=ByteArray.mk l[k].val.toArray:=⟨_,rfl⟩
    obtain⟨tk,htk⟩:∃ s,s=ByteArray.mk m[k].key.toArray:=⟨_,rfl⟩
    obtain⟨tv,htv⟩:∃ s,s=ByteArray.mk m[k].val.toArray:=⟨_,rfl⟩
    have L0:∀ w',Below w.heap.size w w'→w'.cell? ⟨b,off+k*2,none⟩=some (.string sk):=fun w' h=>by rw [hsk];exact (hcA w' h).1
    have L1:∀ w',Below w.heap.size w w'→w'.cell? ⟨b,off+k*2+1,none⟩=some (.string sv):=fun w' h=>by rw [hsv];exact (hcA w' h).2
    have N0:∀ w',Below w.heap.size w w'→w'.cell? ⟨b2,off2+k*2,none⟩=some (.string tk):=fun w' h=>by rw [htk];exact (hcB w' h).1
    have N1:∀ w',Below w.heap.size w w'→w'.cell? ⟨b2,off2+k*2+1,none⟩=some (.string tv):=fun w' h=>by rw [htv];exact (hcB w' h).2
    rw [← hsk,← hsv,← htk,← htv] at hps
    have kn:∀ w':World,(binOp .neq 76 (.agg #[.string sk,.string sv]) (.agg #[.string tk,.string tv])).run Tryz.prog w' = .ok (.bool (!c)) w':=fun w'=>by rw [neqPair,hps]
    have s0:Below w.heap.size w wr.drew:=zD hb 1
    have HNE:=zh hne
    have HGD:=zh hgd
    have HC:=zh hc
    clear hsk hsv htk htv hcA hcB hps hne hgd hc
    go_upto_region 6 with (fail)
    refine zI [(false,0),(false,1),(false,2),(false,3),(false,4),(false,5),(false,6),(false,7),(false,8)] (fun w'=>Below w.heap.size w w') (by kernel_rfl) (by kernel_rfl) s0 ?_
    repeat (first | (refine zS rfl rfl ?_;simp only [Act.put,zq1,zq2,zq3]) | (refine zT rfl ?_ rfl (fun w' hw'=>?_) ?_;rotate_left;(go_simp;first | done | with_reducible rfl);(try simp only [Act.put,zq1,zq2,zq3])))
    refine zN ?_
    cases c with
    | true =>
     have HG2:=zh (HGD.out (of_decide_eq_true HC.out.symm))
     go_wp2_with fail
     go_roundw
     case rel=>exact⟨k+1,by omega,by go_num,s0,HG2⟩
     case measure=>simp [intOf];omega
    | false =>
     have hf:D=false:=by rw [HD.out];exact decide_eq_false (HNE.out (of_decide_eq_false HC.out.symm))
     have HF:=zh hf
     clear hf
     go_wp2_with fail
     go_ret
     exact⟨by rw [HF.out];rfl,s0⟩
   ·have k0:decide ((k:Int)<(N:Int))=false:=by simp;omega
    have hf:D=true:=by
     rw [HD.out]
     exact decide_eq_true (list_eq_of (by rw [← HN.out,← HM.out];exact HNM.out) (fun x h1 h2=>HG.out x h1 h2 (by have:=HN.out;omega)))
    have HF:=zh hf
    clear hf
    go_wp2_with fail
    go_ret
    exact⟨by rw [HF.out];rfl,hb⟩
end
section
open Go.RowKit KvP PackP WalP
theorem equal_intK (d:Nat) (a:Int) (w:World):(Op.equalIn (d+1) 3 (.int .i64 a) (.int .i64 a)).run Tryz.prog w = .ok true w:=by
 simp [Op.equalIn,run_underlying Tryz.underlying3]
theorem eqFields_four (d : Nat) (P : Program) (xs : Array Value) (f1 f2 f3 f4 : Field) (w : World) (a1 a2 a3 a4 : Value) (h1 : f1.name ≠ "_") (h2 : f2.name ≠ "_") (h3 : f3.name ≠ "_") (h4 : f4.name ≠ "_")
  (p1:(part f1.type xs f1.offset).run P w = .ok a1 w) (p2:(part f2.type xs f2.offset).run P w = .ok a2 w) (p3:(part f3.type xs f3.offset).run P w = .ok a3 w) (p4:(part f4.type xs f4.offset).run P w = .ok a4 w)
  (q1:(Op.equalIn d f1.type a1 a1).run P w = .ok true w) (q2:(Op.equalIn d f2.type a2 a2).run P w = .ok true w) (q3:(Op.equalIn d f3.type a3 a3).run P w = .ok true w) (q4:(Op.equalIn d f4.type a4 a4).run P w = .ok true w):(Op.eqFields d xs xs [f1,f2,f3,f4]).run P w = .ok true w:=by
 simp only [Op.eqFields,if_pos h1,if_pos h2,if_pos h3,if_pos h4,Sem.run_bind,p1,p2,p3,p4,q1,q2,q3,q4,Result.andThen_ok]
 simp [p2,p3,p4,q2,q3,q4]
theorem fieldsLog : ∃ f1 f2 f3 f4 : Field, (Tryz.prog.fieldsOf 41).toList = [f1, f2, f3, f4] ∧ f1.name ≠ "_" ∧ f2.name ≠ "_" ∧ f3.name ≠ "_" ∧ f4.name ≠ "_" ∧ f1.type = 3 ∧ f1.offset = 0 ∧ f2.type = 3 ∧ f2.offset = 1 ∧ f3.type = 3 ∧ f3.offset = 2 ∧ f4.type = 3 ∧ f4.offset = 3 := by
 simp only [Program.fieldsOf,Tryz.underlying41]
 exact⟨_,_,_,_,rfl,by decide,by decide,by decide,by decide,rfl,rfl,rfl,rfl,rfl,rfl,rfl,rfl⟩
set_option maxRecDepth 100000 in
theorem equalLog (a b c e:Int) (w:World):(Op.equalIn 10000 41 (.agg #[.int .i64 a,.int .i64 b,.int .i64 c,.int .i64 e]) (.agg #[.int .i64 a,.int .i64 b,.int .i64 c,.int .i64 e])).run Tryz.prog w = .ok true w:=by
 rw [run_equalIn_struct w 9999 _ _ _ (by rw [Tryz.underlying41];rfl) (by kernel_rfl)]
 obtain⟨f1,f2,f3,f4,hf,n1,n2,n3,n4,t1,o1,t2,o2,t3,o3,t4,o4⟩:=fieldsLog
 rw [hf]
 have p:∀ (V:Array Value) (k:Nat) (x:Int),V[k]?=some (.int .i64 x)→(part 3 V k).run Tryz.prog w = .ok (.int .i64 x) w:=fun V k x h=>by simp [part,isAgg,run_underlying Tryz.underlying3,h]
 exact eqFields_four 9999 _ _ f1 f2 f3 f4 w _ _ _ _ n1 n2 n3 n4 (by rw [t1,o1];exact p _ _ a rfl) (by rw [t2,o2];exact p _ _ b rfl) (by rw [t3,o3];exact p _ _ c rfl) (by rw [t4,o4];exact p _ _ e rfl)
  (by rw [t1];exact equal_intK _ _ _) (by rw [t2];exact equal_intK _ _ _) (by rw [t3];exact equal_intK _ _ _) (by rw [t4];exact equal_intK _ _ _)
theorem eqlLog (a b c e:Int) (w:World):(binOp .eql 41 (.agg #[.int .i64 a,.int .i64 b,.int .i64 c,.int .i64 e]) (.agg #[.int .i64 a,.int .i64 b,.int .i64 c,.int .i64 e])).run Tryz.prog w = .ok (.bool true) w:=by
 have k:=equalLog a b c e w
 simp only [binOp]
 simp [Op.equal,Op.maxDepth,k]
set_option maxRecDepth 100000 in
set_option maxHeartbeats 4000000 in
theorem refsame6_any {B B':Nat} (u v:Value) (s:StoreP) (w:World) (hu:StoreV B w u s) (hv:StoreV B' w v s) :
  Calls Tryz.prog 23 #[u,v] w fun e w'=>e = .returned (.bool true)∧Below w.heap.size w w':=by
 obtain⟨pu,rfl,hp⟩:=hu
 obtain⟨pv,rfl,hq⟩:=hv
 have hp:=hp.tight
 have hq:=hq.tight
 obtain⟨l,hl⟩:∃ l,l=s.pairs:=⟨_,rfl⟩
 obtain⟨lg,hlg⟩:∃ l,l=s.log:=⟨_,rfl⟩
 rw [← hl] at hp hq
 rw [← hlg]
 clear hl hlg
 obtain⟨a,c,rfl,_⟩:=pairs_len hp
 obtain⟨a',c',rfl,_⟩:=pairs_len hq
 obtain⟨N,hN⟩:∃ N,N=l.length:=⟨_,rfl⟩
 rw [← hN] at hp hq ⊢
 unfold storeV
 obtain⟨w1,hw1⟩:∃ x,x=(w.alloc (.cells #[.int .i64 lg.half,.int .i64 lg.gen,.int .i64 lg.used,.int .i64 lg.count,.slice a N c] 44)).alloc (.cells #[.int .i64 lg.half,.int .i64 lg.gen,.int .i64 lg.used,.int .i64 lg.count,.slice a' N c'] 44):=⟨_,rfl⟩
 have hb1:Below w.heap.size w w1:=by rw [hw1];exact Below.alloc (Below.alloc (Below.refl _ _) (Nat.le_refl _) _) (by simp) _
 have RA:w1.heap[w.heap.size]?=some (.cells #[.int .i64 lg.half,.int .i64 lg.gen,.int .i64 lg.used,.int .i64 lg.count,.slice a N c] 44 (0,0)):=by rw [hw1];exact heap_alloc2_old w _ _
 have RB:w1.heap[w.heap.size+1]?=some (.cells #[.int .i64 lg.half,.int .i64 lg.gen,.int .i64 lg.used,.int .i64 lg.count,.slice a' N c'] 44 (0,0)):=by rw [hw1];exact heap_alloc2_new w _ _
 have A0:=cR w1 _ 0 _ _ _ RA
 have A1:=cR w1 _ 1 _ _ _ RA
 have A2:=cR w1 _ 2 _ _ _ RA
 have A3:=cR w1 _ 3 _ _ _ RA
 have A4:=cR w1 _ 4 _ _ _ RA
 have B0:=cR w1 _ 0 _ _ _ RB
 have B1:=cR w1 _ 1 _ _ _ RB
 have B2:=cR w1 _ 2 _ _ _ RB
 have B3:=cR w1 _ 3 _ _ _ RB
 have B4:=cR w1 _ 4 _ _ _ RB
 have ke:=fun w'=>eqlLog lg.half lg.gen lg.used lg.count w'
 have ks:=samePairs_any _ _ l l w1 (hp.below hb1) (hq.below hb1)
 rw [decide_eq_true rfl] at ks
 have HW1:=zh hw1
 have HB1:=zh hb1
 clear hw1 hb1 hp hq hN RA RB
 go_enter Tryz.func23,Tryz.ntmps23
 go_upto_region 1 with (fail)
 rw [← HW1.out]
 go_wp2_with fail
 refine ks.mono ?_
 rintro e w5 ⟨rfl,hb5⟩
 clear ks A0 A1 A2 A3 A4 B0 B1 B2 B3 B4 ke
 have HB5:=zh (HB1.out.trans (hb5.mono HB1.out.size))
 clear hb5
 go_wp2_with fail
 go_ret
 exact⟨rfl,HB5.out⟩
end
section
open Go.ChangeShapes Go.WideShapes Go.ChangeAt Go.RowKit
theorem ownKnob_none:ownKnob Tryz.prog.godebug=none:=by kernel_rfl
theorem gTab : Tryz.prog.globalNamed "escheat/sum.turned" = some 1 := by kernel_rfl
theorem gTabType:(Tryz.prog.globals[1]?).map (·.type)=some 211:=by kernel_rfl
theorem tabCellsA:Tryz.prog.cellsOf 211=16:=by kernel_rfl
theorem tabCellsE:Tryz.prog.cellsOf 143=1:=by kernel_rfl
def tabInts:List Int:=[0,498536548,997073096,651767980,1994146192,1802195444,1303535960,1342533948,3988292384,4027552580,3604390888,3412177804,2607071920,2262029012,2685067896,3183342108]
theorem tabInts_at:∀ k:Fin 16,tabInts.getD k.val 0=SumP.toI (SumP.tabL.getD k.val 0#32):=by decide
theorem tabAt_of_laid {W : World} (h : laidMetH Tryz.prog [("escheat/sum.turned", Rows.laid_escheat_sum_turned)] W) : TabAt W := by
 have ht : Lib.TabIs Tryz.prog W "escheat/sum.turned" .u32 tabInts :=
  Lib.tabIs_of_head (rest:=[]) gTab gTabType Tryz.underlying211 Tryz.underlying143 tabCellsE tabCellsA h
 intro x hx
 rw [ht.cell gTab x.toNat hx,tabInts_at ⟨x.toNat,hx⟩]
 rfl
theorem tab_block {W:World} (h:TabAt W):1<W.heap.size:=World.block_lt_of_cell? W _ (h 0#32 (by decide))
noncomputable def laidWorld (os:Os):World :=
 { World.holding Tryz.prog os ⟨#[],#[],[]⟩ with heap:=(World.holding Tryz.prog os ⟨#[],#[],[]⟩).heap.modify 1 fun
   | .cells _ t frozen=>.cells (tabInts.map fun z=>Value.int .u32 z).toArray t frozen
   | o=>o }
end
section
open Go.RowKit Go.ChangeShapes Go.WideShapes
theorem flatten_chunks {α:Type} (sz:Nat):∀ (n:Nat) (cs:List α),cs.length=n*sz→((List.range n).map (fun i=>(cs.drop (i*sz)).take sz)).flatten=cs
 | 0,cs,h=>by
  rw [Nat.zero_mul] at h
  simp [List.length_eq_zero_iff.1 h]
 | n+1,cs,h=>by
  rw [List.range_succ_eq_map,List.map_cons,List.flatten_cons,List.map_map]
  have h':(cs.drop sz).length=n*sz:=by rw [List.length_drop,h,Nat.succ_mul];omega
  have ih:=flatten_chunks sz n (cs.drop sz) h'
  have e:((fun i=>(cs.drop (i*sz)).take sz) ∘ Nat.succ)=(fun i=>((cs.drop sz).drop (i*sz)).take sz):=by
   funext i
   simp only [Function.comp,List.drop_drop]
   rw [Nat.succ_mul,Nat.add_comm]
  rw [e,ih]
  simp
theorem flatten_f {α:Type} (f:α→List Value):∀ (css:List (List Value)) (xs:List α),css.length=xs.length→(∀ (i:Nat) (a:α) (c:List Value),xs[i]?=some a→css[i]?=some c→c=f a)→css.flatten=(xs.map f).flatten:=by
 intro css
 induction css with
 | nil=>intro xs h _;cases xs <;> simp_all
 | cons c css ih =>
  intro xs h h2
  cases xs with
  | nil=>simp at h
  | cons x xs =>
   rw [List.flatten_cons,h2 0 x c rfl rfl,ih xs (by simpa using h) (fun i a c ha hc=>h2 (i+1) a c (by simpa using ha) (by simpa using hc))]
   rfl
section
variable {P:Program} {W:World} {t:TypeId}
theorem opens_arr {α:Type} {n:Nat} {e:TypeId} {R:α→List Value→Prop} (ht:P.underlying t=some (.array n e)) (hc:P.cellsOf t=n*P.cellsOf e) (he:Opens P W e R) :
  Opens P W t (fun (xs:List α) cs=>xs.length=n∧∃ css:List (List Value),css.length=n∧cs=css.flatten∧∀ (i:Nat) (a:α) (c:List Value),xs[i]?=some a→css[i]?=some c→R a c):=fun H enc fuel cs x h hwt=>by
 obtain⟨xs,m,_,rfl,hl,hn,hel⟩:=DataW.trod_array ht h
 have hw1:DataW.weights P t (DataW.agg (xs.map (·.1)))=DataW.weightsAll P e (xs.map (·.1)):=by
  rw [DataW.weights];simp [ht]
 simp only [hw1] at hwt
 obtain⟨bs,css,h1,h2,h3⟩:=choose_list n (fun i (b:α) c=>c=(cs.drop (i*P.cellsOf e)).take (P.cellsOf e)∧R b c) (fun i hi=>by
  have h1:=hel i hi
  rw [List.getElem?_eq_getElem (by omega)] at h1
  obtain⟨b,hb⟩:=he H enc m _ _ h1 (fun k hk=>hwt k (mem_weightsAll _ i _ (by rw [List.getElem?_map,List.getElem?_eq_getElem (by omega)];rfl) k hk))
  exact⟨b,_,rfl,hb⟩)
 refine⟨bs,h1,css,h2,?_,fun i a c ha hc=>(h3 i a c ha hc).2⟩
 have e1:css=(List.range n).map (fun i=>(cs.drop (i*P.cellsOf e)).take (P.cellsOf e)):=by
  apply List.ext_getElem
  ·simp [h2]
  ·intro i hi _
   rw [List.getElem_map,List.getElem_range]
   exact (h3 i _ _ (List.getElem?_eq_getElem (by omega)) (List.getElem?_eq_getElem hi)).1
 rw [e1,flatten_chunks _ _ _ (by rw [hl,hc])]
end
set_option maxRecDepth 100000 in
theorem opens_sector (W:World):Opens Tryz.prog W 94 (fun (s:List UInt8) cs=>s.length=64∧cs=u8s s):=fun H enc fuel cs x h hwt=>by
 obtain⟨s,h1,css,h2,h3,h4⟩:=opens_arr Tryz.underlying94 (by kernel_rfl) (opens_u8 Tryz.underlying5) H enc fuel cs x h hwt
 exact⟨s,h1,by rw [h3];exact flatten_u8 css s (by omega) h4⟩
set_option maxRecDepth 100000 in
theorem opens_write (W:World):Opens Tryz.prog W 96 (fun (x:WriteP) cs=>x.data.length=64∧cs=wcells x):=fun H enc fuel cs x h hwt=>by
 obtain⟨y0,y1,n,rfl,hl,h0,h1⟩:=trod_struct2 Tryz.underlying96 h
 have hw1:DataW.weights Tryz.prog 96 (DataW.agg [y0.1,y1.1])=DataW.weightsEach Tryz.prog [3,94] [y0.1,y1.1]:=by
  rw [DataW.weights];simp [Tryz.underlying96]
 simp only [hw1] at hwt
 obtain⟨z,hz,_⟩:=opens_int (W:=W) Tryz.underlying3 H enc n _ _ h0 (fun m hm=>hwt m (mem_weightsEach _ _ 0 _ _ rfl rfl m hm))
 obtain⟨s,hs,hs2⟩:=opens_sector W H enc n _ _ h1 (fun m hm=>hwt m (mem_weightsEach _ _ 1 _ _ rfl rfl m hm))
 have e1:Tryz.prog.cellsOf 3=1:=by kernel_rfl
 have e2:Tryz.prog.cellsOf 94=64:=by kernel_rfl
 have e3:Tryz.prog.cellsOf 96=65:=by kernel_rfl
 rw [e3] at hl
 simp only [e1,e2] at hz hs2
 refine⟨⟨z,s⟩,hs,?_⟩
 match cs,hl,hz,hs2 with
 | c :: cs,hl,hz,hs2 =>
  simp at hz hs2 hl
  rw [List.take_of_length_le (by omega)] at hs2
  rw [hz,hs2]
  rfl
set_option maxRecDepth 100000 in
theorem opens_disk (W:World):Opens Tryz.prog W 38 (fun (d:DiskP) cs=>DiskV W.heap.size W (.agg cs.toArray) d ∧ -9223372036854775808≤d.fuse∧d.fuse≤9223372036854775807):=fun H enc fuel cs x h hwt=>by
 obtain⟨xs,n,_,rfl,hl,hlen,hf⟩:=DataW.trod_struct Tryz.underlying38 h
 match xs,hlen with
 | [y0,y1,y2,y3],_ =>
  have h0:=hf 0 _ rfl
  have h1:=hf 1 _ rfl
  have h2:=hf 2 _ rfl
  have h3:=hf 3 _ rfl
  change _=some y0 at h0
  change _=some y1 at h1
  change _=some y2 at h2
  change _=some y3 at h3
  have hw1:DataW.weights Tryz.prog 38 (DataW.agg [y0.1,y1.1,y2.1,y3.1])=DataW.weightsEach Tryz.prog [35,36,3,4] [y0.1,y1.1,y2.1,y3.1]:=by
   rw [DataW.weights];simp [Tryz.underlying38]
  change ∀ n∈DataW.weights Tryz.prog 38 (DataW.agg [y0.1,y1.1,y2.1,y3.1]),n≤reachBytes at hwt
  rw [hw1] at hwt
  obtain⟨ss,hss⟩:=opens_slice (W:=W) Tryz.underlying35 (of_decide_eq_true (by kernel_rfl)) (opens_sector W) H enc n _ _ h0 (fun m hm=>hwt m (mem_weightsEach _ _ 0 _ _ rfl rfl m hm))
  obtain⟨ls,hls⟩:=opens_slice (W:=W) Tryz.underlying36 (of_decide_eq_true (by kernel_rfl)) (opens_write W) H enc n _ _ h1 (fun m hm=>hwt m (mem_weightsEach _ _ 1 _ _ rfl rfl m hm))
  obtain⟨z,hz,hzw⟩:=opens_int (W:=W) Tryz.underlying3 H enc n _ _ h2 (fun m hm=>hwt m (mem_weightsEach _ _ 2 _ _ rfl rfl m hm))
  obtain⟨b,hb⟩:=opens_bool (W:=W) Tryz.underlying4 H enc n _ _ h3 (fun m hm=>hwt m (mem_weightsEach _ _ 3 _ _ rfl rfl m hm))
  have e0:Tryz.prog.cellsOf 35=1:=by kernel_rfl
  have e1:Tryz.prog.cellsOf 36=1:=by kernel_rfl
  have e2:Tryz.prog.cellsOf 3=1:=by kernel_rfl
  have e3:Tryz.prog.cellsOf 4=1:=by kernel_rfl
  have e4:Tryz.prog.cellsOf 38=4:=by kernel_rfl
  have e5:Tryz.prog.cellsOf 94=64:=by kernel_rfl
  have e6:Tryz.prog.cellsOf 96=65:=by kernel_rfl
  rw [e4] at hl
  rw [e5] at hss
  rw [e6] at hls
  obtain⟨_,v0,css0,hv0,k1,_,k3,k4⟩:=hss
  obtain⟨_,v1,css1,hv1,l1,_,l3,l4⟩:=hls
  change (cs.drop 0).take (Tryz.prog.cellsOf 35)=_ at hv0
  change (cs.drop 1).take (Tryz.prog.cellsOf 36)=_ at hv1
  change (cs.drop 2).take (Tryz.prog.cellsOf 3)=_ at hz
  change (cs.drop 3).take (Tryz.prog.cellsOf 4)=_ at hb
  rw [e0] at hv0
  rw [e1] at hv1
  rw [e2] at hz
  rw [e3] at hb
  have f0:css0.flatten=(ss.map u8s).flatten:=flatten_f u8s css0 ss k1 (fun i a c ha hc=>(k4 i a c ha hc).2)
  have f1:css1.flatten=(ls.map wcells).flatten:=flatten_f wcells css1 ls l1 (fun i a c ha hc=>(l4 i a c ha hc).2)
  rw [f0] at k3
  rw [f1] at l3
  have hsec:Secs W.heap.size W v0 ss:=⟨fun s hs=>by
   obtain⟨i,hi,rfl⟩:=List.getElem_of_mem hs
   exact (k4 i _ _ (List.getElem?_eq_getElem hi) (List.getElem?_eq_getElem (by omega))).1,k3⟩
  have hloo:Loose W.heap.size W v1 ls:=⟨fun s hs=>by
   obtain⟨i,hi,rfl⟩:=List.getElem_of_mem hs
   exact (l4 i _ _ (List.getElem?_eq_getElem hi) (List.getElem?_eq_getElem (by omega))).1,l3⟩
  have hw:=wf_i64 hzw
  match cs,hl,hv0,hv1,hz,hb with
  | [c0,c1,c2,c3],_,hv0,hv1,hz,hb =>
   simp at hv0 hv1 hz hb
   subst hv0;subst hv1;subst hz;subst hb
   exact⟨⟨ss,ls,z,b⟩,⟨_,_,rfl,hsec,hloo⟩,hw⟩
theorem open_struct_val {P:Program} {W:World} {t:TypeId} {α:Type} {fs:Array Field} {R:α→List Value→Prop} {H:Type} {enc:TypeId×Value→H} {base:Nat} {v:Value} {d:DataW H} {ps:List MemPlace} (ht:P.underlying t=some (.struct fs))
  (ho:Opens P W t R) (hval:Value.okWide P W .any base t v) (h:DataW.Trod enc P W 0 (fun _=>true) true t v d ps) (hw:∀ n∈DataW.weights P t d,n≤reachBytes):∃ (x:α) (cs:List Value),v = .agg cs.toArray∧R x cs:=by
 obtain⟨cs,rfl,_⟩:=okWide_struct ht hval
 obtain⟨fuel,hf⟩:=h
 obtain⟨x,hx⟩:=ho H enc fuel _ _ hf hw
 exact⟨x,cs.toList,by simp,hx⟩
end
section
open Go.RowKit KvP PackP WalP
set_option maxRecDepth 100000 in
set_option maxHeartbeats 8000000 in
theorem KvOpens_walk {p1 p2:Option Addr} {q1 q2:Nat} (d:DiskP) (w:World) (ht:TabAt w) (hT:1<w.heap.size)
  (hd:DiskV w.heap.size w (.agg #[.slice p1 d.secs.length q1,.slice p2 d.loose.length q2,.int .i64 d.fuse,.bool d.down]) d) :
  Calls Tryz.prog 4 #[.agg #[.slice p1 d.secs.length q1,.slice p2 d.loose.length q2,.int .i64 d.fuse,.bool d.down]] w fun e w'=>e = .returned (.bool true)∧Below w.heap.size w w':=by
 obtain⟨w1,hw1⟩:∃ w1,w1=w.alloc (.cells #[.slice p1 d.secs.length q1,.slice p2 d.loose.length q2,.int .i64 d.fuse,.bool d.down] 38):=⟨_,rfl⟩
 obtain⟨DX,hDX⟩:∃ g,g=w.heap.size:=⟨_,rfl⟩
 have hb1:Below w.heap.size w w1:=by rw [hw1];exact Below.alloc (Below.refl _ _) (Nat.le_refl _) _
 have RX:w1.heap[DX]?=some (.cells #[.slice p1 d.secs.length q1,.slice p2 d.loose.length q2,.int .i64 d.fuse,.bool d.down] 38 (0,0)):=by rw [hw1,hDX];exact heap_alloc_new w _
 have ka:=kvAlive_any w1 (ht.below hb1 hT) (Nat.lt_of_lt_of_le hT hb1.size)
 have HX1:=zh (show DAt w1 DX d from ⟨p1,q1,p2,q2,RX,(hd.below hb1).tight⟩)
 have HW1:=zh hw1
 have HGX:=zh hDX
 have HT:=zh ht
 have HB1:=zh hb1
 clear hw1 hDX ht hd hb1 RX
 go_enter Tryz.func4,Tryz.ntmps4
 go_upto_region 1 with (fail)
 rw [← HW1.out,← HGX.out]
 go_wp2_with fail
 refine ka.mono ?_
 rintro e w2 ⟨rfl,hb2⟩
 clear ka
 have HX2:=zh (HX1.out.below hb2)
 have HB2:=zh (HB1.out.trans (hb2.mono HB1.out.size))
 clear hb2
 obtain⟨xa,xn,xb,xm,TX,hvX⟩:=id HX2.out
 have C0:=cR w2 _ 0 _ _ _ TX
 have C1:=cR w2 _ 1 _ _ _ TX
 have C2:=cR w2 _ 2 _ _ _ TX
 have C3:=cR w2 _ 3 _ _ _ TX
 clear TX
 by_cases h1:120<d.secs.length
 ·have k0:decide ((120:Int)<(d.secs.length:Int))=true:=by simp;omega
  go_wp2_with fail
  go_ret
  exact⟨rfl,HB2.out⟩
 have k0:decide ((120:Int)<(d.secs.length:Int))=false:=by simp;omega
 by_cases h2:120<d.loose.length
 ·have k1:decide ((120:Int)<(d.loose.length:Int))=true:=by simp;omega
  go_wp2_with fail
  go_ret
  exact⟨rfl,HB2.out⟩
 have k1:decide ((120:Int)<(d.loose.length:Int))=false:=by simp;omega
 have k2:=copy_any _ d w2 hvX ⟨by omega,by omega⟩
 clear hvX
 go_wp2_with fail
 refine k2.mono ?_
 rintro e w4 ⟨⟨sv,lv,rfl,C,_,_,ho,_,hlo⟩,hb4⟩
 obtain⟨p0,q0,rfl⟩:=ho.form
 obtain⟨r0,s0,rfl⟩:=hlo.form
 have dn:DiskV w4.heap.size w4 (.agg #[.slice p0 d.secs.length q0,.slice r0 d.loose.length s0,.int .i64 d.fuse,.bool d.down]) d:=⟨_,_,rfl,ho.secs,hlo.loose⟩
 clear ho hlo k2 C0 C1 C2 C3 k0 k1 h1 h2
 obtain⟨w5,hw5⟩:∃ u,u=w4.alloc (.cells #[.slice p0 d.secs.length q0,.slice r0 d.loose.length s0,.int .i64 d.fuse,.bool d.down] 38):=⟨_,rfl⟩
 have hb5:Below w4.heap.size w4 w5:=by rw [hw5];exact Below.alloc (Below.refl _ _) (Nat.le_refl _) _
 obtain⟨DO,hgo⟩:∃ g,g=w4.heap.size:=⟨_,rfl⟩
 have RO:w5.heap[DO]?=some (.cells #[.slice p0 d.secs.length q0,.slice r0 d.loose.length s0,.int .i64 d.fuse,.bool d.down] 38 (0,0)):=by rw [hw5,hgo];exact heap_alloc_new w4 _
 have HO5:=zh (show DAt w5 DO d from ⟨p0,q0,r0,s0,RO,(dn.below hb5).tight⟩)
 have hb25:=hb4.trans (hb5.mono hb4.size)
 have HX5:=zh (HX2.out.below hb25)
 have HB5:=zh (HB2.out.trans (hb25.mono HB2.out.size))
 have HT5:=zh (HT.out.below HB5.out hT)
 have hT5:1<w5.heap.size:=Nat.lt_of_lt_of_le hT HB5.out.size
 have HW5:=zh hw5
 have HGO:=zh hgo
 clear hw5 hgo dn hb4 hb5 hb25 RO
 go_upto_region 6 with (fail)
 rw [← HW5.out,← HGO.out]
 obtain⟨rO,hrO⟩:∃ r,r=openK d:=⟨_,rfl⟩
 obtain⟨rF,hrF⟩:∃ r,r=formatK d:=⟨_,rfl⟩
 have HRO:=zh hrO
 have HRF:=zh hrF
 clear hrO hrF
 have hb_5:Below w5.heap.size w5 w5:=Below.refl _ _
 obtain⟨ax,nx,bx,mx,Tx,hvx⟩:=id (HO5.out.below hb_5)
 have C0x:=cR w5 _ 0 _ _ _ Tx
 have C1x:=cR w5 _ 1 _ _ _ Tx
 have C2x:=cR w5 _ 2 _ _ _ Tx
 have C3x:=cR w5 _ 3 _ _ _ Tx
 clear Tx
 have ko:=kopen_any _ d w5 hvx (HT5.out.below hb_5 hT5) (Nat.lt_of_lt_of_le hT5 hb_5.size)
 rw [← HRO.out] at ko
 unfold KE at ko
 clear hvx
 go_wp2_with fail
 refine ko.mono ?_
 rintro e wa1 ⟨⟨v9,sv9,rfl,hd9,hs9⟩,hb9⟩
 clear ko C0x C1x C2x C3x
 obtain⟨p3,q3,p4,q4,rfl,_,_⟩:=hd9.parts
 obtain⟨wb1,D1,HWc,HGc,hDD,hbD,ltD,leD⟩:=fresh_disk wa1
 obtain⟨wc1,S1,HWd,HGd,hSE,hbE,ltE,leE⟩:=fresh_store wb1
 have hb9E:=hbD.trans (hbE.mono hbD.size)
 obtain⟨wd1,wf1,st1,st2,HX⟩:=pack_DS (hDD.below hbE) hSE (show D1≠S1 by omega) (hd9.below hb9E).tight (hs9.below hb9E).tight
 have ST2:=zh st2
 have HQ:=zh (And.intro (hb9.trans (hb9E.mono hb9.size)) (And.intro leD leE))
 have HB9:=zh (And.intro hb9 hb9E)
 have hSn:wa1.heap.size≤S1:=by omega
 clear st2 hd9 hs9 hDD hSE hbD hbE hb9 hb9E ltD ltE leE
 go_wp2_with (with_reducible refine wp_alloc_to (w':=wb1) 38 rfl rfl (zero_disk _) HWc.out ?_;refine Halt.in ?_)
 refine Halt.out ?_
 rw [← HGc.out]
 go_wp2_with (with_reducible refine wp_alloc_to (w':=wc1) 44 rfl rfl (zero_store _) HWd.out ?_;refine Halt.in ?_)
 refine Halt.out ?_
 rw [← HGd.out]
 go_wp2_with (with_reducible refine wp_store_r (.tmp 4) (.tmp 33) 38 st1 rfl rfl ?_;refine Halt.in ?_)
 refine Halt.out ?_
 have st2:=ST2.out
 clear st1
 go_wp2_with (with_reducible refine wp_store_r (.tmp 5) (.tmp 34) 44 st2 rfl rfl ?_;refine Halt.in ?_)
 refine Halt.out ?_
 clear st2 ST2
 go_upto_region 7 with (fail)
 have HD1:=zh HX.out.1
 have HS1:=zh HX.out.2.1
 have hbs1:Below w5.heap.size w5 wf1:=HB9.out.1.trans ((HX.out.2.2.2.2 wa1.heap.size wa1 HB9.out.2 leD hSn).mono HB9.out.1.size)
 have hb_1:Below w5.heap.size w5 wf1:=hb_5.trans (hbs1.mono hb_5.size)
 have HBS1:=zh hbs1
 clear hbs1 HX HQ HB9 leD hSn
 obtain⟨ax,nx,bx,mx,Tx,hvx⟩:=id (HX5.out.below hb_1)
 have C0x:=cR wf1 _ 0 _ _ _ Tx
 have C1x:=cR wf1 _ 1 _ _ _ Tx
 have C2x:=cR wf1 _ 2 _ _ _ Tx
 have C3x:=cR wf1 _ 3 _ _ _ Tx
 clear Tx
 have ko:=rkopen_any _ d wf1 hvx
 rw [← HRO.out] at ko
 unfold KE at ko
 clear hvx
 go_wp2_with fail
 refine ko.mono ?_
 rintro e wa2 ⟨⟨v9,sv9,rfl,hd9,hs9⟩,hb9⟩
 clear ko C0x C1x C2x C3x
 obtain⟨p3,q3,p4,q4,rfl,_,_⟩:=hd9.parts
 obtain⟨wb2,D2,HWc,HGc,hDD,hbD,ltD,leD⟩:=fresh_disk wa2
 obtain⟨wc2,S2,HWd,HGd,hSE,hbE,ltE,leE⟩:=fresh_store wb2
 have hb9E:=hbD.trans (hbE.mono hbD.size)
 obtain⟨wd2,wf2,st1,st2,HX⟩:=pack_DS (hDD.below hbE) hSE (show D2≠S2 by omega) (hd9.below hb9E).tight (hs9.below hb9E).tight
 have ST2:=zh st2
 have HQ:=zh (And.intro (hb9.trans (hb9E.mono hb9.size)) (And.intro leD leE))
 have HB9:=zh (And.intro hb9 hb9E)
 have hSn:wa2.heap.size≤S2:=by omega
 clear st2 hd9 hs9 hDD hSE hbD hbE hb9 hb9E ltD ltE leE
 go_wp2_with (with_reducible refine wp_alloc_to (w':=wb2) 38 rfl rfl (zero_disk _) HWc.out ?_;refine Halt.in ?_)
 refine Halt.out ?_
 rw [← HGc.out]
 go_wp2_with (with_reducible refine wp_alloc_to (w':=wc2) 44 rfl rfl (zero_store _) HWd.out ?_;refine Halt.in ?_)
 refine Halt.out ?_
 rw [← HGd.out]
 go_wp2_with (with_reducible refine wp_store_r (.tmp 7) (.tmp 39) 38 st1 rfl rfl ?_;refine Halt.in ?_)
 refine Halt.out ?_
 have st2:=ST2.out
 clear st1
 go_wp2_with (with_reducible refine wp_store_r (.tmp 8) (.tmp 40) 44 st2 rfl rfl ?_;refine Halt.in ?_)
 refine Halt.out ?_
 clear st2 ST2
 go_upto_region 8 with (fail)
 have HD2:=zh HX.out.1
 have HS2:=zh HX.out.2.1
 have hbs2:Below wf1.heap.size wf1 wf2:=HB9.out.1.trans ((HX.out.2.2.2.2 wa2.heap.size wa2 HB9.out.2 leD hSn).mono HB9.out.1.size)
 have hb_2:Below w5.heap.size w5 wf2:=hb_1.trans (hbs2.mono hb_1.size)
 have HBS2:=zh hbs2
 clear hbs2 HX HQ HB9 leD hSn
 obtain⟨ax,nx,bx,mx,Tx,hvx⟩:=id (HO5.out.below hb_2)
 have C0x:=cR wf2 _ 0 _ _ _ Tx
 have C1x:=cR wf2 _ 1 _ _ _ Tx
 have C2x:=cR wf2 _ 2 _ _ _ Tx
 have C3x:=cR wf2 _ 3 _ _ _ Tx
 clear Tx
 have ko:=kformat_any _ d wf2 hvx (HT5.out.below hb_2 hT5) (Nat.lt_of_lt_of_le hT5 hb_2.size)
 rw [← HRF.out] at ko
 unfold KE at ko
 clear hvx
 go_wp2_with fail
 refine ko.mono ?_
 rintro e wa3 ⟨⟨v9,sv9,rfl,hd9,hs9⟩,hb9⟩
 clear ko C0x C1x C2x C3x
 obtain⟨p3,q3,p4,q4,rfl,_,_⟩:=hd9.parts
 obtain⟨wb3,D3,HWc,HGc,hDD,hbD,ltD,leD⟩:=fresh_disk wa3
 obtain⟨wc3,S3,HWd,HGd,hSE,hbE,ltE,leE⟩:=fresh_store wb3
 have hb9E:=hbD.trans (hbE.mono hbD.size)
 obtain⟨wd3,wf3,st1,st2,HX⟩:=pack_DS (hDD.below hbE) hSE (show D3≠S3 by omega) (hd9.below hb9E).tight (hs9.below hb9E).tight
 have ST2:=zh st2
 have HQ:=zh (And.intro (hb9.trans (hb9E.mono hb9.size)) (And.intro leD leE))
 have HB9:=zh (And.intro hb9 hb9E)
 have hSn:wa3.heap.size≤S3:=by omega
 clear st2 hd9 hs9 hDD hSE hbD hbE hb9 hb9E ltD ltE leE
 go_wp2_with (with_reducible refine wp_alloc_to (w':=wb3) 38 rfl rfl (zero_disk _) HWc.out ?_;refine Halt.in ?_)
 refine Halt.out ?_
 rw [← HGc.out]
 go_wp2_with (with_reducible refine wp_alloc_to (w':=wc3) 44 rfl rfl (zero_store _) HWd.out ?_;refine Halt.in ?_)
 refine Halt.out ?_
 rw [← HGd.out]
 go_wp2_with (with_reducible refine wp_store_r (.tmp 10) (.tmp 45) 38 st1 rfl rfl ?_;refine Halt.in ?_)
 refine Halt.out ?_
 have st2:=ST2.out
 clear st1
 go_wp2_with (with_reducible refine wp_store_r (.tmp 11) (.tmp 46) 44 st2 rfl rfl ?_;refine Halt.in ?_)
 refine Halt.out ?_
 clear st2 ST2
 go_upto_region 9 with (fail)
 have HD3:=zh HX.out.1
 have HS3:=zh HX.out.2.1
 have hbs3:Below wf2.heap.size wf2 wf3:=HB9.out.1.trans ((HX.out.2.2.2.2 wa3.heap.size wa3 HB9.out.2 leD hSn).mono HB9.out.1.size)
 have hb_3:Below w5.heap.size w5 wf3:=hb_2.trans (hbs3.mono hb_2.size)
 have HBS3:=zh hbs3
 clear hbs3 HX HQ HB9 leD hSn
 obtain⟨ax,nx,bx,mx,Tx,hvx⟩:=id (HX5.out.below hb_3)
 have C0x:=cR wf3 _ 0 _ _ _ Tx
 have C1x:=cR wf3 _ 1 _ _ _ Tx
 have C2x:=cR wf3 _ 2 _ _ _ Tx
 have C3x:=cR wf3 _ 3 _ _ _ Tx
 clear Tx
 have ko:=rkformat_any _ d wf3 hvx
 rw [← HRF.out] at ko
 unfold KE at ko
 clear hvx
 go_wp2_with fail
 refine ko.mono ?_
 rintro e wa4 ⟨⟨v9,sv9,rfl,hd9,hs9⟩,hb9⟩
 clear ko C0x C1x C2x C3x
 obtain⟨p3,q3,p4,q4,rfl,_,_⟩:=hd9.parts
 obtain⟨wb4,D4,HWc,HGc,hDD,hbD,ltD,leD⟩:=fresh_disk wa4
 obtain⟨wc4,S4,HWd,HGd,hSE,hbE,ltE,leE⟩:=fresh_store wb4
 have hb9E:=hbD.trans (hbE.mono hbD.size)
 obtain⟨wd4,wf4,st1,st2,HX⟩:=pack_DS (hDD.below hbE) hSE (show D4≠S4 by omega) (hd9.below hb9E).tight (hs9.below hb9E).tight
 have ST2:=zh st2
 have HQ:=zh (And.intro (hb9.trans (hb9E.mono hb9.size)) (And.intro leD leE))
 have HB9:=zh (And.intro hb9 hb9E)
 have hSn:wa4.heap.size≤S4:=by omega
 clear st2 hd9 hs9 hDD hSE hbD hbE hb9 hb9E ltD ltE leE
 go_wp2_with (with_reducible refine wp_alloc_to (w':=wb4) 38 rfl rfl (zero_disk _) HWc.out ?_;refine Halt.in ?_)
 refine Halt.out ?_
 rw [← HGc.out]
 go_wp2_with (with_reducible refine wp_alloc_to (w':=wc4) 44 rfl rfl (zero_store _) HWd.out ?_;refine Halt.in ?_)
 refine Halt.out ?_
 rw [← HGd.out]
 go_wp2_with (with_reducible refine wp_store_r (.tmp 13) (.tmp 51) 38 st1 rfl rfl ?_;refine Halt.in ?_)
 refine Halt.out ?_
 have st2:=ST2.out
 clear st1
 go_wp2_with (with_reducible refine wp_store_r (.tmp 14) (.tmp 52) 44 st2 rfl rfl ?_;refine Halt.in ?_)
 refine Halt.out ?_
 clear st2 ST2
 go_upto_region 10 with (fail)
 have HD4:=zh HX.out.1
 have HS4:=zh HX.out.2.1
 have hbs4:Below wf3.heap.size wf3 wf4:=HB9.out.1.trans ((HX.out.2.2.2.2 wa4.heap.size wa4 HB9.out.2 leD hSn).mono HB9.out.1.size)
 have hb_4:Below w5.heap.size w5 wf4:=hb_3.trans (hbs4.mono hb_3.size)
 have HBS4:=zh hbs4
 clear hbs4 HX HQ HB9 leD hSn
 have B34:=HBS4.out
 have B24:=HBS3.out.trans (HBS4.out.mono HBS3.out.size)
 have B14:=HBS2.out.trans (B24.mono HBS2.out.size)
 have HA:=zh (HD1.out.below B14)
 have HAs:=zh (HS1.out.below B14)
 have HE:=zh (HD2.out.below B24)
 have HEs:=zh (HS2.out.below B24)
 have HF:=zh (HD3.out.below B34)
 have HFs:=zh (HS3.out.below B34)
 have HG:=HD4
 have HGs:=HS4
 have HXX:=zh (HX5.out.below hb_4)
 have HOO:=zh (HO5.out.below hb_4)
 have HB4:=zh (HB5.out.trans (hb_4.mono HB5.out.size))
 have c0:Below wf4.heap.size wf4 wf4:=Below.refl _ _
 clear B34 B24 B14 hb_5 hb_1 hb_2 hb_3 hb_4
 obtain⟨au,nu,bu,mu,Tu,hvu⟩:=id (HA.out.below c0)
 have C0u:=cR wf4 _ 0 _ _ _ Tu
 have C1u:=cR wf4 _ 1 _ _ _ Tu
 have C2u:=cR wf4 _ 2 _ _ _ Tu
 have C3u:=cR wf4 _ 3 _ _ _ Tu
 clear Tu
 obtain⟨aj,nj,bj,mj,Tj,hvj⟩:=id (HE.out.below c0)
 have C0j:=cR wf4 _ 0 _ _ _ Tj
 have C1j:=cR wf4 _ 1 _ _ _ Tj
 have C2j:=cR wf4 _ 2 _ _ _ Tj
 have C3j:=cR wf4 _ 3 _ _ _ Tj
 clear Tj
 have ko:=same_any _ _ rO.1 wf4 hvu hvj
 clear hvu hvj
 go_wp2_with fail
 refine ko.mono ?_
 rintro e we1 ⟨rfl,hb9⟩
 clear ko C0u C1u C2u C3u C0j C1j C2j C3j
 have c1:Below wf4.heap.size wf4 we1:=c0.trans (hb9.mono c0.size)
 clear hb9
 obtain⟨au,cu,Tu,hpu⟩:=id (HAs.out.below c1)
 have F0u:=cR we1 _ 0 _ _ _ Tu
 have F1u:=cR we1 _ 1 _ _ _ Tu
 have F2u:=cR we1 _ 2 _ _ _ Tu
 have F3u:=cR we1 _ 3 _ _ _ Tu
 have F4u:=cR we1 _ 4 _ _ _ Tu
 clear Tu
 obtain⟨aj,cj,Tj,hpj⟩:=id (HEs.out.below c1)
 have F0j:=cR we1 _ 0 _ _ _ Tj
 have F1j:=cR we1 _ 1 _ _ _ Tj
 have F2j:=cR we1 _ 2 _ _ _ Tj
 have F3j:=cR we1 _ 3 _ _ _ Tj
 have F4j:=cR we1 _ 4 _ _ _ Tj
 clear Tj
 have ko:=refsame6_any _ _ rO.2.1 we1 ⟨_,rfl,hpu⟩ ⟨_,rfl,hpj⟩
 unfold storeV at ko
 clear hpu hpj
 go_wp2_with fail
 refine ko.mono ?_
 rintro e we2 ⟨rfl,hb9⟩
 clear ko F0u F1u F2u F3u F4u F0j F1j F2j F3j F4j
 have c2:Below wf4.heap.size wf4 we2:=c1.trans (hb9.mono c1.size)
 clear hb9
 obtain⟨au,nu,bu,mu,Tu,hvu⟩:=id (HF.out.below c2)
 have C0u:=cR we2 _ 0 _ _ _ Tu
 have C1u:=cR we2 _ 1 _ _ _ Tu
 have C2u:=cR we2 _ 2 _ _ _ Tu
 have C3u:=cR we2 _ 3 _ _ _ Tu
 clear Tu
 obtain⟨aj,nj,bj,mj,Tj,hvj⟩:=id (HG.out.below c2)
 have C0j:=cR we2 _ 0 _ _ _ Tj
 have C1j:=cR we2 _ 1 _ _ _ Tj
 have C2j:=cR we2 _ 2 _ _ _ Tj
 have C3j:=cR we2 _ 3 _ _ _ Tj
 clear Tj
 have ko:=same_any _ _ rF.1 we2 hvu hvj
 clear hvu hvj
 go_wp2_with fail
 refine ko.mono ?_
 rintro e we3 ⟨rfl,hb9⟩
 clear ko C0u C1u C2u C3u C0j C1j C2j C3j
 have c3:Below wf4.heap.size wf4 we3:=c2.trans (hb9.mono c2.size)
 clear hb9
 obtain⟨au,cu,Tu,hpu⟩:=id (HFs.out.below c3)
 have F0u:=cR we3 _ 0 _ _ _ Tu
 have F1u:=cR we3 _ 1 _ _ _ Tu
 have F2u:=cR we3 _ 2 _ _ _ Tu
 have F3u:=cR we3 _ 3 _ _ _ Tu
 have F4u:=cR we3 _ 4 _ _ _ Tu
 clear Tu
 obtain⟨aj,cj,Tj,hpj⟩:=id (HGs.out.below c3)
 have F0j:=cR we3 _ 0 _ _ _ Tj
 have F1j:=cR we3 _ 1 _ _ _ Tj
 have F2j:=cR we3 _ 2 _ _ _ Tj
 have F3j:=cR we3 _ 3 _ _ _ Tj
 have F4j:=cR we3 _ 4 _ _ _ Tj
 clear Tj
 have ko:=refsame6_any _ _ rF.2.1 we3 ⟨_,rfl,hpu⟩ ⟨_,rfl,hpj⟩
 unfold storeV at ko
 clear hpu hpj
 go_wp2_with fail
 refine ko.mono ?_
 rintro e we4 ⟨rfl,hb9⟩
 clear ko F0u F1u F2u F3u F4u F0j F1j F2j F3j F4j
 have c4:Below wf4.heap.size wf4 we4:=c3.trans (hb9.mono c3.size)
 clear hb9
 obtain⟨au,nu,bu,mu,Tu,hvu⟩:=id (HOO.out.below c4)
 have C0u:=cR we4 _ 0 _ _ _ Tu
 have C1u:=cR we4 _ 1 _ _ _ Tu
 have C2u:=cR we4 _ 2 _ _ _ Tu
 have C3u:=cR we4 _ 3 _ _ _ Tu
 clear Tu
 obtain⟨aj,nj,bj,mj,Tj,hvj⟩:=id (HXX.out.below c4)
 have C0j:=cR we4 _ 0 _ _ _ Tj
 have C1j:=cR we4 _ 1 _ _ _ Tj
 have C2j:=cR we4 _ 2 _ _ _ Tj
 have C3j:=cR we4 _ 3 _ _ _ Tj
 clear Tj
 have ko:=same_any _ _ d we4 hvu hvj
 clear hvu hvj
 go_wp2_with fail
 refine ko.mono ?_
 rintro e we5 ⟨rfl,hb9⟩
 clear ko C0u C1u C2u C3u C0j C1j C2j C3j
 have c5:Below wf4.heap.size wf4 we5:=c4.trans (hb9.mono c4.size)
 clear hb9
 have HFIN:=zh (HB4.out.trans (c5.mono HB4.out.size))
 go_wp2_with fail
 go_ret
 exact⟨rfl,HFIN.out⟩
end
section
open Go.RowKit Go.ChangeShapes Go.WideShapes
section
variable {H:Type} {enc:TypeId×Value→H} {P:Program}
theorem trods_stay (hl:laidOutB P=true) {W W':World} (hb:Below W.heap.size W W') :
  ∀ (ts:List TypeId) (vs:List Value) (ds:List (DataW H)) (ps:List MemPlace),(∀ t∈ts,P.readableRec t=true∧t<P.types.size) →
   DataW.TrodAll enc P W 0 (fun _=>true) true ts vs ds ps→(∀ x∈ps,x.block<W.heap.size)→DataW.TrodAll enc P W' 0 (fun b=>decide (b<W.heap.size)) true ts vs ds ps:=by
 intro ts
 induction ts with
 | nil =>
  intro vs ds ps _ h _
  cases vs <;> cases ds <;> first | exact h | exact h.elim
 | cons t ts ih =>
  intro vs ds ps hr h hlt
  cases vs with
  | nil=>cases ds <;> exact h.elim
  | cons v vs =>
   cases ds with
   | nil=>exact h.elim
   | cons d ds =>
    obtain⟨p,q,h1,h2,rfl⟩:=h
    obtain⟨hr1,hr2⟩:=hr t (List.mem_cons_self ..)
    exact⟨p,q,WideElems.Trod_stays hl hr1 hr2 h1 (fun x hx=>hb.same (hlt x (List.mem_append_left _ hx))) (fun x hx=>by simpa using hlt x (List.mem_append_left _ hx)),
     ih vs ds q (fun t' ht'=>hr t' (List.mem_cons_of_mem _ ht')) h2 (fun x hx=>hlt x (List.mem_append_right _ hx)),rfl⟩
theorem weights_at {ts:List TypeId} {ds:List (DataW H)} (h:(DataW.weightsEach P ts ds).all (·≤reachBytes)=true) (i:Nat) (t:TypeId) (d:DataW H) (ht:ts[i]?=some t) (hd:ds[i]?=some d) :
  ∀ n∈DataW.weights P t d,n≤reachBytes:=fun n hn=>by
 have:=List.all_eq_true.1 h n (mem_weightsEach ts ds i t d ht hd n hn)
 simpa using this
theorem post_law {f:Func} {s:ChangeSpec} {W W':World} {args:Array Value} {ds gs:List (DataW H)} {before:List MemPlace} {bt:TypeId}
  (hW:DataW.Whole enc P f.params.toList s.vars false W args.toList ds gs before) (hvars:s.vars=[]) (hl:laidOutB P=true)
  (hr:∀ t∈f.params.toList,P.readableRec t=true∧t<P.types.size) (hrt:f.resultTypes=#[bt]) (hbt:P.underlying bt=some .bool)
  (hfn:s.fn H (ds++gs)={ results:=[.lit (.bool true)],args:=ds }) (hb:Below W.heap.size W W'):s.post enc P f false true false false W args (.bool true) W':=by
 have hlt:=hW.lt
 have hW':=hW
 obtain⟨p,q,hA,hV,rfl,_,_⟩:=hW'
 rw [hvars] at hV
 obtain⟨rfl,rfl⟩:=trodVars_none hV
 refine⟨ds,[],p++[],[],p,[],hW,?_,?_,?_,?_,fun h=>by cases h⟩
 ·rw [hfn,hrt]
  exact trodAll_cons_mk (shut_bool hbt true) trodAll_mk0
 ·rw [hfn]
  exact trods_stay hl hb _ _ _ _ hr hA (fun x hx=>hlt x (by simpa using hx))
 ·rw [hfn,hvars]
  rfl
 ·exact World.keptBut_mono (fun x hx=>⟨hx,.inr (.inl (by simpa using hx))⟩) (hb.frame _)
end
end
end Go.Proofs.YtaijompnohkmaaaGreatDoor
