/- Layer 6 (kv): may changes be (the code's), whole. -/
import Derived.Test.YtaijompnohkmaaaGreatDoorOL
import Derived.Maps.OwnOps
import Derived.Laws.MakeOwn
set_option linter.unusedSimpArgs false
set_option linter.unusedVariables false
namespace Go.Proofs.YtaijompnohkmaaaGreatDoor
section
open Go.RowKit KvP
set_option maxRecDepth 100000 in
set_option maxHeartbeats 4000000 in
theorem indexC_any {B:Nat} (v:Value) (l:List ChangeP) (w:World) (hv:ChangesV B w v l):Calls Tryz.prog 124 #[v,.func (.func 79) #[] #[]] w fun e w'=>(∃ z:Int,e = .returned (.int .i64 z)∧decide (0≤z)=!(l.all okC))∧Below w.heap.size w w':=by
 have hv:=hv.tight
 obtain⟨_,a,c,rfl,h1,h2,_⟩:=id hv
 unfold maxLen at h2
 obtain⟨N,hN⟩:∃ N,N=l.length:=⟨_,rfl⟩
 rw [← hN] at hv h1 ⊢
 have HN:=zh hN
 have HV:=zh hv
 clear hN hv
 go_enter Tryz.func124,Tryz.ntmps124
 go_wp2_with fail
 go_loopw [5,8] (fun _ i wr=>∃ k:Nat,k≤N∧i = .int .i64 k∧Below w.heap.size w wr∧Hid (∀ c∈l.take k,okC c=true)) (fun _ i _=>N-(intOf i).toNat)
 case atStart=>exact⟨0,Nat.zero_le _,rfl,Below.refl _ _,zh (fun c h=>by simp at h)⟩
 case round =>
  obtain⟨k,hk,rfl,hb,HG⟩:=hrel
  by_cases hkN:k<N
  ·have hkl:k<l.length:=HN.out▸hkN
   have k1:(0:Int)≤(k:Int):=by omega
   have k2:(k:Int)<(N:Int):=by omega
   have k0:decide ((k:Int)<(N:Int))=true:=by simp;omega
   obtain⟨b,off,rfl,hbb,hc⟩:=load_change HV.out hkl
   obtain⟨S0,S1,S2⟩:=hc wr hb
   obtain⟨x,hx⟩:∃ x,x=l[k]:=⟨_,rfl⟩
   rw [← hx] at S0 S1 S2
   have HX:=zh hx
   clear hx hc
   have kc:=changed1_any x wr
   go_wp2_with fail
   refine kc.mono ?_
   rintro e w5 ⟨rfl,hb5⟩
   have HB:=zh (hb.trans (hb5.mono hb.size))
   clear kc hb hb5 S0 S1 S2
   obtain⟨ok,hok⟩:∃ y,y=okC x:=⟨_,rfl⟩
   rw [← hok]
   have HOK:=zh hok
   clear hok
   cases ok with
   | false =>
    have hfin:l.all okC=false:=by
     rw [Bool.eq_false_iff]
     intro h
     have:=List.all_eq_true.1 h l[k] (List.getElem_mem hkl)
     rw [← HX.out,← HOK.out] at this
     cases this
    have HFIN:=zh hfin
    clear hfin
    go_wp2_with fail
    go_ret
    exact⟨⟨_,rfl,by rw [HFIN.out];simp⟩,HB.out⟩
   | true =>
    have hg:∀ c∈l.take (k+1),okC c=true:=fun c hc=>by
     rw [List.take_succ_eq_append_getElem hkl] at hc
     rcases List.mem_append.1 hc with hc | hc
     ·exact HG.out c hc
     ·rw [List.mem_singleton.1 hc,← HX.out];exact HOK.out.symm
    have HG2:=zh hg
    clear hg
    go_wp2_with fail
    go_roundw
    case rel=>exact⟨k+1,by omega,by go_num,HB.out,HG2⟩
    case measure=>simp [intOf];omega
  ·have k0:decide ((k:Int)<(N:Int))=false:=by simp;omega
   have hfin:l.all okC=true:=List.all_eq_true.2 (fun c hc=>HG.out c (by rw [List.take_of_length_le (by have:=HN.out;omega)];exact hc))
   have HFIN:=zh hfin
   clear hfin
   go_wp2_with fail
   go_ret
   exact⟨⟨-1,rfl,by rw [HFIN.out];rfl⟩,hb⟩
set_option maxRecDepth 100000 in
set_option maxHeartbeats 4000000 in
theorem containsC_any {B:Nat} (v:Value) (l:List ChangeP) (w:World) (hv:ChangesV B w v l):Calls Tryz.prog 78 #[v,.func (.func 79) #[] #[]] w fun e w'=>e = .returned (.bool (!(l.all okC)))∧Below w.heap.size w w':=by
 have ki:=indexC_any v l w hv
 go_enter Tryz.func78,Tryz.ntmps78
 go_wp2_with fail
 refine ki.mono ?_
 rintro e w5 ⟨⟨z,rfl,hz⟩,hb5⟩
 have HZ:=zh hz
 clear ki hz
 go_wp2_with fail
 go_ret
 refine⟨?_,hb5⟩
 rw [← HZ.out]
 simp
set_option maxRecDepth 100000 in
set_option maxHeartbeats 4000000 in
theorem changed_any {B:Nat} (v:Value) (l:List ChangeP) (w:World) (hv:ChangesV B w v l):Calls Tryz.prog 43 #[v] w fun e w'=>e = .returned (.bool (changesB l))∧Below w.heap.size w w':=by
 have hv:=hv.tight
 obtain⟨_,a,c,rfl,h1,h2,_⟩:=id hv
 unfold maxLen at h2
 obtain⟨N,hN⟩:∃ N,N=l.length:=⟨_,rfl⟩
 rw [← hN] at hv h1 ⊢
 have HN:=zh hN
 have HV:=zh hv
 clear hN hv
 go_enter Tryz.func43,Tryz.ntmps43
 by_cases h400:N≤400
 ·have q0:decide ((N:Int)≤400)=true:=by simp;omega
  have kc:=containsC_any (.slice a N c) l w HV.out
  have hfin:changesB l=l.all okC:=by
   unfold changesB
   rw [decide_eq_true (by rw [← HN.out];exact h400),Bool.true_and]
  have HFIN:=zh hfin
  clear hfin
  go_wp2_with fail
  refine kc.mono ?_
  rintro e w5 ⟨rfl,hb5⟩
  clear kc
  go_wp2_with fail
  go_ret
  refine⟨?_,hb5⟩
  rw [HFIN.out]
  simp
 ·have q0:decide ((N:Int)≤400)=false:=by simp;omega
  have hfin:changesB l=false:=by
   unfold changesB
   rw [decide_eq_false (by rw [← HN.out];exact h400)]
   rfl
  have HFIN:=zh hfin
  clear hfin
  go_wp2_with fail
  go_ret
  exact⟨by rw [HFIN.out];rfl,Below.refl _ _⟩
end
section
open Go.RowKit KvP PackP
theorem run_b1i (z:Int) (w:World):(Instr.buildSlice 156 1 #[(0,.int .i64 z)]).run Tryz.prog w = .ok (.slice (some ⟨w.heap.size,0,none⟩) 1 1) (w.alloc (.cells #[.int .i64 z] 3)):=by kernel_rfl
theorem run_b1s (s:ByteArray) (w:World):(Instr.buildSlice 103 1 #[(0,.string s)]).run Tryz.prog w = .ok (.slice (some ⟨w.heap.size,0,none⟩) 1 1) (w.alloc (.cells #[.string s] 9)):=by kernel_rfl
theorem run_b2s (s t:ByteArray) (w:World):(Instr.buildSlice 103 2 #[(0,.string s),(1,.string t)]).run Tryz.prog w = .ok (.slice (some ⟨w.heap.size,0,none⟩) 2 2) (w.alloc (.cells #[.string s,.string t] 9)):=by kernel_rfl
theorem ints_new {w:World} (z:Int):Ints (w.heap.size+1) (w.alloc (.cells #[.int .i64 z] 3)) (.slice (some ⟨w.heap.size,0,none⟩) 1 1) [z] :=
 row_of_heap (sz:=1) (n:=1) (heap_alloc_new w _) (Nat.lt_succ_self _) rfl (Nat.le_refl _) (by decide) (fun k u hk=>by simpa using hk)
theorem strs1_new {w:World} (s:ByteArray):Strs (w.heap.size+1) (w.alloc (.cells #[.string s] 9)) (.slice (some ⟨w.heap.size,0,none⟩) 1 1) [s] :=
 row_of_heap (sz:=1) (n:=1) (heap_alloc_new w _) (Nat.lt_succ_self _) rfl (Nat.le_refl _) (by decide) (fun k u hk=>by simpa using hk)
theorem strs2_new {w:World} (s t:ByteArray):Strs (w.heap.size+1) (w.alloc (.cells #[.string s,.string t] 9)) (.slice (some ⟨w.heap.size,0,none⟩) 2 2) [s,t] :=
 row_of_heap (sz:=1) (n:=2) (heap_alloc_new w _) (Nat.lt_succ_self _) rfl (Nat.le_refl _) (by decide) (fun k u hk=>by simpa using hk)
theorem len_changeB (c:ChangeP):(changeB c).length≤8208:=by
 unfold changeB
 split
 ·rw [List.length_append,length_numB]
  have:=length_textB c.key
  omega
 ·rw [List.length_append,List.length_append,length_numB]
  have:=length_textB c.key
  have:=length_textB c.val
  omega
theorem len_changes (l:List ChangeP):((l.map changeB).flatten).length≤8208*l.length:=by
 induction l with
 | nil=>exact Nat.le_refl _
 | cons c l ih =>
  rw [List.map_cons,List.flatten_cons,List.length_append,List.length_cons]
  have:=len_changeB c
  omega
def bytesK (l:List ChangeP) (k:Nat):List UInt8:=numB l.length++((l.take k).map changeB).flatten
theorem len_bytesK (l:List ChangeP) (k:Nat) (hk:k≤2^20):(bytesK l k).length≤2^34:=by
 unfold bytesK
 rw [List.length_append,length_numB]
 have:=len_changes (l.take k)
 rw [List.length_take] at this
 have h2:min k l.length≤2^20:=Nat.le_trans (Nat.min_le_left _ _) hk
 omega
theorem bytesK_succ (l:List ChangeP) (k:Nat) (h:k<l.length):bytesK l (k+1)=bytesK l k++changeB l[k]:=by
 unfold bytesK
 rw [List.take_succ_eq_append_getElem h,List.map_append,List.flatten_append,List.append_assoc]
 simp
theorem bytesK_all (l:List ChangeP):bytesK l l.length=bytesP l:=by
 unfold bytesK bytesP
 rw [List.take_length]
set_option maxRecDepth 100000 in
set_option maxHeartbeats 4000000 in
theorem bytes_any {B:Nat} (v:Value) (l:List ChangeP) (w:World) (hv:ChangesV B w v l) (hl:l.length≤2^20) (hsz:∀ c∈l,c.key.length≤2^20∧c.val.length≤2^20) :
  Calls Tryz.prog 44 #[v] w fun e w'=>∃ v',e = .returned v'∧OwnB w.heap.size w' v' (bytesP l)∧Below w.heap.size w w':=by
 have hv:=hv.tight
 obtain⟨_,a,c,rfl,h1,h2,_⟩:=id hv
 unfold maxLen at h2
 obtain⟨N,hN⟩:∃ N,N=l.length:=⟨_,rfl⟩
 have hb0:bytesK l 0=[]++numsB [(N:Int)]:=by
  unfold bytesK numsB
  rw [hN]
  simp
 have hHB:=zh (bytesK_all l)
 rw [← hHB.out,← hN]
 rw [← hN] at hv h1 hl
 have HN:=zh hN
 have HV:=zh hv
 have HSZ:=zh hsz
 have HB0:=zh hb0
 have HLN:=zh hl
 clear hN hv hsz hb0 hl hHB
 have hn0:Bytes 0 w (.slice none 0 0) []:=nil_bytes _ _
 have hb1:Below w.heap.size w (w.alloc (.cells #[.int .i64 (N:Int)] 3)):=Below.alloc (Below.refl _ _) (Nat.le_refl _) _
 have kc:=num_any (.slice none 0 0) (.slice (some ⟨w.heap.size,0,none⟩) 1 1) [] [(N:Int)] _ (hn0.below (Below.alloc (Below.refl _ _) (Nat.zero_le _) _)) (ints_new (w:=w) (N:Int)) (by simp)
 have HB1:=zh hb1
 clear hb1 hn0
 go_enter Tryz.func44,Tryz.ntmps44
 go_wp2_with fail
 refine kc.mono ?_
 rintro e w0 ⟨v0,rfl,ho0,hb0⟩
 clear kc
 rw [← HB0.out] at ho0
 have ho0':=Own.lower ho0 HB1.out.size
 have HO0:=zh ho0'
 have HB2:=zh (HB1.out.trans (hb0.mono HB1.out.size))
 clear ho0 ho0' hb0
 go_wp2_with fail
 go_loopw [3,12] (fun s i wr=>∃ k:Nat,k≤N∧i = .int .i64 k∧OwnB w.heap.size wr s (bytesK l k)∧Below w.heap.size w wr) (fun _ i _=>N-(intOf i).toNat)
 case atStart=>exact⟨0,Nat.zero_le _,rfl,HO0.out,HB2.out⟩
 case round =>
  obtain⟨k,hk,rfl,ho,hb⟩:=hrel
  clear HO0 HB2 HB1 HB0
  by_cases hkN:k<N
  ·have hkl:k<l.length:=HN.out▸hkN
   have k1:(0:Int)≤(k:Int):=by omega
   have k2:(k:Int)<(N:Int):=by omega
   have k0:decide ((k:Int)<(N:Int))=true:=by simp;omega
   obtain⟨b,off,rfl,hbb,hc⟩:=load_change HV.out hkl
   obtain⟨S0,S1,S2⟩:=hc wr hb
   have hz:=HSZ.out _ (List.getElem_mem hkl)
   have hsucc:=bytesK_succ l k hkl
   have hlen:(bytesK l k).length≤2^34:=len_bytesK l k (Nat.le_trans hk HLN.out)
   obtain⟨⟨key,val,gn⟩,hx⟩:∃ x,x=l[k]:=⟨_,rfl⟩
   rw [← hx] at S0 S1 S2 hz hsucc
   clear hx hc
   dsimp only at S0 S1 S2 hz
   obtain⟨sk,hsk⟩:∃ s,s=ByteArray.mk key.toArray:=⟨_,rfl⟩
   obtain⟨sv,hsv⟩:∃ s,s=ByteArray.mk val.toArray:=⟨_,rfl⟩
   change wr.cell? _=some (.string _) at S0
   change wr.cell? _=some (.string _) at S1
   rw [← hsk] at S0
   rw [← hsv] at S1
   have hzk:sk.size≤reachBytes:=by rw [hsk,str_size];unfold reachBytes;omega
   have hzv:sv.size≤reachBytes:=by rw [hsv,str_size];unfold reachBytes;omega
   have htk:sk.data.toList=key:=by rw [hsk]
   have htv:sv.data.toList=val:=by rw [hsv]
   have HZK:=zh hzk
   have HZV:=zh hzv
   have HTK:=zh htk
   have HTV:=zh htv
   have HSU:=zh hsucc
   have HLE:=zh hlen
   clear hsk hsv hz hzk hzv htk htv hsucc hlen
   obtain⟨w1,hw1⟩:∃ x,x=wr.alloc (.cells #[.string sk,.string sv,.bool gn] 33):=⟨_,rfl⟩
   obtain⟨g,hg⟩:∃ g,g=wr.heap.size:=⟨_,rfl⟩
   have HW1:=zh hw1
   have HGG:=zh hg
   clear hw1 hg
   go_upto_region 5 with (fail)
   rw [← HW1.out,← HGG.out]
   have hbw:Below wr.heap.size wr w1:=by rw [HW1.out];exact Below.alloc (Below.refl _ _) (Nat.le_refl _) _
   have hbox:w1.heap[g]?=some (.cells #[.string sk,.string sv,.bool gn] 33 (0,0)):=by rw [HW1.out,HGG.out];exact heap_alloc_new wr _
   have C2:=cR w1 _ 2 _ _ _ hbox
   have L0:∀ w',Below w1.heap.size w1 w'→w'.cell? ⟨g,0,none⟩=some (.string sk):=fun w' h=>cR w' _ 0 _ _ _ ((h.block _ (zB hbox)).trans hbox)
   have L1:∀ w',Below w1.heap.size w1 w'→w'.cell? ⟨g,1,none⟩=some (.string sv):=fun w' h=>cR w' _ 1 _ _ _ ((h.block _ (zB hbox)).trans hbox)
   have hOB:=zh (ho.keep hbw (Nat.le_refl _)).bytes
   have HB3:=zh (hb.trans (hbw.mono hb.size))
   have s0:Below w1.heap.size w1 w1.drew:=zD (Below.refl _ _) 1
   have HOB:=zh (hOB.out.below s0).tight
   clear hbox hbw S0 S1 S2 ho hb hOB
   cases gn with
  | true =>
    go_upto_region 6 with (fail)
    clear C2
    refine wp_region_start (fun w'=>Below w1.heap.size w1 w') (by kernel_rfl) s0 ?_
    refine wpAnyH_part [(false,0),(false,3),(false,4)] (by kernel_rfl) s0 ?_
    repeat (first | (refine zS rfl rfl ?_;simp only [Act.put,zq1,zq2,zq3]) | (refine zT rfl ?_ rfl (fun w' hw'=>?_) ?_;rotate_left;(go_simp;first | done | with_reducible rfl);(try simp only [Act.put,zq1,zq2,zq3])))
    refine zN ?_
    have hob:=HOB.out
    clear HOB
    refine wpAnyH_ready (rs:=[1,5]) (by kernel_rfl) (by simp) ?_
    refine zR rfl rfl (fun K hK=>?_) (zR rfl rfl (fun K hK=>?_) AllReadyH.nil)
    ·skip
     obtain⟨wt1,hw⟩:∃ x,x=w1.drew.alloc (.cells #[.int .i64 1] 3):=⟨_,rfl⟩
     obtain⟨ghni,hg⟩:∃ g,g=w1.drew.heap.size:=⟨_,rfl⟩
     have hb:Below w1.drew.heap.size w1.drew wt1:=by rw [hw];exact Below.alloc (Below.refl _ _) (Nat.le_refl _) _
     have st1:=s0.trans (hb.mono s0.size)
     have hni:=ints_new (w:=w1.drew) (1:Int)
     rw [← hw,← hg] at hni
     replace hni:=hni.tight
     have hob:=(hob.below hb).tight
     refine op_buildSlice 156 1 [(0,.const (.int .i64 1))] rfl rfl (run_b1i 1 _) ?_
     rw [← hw,← hg]
     refine hK.out _ _ st1 ?_
     clear hK K hw hg hb
     simp only [Act.put,zq1,zq2,zq3]
     refine wpAnyH_ready (rs:=[2,5]) (by kernel_rfl) (by simp) ?_
     refine zR rfl rfl (fun K hK=>?_) (zR rfl rfl (fun K hK=>?_) AllReadyH.nil)
     ·skip
      have kc:=num_any _ _ _ _ wt1 hob hni (by have:=HLE.out;simp;omega)
      go_simp
      refine kc.mono ?_
      rintro e wt2 ⟨u1,rfl,hu1,hb⟩
      clear kc
      have st2:=st1.trans (hb.mono st1.size)
      have hnb:=hu1.bytes
      clear hu1
      refine hK.out _ _ st2 ?_
      clear hK K hb
      refine wpAnyH_ready (rs:=[5]) (by kernel_rfl) (by simp) ?_
      refine zR rfl rfl (fun K hK=>?_) AllReadyH.nil
      ·skip
       obtain⟨wt3,hw⟩:∃ x,x=wt2.alloc (.cells #[.string sk] 9):=⟨_,rfl⟩
       obtain⟨ghst,hg⟩:∃ g,g=wt2.heap.size:=⟨_,rfl⟩
       have hb:Below wt2.heap.size wt2 wt3:=by rw [hw];exact Below.alloc (Below.refl _ _) (Nat.le_refl _) _
       have st3:=st2.trans (hb.mono st2.size)
       have hst:=strs1_new (w:=wt2) sk
       rw [← hw,← hg] at hst
       replace hst:=hst.tight
       have hnb:=(hnb.below hb).tight
       refine op_buildSlice 103 1 [(0,.tmp 22)] rfl rfl (run_b1s sk _) ?_
       rw [← hw,← hg]
       refine hK.out _ _ st3 ?_
       clear hK K hw hg hb
       simp only [Act.put,zq1,zq2,zq3]
       refine wpAnyH_end [(true,6),(false,7)] (by kernel_rfl) st3 ?_
       refine zA rfl rfl fun K hK=>?_
       have kc:=text_any _ _ _ [sk] wt3 hnb hst (by have:=HLE.out;simp [length_numsB];omega) (fun s hs=>by rw [List.mem_singleton.1 hs];exact HZK.out)
       go_simp
       refine kc.mono ?_
       rintro e wt4 ⟨u2,rfl,hu2,hb⟩
       clear kc
       have st4:=st3.trans (hb.mono st3.size)
       have hfin:OwnB w.heap.size wt4 u2 (bytesK l (k+1)):=by
        have e1:bytesK l k++numsB [(1:Int)]++textsB [sk]=bytesK l (k+1):=by
         rw [HSU.out]
         simp [changeB,numsB,textsB,HTK.out,HTV.out]
        rw [← e1]
        exact Own.lower hu2 (Nat.le_trans HB3.out.size st3.size)
       have HFIN:=zh hfin
       refine hK.out _ _ st4 ?_
       clear hK K hb hfin hu2
       repeat (first | (refine zS rfl rfl ?_;simp only [Act.put,zq1,zq2,zq3]) | (refine zT rfl ?_ rfl (fun w' hw'=>?_) ?_;rotate_left;(go_simp;first | done | with_reducible rfl);(try simp only [Act.put,zq1,zq2,zq3])))
       refine zN ?_
       go_wp2_with fail
       go_roundw
       case rel=>exact⟨k+1,by omega,by go_num,HFIN.out,HB3.out.trans (st4.mono HB3.out.size)⟩
       case measure=>simp [intOf];omega
     ·skip
      obtain⟨wt5,hw⟩:∃ x,x=wt1.alloc (.cells #[.string sk] 9):=⟨_,rfl⟩
      obtain⟨ghst,hg⟩:∃ g,g=wt1.heap.size:=⟨_,rfl⟩
      have hb:Below wt1.heap.size wt1 wt5:=by rw [hw];exact Below.alloc (Below.refl _ _) (Nat.le_refl _) _
      have st5:=st1.trans (hb.mono st1.size)
      have hst:=strs1_new (w:=wt1) sk
      rw [← hw,← hg] at hst
      replace hst:=hst.tight
      have hob:=(hob.below hb).tight
      have hni:=(hni.below hb).tight
      refine op_buildSlice 103 1 [(0,.tmp 22)] rfl rfl (run_b1s sk _) ?_
      rw [← hw,← hg]
      refine hK.out _ _ st5 ?_
      clear hK K hw hg hb
      simp only [Act.put,zq1,zq2,zq3]
      refine wpAnyH_ready (rs:=[2]) (by kernel_rfl) (by simp) ?_
      refine zR rfl rfl (fun K hK=>?_) AllReadyH.nil
      ·skip
       have kc:=num_any _ _ _ _ wt5 hob hni (by have:=HLE.out;simp;omega)
       go_simp
       refine kc.mono ?_
       rintro e wt6 ⟨u1,rfl,hu1,hb⟩
       clear kc
       have st6:=st5.trans (hb.mono st5.size)
       have hnb:=hu1.bytes
       clear hu1
       have hst:=(hst.below hb).tight
       refine hK.out _ _ st6 ?_
       clear hK K hb
       refine wpAnyH_end [(true,6),(false,7)] (by kernel_rfl) st6 ?_
       refine zA rfl rfl fun K hK=>?_
       have kc:=text_any _ _ _ [sk] wt6 hnb hst (by have:=HLE.out;simp [length_numsB];omega) (fun s hs=>by rw [List.mem_singleton.1 hs];exact HZK.out)
       go_simp
       refine kc.mono ?_
       rintro e wt7 ⟨u2,rfl,hu2,hb⟩
       clear kc
       have st7:=st6.trans (hb.mono st6.size)
       have hfin:OwnB w.heap.size wt7 u2 (bytesK l (k+1)):=by
        have e1:bytesK l k++numsB [(1:Int)]++textsB [sk]=bytesK l (k+1):=by
         rw [HSU.out]
         simp [changeB,numsB,textsB,HTK.out,HTV.out]
        rw [← e1]
        exact Own.lower hu2 (Nat.le_trans HB3.out.size st6.size)
       have HFIN:=zh hfin
       refine hK.out _ _ st7 ?_
       clear hK K hb hfin hu2
       repeat (first | (refine zS rfl rfl ?_;simp only [Act.put,zq1,zq2,zq3]) | (refine zT rfl ?_ rfl (fun w' hw'=>?_) ?_;rotate_left;(go_simp;first | done | with_reducible rfl);(try simp only [Act.put,zq1,zq2,zq3])))
       refine zN ?_
       go_wp2_with fail
       go_roundw
       case rel=>exact⟨k+1,by omega,by go_num,HFIN.out,HB3.out.trans (st7.mono HB3.out.size)⟩
       case measure=>simp [intOf];omega
    ·skip
     obtain⟨wt8,hw⟩:∃ x,x=w1.drew.alloc (.cells #[.string sk] 9):=⟨_,rfl⟩
     obtain⟨ghst,hg⟩:∃ g,g=w1.drew.heap.size:=⟨_,rfl⟩
     have hb:Below w1.drew.heap.size w1.drew wt8:=by rw [hw];exact Below.alloc (Below.refl _ _) (Nat.le_refl _) _
     have st8:=s0.trans (hb.mono s0.size)
     have hst:=strs1_new (w:=w1.drew) sk
     rw [← hw,← hg] at hst
     replace hst:=hst.tight
     have hob:=(hob.below hb).tight
     refine op_buildSlice 103 1 [(0,.tmp 22)] rfl rfl (run_b1s sk _) ?_
     rw [← hw,← hg]
     refine hK.out _ _ st8 ?_
     clear hK K hw hg hb
     simp only [Act.put,zq1,zq2,zq3]
     refine wpAnyH_ready (rs:=[1]) (by kernel_rfl) (by simp) ?_
     refine zR rfl rfl (fun K hK=>?_) AllReadyH.nil
     ·skip
      obtain⟨wt9,hw⟩:∃ x,x=wt8.alloc (.cells #[.int .i64 1] 3):=⟨_,rfl⟩
      obtain⟨ghni,hg⟩:∃ g,g=wt8.heap.size:=⟨_,rfl⟩
      have hb:Below wt8.heap.size wt8 wt9:=by rw [hw];exact Below.alloc (Below.refl _ _) (Nat.le_refl _) _
      have st9:=st8.trans (hb.mono st8.size)
      have hni:=ints_new (w:=wt8) (1:Int)
      rw [← hw,← hg] at hni
      replace hni:=hni.tight
      have hob:=(hob.below hb).tight
      have hst:=(hst.below hb).tight
      refine op_buildSlice 156 1 [(0,.const (.int .i64 1))] rfl rfl (run_b1i 1 _) ?_
      rw [← hw,← hg]
      refine hK.out _ _ st9 ?_
      clear hK K hw hg hb
      simp only [Act.put,zq1,zq2,zq3]
      refine wpAnyH_ready (rs:=[2]) (by kernel_rfl) (by simp) ?_
      refine zR rfl rfl (fun K hK=>?_) AllReadyH.nil
      ·skip
       have kc:=num_any _ _ _ _ wt9 hob hni (by have:=HLE.out;simp;omega)
       go_simp
       refine kc.mono ?_
       rintro e wt10 ⟨u1,rfl,hu1,hb⟩
       clear kc
       have st10:=st9.trans (hb.mono st9.size)
       have hnb:=hu1.bytes
       clear hu1
       have hst:=(hst.below hb).tight
       refine hK.out _ _ st10 ?_
       clear hK K hb
       refine wpAnyH_end [(true,6),(false,7)] (by kernel_rfl) st10 ?_
       refine zA rfl rfl fun K hK=>?_
       have kc:=text_any _ _ _ [sk] wt10 hnb hst (by have:=HLE.out;simp [length_numsB];omega) (fun s hs=>by rw [List.mem_singleton.1 hs];exact HZK.out)
       go_simp
       refine kc.mono ?_
       rintro e wt11 ⟨u2,rfl,hu2,hb⟩
       clear kc
       have st11:=st10.trans (hb.mono st10.size)
       have hfin:OwnB w.heap.size wt11 u2 (bytesK l (k+1)):=by
        have e1:bytesK l k++numsB [(1:Int)]++textsB [sk]=bytesK l (k+1):=by
         rw [HSU.out]
         simp [changeB,numsB,textsB,HTK.out,HTV.out]
        rw [← e1]
        exact Own.lower hu2 (Nat.le_trans HB3.out.size st10.size)
       have HFIN:=zh hfin
       refine hK.out _ _ st11 ?_
       clear hK K hb hfin hu2
       repeat (first | (refine zS rfl rfl ?_;simp only [Act.put,zq1,zq2,zq3]) | (refine zT rfl ?_ rfl (fun w' hw'=>?_) ?_;rotate_left;(go_simp;first | done | with_reducible rfl);(try simp only [Act.put,zq1,zq2,zq3])))
       refine zN ?_
       go_wp2_with fail
       go_roundw
       case rel=>exact⟨k+1,by omega,by go_num,HFIN.out,HB3.out.trans (st11.mono HB3.out.size)⟩
       case measure=>simp [intOf];omega
  | false =>
    go_upto_region 7 with (fail)
    clear C2
    refine wp_region_start (fun w'=>Below w1.heap.size w1 w') (by kernel_rfl) s0 ?_
    refine wpAnyH_part [(false,0),(false,3),(false,4),(false,5),(false,6)] (by kernel_rfl) s0 ?_
    repeat (first | (refine zS rfl rfl ?_;simp only [Act.put,zq1,zq2,zq3]) | (refine zT rfl ?_ rfl (fun w' hw'=>?_) ?_;rotate_left;(go_simp;first | done | with_reducible rfl);(try simp only [Act.put,zq1,zq2,zq3])))
    refine zN ?_
    have hob:=HOB.out
    clear HOB
    refine wpAnyH_ready (rs:=[1,7]) (by kernel_rfl) (by simp) ?_
    refine zR rfl rfl (fun K hK=>?_) (zR rfl rfl (fun K hK=>?_) AllReadyH.nil)
    ·skip
     obtain⟨wt1,hw⟩:∃ x,x=w1.drew.alloc (.cells #[.int .i64 0] 3):=⟨_,rfl⟩
     obtain⟨ghni,hg⟩:∃ g,g=w1.drew.heap.size:=⟨_,rfl⟩
     have hb:Below w1.drew.heap.size w1.drew wt1:=by rw [hw];exact Below.alloc (Below.refl _ _) (Nat.le_refl _) _
     have st1:=s0.trans (hb.mono s0.size)
     have hni:=ints_new (w:=w1.drew) (0:Int)
     rw [← hw,← hg] at hni
     replace hni:=hni.tight
     have hob:=(hob.below hb).tight
     refine op_buildSlice 156 1 [(0,.const (.int .i64 0))] rfl rfl (run_b1i 0 _) ?_
     rw [← hw,← hg]
     refine hK.out _ _ st1 ?_
     clear hK K hw hg hb
     simp only [Act.put,zq1,zq2,zq3]
     refine wpAnyH_ready (rs:=[2,7]) (by kernel_rfl) (by simp) ?_
     refine zR rfl rfl (fun K hK=>?_) (zR rfl rfl (fun K hK=>?_) AllReadyH.nil)
     ·skip
      have kc:=num_any _ _ _ _ wt1 hob hni (by have:=HLE.out;simp;omega)
      go_simp
      refine kc.mono ?_
      rintro e wt2 ⟨u1,rfl,hu1,hb⟩
      clear kc
      have st2:=st1.trans (hb.mono st1.size)
      have hnb:=hu1.bytes
      clear hu1
      refine hK.out _ _ st2 ?_
      clear hK K hb
      refine wpAnyH_ready (rs:=[7]) (by kernel_rfl) (by simp) ?_
      refine zR rfl rfl (fun K hK=>?_) AllReadyH.nil
      ·skip
       obtain⟨wt3,hw⟩:∃ x,x=wt2.alloc (.cells #[.string sk,.string sv] 9):=⟨_,rfl⟩
       obtain⟨ghst,hg⟩:∃ g,g=wt2.heap.size:=⟨_,rfl⟩
       have hb:Below wt2.heap.size wt2 wt3:=by rw [hw];exact Below.alloc (Below.refl _ _) (Nat.le_refl _) _
       have st3:=st2.trans (hb.mono st2.size)
       have hst:=strs2_new (w:=wt2) sk sv
       rw [← hw,← hg] at hst
       replace hst:=hst.tight
       have hnb:=(hnb.below hb).tight
       refine op_buildSlice 103 2 [(0,.tmp 29),(1,.tmp 31)] rfl rfl (run_b2s sk sv _) ?_
       rw [← hw,← hg]
       refine hK.out _ _ st3 ?_
       clear hK K hw hg hb
       simp only [Act.put,zq1,zq2,zq3]
       refine wpAnyH_end [(true,8),(false,9)] (by kernel_rfl) st3 ?_
       refine zA rfl rfl fun K hK=>?_
       have kc:=text_any _ _ _ [sk,sv] wt3 hnb hst (by have:=HLE.out;simp [length_numsB];omega) (fun s hs=>by simp only [List.mem_cons,List.not_mem_nil,or_false] at hs;rcases hs with rfl | rfl <;> first | exact HZK.out | exact HZV.out)
       go_simp
       refine kc.mono ?_
       rintro e wt4 ⟨u2,rfl,hu2,hb⟩
       clear kc
       have st4:=st3.trans (hb.mono st3.size)
       have hfin:OwnB w.heap.size wt4 u2 (bytesK l (k+1)):=by
        have e1:bytesK l k++numsB [(0:Int)]++textsB [sk,sv]=bytesK l (k+1):=by
         rw [HSU.out]
         simp [changeB,numsB,textsB,HTK.out,HTV.out]
        rw [← e1]
        exact Own.lower hu2 (Nat.le_trans HB3.out.size st3.size)
       have HFIN:=zh hfin
       refine hK.out _ _ st4 ?_
       clear hK K hb hfin hu2
       repeat (first | (refine zS rfl rfl ?_;simp only [Act.put,zq1,zq2,zq3]) | (refine zT rfl ?_ rfl (fun w' hw'=>?_) ?_;rotate_left;(go_simp;first | done | with_reducible rfl);(try simp only [Act.put,zq1,zq2,zq3])))
       refine zN ?_
       go_wp2_with fail
       go_roundw
       case rel=>exact⟨k+1,by omega,by go_num,HFIN.out,HB3.out.trans (st4.mono HB3.out.size)⟩
       case measure=>simp [intOf];omega
     ·skip
      obtain⟨wt5,hw⟩:∃ x,x=wt1.alloc (.cells #[.string sk,.string sv] 9):=⟨_,rfl⟩
      obtain⟨ghst,hg⟩:∃ g,g=wt1.heap.size:=⟨_,rfl⟩
      have hb:Below wt1.heap.size wt1 wt5:=by rw [hw];exact Below.alloc (Below.refl _ _) (Nat.le_refl _) _
      have st5:=st1.trans (hb.mono st1.size)
      have hst:=strs2_new (w:=wt1) sk sv
      rw [← hw,← hg] at hst
      replace hst:=hst.tight
      have hob:=(hob.below hb).tight
      have hni:=(hni.below hb).tight
      refine op_buildSlice 103 2 [(0,.tmp 29),(1,.tmp 31)] rfl rfl (run_b2s sk sv _) ?_
      rw [← hw,← hg]
      refine hK.out _ _ st5 ?_
      clear hK K hw hg hb
      simp only [Act.put,zq1,zq2,zq3]
      refine wpAnyH_ready (rs:=[2]) (by kernel_rfl) (by simp) ?_
      refine zR rfl rfl (fun K hK=>?_) AllReadyH.nil
      ·skip
       have kc:=num_any _ _ _ _ wt5 hob hni (by have:=HLE.out;simp;omega)
       go_simp
       refine kc.mono ?_
       rintro e wt6 ⟨u1,rfl,hu1,hb⟩
       clear kc
       have st6:=st5.trans (hb.mono st5.size)
       have hnb:=hu1.bytes
       clear hu1
       have hst:=(hst.below hb).tight
       refine hK.out _ _ st6 ?_
       clear hK K hb
       refine wpAnyH_end [(true,8),(false,9)] (by kernel_rfl) st6 ?_
       refine zA rfl rfl fun K hK=>?_
       have kc:=text_any _ _ _ [sk,sv] wt6 hnb hst (by have:=HLE.out;simp [length_numsB];omega) (fun s hs=>by simp only [List.mem_cons,List.not_mem_nil,or_false] at hs;rcases hs with rfl | rfl <;> first | exact HZK.out | exact HZV.out)
       go_simp
       refine kc.mono ?_
       rintro e wt7 ⟨u2,rfl,hu2,hb⟩
       clear kc
       have st7:=st6.trans (hb.mono st6.size)
       have hfin:OwnB w.heap.size wt7 u2 (bytesK l (k+1)):=by
        have e1:bytesK l k++numsB [(0:Int)]++textsB [sk,sv]=bytesK l (k+1):=by
         rw [HSU.out]
         simp [changeB,numsB,textsB,HTK.out,HTV.out]
        rw [← e1]
        exact Own.lower hu2 (Nat.le_trans HB3.out.size st6.size)
       have HFIN:=zh hfin
       refine hK.out _ _ st7 ?_
       clear hK K hb hfin hu2
       repeat (first | (refine zS rfl rfl ?_;simp only [Act.put,zq1,zq2,zq3]) | (refine zT rfl ?_ rfl (fun w' hw'=>?_) ?_;rotate_left;(go_simp;first | done | with_reducible rfl);(try simp only [Act.put,zq1,zq2,zq3])))
       refine zN ?_
       go_wp2_with fail
       go_roundw
       case rel=>exact⟨k+1,by omega,by go_num,HFIN.out,HB3.out.trans (st7.mono HB3.out.size)⟩
       case measure=>simp [intOf];omega
    ·skip
     obtain⟨wt8,hw⟩:∃ x,x=w1.drew.alloc (.cells #[.string sk,.string sv] 9):=⟨_,rfl⟩
     obtain⟨ghst,hg⟩:∃ g,g=w1.drew.heap.size:=⟨_,rfl⟩
     have hb:Below w1.drew.heap.size w1.drew wt8:=by rw [hw];exact Below.alloc (Below.refl _ _) (Nat.le_refl _) _
     have st8:=s0.trans (hb.mono s0.size)
     have hst:=strs2_new (w:=w1.drew) sk sv
     rw [← hw,← hg] at hst
     replace hst:=hst.tight
     have hob:=(hob.below hb).tight
     refine op_buildSlice 103 2 [(0,.tmp 29),(1,.tmp 31)] rfl rfl (run_b2s sk sv _) ?_
     rw [← hw,← hg]
     refine hK.out _ _ st8 ?_
     clear hK K hw hg hb
     simp only [Act.put,zq1,zq2,zq3]
     refine wpAnyH_ready (rs:=[1]) (by kernel_rfl) (by simp) ?_
     refine zR rfl rfl (fun K hK=>?_) AllReadyH.nil
     ·skip
      obtain⟨wt9,hw⟩:∃ x,x=wt8.alloc (.cells #[.int .i64 0] 3):=⟨_,rfl⟩
      obtain⟨ghni,hg⟩:∃ g,g=wt8.heap.size:=⟨_,rfl⟩
      have hb:Below wt8.heap.size wt8 wt9:=by rw [hw];exact Below.alloc (Below.refl _ _) (Nat.le_refl _) _
      have st9:=st8.trans (hb.mono st8.size)
      have hni:=ints_new (w:=wt8) (0:Int)
      rw [← hw,← hg] at hni
      replace hni:=hni.tight
      have hob:=(hob.below hb).tight
      have hst:=(hst.below hb).tight
      refine op_buildSlice 156 1 [(0,.const (.int .i64 0))] rfl rfl (run_b1i 0 _) ?_
      rw [← hw,← hg]
      refine hK.out _ _ st9 ?_
      clear hK K hw hg hb
      simp only [Act.put,zq1,zq2,zq3]
      refine wpAnyH_ready (rs:=[2]) (by kernel_rfl) (by simp) ?_
      refine zR rfl rfl (fun K hK=>?_) AllReadyH.nil
      ·skip
       have kc:=num_any _ _ _ _ wt9 hob hni (by have:=HLE.out;simp;omega)
       go_simp
       refine kc.mono ?_
       rintro e wt10 ⟨u1,rfl,hu1,hb⟩
       clear kc
       have st10:=st9.trans (hb.mono st9.size)
       have hnb:=hu1.bytes
       clear hu1
       have hst:=(hst.below hb).tight
       refine hK.out _ _ st10 ?_
       clear hK K hb
       refine wpAnyH_end [(true,8),(false,9)] (by kernel_rfl) st10 ?_
       refine zA rfl rfl fun K hK=>?_
       have kc:=text_any _ _ _ [sk,sv] wt10 hnb hst (by have:=HLE.out;simp [length_numsB];omega) (fun s hs=>by simp only [List.mem_cons,List.not_mem_nil,or_false] at hs;rcases hs with rfl | rfl <;> first | exact HZK.out | exact HZV.out)
       go_simp
       refine kc.mono ?_
       rintro e wt11 ⟨u2,rfl,hu2,hb⟩
       clear kc
       have st11:=st10.trans (hb.mono st10.size)
       have hfin:OwnB w.heap.size wt11 u2 (bytesK l (k+1)):=by
        have e1:bytesK l k++numsB [(0:Int)]++textsB [sk,sv]=bytesK l (k+1):=by
         rw [HSU.out]
         simp [changeB,numsB,textsB,HTK.out,HTV.out]
        rw [← e1]
        exact Own.lower hu2 (Nat.le_trans HB3.out.size st10.size)
       have HFIN:=zh hfin
       refine hK.out _ _ st11 ?_
       clear hK K hb hfin hu2
       repeat (first | (refine zS rfl rfl ?_;simp only [Act.put,zq1,zq2,zq3]) | (refine zT rfl ?_ rfl (fun w' hw'=>?_) ?_;rotate_left;(go_simp;first | done | with_reducible rfl);(try simp only [Act.put,zq1,zq2,zq3])))
       refine zN ?_
       go_wp2_with fail
       go_roundw
       case rel=>exact⟨k+1,by omega,by go_num,HFIN.out,HB3.out.trans (st11.mono HB3.out.size)⟩
       case measure=>simp [intOf];omega
  ·have k0:decide ((k:Int)<(N:Int))=false:=by simp;omega
   obtain rfl:k=N:=by omega
   have HO:=zh ho
   clear ho
   go_wp2_with fail
   go_ret
   exact⟨_,rfl,HO.out,hb⟩
end
section
open Go.RowKit KvP PackP
def ChangesO (B:Nat) (w:World) (v:Value) (l:List ChangeP):Prop:=Own B w 33 v 3 l.length (l.map changeCells).flatten
theorem ChangesO.v {B:Nat} {w:World} {v:Value} {l:List ChangeP} (h:ChangesO B w v l):ChangesV w.heap.size w v l:=Own.row h
theorem ChangesO.none (B:Nat) (w:World) (a:Option Addr):ChangesO B w (.slice a 0 0) []:=Own.none _ _ _ _ _
theorem len_okC {c:ChangeP} (h:okC c=true):c.key.length≤64∧c.val.length≤4096:=by
 unfold okC mayP at h
 simp at h
 omega
theorem changesB_len {l:List ChangeP} (h:changesB l=true):l.length≤400∧∀ c∈l,c.key.length≤64∧c.val.length≤4096:=by
 unfold changesB at h
 rw [Bool.and_eq_true,decide_eq_true_eq] at h
 exact⟨h.1,fun c hc=>len_okC (List.all_eq_true.1 h.2 c hc)⟩
set_option maxRecDepth 100000 in
set_option maxHeartbeats 4000000 in
theorem encode_any {B:Nat} (v:Value) (l:List ChangeP) (w:World) (hv:ChangesV B w v l) :
  Calls Tryz.prog 12 #[v] w fun e w'=>(∃ u,e = .returned (.tuple #[u,.int .i64 (encodeP l).2])∧OwnB w.heap.size w' u (encodeP l).1)∧Below w.heap.size w w':=by
 have hv:=hv.tight
 have kc:=changed_any v l w hv
 obtain⟨_,a,c,rfl,h1,h2,_⟩:=id hv
 obtain⟨ok,hok⟩:∃ x,x=changesB l:=⟨_,rfl⟩
 rw [← hok] at kc
 obtain⟨N,hN⟩:∃ N,N=l.length:=⟨_,rfl⟩
 rw [← hN] at hv kc ⊢
 have HN:=zh hN
 have HOK:=zh hok
 have HV:=zh hv
 clear hok hN hv h1
 go_enter Tryz.func12,Tryz.ntmps12
 go_wp2_with fail
 refine kc.mono ?_
 rintro e w1 ⟨rfl,hb1⟩
 clear kc
 cases ok with
 | false =>
  have hfin:encodeP l=([],1):=by unfold encodeP;rw [← HOK.out];rfl
  have HFIN:=zh hfin
  clear hfin
  go_wp2_with fail
  go_ret2
  exact⟨⟨_,by rw [HFIN.out];rfl,by rw [HFIN.out];exact Own.none _ _ _ none _⟩,hb1⟩
 | true =>
  obtain⟨hl4,hsz⟩:=changesB_len HOK.out.symm
  have kb:=bytes_any _ l w1 (HV.out.below hb1) (by omega) (fun c hc=>by have:=hsz c hc;omega)
  obtain⟨L,hL⟩:∃ L,L=(bytesP l).length:=⟨_,rfl⟩
  have hL2:L<2^60:=by
   rw [hL,← bytesK_all]
   have:=len_bytesK l l.length (by omega)
   omega
  have HL:=zh hL
  have HL2:=zh hL2
  have HB1:=zh hb1
  clear hsz hL hL2 hb1
  go_wp2_with fail
  refine kb.mono ?_
  rintro e w2 ⟨u,rfl,hu,hb2⟩
  clear kb
  obtain⟨_,x,y,rfl,_,_,_⟩:=id hu.bytes
  have HU:=zh hu
  rw [← HL.out]
  have HB2:=zh hb2
  clear hu hb2
  by_cases h6:6000<L
  ·have q0:decide ((6000:Int)<(L:Int))=true:=by simp;omega
   have hfin:encodeP l=([],4):=by unfold encodeP;rw [← HOK.out,← HL.out,if_pos rfl,if_pos h6]
   have HFIN:=zh hfin
   clear hfin
   go_wp2_with fail
   go_ret2
   exact⟨⟨_,by rw [HFIN.out];rfl,by rw [HFIN.out];exact Own.none _ _ _ none _⟩,HB1.out.trans (HB2.out.mono HB1.out.size)⟩
  ·have q0:decide ((6000:Int)<(L:Int))=false:=by simp;omega
   have hfin:encodeP l=(bytesP l,0):=by unfold encodeP;rw [← HOK.out,← HL.out,if_pos rfl,if_neg h6]
   have HFIN:=zh hfin
   clear hfin
   go_wp2_with fail
   go_ret2
   exact⟨⟨_,by rw [HFIN.out];rfl,by rw [HFIN.out];rw [← HL.out] at HU;exact Own.lower HU.out HB1.out.size⟩,HB1.out.trans (HB2.out.mono HB1.out.size)⟩
end
section
open Go.RowKit KvP PackP
theorem only_new {a b c:World} {g gc:Nat} (h:a.grownBy b (some g)) (k:b.grownBy c (some gc)) (hgc:a.heap.size≤gc):a.grownBy c (some g) :=
 ⟨k.os.trans h.os,k.tape.trans h.tape,k.output.trans h.output,Nat.le_trans h.size k.size,fun i hi hne=>(k.block i (Nat.lt_of_lt_of_le hi h.size) (fun e=>by cases e;omega)).trans (h.block i hi hne)⟩
theorem infoz_change:(Tryz.prog.info? 33).bind (fun i=>i.zero.map fun z=>(i.size,i.bytes,z.cells.size))=some (3,40,3):=by kernel_rfl
theorem Own.far {B g:Nat} {w w':World} {e:TypeId} {v:Value} {sz n:Nat} {cs:List Value} (h:Own B w e v sz n cs) (hg:w.grownBy w' (some g)) (hB:g<B):Own B w' e v sz n cs:=by
 obtain⟨h1,a,cap,rfl,h2,h3,h4⟩:=h
 refine⟨h1,a,cap,rfl,h2,h3,?_⟩
 rcases h4 with h4 | ⟨x,cur,rfl,hx,hh,hs,ht⟩
 ·exact .inl h4
 ·exact .inr ⟨x,cur,rfl,hx,(hg.block x (zB hh) (fun e=>by cases e;omega)).trans hh,hs,ht⟩
theorem RdAt.below {T:TypeId} {B g:Nat} {w w':World} {r:RS} (h:RdAt T B g w r) (hb:Below (g+1) w w'):RdAt T B g w' r:=by
 obtain⟨v,h1,h2,h3⟩:=h
 exact⟨v,(hb.block g (Nat.lt_succ_self _)).trans h1,h2.below (hb.mono (by omega)),h3⟩
theorem run_bsC (k v:ByteArray) (b:Bool) (w:World):(Instr.buildSlice 22 1 #[(0,.agg #[.string k,.string v,.bool b])]).run Tryz.prog w = .ok (.slice (some ⟨w.heap.size,0,none⟩) 1 1) (w.alloc (.cells #[.string k,.string v,.bool b] 33)):=by kernel_rfl
theorem changes_snoc (l:List ChangeP) (c:ChangeP):((l++[c]).map changeCells).flatten=(l.map changeCells).flatten++changeCells c:=by simp
theorem ones_change (c:ChangeP):∀ u∈changeCells c,u.oneCell'=true:=by
 intro u hu
 simp only [changeCells,str,List.mem_cons,List.not_mem_nil,or_false] at hu
 rcases hu with rfl | rfl | rfl <;> rfl
theorem ChangesO.snoc {B:Nat} {w:World} {v:Value} {l:List ChangeP} {c:ChangeP} (h:Own B w 33 v 3 (l.length+1) ((l.map changeCells).flatten++changeCells c)):ChangesO B w v (l++[c]):=by
 unfold ChangesO
 rw [changes_snoc,List.length_append,List.length_singleton]
 exact h
set_option maxRecDepth 100000 in
set_option maxHeartbeats 4000000 in
theorem decode_any {B:Nat} (v:Value) (bs:List UInt8) (w:World) (hv:Bytes B w v bs) :
  Calls Tryz.prog 14 #[v] w fun e w'=>(∃ u,e = .returned (.tuple #[u,.int .i64 (decodeP bs).2])∧ChangesO w.heap.size w' u (decodeP bs).1)∧Below w.heap.size w w':=by
 have hv:=hv.tight
 obtain⟨M,hM,hM4⟩:=count_nat (RS.mk bs 0)
 obtain⟨g,hg⟩:∃ g,g=w.heap.size:=⟨_,rfl⟩
 obtain⟨r0,hr0⟩:∃ r,r=((RS.mk bs 0).count 400).1:=⟨_,rfl⟩
 have hD1:=decodeP_bad bs M hM
 have hD2:=decodeP_form bs M hM
 have hD3:=decodeP_good bs M hM
 rw [← hr0] at hD1 hD2 hD3
 have HD1:=zh hD1
 have HD2:=zh hD2
 have HD3:=zh hD3
 have HG:=zh hg
 clear hD1 hD2 hD3 hg
 have kfrom:=from_at w.heap.size w.heap.size v bs w hv (Nat.le_refl _)
 go_enter Tryz.func14,Tryz.ntmps14
 go_wp2_with fail
 refine kfrom.mono ?_
 rintro e w1 ⟨rfl,hR0,hb1⟩
 rw [← HG.out] at hR0 hb1 ⊢
 have kcount:=rcount_any g g w1 ⟨bs,0⟩ 400 hR0
 rw [hM,← hr0] at kcount
 clear hM hr0 hv kfrom
 go_wp2_with fail
 refine kcount.mono ?_
 rintro e w2 ⟨rfl,hR,hgw⟩
 have hb2:Below g w w2:=hb1.trans (below_of_only hgw (Nat.le_refl _) (by have:=hb1.size;have:=HG.out;omega))
 have hs2:g+1≤w2.heap.size:=by have:=hR.parts;obtain⟨_,h,_⟩:=this;exact zB h
 clear kcount hb1 hR0 hgw
 have HR2:=zh hR
 clear hR
 go_wp2_with fail
 go_loopw [5,13] (fun l i wr=>∃ k:Nat,k≤M∧i = .int .i64 k∧RdAt 118 g g wr (decN k r0).1∧ChangesO (g+1) wr l (decN k r0).2∧Below g w wr∧g+1≤wr.heap.size) (fun _ i _=>M-(intOf i).toNat)
 case atStart=>exact⟨0,Nat.zero_le _,rfl,HR2.out,ChangesO.none _ _ _,hb2,hs2⟩
 case round =>
  obtain⟨k,hk,rfl,hR,hO,hb,hs⟩:=hrel
  clear hb2 hs2 HR2
  obtain⟨r,hr⟩:∃ x,x=(decN k r0).1:=⟨_,rfl⟩
  obtain⟨cs,hcs⟩:∃ x,x=(decN k r0).2:=⟨_,rfl⟩
  have hlen:cs.length=k:=by rw [hcs,len_decN]
  have hsn:=decN_snoc k r0
  rw [← hr,← hcs] at hsn
  rw [← hr] at hR
  rw [← hcs] at hO
  by_cases hkM:k<M
  ·have k0:decide ((k:Int)<(M:Int))=true:=by simp;omega
   obtain⟨z,hz⟩:∃ x,x=r.num.2:=⟨_,rfl⟩
   obtain⟨r1,hr1⟩:∃ x,x=r.num.1:=⟨_,rfl⟩
   obtain⟨r2,hr2⟩:∃ x,x=r1.fail (decide (1<z)) 3:=⟨_,rfl⟩
   obtain⟨r3,hr3⟩:∃ x,x=r2.text.1:=⟨_,rfl⟩
   obtain⟨s,hs0⟩:∃ x,x=r2.text.2:=⟨_,rfl⟩
   have kc:=rnum_any g g _ r hR
   rw [← hz,← hr1] at kc
   have HO:=zh hO
   have HRK:=zh hR
   have HLEN:=zh hlen
   have HSN:=zh hsn
   have HB:=zh hb
   have e1:z=1→(decN (k+1) r0)=(r3,cs++[⟨s,[],true⟩]):=fun h=>by
    rw [hsn,dec1_gone (by rw [← hz];exact h),← hr1,← hz,← hr2,← hr3,← hs0]
   have e2:z≠1→(decN (k+1) r0)=(r3.text.1,cs++[⟨s,r3.text.2,false⟩]):=fun h=>by
    rw [hsn,dec1_put (by rw [← hz];exact h),← hr1,← hz,← hr2,← hr3,← hs0]
   have E1:=zh e1
   have E2:=zh e2
   have kf:=fun w1 (h:RdAt 118 g g w1 r1)=>rfail_any g g w1 r1 (decide (1<z)) h
   rw [← hr2] at kf
   have kt:=fun w1 (h:RdAt 118 g g w1 r2)=>rtext_any g g w1 r2 h
   rw [← hr3,← hs0] at kt
   have KF:=zh kf
   have KT:=zh kt
   clear hz hr1 hr2 hr3 hs0 hsn hlen hR hO e1 e2 kf kt hb hr hcs
   go_wp2_with fail
   refine kc.mono ?_
   rintro e w3 ⟨rfl,hR3,hg3⟩
   clear kc
   have kc:=KF.out w3 hR3
   clear hR3
   go_wp2_with fail
   refine kc.mono ?_
   rintro e w4 ⟨rfl,hR4,hg4⟩
   clear kc KF
   have kc:=KT.out w4 hR4
   have hO4:=(Own.far HO.out hg3 (Nat.lt_succ_self _)).far hg4 (Nat.lt_succ_self _)
   have hgs:w4.grownBy w4 (some g):=only_refl _ _
   clear hR4 HO HRK
   go_wp2_with fail
   refine kc.mono ?_
   rintro e w5 ⟨rfl,hR5,hg5⟩
   clear kc KT hgs
   have hO5:=Own.far hO4 hg5 (Nat.lt_succ_self _)
   have hb35:=zO (zO hg3 hg4) hg5
   have hs5:=Nat.le_trans hs hb35.size
   have hb5:Below g w w5:=HB.out.trans (below_of_only hb35 (Nat.le_refl _) (by omega))
   clear hO4 hg3 hg4 hg5 HB hb35 hs
   obtain⟨i0,z0,hi,hz0,hz1,hz2,hz3⟩:=zero_parts infoz_change
   obtain⟨S,hS⟩:∃ x,x=strB s:=⟨_,rfl⟩
   rw [← hS]
   have HS:=zh hS
   clear hS
   by_cases hz1':z=1
   ·have c1:(z == 1)=true:=by rw [hz1'];rfl
    obtain⟨w6,hw6⟩:∃ x,x=w5.alloc (.cells #[.string S,.string (ByteArray.mk #[]),.bool true] 33):=⟨_,rfl⟩
    obtain⟨gc,hgc⟩:∃ x,x=w5.heap.size:=⟨_,rfl⟩
    have hb56:Below w5.heap.size w5 w6:=by rw [hw6];exact Below.alloc (Below.refl _ _) (Nat.le_refl _) _
    have hbox:w6.heap[gc]?=some (.cells #[.string S,.string (ByteArray.mk #[]),.bool true] 33 (0,0)):=by rw [hw6,hgc];exact heap_alloc_new w5 _
    have HW6:=zh hw6
    have HGC:=zh hgc
    have HE:=zh (E1.out hz1')
    have hO6:=Own.below hO5 hb56 (Nat.le_refl _)
    have hR6:=hR5.below (hb56.mono hs5)
    have hs6:=Nat.le_trans hs5 hb56.size
    have hb6:=hb5.trans (hb56.mono (by omega))
    clear hw6 hgc E1 E2 hO5 hR5 hb5 hb56 hs5 hz1'
    go_upto_region 10 with (fail)
    rw [← HW6.out,← HGC.out]
    have C0:=cR w6 _ 0 _ _ _ hbox
    have C1:=cR w6 _ 1 _ _ _ hbox
    have C2:=cR w6 _ 2 _ _ _ hbox
    clear hbox
    have hbs:=run_bsC S (ByteArray.mk #[]) true w6
    obtain⟨w8,hw8⟩:∃ x,x=w6.alloc (.cells #[.string S,.string (ByteArray.mk #[]),.bool true] 33):=⟨_,rfl⟩
    obtain⟨gs,hgs⟩:∃ x,x=w6.heap.size:=⟨_,rfl⟩
    rw [← hw8,← hgs] at hbs
    have hsrc:Src Tryz.prog w8 (.slice (some ⟨gs,0,none⟩) 1 1) 3 1 (changeCells ⟨s,[],true⟩):=by
     rw [hw8,hgs]
     refine Row.src (Row.fresh (by simp [changeCells]) (Nat.le_refl _) (by decide) (fun k u hk=>?_))
     simp only [changeCells,str] at hk
     rw [HS.out];simpa [strB] using hk
    have hb68:Below w6.heap.size w6 w8:=by rw [hw8];exact Below.alloc (Below.refl _ _) (Nat.le_refl _) _
    have hO8:=Own.below hO6 hb68 (Nat.le_refl _)
    have hs8:g+1≤w8.heap.size:=Nat.le_trans hs6 hb68.size
    have hone:=ones_change ⟨s,[],true⟩
    have hn:cs.length+1≤maxLen:=by have:=HLEN.out;unfold maxLen;omega
    have hn2:(cs.length+1)*40≤140737488355328:=by have:=HLEN.out;omega
    have R1:=zh hn
    have R2:=zh hn2
    have HB6:=zh (hb6.trans (hb68.mono (by omega)))
    have HRd:=zh (hR6.below (hb68.mono (by omega)))
    have HW8:=zh hw8
    clear hw8 hgs hn hn2 hO6 hb68 hb6 hs6
    go_wp2_with (with_reducible refine wp_buildSlice_r 22 1 [(0,.tmp 33)] hbs rfl ?_;refine Halt.in ?_)
    refine Halt.out ?_
    refine wp_append2 rfl (.tmp 32) (.tmp 34) 22 22 33 rfl i0 z0 3 40 Tryz.underlying22 (.inl ⟨_,Tryz.underlying22⟩) hi hz0 hz1 hz2 hz3 rfl rfl hO8 hsrc hone R1.out R2.out hs8 ?_
    intro v9 w9 hown9 hb9 _
    have HO9:=zh (ChangesO.snoc hown9)
    have HR9:=zh (HRd.out.below hb9)
    have HB9:=zh (HB6.out.trans (hb9.mono (by omega)))
    have hs9:=Nat.le_trans hs8 hb9.size
    clear hbs hsrc hO8 hone hown9 hb9 HRd HB6 hi hz0 hz1 hz2 hz3
    go_wp2_with fail
    go_roundw
    case rel=>exact⟨k+1,by omega,by first | go_num | (congr 2;omega) | (simp;omega),by rw [HE.out];exact HR9.out,by rw [HE.out];exact HO9.out,HB9.out,hs9⟩
    case measure=>simp [intOf];omega
   ·have c1:(z == 1)=false:=by rw [beq_eq_false_iff_ne];exact hz1'
    obtain⟨w6,hw6⟩:∃ x,x=w5.alloc (.cells #[.string S,.string (ByteArray.mk #[]),.bool false] 33):=⟨_,rfl⟩
    obtain⟨gc,hgc⟩:∃ x,x=w5.heap.size:=⟨_,rfl⟩
    have hb56:Below w5.heap.size w5 w6:=by rw [hw6];exact Below.alloc (Below.refl _ _) (Nat.le_refl _) _
    have hbox:w6.heap[gc]?=some (.cells #[.string S,.string (ByteArray.mk #[]),.bool false] 33 (0,0)):=by rw [hw6,hgc];exact heap_alloc_new w5 _
    have HW6:=zh hw6
    have HGC:=zh hgc
    have hgcl:g<gc:=by omega
    have hO6:=Own.below hO5 hb56 (Nat.le_refl _)
    have hR6:=hR5.below (hb56.mono hs5)
    have hs6:=Nat.le_trans hs5 hb56.size
    have hb6:=hb5.trans (hb56.mono (by omega))
    have hb5':=hb5
    clear hw6 E1 hR5 hb5 hb56
    go_upto_region 9 with (fail)
    rw [← HW6.out,← HGC.out]
    have kc:=rtext_any g g w6 r3 hR6
    obtain⟨s2,hs2⟩:∃ x,x=r3.text.2:=⟨_,rfl⟩
    obtain⟨r4,hr4⟩:∃ x,x=r3.text.1:=⟨_,rfl⟩
    have hE2:=E2.out hz1'
    rw [← hs2,← hr4] at hE2 kc
    have HE:=zh hE2
    obtain⟨S2,hS2⟩:∃ x,x=strB s2:=⟨_,rfl⟩
    rw [← hS2] at kc
    have HS2:=zh hS2
    clear E2 hs2 hr4 hE2 hS2 hR6 hz1'
    go_wp2_with fail
    refine kc.mono ?_
    rintro e w7 ⟨rfl,hR7,hg7⟩
    clear kc
    have hbox7:=(hg7.block gc (zB hbox) (fun e=>by cases e;omega)).trans hbox
    obtain⟨wq,hwq⟩:∃ x,x=w7.setCell ⟨gc,1,none⟩ (.string S2):=⟨_,rfl⟩
    have hgq:w7.grownBy wq (some gc):=by rw [hwq];exact only_set _ _ _ _
    have hboxq:wq.heap[gc]?=some (.cells #[.string S,.string S2,.bool false] 33 (0,0)):=by rw [hwq];simp [World.setCell,Array.getElem?_modify,hbox7]
    have hg56:w5.grownBy w6 (some g):=by rw [HW6.out];exact World.grownBy_alloc _ _ _
    have hg5q:w5.grownBy wq (some g):=only_new (zO hg56 hg7) hgq (by omega)
    have hO6q:=Own.far hO5 hg5q (Nat.lt_succ_self _)
    have hRq:=hR7.far hgq (fun k e=>by cases e;exact⟨by omega,by omega⟩)
    have hbq:=hb5'.trans (below_of_only hg5q (Nat.le_refl _) (by omega))
    have hsq:=Nat.le_trans hs5 hg5q.size
    have D0:=cR w7 _ 0 _ _ _ hbox7
    have D1:=cR w7 _ 1 _ _ _ hbox7
    have D2:=cR w7 _ 2 _ _ _ hbox7
    have DF:w7.frozen? ⟨gc,1,none⟩=false:=by simp [World.frozen?,hbox7]
    have C0:=cR wq _ 0 _ _ _ hboxq
    have C1:=cR wq _ 1 _ _ _ hboxq
    have C2:=cR wq _ 2 _ _ _ hboxq
    have HWQ:=zh hwq
    clear hwq hboxq hbox7 hbox hgq hg56 hg5q hR7 hg7 hO5 hO6 hb6 hs6 hb5' hgc
    go_upto_region 10 with (fail)
    rw [← HWQ.out]
    clear D0 D1 D2 DF
    have hO6:=hO6q
    have hb6:=hbq
    have hs6:=hsq
    clear hO6q hbq hsq
    have hbs:=run_bsC S S2 false wq
    obtain⟨w8,hw8⟩:∃ x,x=wq.alloc (.cells #[.string S,.string S2,.bool false] 33):=⟨_,rfl⟩
    obtain⟨gs,hgs⟩:∃ x,x=wq.heap.size:=⟨_,rfl⟩
    rw [← hw8,← hgs] at hbs
    have hsrc:Src Tryz.prog w8 (.slice (some ⟨gs,0,none⟩) 1 1) 3 1 (changeCells ⟨s,s2,false⟩):=by
     rw [hw8,hgs]
     refine Row.src (Row.fresh (by simp [changeCells]) (Nat.le_refl _) (by decide) (fun k u hk=>?_))
     simp only [changeCells,str] at hk
     rw [HS.out,HS2.out];simpa [strB] using hk
    have hb68:Below wq.heap.size wq w8:=by rw [hw8];exact Below.alloc (Below.refl _ _) (Nat.le_refl _) _
    have hO8:=Own.below hO6 hb68 (Nat.le_refl _)
    have hs8:g+1≤w8.heap.size:=Nat.le_trans hs6 hb68.size
    have hone:=ones_change ⟨s,s2,false⟩
    have hn:cs.length+1≤maxLen:=by have:=HLEN.out;unfold maxLen;omega
    have hn2:(cs.length+1)*40≤140737488355328:=by have:=HLEN.out;omega
    have R1:=zh hn
    have R2:=zh hn2
    have HB6:=zh (hb6.trans (hb68.mono (by omega)))
    have HRd:=zh (hRq.below (hb68.mono (by omega)))
    have HW8:=zh hw8
    clear hw8 hgs hn hn2 hO6 hb68 hb6 hs6
    go_wp2_with (with_reducible refine wp_buildSlice_r 22 1 [(0,.tmp 33)] hbs rfl ?_;refine Halt.in ?_)
    refine Halt.out ?_
    refine wp_append2 rfl (.tmp 32) (.tmp 34) 22 22 33 rfl i0 z0 3 40 Tryz.underlying22 (.inl ⟨_,Tryz.underlying22⟩) hi hz0 hz1 hz2 hz3 rfl rfl hO8 hsrc hone R1.out R2.out hs8 ?_
    intro v9 w9 hown9 hb9 _
    have HO9:=zh (ChangesO.snoc hown9)
    have HR9:=zh (HRd.out.below hb9)
    have HB9:=zh (HB6.out.trans (hb9.mono (by omega)))
    have hs9:=Nat.le_trans hs8 hb9.size
    clear hbs hsrc hO8 hone hown9 hb9 HRd HB6 hi hz0 hz1 hz2 hz3
    go_wp2_with fail
    go_roundw
    case rel=>exact⟨k+1,by omega,by first | go_num | (congr 2;omega) | (simp;omega),by rw [HE.out];exact HR9.out,by rw [HE.out];exact HO9.out,HB9.out,hs9⟩
    case measure=>simp [intOf];omega
  ·have k0:decide ((k:Int)<(M:Int))=false:=by simp;omega
   obtain rfl:k=M:=by omega
   have kc:=rdone_any g g _ r hR
   rw [← hr] at HD1 HD2 HD3
   rw [← hcs] at HD2 HD3
   obtain⟨E,hE⟩:∃ x,x=r.doneE:=⟨_,rfl⟩
   rw [← hE] at kc HD1 HD2 HD3
   have HO:=zh hO
   have HB:=zh hb
   clear hE hsn hr hcs hO hb
   go_wp2_with fail
   refine kc.mono ?_
   rintro e w3 ⟨rfl,hR3,hg3⟩
   clear kc
   have hO3:=Own.far HO.out hg3 (Nat.lt_succ_self _)
   have hb3:Below g w w3:=HB.out.trans (below_of_only hg3 (Nat.le_refl _) (by omega))
   clear hR3 hg3 HO HB hR hlen
   by_cases hE0:E=0
   ·have q0:(E == 0)=true:=by rw [hE0];rfl
    have kc:=changed_any _ cs w3 (ChangesO.v hO3)
    obtain⟨cb,hcb⟩:∃ x,x=changesB cs:=⟨_,rfl⟩
    rw [← hcb] at kc
    have HCB:=zh hcb
    have HE0:=zh hE0
    have HO3:=zh hO3
    have HB3:=zh hb3
    clear hcb hE0 hO3 hb3
    go_wp2_with fail
    refine kc.mono ?_
    rintro e w4 ⟨rfl,hb4⟩
    clear kc
    have hs3:=HB3.out.size
    have HB4:=zh (HB3.out.trans (hb4.mono (by have:=HG.out;omega)))
    have HO4:=zh (Own.below HO3.out hb4 (Nat.le_refl _))
    clear hb4 HO3 HB3 hs3
    cases cb with
    | false =>
     have hdp:=HD2.out HE0.out HCB.out.symm
     have HDP:=zh hdp
     clear hdp
     go_wp2_with fail
     go_ret2
     exact⟨⟨_,by rw [HDP.out];rfl,by rw [HDP.out];exact ChangesO.none _ _ none⟩,by first | exact HB4.out | (rw [← HG.out];exact HB4.out)⟩
    | true =>
     have hdp:=HD3.out HE0.out HCB.out.symm
     have HDP:=zh hdp
     clear hdp
     go_wp2_with fail
     go_ret2
     exact⟨⟨_,by rw [HDP.out];rfl,by rw [HDP.out];exact Own.lower HO4.out (by have:=HG.out;omega)⟩,by first | exact HB4.out | (rw [← HG.out];exact HB4.out)⟩
   ·have q0:(E == 0)=false:=by rw [beq_eq_false_iff_ne];exact hE0
    have hdp:=HD1.out hE0
    have HDP:=zh hdp
    have HB3:=zh hb3
    clear hdp hE0 hb3 hO3
    go_wp2_with fail
    go_ret2
    exact⟨⟨_,by rw [HDP.out];rfl,by rw [HDP.out];exact ChangesO.none _ _ none⟩,by first | exact HB3.out | (rw [← HG.out];exact HB3.out)⟩
end
section
open Go.RowKit KvP PackP
def Typed (e:TypeId) (w w':World):Prop:=∀ (T:Nat) (cs:Array Value) (t:TypeId) (fr:Nat×Nat),w.heap[T]?=some (.cells cs t fr)→t≠e→w'.heap[T]?=w.heap[T]?
theorem Own.typed {B:Nat} {w w':World} {e e2:TypeId} {v:Value} {sz n:Nat} {cs:List Value} (h:Own B w e v sz n cs) (ht:Typed e2 w w') (hne:e≠e2):Own B w' e v sz n cs:=by
 obtain⟨h1,a,cap,rfl,h2,h3,h4⟩:=h
 refine⟨h1,a,cap,rfl,h2,h3,?_⟩
 rcases h4 with h4 | ⟨g,cur,rfl,hg,hh,hs,hk⟩
 ·exact .inl h4
 ·exact .inr ⟨g,cur,rfl,hg,(ht _ _ _ _ hh hne).trans hh,hs,hk⟩
def RecsT (B:Nat) (w:World) (lv:Value) (list:List (List UInt8)):Prop :=
 ∃ vs:List Value,Own B w 23 lv 1 list.length vs∧∀ (k:Nat) (h:k<list.length),∃ u,vs[k]?=some u∧OwnB B w u list[k]
theorem RecsT.none (B:Nat) (w:World) (a:Option Addr):RecsT B w (.slice a 0 0) []:=⟨[],Own.none _ _ _ _ _,fun k h=>absurd h (Nat.not_lt_zero _)⟩
theorem RecsT.below {B B':Nat} {w w':World} {lv:Value} {list:List (List UInt8)} (h:RecsT B w lv list) (hb:Below B' w w') (hB:w.heap.size≤B'):RecsT B w' lv list:=by
 obtain⟨vs,h1,h2⟩:=h
 exact⟨vs,Own.below h1 hb hB,fun k hk=>let ⟨u,h3,h4⟩:=h2 k hk;⟨u,h3,Own.below h4 hb hB⟩⟩
theorem RecsT.typed {B:Nat} {w w':World} {e:TypeId} {lv:Value} {list:List (List UInt8)} (h:RecsT B w lv list) (ht:Typed e w w') (h1:23≠e) (h2:5≠e):RecsT B w' lv list:=by
 obtain⟨vs,g1,g2⟩:=h
 exact⟨vs,Own.typed g1 ht h1,fun k hk=>let ⟨u,h3,h4⟩:=g2 k hk;⟨u,h3,Own.typed h4 ht h2⟩⟩
theorem RecsT.lower {B B':Nat} {w:World} {lv:Value} {list:List (List UInt8)} (h:RecsT B w lv list) (hB:B'≤B):RecsT B' w lv list:=by
 obtain⟨vs,h1,h2⟩:=h
 exact⟨vs,Own.lower h1 hB,fun k hk=>let ⟨u,h3,h4⟩:=h2 k hk;⟨u,h3,Own.lower h4 hB⟩⟩
theorem RecsT.pieces {B:Nat} {w:World} {lv:Value} {list:List (List UInt8)} (h:RecsT B w lv list):Pieces w.heap.size w lv list:=by
 obtain⟨vs,h1,h2⟩:=h
 exact⟨vs,h1.row,fun k hk=>let ⟨u,h3,h4⟩:=h2 k hk;⟨u,h3,Own.row h4⟩⟩
theorem RecsT.snoc {B:Nat} {w w':World} {vs:List Value} {v' u:Value} {list:List (List UInt8)} {bs:List UInt8} (hv:vs.length=list.length) (hown:Own B w' 23 v' 1 (list.length+1) (vs++[u]))
  (hel:∀ (k:Nat) (h:k<list.length),∃ u,vs[k]?=some u∧OwnB B w u list[k]) (hu:OwnB B w u bs) (ht:Typed 23 w w'):RecsT B w' v' (list++[bs]):=by
 refine⟨vs++[u],by rw [List.length_append];exact hown,fun k hk=>?_⟩
 rw [List.length_append,List.length_singleton] at hk
 by_cases hkl:k<list.length
 ·obtain⟨x,h1,h2⟩:=hel k hkl
  refine⟨x,by rw [List.getElem?_append_left (by omega)];exact h1,?_⟩
  rw [List.getElem_append_left hkl]
  exact Own.typed h2 ht (by decide)
 ·obtain rfl:k=list.length:=by omega
  refine⟨u,by rw [List.getElem?_append_right (by omega),hv,Nat.sub_self];rfl,?_⟩
  rw [List.getElem_append_right (Nat.le_refl _)]
  simp only [Nat.sub_self,List.getElem_cons_zero]
  exact Own.typed hu ht (by decide)
theorem RecsT.open_ {B:Nat} {w w':World} {lv:Value} {list:List (List UInt8)} (h:RecsT B w lv list) (hb:Below w.heap.size w w') :
  ∃ vs,vs.length=list.length∧Own B w' 23 lv 1 list.length vs∧∀ (k:Nat) (h:k<list.length),∃ u,vs[k]?=some u∧OwnB B w' u list[k]:=by
 obtain⟨vs,h1,h2⟩:=h.below hb (Nat.le_refl _)
 exact⟨vs,by have:=h1.1;omega,h1,h2⟩
theorem snapF_cons_great (p:PairP) (l:List PairP) (c:List ChangeP) (h:6000<(bytesP (c++[chg p])).length):snapF (p :: l) c=c :: snapF l [chg p]:=by rw [snapF,if_pos h]
theorem snapF_cons_small (p:PairP) (l:List PairP) (c:List ChangeP) (h:¬ 6000<(bytesP (c++[chg p])).length):snapF (p :: l) c=snapF l (c++[chg p]):=by rw [snapF,if_neg h]
theorem chunk_nil:ChunkOk []:=⟨by simp,by rw [bytes_nil];decide,by rw [bytes_nil];simp⟩
theorem ChunkOk.snoc {c:List ChangeP} {p:PairP} (h:ChunkOk c) (hm:mayP p.key p.val=true) (hn:¬ 6000<(bytesP (c++[chg p])).length):ChunkOk (c++[chg p]):=by
 obtain⟨h1,h2,h3⟩:=h
 refine⟨fun x hx=>?_,by omega,?_⟩
 ·rcases List.mem_append.1 hx with hx | hx
  ·exact h1 x hx
  ·rw [List.mem_singleton.1 hx];exact okC_chg hm
 ·have h4:1≤p.key.length:=by
   unfold mayP at hm
   simp only [Bool.and_eq_true,decide_eq_true_eq] at hm
   exact hm.1.1
  rw [bytes_snoc,length_chg hm,List.length_append,List.length_singleton]
  omega
theorem ChunkOk.one {p:PairP} (hm:mayP p.key p.val=true):ChunkOk [chg p]:=by
 have h:=length_chg hm
 unfold mayP at hm
 simp only [Bool.and_eq_true,decide_eq_true_eq] at hm
 have:=ChunkOk.snoc (p:=p) chunk_nil (by unfold mayP;simp only [Bool.and_eq_true,decide_eq_true_eq];exact hm) (by rw [bytes_snoc,bytes_nil,h];omega)
 simpa using this
theorem ChunkOk.len {c:List ChangeP} (h:ChunkOk c):c.length≤353∧∀ x∈c,x.key.length≤64∧x.val.length≤4096:=⟨by have:=h.2.1;have:=h.2.2;omega,fun x hx=>len_okC (h.1 x hx)⟩
end
section
open Go.RowKit KvP PackP
set_option maxRecDepth 100000 in
set_option maxHeartbeats 4000000 in
theorem snapshot_any {B:Nat} (v:Value) (l:List PairP) (w:World) (hv:PairsV B w v l) (hm:∀ p∈l,mayP p.key p.val=true) (hN4:l.length≤400) :
  Calls Tryz.prog 34 #[v] w fun e w'=>∃ u,e = .returned u∧RecsT w.heap.size w' u (snapP l)∧Below w.heap.size w w':=by
 have hv:=hv.tight
 obtain⟨_,a,c,rfl,h1,h2,_⟩:=id hv
 unfold maxLen at h2
 obtain⟨N,hN⟩:∃ N,N=l.length:=⟨_,rfl⟩
 rw [← hN] at hv h1 hN4 ⊢
 have HN:=zh hN
 have HV:=zh hv
 have HM:=zh hm
 clear hN hv hm
 go_enter Tryz.func34,Tryz.ntmps34
 go_wp2_with fail
 go_loopw [3,4,5,11] (fun lv cv size i wr=>∃ (k:Nat) (list:List (List UInt8)) (cs:List ChangeP),k≤N∧i = .int .i64 k∧list.length≤k∧size = .int .i64 ((bytesP cs).length:Int)∧RecsT w.heap.size wr lv list∧ChangesO w.heap.size wr cv cs∧Below w.heap.size w wr∧Hid (ChunkOk cs)∧Hid (snapP l=list++(snapF (l.drop k) cs).map bytesP)) (fun _ _ _ i _=>N-(intOf i).toNat)
 case atStart=>exact⟨0,[],[],Nat.zero_le _,rfl,Nat.le_refl _,by rw [bytes_nil];rfl,RecsT.none _ _ _,ChangesO.none _ _ _,Below.refl _ _,zh chunk_nil,zh rfl⟩
 case round =>
  obtain⟨k,list,cs,hk,rfl,hlk,rfl,hR,hC,hb,HCK,HSN⟩:=hrel
  obtain⟨L,hL⟩:∃ L,L=(bytesP cs).length:=⟨_,rfl⟩
  have hL6:L≤6000:=by rw [hL];exact HCK.out.2.1
  rw [← hL]
  have HL:=zh hL
  clear hL
  by_cases hkN:k<N
  ·have hkl:k<l.length:=HN.out▸hkN
   have k1:(0:Int)≤(k:Int):=by omega
   have k2:(k:Int)<(N:Int):=by omega
   have k0:decide ((k:Int)<(N:Int))=true:=by simp;omega
   obtain⟨b,off,rfl,hbb,hc⟩:=load_pair HV.out hkl
   obtain⟨S0,S1⟩:=hc wr hb
   have hmay:=HM.out _ (List.getElem_mem hkl)
   have hdrop:l.drop k=l[k] :: l.drop (k+1):=List.drop_eq_getElem_cons hkl
   obtain⟨⟨key,val⟩,hx⟩:∃ x,x=l[k]:=⟨_,rfl⟩
   rw [← hx] at S0 S1 hmay hdrop
   dsimp only at S0 S1
   obtain⟨sk,hsk⟩:∃ s,s=ByteArray.mk key.toArray:=⟨_,rfl⟩
   obtain⟨sv,hsv⟩:∃ s,s=ByteArray.mk val.toArray:=⟨_,rfl⟩
   change wr.cell? _=some (.string _) at S0
   change wr.cell? _=some (.string _) at S1
   rw [← hsk] at S0
   rw [← hsv] at S1
   have hlc:=length_chg (p:=⟨key,val⟩) hmay
   have hm4:key.length≤64∧val.length≤4096:=by
    have h:=hmay
    unfold mayP at h
    simp only [Bool.and_eq_true,decide_eq_true_eq] at h
    exact⟨h.1.2,h.2⟩
   obtain⟨nk,hnk⟩:∃ n,n=sk.size:=⟨_,rfl⟩
   obtain⟨nv,hnv⟩:∃ n,n=sv.size:=⟨_,rfl⟩
   have hnk4:nk≤64:=by rw [hnk,hsk,str_size];exact hm4.1
   have hnv4:nv≤4096:=by rw [hnv,hsv,str_size];exact hm4.2
   have hlc2:(changeB (chg ⟨key,val⟩)).length=16+nk+nv:=by rw [hlc,hnk,hnv,hsk,hsv,str_size,str_size]
   have hgreat:6000<L+(16+nk+nv)→snapF (l.drop k) cs=cs :: snapF (l.drop (k+1)) [chg ⟨key,val⟩]:=fun h=>by
    rw [hdrop]
    exact snapF_cons_great _ _ _ (by rw [bytes_snoc,hlc2,← HL.out];exact h)
   have hsmall:¬ 6000<L+(16+nk+nv)→snapF (l.drop k) cs=snapF (l.drop (k+1)) (cs++[chg ⟨key,val⟩]):=fun h=>by
    rw [hdrop]
    exact snapF_cons_small _ _ _ (by rw [bytes_snoc,hlc2,← HL.out];exact h)
   have q1:(sk.size:Int)=(nk:Int):=by rw [hnk]
   have q2:(sv.size:Int)=(nv:Int):=by rw [hnv]
   have HSK:=zh hsk
   have HSV:=zh hsv
   have HLC:=zh hlc2
   have HMAY:=zh hmay
   have HG:=zh hgreat
   have HS:=zh hsmall
   obtain⟨w1,hw1⟩:∃ x,x=wr.alloc (.cells #[.string sk,.string sv] 76):=⟨_,rfl⟩
   obtain⟨g,hg⟩:∃ g,g=wr.heap.size:=⟨_,rfl⟩
   have HW1:=zh hw1
   have HGG:=zh hg
   clear hsk hsv hnk hnv hlc hlc2 hmay hgreat hsmall hw1 hg hm4 hdrop hx hc
   go_upto_region 7 with (fail)
   rw [← HW1.out,← HGG.out]
   clear S0 S1
   have hb1:Below wr.heap.size wr w1:=by rw [HW1.out];exact Below.alloc (Below.refl _ _) (Nat.le_refl _) _
   have hbox:w1.heap[g]?=some (.cells #[.string sk,.string sv] 76 (0,0)):=by rw [HW1.out,HGG.out];exact heap_alloc_new wr _
   have C0:=cR w1 _ 0 _ _ _ hbox
   have C1:=cR w1 _ 1 _ _ _ hbox
   have HR1:=zh (hR.below hb1 (Nat.le_refl _))
   have HC1:=zh (Own.below hC hb1 (Nat.le_refl _))
   have HB1:=zh (hb.trans (hb1.mono hb.size))
   have HBOX:=zh hbox
   have hi1:IntKind.i64.wrap (16+(nk:Int))=16+(nk:Int):=by
    simp only [IntKind.wrap,IntKind.bits,IntKind.signed]
    simp
    omega
   clear hR hC hb hb1 hbox
   have q3:(16:Int)+(nk:Int)=((16+nk:Nat):Int):=by omega
   clear hi1 q3
   go_upto_region 8 with (fail)
   obtain⟨n,hn⟩:∃ n,n=16+nk+nv:=⟨_,rfl⟩
   have hni:(16:Int)+(nk:Int)+(nv:Int)=(n:Int):=by omega
   have hn5:n≤4176:=by omega
   by_cases h6:6000<L+n
   ·have q6:decide ((6000:Int)<(L:Int)+(n:Int))=true:=by simp;omega
    have hsn:=HG.out (by omega)
    have HSN2:=zh hsn
    have HN1:=zh hn
    clear hsn hn
    go_upto_region 9 with (fail)
    have kb:=bytes_any _ cs w1 (ChangesO.v HC1.out) (by have:=(ChunkOk.len (HCK.out)).1;omega) (fun x hx=>by have:=(ChunkOk.len (HCK.out)).2 x hx;omega)
    go_wp2_with fail
    refine kb.mono ?_
    rintro e w2 ⟨u,rfl,hu,hb2⟩
    clear kb
    obtain⟨_,ua,uc,rfl,_,_,_⟩:=id hu.bytes
    obtain⟨un,hun⟩:∃ n,n=(bytesP cs).length:=⟨_,rfl⟩
    have hu2:OwnB w.heap.size w2 (.slice ua un uc) (bytesP cs):=by rw [hun];exact Own.lower hu (HB1.out).size
    rw [← hun]
    clear hu hun
    obtain⟨w3,hw3⟩:∃ x,x=w2.alloc (.cells #[.slice ua un uc] 23):=⟨_,rfl⟩
    have hb3:Below w2.heap.size w2 w3:=by rw [hw3];exact Below.alloc (Below.refl _ _) (Nat.le_refl _) _
    have hb13:Below w1.heap.size w1 w3:=hb2.trans (hb3.mono hb2.size)
    obtain⟨vs,hvl,hown8,hel8⟩:=RecsT.open_ HR1.out hb13
    have hu3:OwnB w.heap.size w3 (.slice ua un uc) (bytesP cs):=Own.below hu2 hb3 (Nat.le_refl _)
    have hsrc:Src Tryz.prog w3 (.slice (some ⟨w2.heap.size,0,none⟩) 1 1) 1 1 [.slice ua un uc]:=by
     rw [hw3]
     exact Row.src (Row.fresh (by simp) (Nat.le_refl _) (by decide) (fun k u hk=>by simpa using hk))
    have hone:∀ u∈[Value.slice ua un uc],u.oneCell'=true:=fun u hu=>by rw [List.mem_singleton.1 hu];rfl
    obtain⟨i0,z0,hi,hz0,hz1,hz2,hz3⟩:=zero_parts infoz_bytes
    have R1:list.length+1≤maxLen:=by unfold maxLen;omega
    have R2:(list.length+1)*24≤140737488355328:=by omega
    have hs3:w.heap.size≤w3.heap.size:=Nat.le_trans (HB1.out).size hb13.size
    have HB3:=zh ((HB1.out).trans (hb13.mono (HB1.out).size))
    have hx13:=hb13
    have HU3:=zh hu3
    have HVL:=zh hvl
    have HEL:=zh hel8
    rw [hw3] at hown8 hsrc hs3
    have HW3:=zh hw3
    clear hb2 hb3 hb13 hu2 hu3 hvl hel8 hw3
    go_wp2_with (at_builtin;refine wp_append2 rfl (.tmp 27) (.tmp 30) 66 66 23 rfl i0 z0 1 24 Tryz.underlying66 (.inl ⟨_,Tryz.underlying66⟩) hi hz0 hz1 hz2 hz3 rfl rfl hown8 hsrc hone R1 R2 hs3 ?_;intro v5 w5 hown5 hb5 hty5;refine Halt.in ?_)
    refine Halt.out ?_
    rw [← HW3.out] at hb5 hty5
    have HR5:=zh (RecsT.snoc HVL.out hown5 HEL.out HU3.out hty5)
    have HB5:=zh (HB3.out.trans hb5)
    have HTY:=zh hty5
    have HX13:=zh hx13
    clear hsrc hone hown8 hown5 hb5 hty5 R1 R2 hs3 hi hz0 hz1 hz2 hz3 hx13
    have hbox5:w5.heap[g]?=some (.cells #[.string sk,.string sv] 76 (0,0)):=((HTY.out _ _ _ _ ((HX13.out.block _ (zB HBOX.out)).trans HBOX.out) (by decide)).trans ((HX13.out.block _ (zB HBOX.out)).trans HBOX.out))
    clear C0 C1 HTY HX13
    have C0:=cR w5 _ 0 _ _ _ hbox5
    have C1:=cR w5 _ 1 _ _ _ hbox5
    clear hbox5
    go_upto_region 11 with (fail)
    have hbs:=run_bsC sk sv false w5
    obtain⟨w8,hw8⟩:∃ x,x=w5.alloc (.cells #[.string sk,.string sv,.bool false] 33):=⟨_,rfl⟩
    obtain⟨gs,hgs⟩:∃ x,x=w5.heap.size:=⟨_,rfl⟩
    rw [← hw8,← hgs] at hbs
    have hsrc:Src Tryz.prog w8 (.slice (some ⟨gs,0,none⟩) 1 1) 3 1 (changeCells (chg ⟨key,val⟩)):=by
     rw [hw8,hgs]
     refine Row.src (Row.fresh (by simp [changeCells]) (Nat.le_refl _) (by decide) (fun k u hk=>?_))
     simp only [changeCells,str,chg] at hk
     rw [HSK.out,HSV.out];simpa using hk
    have hb8:Below w5.heap.size w5 w8:=by rw [hw8];exact Below.alloc (Below.refl _ _) (Nat.le_refl _) _
    have hO8:=Own.below (ChangesO.none w.heap.size w5 none) hb8 (Nat.le_refl _)
    have HR8:=zh (RecsT.below HR5.out hb8 (Nat.le_refl _))
    have HB8:=zh ((HB5.out).trans (hb8.mono (HB5.out).size))
    have hs8:w.heap.size≤w8.heap.size:=HB8.out.size
    have hone:=ones_change (chg ⟨key,val⟩)
    obtain⟨i0,z0,hi,hz0,hz1,hz2,hz3⟩:=zero_parts infoz_change
    have hcl:=(ChunkOk.len (chunk_nil)).1
    have R1:=zh (show ([]:List ChangeP).length+1≤maxLen by unfold maxLen;omega)
    have R2:=zh (show ([]:List ChangeP).length*40+40≤140737488355328 by omega)
    clear hw8 hgs hb8 hcl
    go_wp2_with (with_reducible refine wp_buildSlice_r 22 1 [(0,.tmp 37)] hbs rfl ?_;refine Halt.in ?_)
    refine Halt.out ?_
    refine wp_append2 rfl (.tmp 32) (.tmp 38) 22 22 33 rfl i0 z0 3 40 Tryz.underlying22 (.inl ⟨_,Tryz.underlying22⟩) hi hz0 hz1 hz2 hz3 rfl rfl hO8 hsrc hone R1.out (by rw [Nat.add_mul];exact R2.out) hs8 ?_
    intro v9 w9 hown9 hb9 hty9
    have HC9:=zh (ChangesO.snoc hown9)
    have HR9:=zh (HR8.out.typed (e:=33) hty9 (by decide) (by decide))
    have HB9:=zh (HB8.out.trans hb9)
    have HCK9:=zh (ChunkOk.one (p:=⟨key,val⟩) HMAY.out)
    have HLN:=zh (show (((bytesP ([]++[chg ⟨key,val⟩])).length:Nat):Int)=8+(n:Int) by rw [bytes_snoc,bytes_nil,HLC.out,← HN1.out];omega)
    have HSN9:=zh (show snapP l=(list++[bytesP cs])++(snapF (l.drop (k+1)) ([]++[chg ⟨key,val⟩])).map bytesP by rw [HSN.out,HSN2.out];simp)
    clear hbs hsrc hO8 hone hown9 hb9 hty9 hi hz0 hz1 hz2 hz3 HR8 HB8
    go_wp2_with fail
    go_roundw
    case rel=>exact⟨k+1,list++[bytesP cs],([]:List ChangeP)++[chg ⟨key,val⟩],by omega,by go_num,by rw [List.length_append,List.length_singleton];omega,by rw [HLN.out] <;> first | rfl | go_num | (congr 1;omega) | (simp;omega),HR9.out,HC9.out,HB9.out,HCK9,HSN9⟩
    case measure=>simp [intOf];omega
   ·have q6:decide ((6000:Int)<(L:Int)+(n:Int))=false:=by simp;omega
    have hsn:=HS.out (by omega)
    have HSN2:=zh hsn
    have HN1:=zh hn
    clear hsn hn
    go_upto_region 11 with (fail)
    have hbs:=run_bsC sk sv false w1
    obtain⟨w8,hw8⟩:∃ x,x=w1.alloc (.cells #[.string sk,.string sv,.bool false] 33):=⟨_,rfl⟩
    obtain⟨gs,hgs⟩:∃ x,x=w1.heap.size:=⟨_,rfl⟩
    rw [← hw8,← hgs] at hbs
    have hsrc:Src Tryz.prog w8 (.slice (some ⟨gs,0,none⟩) 1 1) 3 1 (changeCells (chg ⟨key,val⟩)):=by
     rw [hw8,hgs]
     refine Row.src (Row.fresh (by simp [changeCells]) (Nat.le_refl _) (by decide) (fun k u hk=>?_))
     simp only [changeCells,str,chg] at hk
     rw [HSK.out,HSV.out];simpa using hk
    have hb8:Below w1.heap.size w1 w8:=by rw [hw8];exact Below.alloc (Below.refl _ _) (Nat.le_refl _) _
    have hO8:=Own.below HC1.out hb8 (Nat.le_refl _)
    have HR8:=zh (RecsT.below HR1.out hb8 (Nat.le_refl _))
    have HB8:=zh ((HB1.out).trans (hb8.mono (HB1.out).size))
    have hs8:w.heap.size≤w8.heap.size:=HB8.out.size
    have hone:=ones_change (chg ⟨key,val⟩)
    obtain⟨i0,z0,hi,hz0,hz1,hz2,hz3⟩:=zero_parts infoz_change
    have hcl:=(ChunkOk.len (HCK.out)).1
    have R1:=zh (show cs.length+1≤maxLen by unfold maxLen;omega)
    have R2:=zh (show cs.length*40+40≤140737488355328 by omega)
    clear hw8 hgs hb8 hcl
    go_wp2_with (with_reducible refine wp_buildSlice_r 22 1 [(0,.tmp 37)] hbs rfl ?_;refine Halt.in ?_)
    refine Halt.out ?_
    refine wp_append2 rfl (.tmp 32) (.tmp 38) 22 22 33 rfl i0 z0 3 40 Tryz.underlying22 (.inl ⟨_,Tryz.underlying22⟩) hi hz0 hz1 hz2 hz3 rfl rfl hO8 hsrc hone R1.out (by rw [Nat.add_mul];exact R2.out) hs8 ?_
    intro v9 w9 hown9 hb9 hty9
    have HC9:=zh (ChangesO.snoc hown9)
    have HR9:=zh (HR8.out.typed (e:=33) hty9 (by decide) (by decide))
    have HB9:=zh (HB8.out.trans hb9)
    have HCK9:=zh (ChunkOk.snoc (p:=⟨key,val⟩) HCK.out HMAY.out (by rw [bytes_snoc,HLC.out,← HN1.out,← HL.out];exact h6))
    have HLN:=zh (show (((bytesP (cs++[chg ⟨key,val⟩])).length:Nat):Int)=(L:Int)+(n:Int) by rw [bytes_snoc,HLC.out,← HN1.out,← HL.out];omega)
    have HSN9:=zh (show snapP l=list++(snapF (l.drop (k+1)) (cs++[chg ⟨key,val⟩])).map bytesP by rw [HSN.out,HSN2.out])
    clear hbs hsrc hO8 hone hown9 hb9 hty9 hi hz0 hz1 hz2 hz3 HR8 HB8
    go_wp2_with fail
    go_roundw
    case rel=>exact⟨k+1,list,cs++[chg ⟨key,val⟩],by omega,by go_num,by omega,by rw [HLN.out] <;> first | rfl | go_num | (congr 1;omega) | (simp;omega),HR9.out,HC9.out,HB9.out,HCK9,HSN9⟩
    case measure=>simp [intOf];omega
  ·have k0:decide ((k:Int)<(N:Int))=false:=by simp;omega
   obtain rfl:k=N:=by omega
   have hend:snapP l=list++[bytesP cs]:=by
    rw [HSN.out,List.drop_eq_nil_of_le (by have:=HN.out;omega)]
    rfl
   have HEND:=zh hend
   have HR1:=zh hR
   have HC1:=zh hC
   have HB1:=zh hb
   clear hend hR hC hb
   have kb:=bytes_any _ cs wr (ChangesO.v HC1.out) (by have:=(ChunkOk.len (HCK.out)).1;omega) (fun x hx=>by have:=(ChunkOk.len (HCK.out)).2 x hx;omega)
   go_wp2_with fail
   refine kb.mono ?_
   rintro e w2 ⟨u,rfl,hu,hb2⟩
   clear kb
   obtain⟨_,ua,uc,rfl,_,_,_⟩:=id hu.bytes
   obtain⟨un,hun⟩:∃ n,n=(bytesP cs).length:=⟨_,rfl⟩
   have hu2:OwnB w.heap.size w2 (.slice ua un uc) (bytesP cs):=by rw [hun];exact Own.lower hu (HB1.out).size
   rw [← hun]
   clear hu hun
   obtain⟨w3,hw3⟩:∃ x,x=w2.alloc (.cells #[.slice ua un uc] 23):=⟨_,rfl⟩
   have hb3:Below w2.heap.size w2 w3:=by rw [hw3];exact Below.alloc (Below.refl _ _) (Nat.le_refl _) _
   have hb13:Below wr.heap.size wr w3:=hb2.trans (hb3.mono hb2.size)
   obtain⟨vs,hvl,hown8,hel8⟩:=RecsT.open_ HR1.out hb13
   have hu3:OwnB w.heap.size w3 (.slice ua un uc) (bytesP cs):=Own.below hu2 hb3 (Nat.le_refl _)
   have hsrc:Src Tryz.prog w3 (.slice (some ⟨w2.heap.size,0,none⟩) 1 1) 1 1 [.slice ua un uc]:=by
    rw [hw3]
    exact Row.src (Row.fresh (by simp) (Nat.le_refl _) (by decide) (fun k u hk=>by simpa using hk))
   have hone:∀ u∈[Value.slice ua un uc],u.oneCell'=true:=fun u hu=>by rw [List.mem_singleton.1 hu];rfl
   obtain⟨i0,z0,hi,hz0,hz1,hz2,hz3⟩:=zero_parts infoz_bytes
   have R1:list.length+1≤maxLen:=by unfold maxLen;omega
   have R2:(list.length+1)*24≤140737488355328:=by omega
   have hs3:w.heap.size≤w3.heap.size:=Nat.le_trans (HB1.out).size hb13.size
   have HB3:=zh ((HB1.out).trans (hb13.mono (HB1.out).size))
   have hx13:=hb13
   have HU3:=zh hu3
   have HVL:=zh hvl
   have HEL:=zh hel8
   rw [hw3] at hown8 hsrc hs3
   have HW3:=zh hw3
   clear hb2 hb3 hb13 hu2 hu3 hvl hel8 hw3
   go_wp2_with (at_builtin;refine wp_append2 rfl (.tmp 44) (.tmp 47) 66 66 23 rfl i0 z0 1 24 Tryz.underlying66 (.inl ⟨_,Tryz.underlying66⟩) hi hz0 hz1 hz2 hz3 rfl rfl hown8 hsrc hone R1 R2 hs3 ?_;intro v5 w5 hown5 hb5 hty5;refine Halt.in ?_)
   refine Halt.out ?_
   rw [← HW3.out] at hb5 hty5
   have HR5:=zh (RecsT.snoc HVL.out hown5 HEL.out HU3.out hty5)
   have HB5:=zh (HB3.out.trans hb5)
   have HTY:=zh hty5
   have HX13:=zh hx13
   clear hsrc hone hown8 hown5 hb5 hty5 R1 R2 hs3 hi hz0 hz1 hz2 hz3 hx13
   go_wp2_with fail
   go_ret
   exact⟨_,rfl,by rw [HEND.out];exact HR5.out,HB5.out⟩
end
section
open Go.RowKit KvP Go.Maps Go.Sort
def PairsO (B:Nat) (w:World) (v:Value) (l:List PairP):Prop:=Own B w 76 v 2 l.length (l.map pairCells).flatten
theorem PairsO.v {B:Nat} {w:World} {v:Value} {l:List PairP} (h:PairsO B w v l):PairsV w.heap.size w v l:=Own.row h
theorem PairsO.none (B:Nat) (w:World) (a:Option Addr):PairsO B w (.slice a 0 0) []:=Own.none _ _ _ _ _
theorem PairsO.snoc {B:Nat} {w:World} {v:Value} {l:List PairP} {c:PairP} (h:Own B w 76 v 2 (l.length+1) ((l.map pairCells).flatten++pairCells c)):PairsO B w v (l++[c]):=by
 unfold PairsO
 rw [show ((l++[c]).map pairCells).flatten=(l.map pairCells).flatten++pairCells c by simp,List.length_append,List.length_singleton]
 exact h
theorem ones_pair (c:PairP):∀ u∈pairCells c,u.oneCell'=true:=by
 intro u hu
 simp only [pairCells,str,List.mem_cons,List.not_mem_nil,or_false] at hu
 rcases hu with rfl | rfl <;> rfl
theorem infoz_pair:(Tryz.prog.info? 76).bind (fun i=>i.zero.map fun z=>(i.size,i.bytes,z.cells.size))=some (2,32,2):=by kernel_rfl
theorem run_bsP (k v:ByteArray) (w:World):(Instr.buildSlice 42 1 #[(0,.agg #[.string k,.string v])]).run Tryz.prog w = .ok (.slice (some ⟨w.heap.size,0,none⟩) 1 1) (w.alloc (.cells #[.string k,.string v] 76)):=by kernel_rfl
theorem map_law:Keyed Tryz.prog 9:=string_keyed Tryz.underlying9
theorem run_makeMapN (n:Nat) (w:World):(Instr.makeMap 102 (some (.int .i64 (n:Int)))).run Tryz.prog w = .ok (.map (some w.heap.size)) (w.alloc (.map #[] 0)):=by
 simp [Instr.makeMap,run_underlying Tryz.underlying102,asInt,asIntOf,newObj]
 rfl
theorem ownsMap_below {P:Program} {k:TypeId} {R:Value→Option (DataW Unit×List MemPlace)} {w w':World} {b n B:Nat} {D:DataW Unit} (h:w.ownsMap P k R b n D) (hb:Below B w w') (hB:b<B):w'.ownsMap P k R b n D:=by
 obtain⟨es,clock,h1,F,hs,hD⟩:=h
 exact⟨es,clock,(hb.block b hB).trans h1,F,hs,hD⟩
theorem doP_take (l:List PairP) (c:List ChangeP) (k:Nat) (hk:k<c.length):doP l (c.take (k+1))=do1 (doP l (c.take k)) c[k]:=by
 unfold doP
 rw [List.take_succ_eq_append_getElem hk,List.foldl_append]
 rfl
theorem len_putK (l:List PairP) (k v:List UInt8):(putK l k v).length≤l.length+1:=by
 induction l with
 | nil=>exact Nat.le_refl _
 | cons p l ih =>
  rw [putK]
  split
  ·simpa using ih
  ·split <;> simp
theorem len_do1 (l:List PairP) (x:ChangeP):(do1 l x).length≤l.length+1:=by
 unfold do1
 split
 ·exact Nat.le_succ_of_le (List.length_filter_le _ _)
 ·exact len_putK _ _ _
theorem len_doP (l:List PairP) (c:List ChangeP):(doP l c).length≤l.length+c.length:=by
 unfold doP
 induction c generalizing l with
 | nil=>exact Nat.le_refl _
 | cons x c ih =>
  rw [List.foldl_cons,List.length_cons]
  have:=ih (do1 l x)
  have:=len_do1 l x
  omega
theorem keys_own {base:Nat} {w:World} {v:Value} {n:Nat} {xs:List Value} (h:w.ownsRow base 9 1 v n xs):Own base w 9 v 1 n xs:=by
 obtain⟨h1,h2⟩:=h
 rcases h2 with ⟨rfl,rfl⟩ | ⟨g,cap,cur,rfl,hg,hh,hn,hc,hs,ht⟩
 ·have e:xs=[]:=List.eq_nil_of_length_eq_zero (by simpa using h1)
  rw [e]
  exact Own.none _ _ _ _ _
 ·exact⟨h1,_,cap,rfl,hn,hc,.inr ⟨g,cur,rfl,hg,hh,hs,ht⟩⟩
theorem mem_strKeys {es:List (Lit×DataW Unit)} {k:List UInt8} (h:Maps.has (.map es) (.string k)=true):k∈strKeys (.map es:DataW Unit):=by
 rw [has_eq,List.any_eq_true] at h
 obtain⟨p,hp,hs⟩:=h
 refine List.mem_map.2 ⟨p,hp,?_⟩
 obtain⟨a,b⟩:=p
 cases a <;> simp [Lit.sameKey,strOf] at hs ⊢
 exact hs
theorem zero_str (w:World):(zeroValue 9).run Tryz.prog w = .ok (.string (ByteArray.mk #[])) w:=by kernel_rfl
theorem made_own {B:Nat} {w:World} {cur:Array Value} {e:TypeId} {R sz:Nat} (hB:B≤w.heap.size) (hs:cur.size=R*sz) (hR:R≤maxLen):Own B (w.alloc (.cells cur e)) e (.slice (some ⟨w.heap.size,0,none⟩) 0 R) sz 0 [] :=
 ⟨by simp,_,R,rfl,Nat.zero_le _,hR,.inr ⟨w.heap.size,cur,rfl,hB,heap_alloc_new w _,hs,by simp⟩⟩
end
end Go.Proofs.YtaijompnohkmaaaGreatDoor
