/- Layer 6 (kv), the document's answer: a transaction's bytes. -/
import Derived.Test.YtaijompnohkmaaaGreatDoorMT
set_option linter.unusedSimpArgs false
set_option linter.unusedVariables false
namespace Go.Proofs.YtaijompnohkmaaaGreatDoor
open Go.RowKit KvP PackP
set_option maxRecDepth 100000 in
set_option maxHeartbeats 4000000 in
theorem refbytes_any {B : Nat} (v : Value) (l : List ChangeP) (w : World) (hv : ChangesV B w v l) (hl : l.length ≤ 2 ^ 20) (hsz : ∀ c ∈ l,c.key.length ≤ 2 ^ 20 ∧ c.val.length ≤ 2 ^ 20) :
  Calls Tryz.prog 45 #[v] w fun e w'=>∃ v',e = .returned v' ∧ OwnB w.heap.size w' v' (bytesP l) ∧ Below w.heap.size w w':=by
 have hv:=hv.tight
 obtain ⟨_,a,c,rfl,h1,h2,_⟩:=id hv
 unfold maxLen at h2
 obtain ⟨N,hN⟩ : ∃ N,N = l.length:=⟨_,rfl⟩
 have hb0 : bytesK l 0 = [] ++ numB (N : Int):=by
  unfold bytesK
  rw [hN]
  simp
 have hHB:=Lib.hid (bytesK_all l)
 rw [← hHB.out,← hN]
 rw [← hN] at hv h1 hl
 have HN:=Lib.hid hN
 have HV:=Lib.hid hv
 have HSZ:=Lib.hid hsz
 have HB0:=Lib.hid hb0
 have HLN:=Lib.hid hl
 clear hN hv hsz hb0 hl hHB
 have kc:=refNum_any 0 (.slice none 0 0) [] (N : Int) w (nil_bytes _ _) (by simp)
 go_enter Tryz.func45,Tryz.ntmps45
 go_wp2_with fail
 refine kc.mono ?_
 rintro e w0 ⟨v0,rfl,ho0,hb0⟩
 clear kc
 rw [← HB0.out] at ho0
 have HO0:=Lib.hid ho0
 have HB2:=Lib.hid hb0
 clear ho0 hb0
 go_wp2_with fail
 go_loopw [3,4] (fun s i wr=>∃ k : Nat,k ≤ N ∧ i = .int .i64 k ∧ OwnB w.heap.size wr s (bytesK l k) ∧ Below w.heap.size w wr) (fun _ i _=>N - (intOf i).toNat)
 case atStart=>exact ⟨0,Nat.zero_le _,rfl,HO0.out,HB2.out⟩
 case round =>
  obtain ⟨k,hk,rfl,ho,hb⟩:=hrel
  clear HO0 HB2 HB0
  by_cases hkN : k < N
  ·have hkl : k < l.length:=HN.out ▸ hkN
   have k1 : (0 : Int) ≤ (k : Int):=by omega
   have k2 : (k : Int) < (N : Int):=by omega
   have k0 : decide ((k : Int) < (N : Int)) = true:=by simp;omega
   obtain ⟨b,off,rfl,hbb,hc⟩:=load_change HV.out hkl
   have hz:=HSZ.out _ (List.getElem_mem hkl)
   have hsucc:=bytesK_succ l k hkl
   have hlen : (bytesK l k).length ≤ 2 ^ 34:=len_bytesK l k (Nat.le_trans hk HLN.out)
   obtain ⟨⟨key,val,gn⟩,hx⟩ : ∃ x,x = l[k]:=⟨_,rfl⟩
   rw [← hx] at hc hz hsucc
   dsimp only at hc hz
   obtain ⟨sk,hsk⟩ : ∃ s,s = ByteArray.mk key.toArray:=⟨_,rfl⟩
   obtain ⟨sv,hsv⟩ : ∃ s,s = ByteArray.mk val.toArray:=⟨_,rfl⟩
   have L0 : ∀ w',Below w.heap.size w w' → w'.cell? ⟨b,off + k * 3,none⟩ = some (.string sk):=fun w' h=>by rw [hsk];exact (hc w' h).1
   have L1 : ∀ w',Below w.heap.size w w' → w'.cell? ⟨b,off + k * 3 + 1,none⟩ = some (.string sv):=fun w' h=>by rw [hsv];exact (hc w' h).2.1
   have S2:=(hc wr hb).2.2
   have hzk : sk.size ≤ 2 ^ 47:=by rw [hsk,str_size];omega
   have hzv : sv.size ≤ 2 ^ 47:=by rw [hsv,str_size];omega
   have htk : sk.data.toList = key:=by rw [hsk]
   have htv : sv.data.toList = val:=by rw [hsv]
   have HZK:=Lib.hid hzk
   have HZV:=Lib.hid hzv
   have HTK:=Lib.hid htk
   have HTV:=Lib.hid htv
   have HSU:=Lib.hid hsucc
   have HLE:=Lib.hid hlen
   have s0 : Below w.heap.size w wr.drew:=below_draws hb 1
   have hob:=(ho.bytes.below (below_draws (Below.refl _ wr) 1)).tight
   clear hsk hsv hz hzk hzv htk htv hsucc hlen hx hc ho
   cases gn with
  | true =>
    go_upto_region 6 with (fail)
    clear S2
    refine wp_region_I [(false,0),(false,2),(false,3),(false,4),(false,5),(false,6),(true,1),(true,7),(false,8)] (fun w'=>Below w.heap.size w w') (by kernel_rfl) (by kernel_rfl) s0 ?_
    repeat (first | (refine heldI_skip rfl rfl ?_;simp only [Act.put,List.setIfInBounds_toArray,List.set_cons_zero,List.set_cons_succ]) | (refine heldI_take rfl ?_ rfl (fun w' hw'=>?_) ?_;rotate_left;(go_simp;first | done | with_reducible rfl);(try simp only [Act.put,List.setIfInBounds_toArray,List.set_cons_zero,List.set_cons_succ])))
    refine heldI_act rfl rfl fun K hK=>?_
    have kc:=refNum_any _ _ _ (1 : Int) _ hob (by have:=HLE.out;omega)
    go_simp
    refine kc.mono ?_
    rintro e w1 ⟨u1,rfl,hu1,hb1⟩
    clear kc
    have s1:=s0.trans (hb1.mono s0.size)
    refine hK.out _ _ s1 ?_
    clear hK K
    repeat (first | (refine heldI_skip rfl rfl ?_;simp only [Act.put,List.setIfInBounds_toArray,List.set_cons_zero,List.set_cons_succ]) | (refine heldI_take rfl ?_ rfl (fun w' hw'=>?_) ?_;rotate_left;(go_simp;first | done | with_reducible rfl);(try simp only [Act.put,List.setIfInBounds_toArray,List.set_cons_zero,List.set_cons_succ])))
    refine heldI_act rfl rfl fun K hK=>?_
    have kc:=refText_any _ _ _ sk _ hu1.bytes (by have:=HLE.out;rw [List.length_append,length_numB];omega) HZK.out
    go_simp
    refine kc.mono ?_
    rintro e w2 ⟨u2,rfl,hu2,hb2⟩
    clear kc
    have s2:=s1.trans (hb2.mono s1.size)
    refine hK.out _ _ s2 ?_
    clear hK K
    repeat (first | (refine heldI_skip rfl rfl ?_;simp only [Act.put,List.setIfInBounds_toArray,List.set_cons_zero,List.set_cons_succ]) | (refine heldI_take rfl ?_ rfl (fun w' hw'=>?_) ?_;rotate_left;(go_simp;first | done | with_reducible rfl);(try simp only [Act.put,List.setIfInBounds_toArray,List.set_cons_zero,List.set_cons_succ])))
    refine heldI_nil ?_
    have hfin : OwnB w.heap.size w2 u2 (bytesK l (k + 1)):=by
     rw [HSU.out]
     unfold changeB
     rw [← HTK.out,← HTV.out]
     simp only [if_true,Bool.false_eq_true,if_false,← List.append_assoc]
     exact Own.lower hu2 s1.size
    have HFIN:=Lib.hid hfin
    clear hfin hu2
    go_wp2_with fail
    go_roundw
    case rel=>exact ⟨k + 1,by omega,by go_num,HFIN.out,s2⟩
    case measure=>simp [intOf];omega
  | false =>
    go_upto_region 7 with (fail)
    clear S2
    refine wp_region_I [(false,0),(false,2),(false,3),(false,4),(false,5),(false,6),(false,8),(false,9),(false,10),(false,11),(false,12),(true,1),(true,7),(true,13),(false,14)] (fun w'=>Below w.heap.size w w') (by kernel_rfl) (by kernel_rfl) s0 ?_
    repeat (first | (refine heldI_skip rfl rfl ?_;simp only [Act.put,List.setIfInBounds_toArray,List.set_cons_zero,List.set_cons_succ]) | (refine heldI_take rfl ?_ rfl (fun w' hw'=>?_) ?_;rotate_left;(go_simp;first | done | with_reducible rfl);(try simp only [Act.put,List.setIfInBounds_toArray,List.set_cons_zero,List.set_cons_succ])))
    refine heldI_act rfl rfl fun K hK=>?_
    have kc:=refNum_any _ _ _ (0 : Int) _ hob (by have:=HLE.out;omega)
    go_simp
    refine kc.mono ?_
    rintro e w1 ⟨u1,rfl,hu1,hb1⟩
    clear kc
    have s1:=s0.trans (hb1.mono s0.size)
    refine hK.out _ _ s1 ?_
    clear hK K
    repeat (first | (refine heldI_skip rfl rfl ?_;simp only [Act.put,List.setIfInBounds_toArray,List.set_cons_zero,List.set_cons_succ]) | (refine heldI_take rfl ?_ rfl (fun w' hw'=>?_) ?_;rotate_left;(go_simp;first | done | with_reducible rfl);(try simp only [Act.put,List.setIfInBounds_toArray,List.set_cons_zero,List.set_cons_succ])))
    refine heldI_act rfl rfl fun K hK=>?_
    have kc:=refText_any _ _ _ sk _ hu1.bytes (by have:=HLE.out;rw [List.length_append,length_numB];omega) HZK.out
    go_simp
    refine kc.mono ?_
    rintro e w2 ⟨u2,rfl,hu2,hb2⟩
    clear kc
    have s2:=s1.trans (hb2.mono s1.size)
    refine hK.out _ _ s2 ?_
    clear hK K
    repeat (first | (refine heldI_skip rfl rfl ?_;simp only [Act.put,List.setIfInBounds_toArray,List.set_cons_zero,List.set_cons_succ]) | (refine heldI_take rfl ?_ rfl (fun w' hw'=>?_) ?_;rotate_left;(go_simp;first | done | with_reducible rfl);(try simp only [Act.put,List.setIfInBounds_toArray,List.set_cons_zero,List.set_cons_succ])))
    refine heldI_act rfl rfl fun K hK=>?_
    have kc:=refText_any _ _ _ sv _ hu2.bytes (by have:=HLE.out;have:=length_textB sk.data.toList;rw [List.length_append,List.length_append,length_numB];omega) HZV.out
    go_simp
    refine kc.mono ?_
    rintro e w3 ⟨u3,rfl,hu3,hb3⟩
    clear kc
    have s3:=s2.trans (hb3.mono s2.size)
    refine hK.out _ _ s3 ?_
    clear hK K
    repeat (first | (refine heldI_skip rfl rfl ?_;simp only [Act.put,List.setIfInBounds_toArray,List.set_cons_zero,List.set_cons_succ]) | (refine heldI_take rfl ?_ rfl (fun w' hw'=>?_) ?_;rotate_left;(go_simp;first | done | with_reducible rfl);(try simp only [Act.put,List.setIfInBounds_toArray,List.set_cons_zero,List.set_cons_succ])))
    refine heldI_nil ?_
    have hfin : OwnB w.heap.size w3 u3 (bytesK l (k + 1)):=by
     rw [HSU.out]
     unfold changeB
     rw [← HTK.out,← HTV.out]
     simp only [if_true,Bool.false_eq_true,if_false,← List.append_assoc]
     exact Own.lower hu3 s2.size
    have HFIN:=Lib.hid hfin
    clear hfin hu3
    go_wp2_with fail
    go_roundw
    case rel=>exact ⟨k + 1,by omega,by go_num,HFIN.out,s3⟩
    case measure=>simp [intOf];omega
  ·have k0 : decide ((k : Int) < (N : Int)) = false:=by simp;omega
   obtain rfl : k = N:=by omega
   have HO:=Lib.hid ho
   clear ho
   go_wp2_with fail
   go_ret
   exact ⟨_,rfl,HO.out,hb⟩
end Go.Proofs.YtaijompnohkmaaaGreatDoor
