/- Layer 6 (kv), the document's answer: may pairs be. -/
import Derived.Test.YtaijompnohkmaaaGreatDoorMT
set_option linter.unusedSimpArgs false
set_option linter.unusedVariables false
namespace Go.Proofs.YtaijompnohkmaaaGreatDoor
open Go.RowKit KvP
def goodR (l : List PairP) (i : Nat) (p : PairP) : Bool:=mayP p.key p.val && (decide (i = 0) || match l[i - 1]? with | some q=>decide (q.key < p.key) | none=>true)
theorem goodAt_eq (l : List PairP) (i : Nat) (p : PairP) : goodAt l i p = (decide (i < 400) && goodR l i p):=by
 unfold goodAt goodR
 rw [Bool.and_assoc]
 rfl
set_option maxRecDepth 100000 in
set_option maxHeartbeats 4000000 in
theorem refpairs_any {B : Nat} (v : Value) (l : List PairP) (w : World) (hv : PairsV B w v l) : Calls Tryz.prog 33 #[v] w fun e w'=>e = .returned (.bool (pairsB l)) ∧ Below w.heap.size w w':=by
 have hv:=hv.tight
 obtain ⟨_,a,c,rfl,h1,h2,_⟩:=id hv
 unfold maxLen at h2
 obtain ⟨N,hN⟩ : ∃ N,N = l.length:=⟨_,rfl⟩
 rw [← hN] at hv h1 ⊢
 have HN:=Lib.hid hN
 have HV:=Lib.hid hv
 clear hN hv
 go_enter Tryz.func33,Tryz.ntmps33
 go_wp2_with fail
 go_loopw [3] (fun i wr=>∃ k : Nat,k ≤ N ∧ k ≤ 401 ∧ i = .int .i64 k ∧ Below w.heap.size w wr ∧ Hid (∀ i (_ : i < k) (h' : i < l.length),goodR l i l[i] = true)) (fun i _=>N - (intOf i).toNat)
 case atStart=>exact ⟨0,Nat.zero_le _,by decide,rfl,Below.refl _ _,Lib.hid (fun i h=>absurd h (Nat.not_lt_zero _))⟩
 case round =>
  obtain ⟨k,hk,hk401,rfl,hb,HG⟩:=hrel
  by_cases hkN : k < N
  ·have k0 : decide ((k : Int) < (N : Int)) = true:=by simp;omega
   by_cases hk4 : k < 401
   ·have q4 : decide ((k : Int) < 401) = true:=by simp;omega
    have hkl : k < l.length:=HN.out ▸ hkN
    have k1 : (0 : Int) ≤ (k : Int):=by omega
    have k2 : (k : Int) < (N : Int):=by omega
    obtain ⟨b,off,rfl,hbb,hc⟩:=load_pair HV.out hkl
    obtain ⟨sk,hsk⟩ : ∃ s,s = ByteArray.mk l[k].key.toArray:=⟨_,rfl⟩
    obtain ⟨sv,hsv⟩ : ∃ s,s = ByteArray.mk l[k].val.toArray:=⟨_,rfl⟩
    have L0 : ∀ w',Below w.heap.size w w' → w'.cell? ⟨b,off + k * 2,none⟩ = some (.string sk):=fun w' h=>by rw [hsk];exact (hc w' h).1
    have L1 : ∀ w',Below w.heap.size w w' → w'.cell? ⟨b,off + k * 2 + 1,none⟩ = some (.string sv):=fun w' h=>by rw [hsv];exact (hc w' h).2
    have s0 : Below w.heap.size w wr.drew:=below_draws hb 1
    have HSK:=Lib.hid hsk
    have HSV:=Lib.hid hsv
    have km : ∀ w',Calls Tryz.prog 71 #[.string sk,.string sv] w' fun e w''=>e = .returned (.bool (mayP l[k].key l[k].val)) ∧ w' = w'':=fun w'=>by
     rw [HSK.out,HSV.out]
     exact refmay_any _ _ w'
    obtain ⟨cm,hcm⟩ : ∃ x,x = mayP l[k].key l[k].val:=⟨_,rfl⟩
    rw [← hcm] at km
    have HCM:=Lib.hid hcm
    have KM:=Lib.hid km
    clear hcm km hsk hsv hc
    go_upto_region 4 with (fail)
    cases cm with
    | false =>
     have hfin : pairsB l = false:=by
      rw [Bool.eq_false_iff]
      intro h
      have:=pairsB_iff.1 h k hkl
      unfold goodAt at this
      rw [← HCM.out] at this
      simp at this
     have HFIN:=Lib.hid hfin
     clear hfin
     refine wp_region_I [(false,0),(false,1),(false,2),(false,3),(false,4),(false,5),(false,6),(false,7),(false,8),(false,9),(true,10),(false,11),(false,12),(false,13),(false,14),(false,15),(false,16),(false,17),(false,18),(false,19),(false,20),(false,21),(false,22),(false,23),(false,24),(false,25),(false,26),(false,27),(false,28),(false,29)] (fun w'=>Below w.heap.size w w') (by kernel_rfl) (by kernel_rfl) s0 ?_
     repeat (first | (refine heldI_skip rfl rfl ?_;simp only [Act.put,List.setIfInBounds_toArray,List.set_cons_zero,List.set_cons_succ]) | (refine heldI_take rfl ?_ rfl (fun w' hw'=>?_) ?_;rotate_left;(go_simp;first | done | with_reducible rfl);(try simp only [Act.put,List.setIfInBounds_toArray,List.set_cons_zero,List.set_cons_succ])))
     refine heldI_act rfl rfl fun K hK=>?_
     go_simp
     refine (KM.out _).mono ?_
     rintro e w5 ⟨rfl,rfl⟩
     refine hK.out _ _ s0 ?_
     clear hK K
     repeat (first | (refine heldI_skip rfl rfl ?_;simp only [Act.put,List.setIfInBounds_toArray,List.set_cons_zero,List.set_cons_succ]) | (refine heldI_take rfl ?_ rfl (fun w' hw'=>?_) ?_;rotate_left;(go_simp;first | done | with_reducible rfl);(try simp only [Act.put,List.setIfInBounds_toArray,List.set_cons_zero,List.set_cons_succ])))
     refine heldI_nil ?_
     go_wp2_with fail
     go_ret
     exact ⟨by rw [HFIN.out];rfl,s0⟩
    | true =>
     cases k with
     | zero =>
      have L0':=L0
      have L1':=L1
      rw [Nat.zero_mul,Nat.add_zero] at L0' L1'
      have hok : goodR l 0 l[0] = true:=by
       unfold goodR
       rw [← HCM.out]
       simp
      have HOK:=Lib.hid hok
      clear hok
      refine wp_region_I [(false,0),(false,1),(false,2),(false,3),(false,4),(false,5),(false,6),(false,7),(false,8),(false,9),(true,10),(false,11),(false,12),(false,13),(false,14),(false,15),(false,16),(false,17),(false,18),(false,19),(false,20),(false,21),(false,22),(false,23),(false,24),(false,25),(false,26),(false,27),(false,28),(false,29)] (fun w'=>Below w.heap.size w w') (by kernel_rfl) (by kernel_rfl) s0 ?_
      repeat (first | (refine heldI_skip rfl rfl ?_;simp only [Act.put,List.setIfInBounds_toArray,List.set_cons_zero,List.set_cons_succ]) | (refine heldI_take rfl ?_ rfl (fun w' hw'=>?_) ?_;rotate_left;(go_simp;first | done | with_reducible rfl);(try simp only [Act.put,List.setIfInBounds_toArray,List.set_cons_zero,List.set_cons_succ])))
      refine heldI_act rfl rfl fun K hK=>?_
      go_simp
      refine (KM.out _).mono ?_
      rintro e w5 ⟨rfl,rfl⟩
      refine hK.out _ _ s0 ?_
      clear hK K
      repeat (first | (refine heldI_skip rfl rfl ?_;simp only [Act.put,List.setIfInBounds_toArray,List.set_cons_zero,List.set_cons_succ]) | (refine heldI_take rfl ?_ rfl (fun w' hw'=>?_) ?_;rotate_left;(go_simp;first | done | with_reducible rfl);(try simp only [Act.put,List.setIfInBounds_toArray,List.set_cons_zero,List.set_cons_succ])))
      refine heldI_nil ?_
      go_wp2_with fail
      go_roundw
      case rel =>
       refine ⟨0 + 1,by omega,by omega,by go_num,s0,Lib.hid (fun i hi h'=>?_)⟩
       by_cases hik : i < 0
       ·exact HG.out i hik h'
       ·obtain rfl : i = 0:=by omega
        exact HOK.out
      case measure=>simp [intOf];omega
     | succ j =>
      obtain ⟨b',off',he',_,hc'⟩:=load_pair HV.out (show j < l.length by omega)
      cases he'
      obtain ⟨sp,hsp⟩ : ∃ s,s = ByteArray.mk l[j].key.toArray:=⟨_,rfl⟩
      have L2 : ∀ w',Below w.heap.size w w' → w'.cell? ⟨b,off + j * 2,none⟩ = some (.string sp):=fun w' h=>by
       rw [hsp]
       exact (hc' w' h).1
      obtain ⟨cl,hcl⟩ : ∃ x,x = decide (l[j].key < l[j + 1].key):=⟨_,rfl⟩
      have kb : Op.bytesLess sp.toList sk.toList = cl:=by rw [hsp,HSK.out,str_list,str_list,bytesLess_eq,hcl]
      have hok : goodR l (j + 1) l[j + 1] = cl:=by
       unfold goodR
       rw [← HCM.out,Nat.add_sub_cancel,List.getElem?_eq_getElem (show j < l.length by omega)]
       simp [hcl]
      have HOK:=Lib.hid hok
      clear hok hcl hsp hc'
      have k1' : (0 : Int) ≤ (j : Int) + 1:=by omega
      have k2' : (j : Int) + 1 < (N : Int):=by omega
      have j1 : (0 : Int) ≤ (j : Int):=by omega
      have j2 : (j : Int) < (N : Int):=by omega
      have hwj : IntKind.i64.wrap (j : Int) = (j : Int):=by
       simp only [IntKind.wrap,IntKind.bits,IntKind.signed]
       simp
       omega
      have c2 : decide ((0 : Int) < (j : Int) + 1) = true:=decide_eq_true (by omega)
      cases cl with
      | false =>
       have hfin : pairsB l = false:=by
        rw [Bool.eq_false_iff]
        intro h
        have:=pairsB_iff.1 h (j + 1) hkl
        rw [goodAt_eq,HOK.out] at this
        simp at this
       have HFIN:=Lib.hid hfin
       clear hfin
       refine wp_region_I [(false,0),(false,1),(false,2),(false,3),(false,4),(false,5),(false,6),(false,7),(false,8),(false,9),(true,10),(false,11),(false,12),(false,13),(false,14),(false,15),(false,16),(false,17),(false,18),(false,19),(false,20),(false,21),(false,22),(false,23),(false,24),(false,25),(false,26),(false,27),(false,28),(false,29)] (fun w'=>Below w.heap.size w w') (by kernel_rfl) (by kernel_rfl) s0 ?_
       repeat (first | (refine heldI_skip rfl rfl ?_;simp only [Act.put,List.setIfInBounds_toArray,List.set_cons_zero,List.set_cons_succ]) | (refine heldI_take rfl ?_ rfl (fun w' hw'=>?_) ?_;rotate_left;(go_simp;first | done | with_reducible rfl);(try simp only [Act.put,List.setIfInBounds_toArray,List.set_cons_zero,List.set_cons_succ])))
       refine heldI_act rfl rfl fun K hK=>?_
       go_simp
       refine (KM.out _).mono ?_
       rintro e w5 ⟨rfl,rfl⟩
       refine hK.out _ _ s0 ?_
       clear hK K
       repeat (first | (refine heldI_skip rfl rfl ?_;simp only [Act.put,List.setIfInBounds_toArray,List.set_cons_zero,List.set_cons_succ]) | (refine heldI_take rfl ?_ rfl (fun w' hw'=>?_) ?_;rotate_left;(go_simp;first | done | with_reducible rfl);(try simp only [Act.put,List.setIfInBounds_toArray,List.set_cons_zero,List.set_cons_succ])))
       refine heldI_nil ?_
       go_wp2_with fail
       go_ret
       exact ⟨by rw [HFIN.out];rfl,s0⟩
      | true =>
       refine wp_region_I [(false,0),(false,1),(false,2),(false,3),(false,4),(false,5),(false,6),(false,7),(false,8),(false,9),(true,10),(false,11),(false,12),(false,13),(false,14),(false,15),(false,16),(false,17),(false,18),(false,19),(false,20),(false,21),(false,22),(false,23),(false,24),(false,25),(false,26),(false,27),(false,28),(false,29)] (fun w'=>Below w.heap.size w w') (by kernel_rfl) (by kernel_rfl) s0 ?_
       repeat (first | (refine heldI_skip rfl rfl ?_;simp only [Act.put,List.setIfInBounds_toArray,List.set_cons_zero,List.set_cons_succ]) | (refine heldI_take rfl ?_ rfl (fun w' hw'=>?_) ?_;rotate_left;(go_simp;first | done | with_reducible rfl);(try simp only [Act.put,List.setIfInBounds_toArray,List.set_cons_zero,List.set_cons_succ])))
       refine heldI_act rfl rfl fun K hK=>?_
       go_simp
       refine (KM.out _).mono ?_
       rintro e w5 ⟨rfl,rfl⟩
       refine hK.out _ _ s0 ?_
       clear hK K
       repeat (first | (refine heldI_skip rfl rfl ?_;simp only [Act.put,List.setIfInBounds_toArray,List.set_cons_zero,List.set_cons_succ]) | (refine heldI_take rfl ?_ rfl (fun w' hw'=>?_) ?_;rotate_left;(go_simp;first | done | with_reducible rfl);(try simp only [Act.put,List.setIfInBounds_toArray,List.set_cons_zero,List.set_cons_succ])))
       refine heldI_nil ?_
       go_wp2_with fail
       go_roundw
       case rel =>
        refine ⟨(j + 1) + 1,by omega,by omega,by go_num,s0,Lib.hid (fun i hi h'=>?_)⟩
        by_cases hik : i < (j + 1)
        ·exact HG.out i hik h'
        ·obtain rfl : i = (j + 1):=by omega
         exact HOK.out
       case measure=>simp [intOf];omega
   ·have q4 : decide ((k : Int) < 401) = false:=by simp;omega
    have q5 : decide ((N : Int) ≤ 400) = false:=by simp;omega
    have hfin : pairsB l = false:=by
     rw [Bool.eq_false_iff]
     intro h
     have:=(pairsB_parts h).1
     have:=HN.out
     omega
    have HFIN:=Lib.hid hfin
    clear hfin
    go_wp2_with fail
    go_ret
    exact ⟨by rw [HFIN.out];rfl,hb⟩
  ·have k0 : decide ((k : Int) < (N : Int)) = false:=by simp;omega
   have hfin : pairsB l = decide ((N : Int) ≤ 400):=by
    by_cases h4 : N ≤ 400
    ·rw [decide_eq_true (by omega)]
     refine pairsB_iff.2 (fun i hi=>?_)
     have:=HN.out
     rw [goodAt_eq,HG.out i (by omega) hi,decide_eq_true (show i < 400 by omega)]
     rfl
    ·rw [decide_eq_false (by omega),Bool.eq_false_iff]
     intro h
     have:=(pairsB_parts h).1
     have:=HN.out
     omega
   have HFIN:=Lib.hid hfin
   clear hfin
   go_wp2_with fail
   go_ret
   exact ⟨by rw [HFIN.out];rfl,hb⟩
end Go.Proofs.YtaijompnohkmaaaGreatDoor
