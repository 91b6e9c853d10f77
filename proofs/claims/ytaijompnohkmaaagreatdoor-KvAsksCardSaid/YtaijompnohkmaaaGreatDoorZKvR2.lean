/- Layer 6 (kv), the document's answer: may changes be. -/
import Derived.Test.YtaijompnohkmaaaGreatDoorZKvR1
set_option linter.unusedSimpArgs false
set_option linter.unusedVariables false
namespace Go.Proofs.YtaijompnohkmaaaGreatDoor
open Go.RowKit KvP
theorem okC_eq (c : ChangeP) : okC c = (mayP c.key c.val && !(c.gone && !c.val.isEmpty)):=by
 unfold okC
 cases c.val <;> simp
set_option maxRecDepth 100000 in
set_option maxHeartbeats 4000000 in
theorem refchanges_any {B : Nat} (v : Value) (l : List ChangeP) (w : World) (hv : ChangesV B w v l) : Calls Tryz.prog 36 #[v] w fun e w'=>e = .returned (.bool (changesB l)) ∧ Below w.heap.size w w':=by
 have hv:=hv.tight
 obtain ⟨_,a,c,rfl,h1,h2,_⟩:=id hv
 unfold maxLen at h2
 obtain ⟨N,hN⟩ : ∃ N,N = l.length:=⟨_,rfl⟩
 rw [← hN] at hv h1 ⊢
 have HN:=Lib.hid hN
 have HV:=Lib.hid hv
 clear hN hv
 go_enter Tryz.func36,Tryz.ntmps36
 go_wp2_with fail
 go_loopw [3] (fun i wr=>∃ k : Nat,k ≤ N ∧ k ≤ 401 ∧ i = .int .i64 k ∧ Below w.heap.size w wr ∧ Hid (∀ c ∈ l.take k,okC c = true)) (fun i _=>N - (intOf i).toNat)
 case atStart=>exact ⟨0,Nat.zero_le _,by decide,rfl,Below.refl _ _,Lib.hid (fun c h=>by simp at h)⟩
 case round =>
  obtain ⟨k,hk,hk401,rfl,hb,HG⟩:=hrel
  by_cases hkN : k < N
  ·have k0 : decide ((k : Int) < (N : Int)) = true:=by simp;omega
   by_cases hk4 : k < 401
   ·have q4 : decide ((k : Int) < 401) = true:=by simp;omega
    have hkl : k < l.length:=HN.out ▸ hkN
    have k1 : (0 : Int) ≤ (k : Int):=by omega
    have k2 : (k : Int) < (N : Int):=by omega
    obtain ⟨b,off,rfl,hbb,hc⟩:=load_change HV.out hkl
    obtain ⟨x,hx⟩ : ∃ x,x = l[k]:=⟨_,rfl⟩
    have hbad : okC x = false → changesB l = false:=fun h=>by
     unfold changesB
     rw [Bool.and_eq_false_iff]
     refine .inr ?_
     rw [Bool.eq_false_iff]
     intro h'
     have:=List.all_eq_true.1 h' _ (List.getElem_mem hkl)
     rw [← hx,h] at this
     cases this
    have hgood : okC x = true → ∀ c ∈ l.take (k + 1),okC c = true:=fun h c hc=>by
     rw [List.take_succ_eq_append_getElem hkl] at hc
     rcases List.mem_append.1 hc with hc | hc
     ·exact HG.out c hc
     ·rw [List.mem_singleton.1 hc,← hx];exact h
    rw [← hx] at hc
    obtain ⟨key,val,gn⟩:=x
    dsimp only at hc
    obtain ⟨sk,hsk⟩ : ∃ s,s = ByteArray.mk key.toArray:=⟨_,rfl⟩
    obtain ⟨sv,hsv⟩ : ∃ s,s = ByteArray.mk val.toArray:=⟨_,rfl⟩
    have L0 : ∀ w',Below w.heap.size w w' → w'.cell? ⟨b,off + k * 3,none⟩ = some (.string sk):=fun w' h=>by rw [hsk];exact (hc w' h).1
    have L1 : ∀ w',Below w.heap.size w w' → w'.cell? ⟨b,off + k * 3 + 1,none⟩ = some (.string sv):=fun w' h=>by rw [hsv];exact (hc w' h).2.1
    have L2 : ∀ w',Below w.heap.size w w' → w'.cell? ⟨b,off + k * 3 + 2,none⟩ = some (.bool gn):=fun w' h=>(hc w' h).2.2
    have s0 : Below w.heap.size w wr.drew:=below_draws hb 1
    have HSK:=Lib.hid hsk
    have HSV:=Lib.hid hsv
    have km : ∀ w',Calls Tryz.prog 71 #[.string sk,.string sv] w' fun e w''=>e = .returned (.bool (mayP key val)) ∧ w' = w'':=fun w'=>by
     rw [HSK.out,HSV.out]
     exact refmay_any _ _ w'
    obtain ⟨cm,hcm⟩ : ∃ x,x = mayP key val:=⟨_,rfl⟩
    obtain ⟨ce,hce⟩ : ∃ x,x = sv.toList.isEmpty:=⟨_,rfl⟩
    have hok : okC ⟨key,val,gn⟩ = (cm && !(gn && !ce)):=by rw [okC_eq,hcm,hce,HSV.out,str_list]
    rw [hok] at hbad hgood
    rw [← hcm] at km
    have q0 : sv.toList.isEmpty = ce:=hce.symm
    have HBAD:=Lib.hid hbad
    have HGOOD:=Lib.hid hgood
    have KM:=Lib.hid km
    clear hcm km hsk hsv hc hx hbad hgood hok hce
    go_upto_region 4 with (fail)
    cases cm <;> cases gn <;> cases ce
    ·skip
     refine wp_region_I [(false,0),(false,1),(false,2),(false,3),(false,4),(false,5),(false,6),(false,7),(false,8),(false,9),(true,10),(false,11),(false,12),(false,13),(false,14),(false,15),(false,16),(false,17),(false,18),(false,19),(false,20),(false,21),(false,22),(false,23),(false,24),(false,25),(false,26)] (fun w'=>Below w.heap.size w w') (by kernel_rfl) (by kernel_rfl) s0 ?_
     repeat (first | (refine heldI_skip rfl rfl ?_;simp only [Act.put,List.setIfInBounds_toArray,List.set_cons_zero,List.set_cons_succ]) | (refine heldI_take rfl ?_ rfl (fun w' hw'=>?_) ?_;rotate_left;(go_simp;first | done | with_reducible rfl);(try simp only [Act.put,List.setIfInBounds_toArray,List.set_cons_zero,List.set_cons_succ])))
     refine heldI_act rfl rfl fun K hK=>?_
     go_simp
     refine (KM.out _).mono ?_
     rintro e w5 ⟨rfl,rfl⟩
     refine hK.out _ _ s0 ?_
     clear hK K
     repeat (first | (refine heldI_skip rfl rfl ?_;simp only [Act.put,List.setIfInBounds_toArray,List.set_cons_zero,List.set_cons_succ]) | (refine heldI_take rfl ?_ rfl (fun w' hw'=>?_) ?_;rotate_left;(go_simp;first | done | with_reducible rfl);(try simp only [Act.put,List.setIfInBounds_toArray,List.set_cons_zero,List.set_cons_succ])))
     refine heldI_nil ?_
     go_wp2_with fail
     go_ret
     exact ⟨by rw [HBAD.out rfl];rfl,s0⟩
    ·skip
     refine wp_region_I [(false,0),(false,1),(false,2),(false,3),(false,4),(false,5),(false,6),(false,7),(false,8),(false,9),(true,10),(false,11),(false,12),(false,13),(false,14),(false,15),(false,16),(false,17),(false,18),(false,19),(false,20),(false,21),(false,22),(false,23),(false,24),(false,25),(false,26)] (fun w'=>Below w.heap.size w w') (by kernel_rfl) (by kernel_rfl) s0 ?_
     repeat (first | (refine heldI_skip rfl rfl ?_;simp only [Act.put,List.setIfInBounds_toArray,List.set_cons_zero,List.set_cons_succ]) | (refine heldI_take rfl ?_ rfl (fun w' hw'=>?_) ?_;rotate_left;(go_simp;first | done | with_reducible rfl);(try simp only [Act.put,List.setIfInBounds_toArray,List.set_cons_zero,List.set_cons_succ])))
     refine heldI_act rfl rfl fun K hK=>?_
     go_simp
     refine (KM.out _).mono ?_
     rintro e w5 ⟨rfl,rfl⟩
     refine hK.out _ _ s0 ?_
     clear hK K
     repeat (first | (refine heldI_skip rfl rfl ?_;simp only [Act.put,List.setIfInBounds_toArray,List.set_cons_zero,List.set_cons_succ]) | (refine heldI_take rfl ?_ rfl (fun w' hw'=>?_) ?_;rotate_left;(go_simp;first | done | with_reducible rfl);(try simp only [Act.put,List.setIfInBounds_toArray,List.set_cons_zero,List.set_cons_succ])))
     refine heldI_nil ?_
     go_wp2_with fail
     go_ret
     exact ⟨by rw [HBAD.out rfl];rfl,s0⟩
    ·skip
     refine wp_region_I [(false,0),(false,1),(false,2),(false,3),(false,4),(false,5),(false,6),(false,7),(false,8),(false,9),(true,10),(false,11),(false,12),(false,13),(false,14),(false,15),(false,16),(false,17),(false,18),(false,19),(false,20),(false,21),(false,22),(false,23),(false,24),(false,25),(false,26)] (fun w'=>Below w.heap.size w w') (by kernel_rfl) (by kernel_rfl) s0 ?_
     repeat (first | (refine heldI_skip rfl rfl ?_;simp only [Act.put,List.setIfInBounds_toArray,List.set_cons_zero,List.set_cons_succ]) | (refine heldI_take rfl ?_ rfl (fun w' hw'=>?_) ?_;rotate_left;(go_simp;first | done | with_reducible rfl);(try simp only [Act.put,List.setIfInBounds_toArray,List.set_cons_zero,List.set_cons_succ])))
     refine heldI_act rfl rfl fun K hK=>?_
     go_simp
     refine (KM.out _).mono ?_
     rintro e w5 ⟨rfl,rfl⟩
     refine hK.out _ _ s0 ?_
     clear hK K
     repeat (first | (refine heldI_skip rfl rfl ?_;simp only [Act.put,List.setIfInBounds_toArray,List.set_cons_zero,List.set_cons_succ]) | (refine heldI_take rfl ?_ rfl (fun w' hw'=>?_) ?_;rotate_left;(go_simp;first | done | with_reducible rfl);(try simp only [Act.put,List.setIfInBounds_toArray,List.set_cons_zero,List.set_cons_succ])))
     refine heldI_nil ?_
     go_wp2_with fail
     go_ret
     exact ⟨by rw [HBAD.out rfl];rfl,s0⟩
    ·skip
     refine wp_region_I [(false,0),(false,1),(false,2),(false,3),(false,4),(false,5),(false,6),(false,7),(false,8),(false,9),(true,10),(false,11),(false,12),(false,13),(false,14),(false,15),(false,16),(false,17),(false,18),(false,19),(false,20),(false,21),(false,22),(false,23),(false,24),(false,25),(false,26)] (fun w'=>Below w.heap.size w w') (by kernel_rfl) (by kernel_rfl) s0 ?_
     repeat (first | (refine heldI_skip rfl rfl ?_;simp only [Act.put,List.setIfInBounds_toArray,List.set_cons_zero,List.set_cons_succ]) | (refine heldI_take rfl ?_ rfl (fun w' hw'=>?_) ?_;rotate_left;(go_simp;first | done | with_reducible rfl);(try simp only [Act.put,List.setIfInBounds_toArray,List.set_cons_zero,List.set_cons_succ])))
     refine heldI_act rfl rfl fun K hK=>?_
     go_simp
     refine (KM.out _).mono ?_
     rintro e w5 ⟨rfl,rfl⟩
     refine hK.out _ _ s0 ?_
     clear hK K
     repeat (first | (refine heldI_skip rfl rfl ?_;simp only [Act.put,List.setIfInBounds_toArray,List.set_cons_zero,List.set_cons_succ]) | (refine heldI_take rfl ?_ rfl (fun w' hw'=>?_) ?_;rotate_left;(go_simp;first | done | with_reducible rfl);(try simp only [Act.put,List.setIfInBounds_toArray,List.set_cons_zero,List.set_cons_succ])))
     refine heldI_nil ?_
     go_wp2_with fail
     go_ret
     exact ⟨by rw [HBAD.out rfl];rfl,s0⟩
    ·skip
     refine wp_region_I [(false,0),(false,1),(false,2),(false,3),(false,4),(false,5),(false,6),(false,7),(false,8),(false,9),(true,10),(false,11),(false,12),(false,13),(false,14),(false,15),(false,16),(false,17),(false,18),(false,19),(false,20),(false,21),(false,22),(false,23),(false,24),(false,25),(false,26)] (fun w'=>Below w.heap.size w w') (by kernel_rfl) (by kernel_rfl) s0 ?_
     repeat (first | (refine heldI_skip rfl rfl ?_;simp only [Act.put,List.setIfInBounds_toArray,List.set_cons_zero,List.set_cons_succ]) | (refine heldI_take rfl ?_ rfl (fun w' hw'=>?_) ?_;rotate_left;(go_simp;first | done | with_reducible rfl);(try simp only [Act.put,List.setIfInBounds_toArray,List.set_cons_zero,List.set_cons_succ])))
     refine heldI_act rfl rfl fun K hK=>?_
     go_simp
     refine (KM.out _).mono ?_
     rintro e w5 ⟨rfl,rfl⟩
     refine hK.out _ _ s0 ?_
     clear hK K
     repeat (first | (refine heldI_skip rfl rfl ?_;simp only [Act.put,List.setIfInBounds_toArray,List.set_cons_zero,List.set_cons_succ]) | (refine heldI_take rfl ?_ rfl (fun w' hw'=>?_) ?_;rotate_left;(go_simp;first | done | with_reducible rfl);(try simp only [Act.put,List.setIfInBounds_toArray,List.set_cons_zero,List.set_cons_succ])))
     refine heldI_nil ?_
     go_wp2_with fail
     go_roundw
     case rel=>exact ⟨k + 1,by omega,by omega,by go_num,s0,Lib.hid (HGOOD.out rfl)⟩
     case measure=>simp [intOf];omega
    ·skip
     refine wp_region_I [(false,0),(false,1),(false,2),(false,3),(false,4),(false,5),(false,6),(false,7),(false,8),(false,9),(true,10),(false,11),(false,12),(false,13),(false,14),(false,15),(false,16),(false,17),(false,18),(false,19),(false,20),(false,21),(false,22),(false,23),(false,24),(false,25),(false,26)] (fun w'=>Below w.heap.size w w') (by kernel_rfl) (by kernel_rfl) s0 ?_
     repeat (first | (refine heldI_skip rfl rfl ?_;simp only [Act.put,List.setIfInBounds_toArray,List.set_cons_zero,List.set_cons_succ]) | (refine heldI_take rfl ?_ rfl (fun w' hw'=>?_) ?_;rotate_left;(go_simp;first | done | with_reducible rfl);(try simp only [Act.put,List.setIfInBounds_toArray,List.set_cons_zero,List.set_cons_succ])))
     refine heldI_act rfl rfl fun K hK=>?_
     go_simp
     refine (KM.out _).mono ?_
     rintro e w5 ⟨rfl,rfl⟩
     refine hK.out _ _ s0 ?_
     clear hK K
     repeat (first | (refine heldI_skip rfl rfl ?_;simp only [Act.put,List.setIfInBounds_toArray,List.set_cons_zero,List.set_cons_succ]) | (refine heldI_take rfl ?_ rfl (fun w' hw'=>?_) ?_;rotate_left;(go_simp;first | done | with_reducible rfl);(try simp only [Act.put,List.setIfInBounds_toArray,List.set_cons_zero,List.set_cons_succ])))
     refine heldI_nil ?_
     go_wp2_with fail
     go_roundw
     case rel=>exact ⟨k + 1,by omega,by omega,by go_num,s0,Lib.hid (HGOOD.out rfl)⟩
     case measure=>simp [intOf];omega
    ·skip
     refine wp_region_I [(false,0),(false,1),(false,2),(false,3),(false,4),(false,5),(false,6),(false,7),(false,8),(false,9),(true,10),(false,11),(false,12),(false,13),(false,14),(false,15),(false,16),(false,17),(false,18),(false,19),(false,20),(false,21),(false,22),(false,23),(false,24),(false,25),(false,26)] (fun w'=>Below w.heap.size w w') (by kernel_rfl) (by kernel_rfl) s0 ?_
     repeat (first | (refine heldI_skip rfl rfl ?_;simp only [Act.put,List.setIfInBounds_toArray,List.set_cons_zero,List.set_cons_succ]) | (refine heldI_take rfl ?_ rfl (fun w' hw'=>?_) ?_;rotate_left;(go_simp;first | done | with_reducible rfl);(try simp only [Act.put,List.setIfInBounds_toArray,List.set_cons_zero,List.set_cons_succ])))
     refine heldI_act rfl rfl fun K hK=>?_
     go_simp
     refine (KM.out _).mono ?_
     rintro e w5 ⟨rfl,rfl⟩
     refine hK.out _ _ s0 ?_
     clear hK K
     repeat (first | (refine heldI_skip rfl rfl ?_;simp only [Act.put,List.setIfInBounds_toArray,List.set_cons_zero,List.set_cons_succ]) | (refine heldI_take rfl ?_ rfl (fun w' hw'=>?_) ?_;rotate_left;(go_simp;first | done | with_reducible rfl);(try simp only [Act.put,List.setIfInBounds_toArray,List.set_cons_zero,List.set_cons_succ])))
     refine heldI_nil ?_
     go_wp2_with fail
     go_ret
     exact ⟨by rw [HBAD.out rfl];rfl,s0⟩
    ·skip
     refine wp_region_I [(false,0),(false,1),(false,2),(false,3),(false,4),(false,5),(false,6),(false,7),(false,8),(false,9),(true,10),(false,11),(false,12),(false,13),(false,14),(false,15),(false,16),(false,17),(false,18),(false,19),(false,20),(false,21),(false,22),(false,23),(false,24),(false,25),(false,26)] (fun w'=>Below w.heap.size w w') (by kernel_rfl) (by kernel_rfl) s0 ?_
     repeat (first | (refine heldI_skip rfl rfl ?_;simp only [Act.put,List.setIfInBounds_toArray,List.set_cons_zero,List.set_cons_succ]) | (refine heldI_take rfl ?_ rfl (fun w' hw'=>?_) ?_;rotate_left;(go_simp;first | done | with_reducible rfl);(try simp only [Act.put,List.setIfInBounds_toArray,List.set_cons_zero,List.set_cons_succ])))
     refine heldI_act rfl rfl fun K hK=>?_
     go_simp
     refine (KM.out _).mono ?_
     rintro e w5 ⟨rfl,rfl⟩
     refine hK.out _ _ s0 ?_
     clear hK K
     repeat (first | (refine heldI_skip rfl rfl ?_;simp only [Act.put,List.setIfInBounds_toArray,List.set_cons_zero,List.set_cons_succ]) | (refine heldI_take rfl ?_ rfl (fun w' hw'=>?_) ?_;rotate_left;(go_simp;first | done | with_reducible rfl);(try simp only [Act.put,List.setIfInBounds_toArray,List.set_cons_zero,List.set_cons_succ])))
     refine heldI_nil ?_
     go_wp2_with fail
     go_roundw
     case rel=>exact ⟨k + 1,by omega,by omega,by go_num,s0,Lib.hid (HGOOD.out rfl)⟩
     case measure=>simp [intOf];omega
   ·have q4 : decide ((k : Int) < 401) = false:=by simp;omega
    have q5 : decide ((N : Int) ≤ 400) = false:=by simp;omega
    have hfin : changesB l = false:=by
     unfold changesB
     rw [decide_eq_false (show ¬ l.length ≤ 400 by have:=HN.out;omega)]
     rfl
    have HFIN:=Lib.hid hfin
    clear hfin
    go_wp2_with fail
    go_ret
    exact ⟨by rw [HFIN.out];rfl,hb⟩
  ·have k0 : decide ((k : Int) < (N : Int)) = false:=by simp;omega
   obtain ⟨le,hle⟩ : ∃ x,x = decide ((N : Int) ≤ 400):=⟨_,rfl⟩
   have hfin : changesB l = le:=by
    unfold changesB
    rw [List.all_eq_true.2 (fun c hc=>HG.out c (by rw [List.take_of_length_le (by have:=HN.out;omega)];exact hc)),Bool.and_true,hle,← HN.out]
    by_cases h : N ≤ 400
    ·rw [decide_eq_true h,decide_eq_true (by omega)]
    ·rw [decide_eq_false h,decide_eq_false (by omega)]
   have HFIN:=Lib.hid hfin
   have HLE:=Lib.hid hle
   clear hfin hle
   go_wp2_with fail
   go_ret
   exact ⟨by rw [HFIN.out,HLE.out];rfl,hb⟩
end Go.Proofs.YtaijompnohkmaaaGreatDoor
