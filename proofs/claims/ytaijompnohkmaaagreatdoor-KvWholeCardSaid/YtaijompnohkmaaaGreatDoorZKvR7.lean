/- Layer 6 (kv), the document's answer: are pairs the same. -/
import Derived.Test.YtaijompnohkmaaaGreatDoorZKvE
import Derived.Test.YtaijompnohkmaaaGreatDoorMT
set_option linter.unusedSimpArgs false
set_option linter.unusedVariables false
namespace Go.Proofs.YtaijompnohkmaaaGreatDoor
open Go.RowKit KvP
instance : DecidableEq PairP:=fun a b=>decidable_of_iff (a.key = b.key ∧ a.val = b.val) ⟨fun h=>by cases a;cases b;simp at h;rw [h.1,h.2],fun h=>by rw [h];exact ⟨rfl,rfl⟩⟩
theorem mk_inj (a b : List UInt8) : (ByteArray.mk a.toArray = ByteArray.mk b.toArray) ↔ a = b:=by
 constructor
 ·intro h
  have:=congrArg (fun x=>x.data.toList) h
  simpa using this
 ·intro h
  rw [h]
theorem pair_same (p q : PairP) : (decide (ByteArray.mk p.key.toArray = ByteArray.mk q.key.toArray) && decide (ByteArray.mk p.val.toArray = ByteArray.mk q.val.toArray)) = decide (p = q):=by
 rw [Bool.eq_iff_iff,Bool.and_eq_true,decide_eq_true_eq,decide_eq_true_eq,decide_eq_true_eq,mk_inj,mk_inj]
 constructor
 ·rintro ⟨h1,h2⟩
  cases p
  cases q
  simp at h1 h2
  rw [h1,h2]
 ·rintro rfl
  exact ⟨rfl,rfl⟩
theorem list_ne_of {l m : List PairP} {k : Nat} (h1 : k < l.length) (h2 : k < m.length) (h : l[k] ≠ m[k]) : l ≠ m:=fun e=>h (by subst e;rfl)
theorem list_eq_of {l m : List PairP} (hl : l.length = m.length) (h : ∀ k (h1 : k < l.length) (h2 : k < m.length),l[k] = m[k]) : l = m:=List.ext_getElem hl h
set_option maxRecDepth 100000 in
set_option maxHeartbeats 8000000 in
theorem samePairs_any {B B' : Nat} (u v : Value) (l m : List PairP) (w : World) (hu : PairsV B w u l) (hv : PairsV B' w v m) :
  Calls Tryz.prog 32 #[u,v] w fun e w'=>e = .returned (.bool (decide (l = m))) ∧ Below w.heap.size w w':=by
 have hu:=hu.tight
 have hv:=hv.tight
 obtain ⟨_,a,ca,rfl,h1,h2,_⟩:=id hu
 obtain ⟨_,b',cb,rfl,h3,h4,_⟩:=id hv
 unfold maxLen at h2 h4
 obtain ⟨N,hN⟩ : ∃ N,N = l.length:=⟨_,rfl⟩
 obtain ⟨M,hM⟩ : ∃ M,M = m.length:=⟨_,rfl⟩
 rw [← hN] at hu h1 ⊢
 rw [← hM] at hv h3 ⊢
 have HN:=Lib.hid hN
 have HM:=Lib.hid hM
 have HU:=Lib.hid hu
 have HV:=Lib.hid hv
 clear hN hM hu hv
 by_cases hNM : N = M
 rotate_left
 ·have q0 : ((N : Int) != (M : Int)) = true:=by simp;omega
  have hfin : decide (l = m) = false:=decide_eq_false (fun e=>hNM (by rw [HN.out,HM.out,e]))
  rw [hfin]
  go_enter Tryz.func32,Tryz.ntmps32
  go_wp2_with fail
  go_ret
  exact ⟨rfl,Below.refl _ _⟩
 ·have q0 : ((N : Int) != (M : Int)) = false:=by rw [hNM];simp
  obtain ⟨D,hD⟩ : ∃ D,D = decide (l = m):=⟨_,rfl⟩
  rw [← hD]
  have HD:=Lib.hid hD
  have HNM:=Lib.hid hNM
  clear hD hNM
  go_enter Tryz.func32,Tryz.ntmps32
  go_wp2_with fail
  go_loopw [5] (fun i wr=>∃ k : Nat,k ≤ N ∧ i = .int .i64 k ∧ Below w.heap.size w wr ∧ Hid (∀ x (h1 : x < l.length) (h2 : x < m.length),x < k → l[x] = m[x])) (fun i _=>N - (intOf i).toNat)
  case atStart=>exact ⟨0,Nat.zero_le _,rfl,Below.refl _ _,Lib.hid (fun x _ _ h=>absurd h (Nat.not_lt_zero _))⟩
  case round =>
   obtain ⟨k,hk,rfl,hb,HG⟩:=hrel
   by_cases hkN : k < N
   ·have k0 : decide ((k : Int) < (N : Int)) = true:=by simp;omega
    have k1 : (0 : Int) ≤ (k : Int):=by omega
    have k2 : (k : Int) < (N : Int):=by omega
    have k3 : (k : Int) < (M : Int):=by have:=HNM.out;omega
    have hkl : k < l.length:=HN.out ▸ hkN
    have hkm : k < m.length:=by have:=HNM.out;have:=HM.out;omega
    obtain ⟨b,off,rfl,_,hcA⟩:=load_pair HU.out hkl
    obtain ⟨b2,off2,rfl,_,hcB⟩:=load_pair HV.out hkm
    have hps:=pair_same l[k] m[k]
    have hne:=list_ne_of hkl hkm
    have hgd : l[k] = m[k] → ∀ x (h1 : x < l.length) (h2 : x < m.length),x < k + 1 → l[x] = m[x]:=fun h x h1 h2 h3=>by
     rcases Nat.lt_or_ge x k with h4 | h4
     ·exact HG.out x h1 h2 h4
     ·obtain rfl : x = k:=by omega
      exact h
    obtain ⟨c,hc⟩ : ∃ c,c = decide (l[k] = m[k]):=⟨_,rfl⟩
    rw [← hc] at hps
    obtain ⟨sk,hsk⟩ : ∃ s,s = ByteArray.mk l[k].key.toArray:=⟨_,rfl⟩
    obtain ⟨sv,hsv⟩ : ∃ s,s = ByteArray.mk l[k].val.toArray:=⟨_,rfl⟩
    obtain ⟨tk,htk⟩ : ∃ s,s = ByteArray.mk m[k].key.toArray:=⟨_,rfl⟩
    obtain ⟨tv,htv⟩ : ∃ s,s = ByteArray.mk m[k].val.toArray:=⟨_,rfl⟩
    have L0 : ∀ w',Below w.heap.size w w' → w'.cell? ⟨b,off + k * 2,none⟩ = some (.string sk):=fun w' h=>by rw [hsk];exact (hcA w' h).1
    have L1 : ∀ w',Below w.heap.size w w' → w'.cell? ⟨b,off + k * 2 + 1,none⟩ = some (.string sv):=fun w' h=>by rw [hsv];exact (hcA w' h).2
    have N0 : ∀ w',Below w.heap.size w w' → w'.cell? ⟨b2,off2 + k * 2,none⟩ = some (.string tk):=fun w' h=>by rw [htk];exact (hcB w' h).1
    have N1 : ∀ w',Below w.heap.size w w' → w'.cell? ⟨b2,off2 + k * 2 + 1,none⟩ = some (.string tv):=fun w' h=>by rw [htv];exact (hcB w' h).2
    rw [← hsk,← hsv,← htk,← htv] at hps
    have kn : ∀ w' : World,(binOp .neq 76 (.agg #[.string sk,.string sv]) (.agg #[.string tk,.string tv])).run Tryz.prog w' = .ok (.bool (!c)) w':=fun w'=>by rw [neqPair,hps]
    have s0 : Below w.heap.size w wr.drew:=below_draws hb 1
    have HNE:=Lib.hid hne
    have HGD:=Lib.hid hgd
    have HC:=Lib.hid hc
    clear hsk hsv htk htv hcA hcB hps hne hgd hc
    go_upto_region 6 with (fail)
    refine wp_region_I [(false,0),(false,1),(false,2),(false,3),(false,4),(false,5),(false,6),(false,7),(false,8)] (fun w'=>Below w.heap.size w w') (by kernel_rfl) (by kernel_rfl) s0 ?_
    repeat (first | (refine heldI_skip rfl rfl ?_;simp only [Act.put,List.setIfInBounds_toArray,List.set_cons_zero,List.set_cons_succ]) | (refine heldI_take rfl ?_ rfl (fun w' hw'=>?_) ?_;rotate_left;(go_simp;first | done | with_reducible rfl);(try simp only [Act.put,List.setIfInBounds_toArray,List.set_cons_zero,List.set_cons_succ])))
    refine heldI_nil ?_
    cases c with
    | true =>
     have HG2:=Lib.hid (HGD.out (of_decide_eq_true HC.out.symm))
     go_wp2_with fail
     go_roundw
     case rel=>exact ⟨k + 1,by omega,by go_num,s0,HG2⟩
     case measure=>simp [intOf];omega
    | false =>
     have hf : D = false:=by rw [HD.out];exact decide_eq_false (HNE.out (of_decide_eq_false HC.out.symm))
     have HF:=Lib.hid hf
     clear hf
     go_wp2_with fail
     go_ret
     exact ⟨by rw [HF.out];rfl,s0⟩
   ·have k0 : decide ((k : Int) < (N : Int)) = false:=by simp;omega
    have hf : D = true:=by
     rw [HD.out]
     exact decide_eq_true (list_eq_of (by rw [← HN.out,← HM.out];exact HNM.out) (fun x h1 h2=>HG.out x h1 h2 (by have:=HN.out;omega)))
    have HF:=Lib.hid hf
    clear hf
    go_wp2_with fail
    go_ret
    exact ⟨by rw [HF.out];rfl,hb⟩
end Go.Proofs.YtaijompnohkmaaaGreatDoor
