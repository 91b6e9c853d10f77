/- Layer 5 (wal), plainly: a log that holds records, on a disk that is up; formatted, appended to, compacted, opened. -/
import Derived.Test.YtaijompnohkmaaaGreatDoorOH
import Derived.StillTailTactics
set_option linter.unusedSimpArgs false
set_option linter.unusedVariables false
namespace Go.Proofs.YtaijompnohkmaaaGreatDoor
section
namespace WalP
theorem totalN_eq:∀ (l:List (List UInt8)),(∃ b∈l,takes b.length=0)∧totalN l=none∨(∀ b∈l,takes b.length≠0)∧totalN l=some (posN l)
 | []=>.inr ⟨fun b h=>(by cases h),rfl⟩
 | b :: l=>by
  unfold totalN
  by_cases h:takes b.length=0
  ·exact .inl ⟨⟨b,List.mem_cons_self ..,h⟩,if_pos h⟩
  ·rw [if_neg h]
   rcases totalN_eq l with ⟨⟨x,hx,h0⟩,e⟩ | ⟨h0,e⟩
   ·exact .inl ⟨⟨x,List.mem_cons_of_mem _ hx,h0⟩,by rw [e];rfl⟩
   ·refine .inr ⟨fun x hx=>?_,by rw [e,posN_cons];rfl⟩
    rcases List.mem_cons.1 hx with rfl | hx
    ·exact h
    ·exact h0 x hx
theorem total_eq (l:List (List UInt8)):total l=none∨(l≠[]∧(∀ b∈l,takes b.length≠0)∧total l=some (posN l)):=by
 unfold total
 by_cases h:l=[]
 ·exact .inl (if_pos h)
 ·rw [if_neg h]
  rcases totalN_eq l with ⟨_,e⟩ | ⟨h0,e⟩
  ·exact .inl e
  ·exact .inr ⟨h,h0,e⟩
theorem total_some {l:List (List UInt8)} (h1:l≠[]) (h2:∀ b∈l,takes b.length≠0):total l=some (posN l):=by
 unfold total
 rw [if_neg h1]
 rcases totalN_eq l with ⟨⟨x,hx,h0⟩,_⟩ | ⟨_,e⟩
 ·exact absurd h0 (h2 x hx)
 ·exact e
theorem takes_two {n:Nat} (h:takes n≠0):2≤takes n:=by
 unfold takes at h ⊢
 split
 ·rename_i h1;rw [if_pos h1] at h;exact absurd rfl h
 ·omega
theorem posN_two {l:List (List UInt8)} (h1:l≠[]) (h2:∀ b∈l,takes b.length≠0):2≤posN l:=by
 cases l with
 | nil=>exact absurd rfl h1
 | cons b l =>
  have:=takes_two (h2 b (List.mem_cons_self ..))
  rw [posN_cons]
  omega
theorem fit_bytes {S:Nat} {a:Nat} {b:List UInt8} (h:a+takes b.length≤S) (hb:takes b.length≠0):∀ x∈bytesD a b,fit S x:=by
 intro x hx
 unfold bytesD at hx
 obtain⟨i,hi,rfl⟩:=List.mem_map.1 hx
 have:=List.mem_range.1 hi
 have hc:=takes_chunks hb
 rw [length_chunks] at hc
 show 0≤(a:Int)+1+i∧(a:Int)+1+i<S
 omega
theorem length_bytesD (a:Int) (b:List UInt8):(bytesD a b).length=(b.length+63) / 64:=by simp [bytesD]
theorem fit_recs {S:Nat} (gen:Int):∀ (l:List (List UInt8)) (a k:Nat),(∀ b∈l,takes b.length≠0)→a+posN l≤S→∀ x∈recsD gen a k l,fit S x
 | [],_,_,_,_,x,hx=>by cases hx
 | b :: l,a,k,hb,h,x,hx=>by
  rw [posN_cons] at h
  have h0:=hb b (List.mem_cons_self ..)
  simp only [recsD,recD] at hx
  rcases List.mem_append.1 hx with hx | hx
  ·rcases List.mem_append.1 hx with hx | hx
   ·exact fit_bytes (by omega) h0 x hx
   ·split at hx
    ·rw [List.mem_singleton.1 hx]
     show 0≤(a:Int)∧(a:Int)<S
     have:=takes_two h0
     omega
    ·cases hx
  ·rw [show ((a:Int)+(takes b.length:Nat))=((a+takes b.length:Nat):Int) by omega] at hx
   exact fit_recs gen l _ _ (fun y hy=>hb y (List.mem_cons_of_mem _ hy)) (by omega) x hx
theorem length_recsD (gen:Int):∀ (l:List (List UInt8)) (a:Int) (k:Nat),(∀ b∈l,takes b.length≠0)→(recsD gen a k l).length≤posN l
 | [],_,_,_=>Nat.zero_le _
 | b :: l,a,k,hb=>by
  have h0:=takes_chunks (hb b (List.mem_cons_self ..))
  have ih:=length_recsD gen l (a+takes b.length) (k+1) (fun y hy=>hb y (List.mem_cons_of_mem _ hy))
  rw [length_chunks] at h0
  simp only [recsD,recD]
  rw [posN_cons,List.length_append,List.length_append,length_bytesD]
  split
  ·rw [List.length_singleton];omega
  ·simp;omega
theorem fit_lay {S F H:Nat} {gen:Int} {list:List (List UInt8)} (hne:list≠[]) (hb:∀ b∈list,takes b.length≠0) (hn:posN list≤H) (h:F+H≤S) (which:Int) (hw:which*H=F):∀ x∈layD H which gen list,fit S x:=by
 intro x hx
 have h2:=posN_two hne hb
 unfold layD at hx
 rw [hw] at hx
 rcases List.mem_append.1 hx with hx | hx
 ·unfold zerosD at hx
  obtain⟨i,hi,rfl⟩:=List.mem_map.1 hx
  have:=List.mem_range.1 hi
  show 0≤(F:Int)+i∧(F:Int)+i<S
  omega
 ·rcases List.mem_append.1 hx with hx | hx
  ·rw [List.mem_singleton.1 hx];trivial
  ·rcases List.mem_append.1 hx with hx | hx
   ·exact fit_recs gen list F 0 hb (by omega) x hx
   ·simp only [List.mem_cons,List.not_mem_nil,or_false] at hx
    rcases hx with rfl | rfl | rfl
    ·trivial
    ·show 0≤(F:Int)∧(F:Int)<S
     omega
    ·trivial
theorem length_layD {H:Nat} {which gen:Int} {list:List (List UInt8)} (hb:∀ b∈list,takes b.length≠0):(layD H which gen list).length≤H+posN list+4:=by
 have:=length_recsD gen list (which*H) 0 hb
 unfold layD
 simp [zerosD]
 omega
theorem layD_last (H:Nat) (which gen:Int) (list:List (List UInt8)):∃ ds,layD H which gen list=ds++[.flush] :=
 ⟨zerosD (which*H) H++([.flush]++(recsD gen (which*H) 0 list++[.flush,.put (which*H) (markOf gen 0 (list.headD []))])),by unfold layD;simp⟩
theorem Calm.runL {S:Nat} (hS:S≤4096) {ds:List Deed} {n:Nat} {d:DiskP} (h:Calm S n d) (hn:n+ds.length≤100000) (hf:∀ x∈ds,fit S x) (hl:∃ es,ds=es++[.flush]):(WalP.run d ds).2=0∧Calm S 0 (WalP.run d ds).1∧see (WalP.run d ds).1=after (see d) ds:=by
 obtain⟨es,rfl⟩:=hl
 obtain⟨h1,h2,h3⟩:=Calm.runF hS (ds:=es) h (by simp at hn;omega) (fun x hx=>hf x (List.mem_append_left _ hx))
 refine⟨h1,h2,h3.trans ?_⟩
 rw [after_append]
 rfl
structure Holds (S:Nat) (d:DiskP) (l:LogP) (list:List (List UInt8)):Prop where
 calm:Calm S 0 d
 hS:S≤4096
 half:l.half=0∨l.half=1
 gen0:1≤l.gen
 gen1:l.gen≤1099511627776
 ne:list≠[]
 tk:∀ b∈list,takes b.length≠0
 used:l.used=posN list
 count:l.count=list.length
 fits:posN list≤WalP.half d
 here:viewP d l.half=recsV l.gen 0 list++List.replicate (WalP.half d-posN list) zeroS
 other:genV (viewP d (1-l.half))<l.gen
theorem half_of {S n:Nat} {d:DiskP} (h:Calm S n d):half d=S / 2:=by unfold half;rw [h.secs]
theorem Holds.right {S:Nat} {d:DiskP} {l:LogP} {list:List (List UInt8)} (h:Holds S d l list):rightL d l=true:=by
 have h1:=h.calm.right h.hS (by omega)
 have h2:=posN_two h.ne h.tk
 have h3:=len_le_posN list h.tk
 have h4:0<list.length:=List.length_pos_iff.2 h.ne
 have h5:=h.half
 have h6:=h.gen0
 have h7:=h.gen1
 have h8:=h.used
 have h9:=h.count
 have h10:=h.fits
 unfold rightL
 simp only [h1,Bool.true_and,Bool.and_eq_true,Bool.or_eq_true,decide_eq_true_eq]
 omega
theorem Holds.room {S:Nat} {d:DiskP} {l:LogP} {list:List (List UInt8)} (h:Holds S d l list):roomP d l=((WalP.half d-posN list:Nat):Int):=by
 unfold roomP
 rw [if_pos h.right,h.used]
 have:=h.fits
 omega
theorem lay_holds {S n:Nat} {d:DiskP} (hc:Calm S n d) (hS:S≤4096) (hn1:n≤10) {w gen:Int} {list:List (List UInt8)} (hw:w=0∨w=1) (g0:1≤gen) (g1:gen≤1099511627776) (hne:list≠[]) (hb:∀ b∈list,takes b.length≠0) (hn:posN list≤WalP.half d)
  (ho:genV (viewP d (1-w))<gen):(run d (layD (WalP.half d) w gen list)).2=0∧Holds S (run d (layD (WalP.half d) w gen list)).1 ⟨w,gen,posN list,list.length⟩ list:=by
 have hh:=half_of hc
 obtain⟨F,hF⟩:∃ F:Nat,w*(WalP.half d)=F:=by rcases hw with rfl | rfl;exact⟨0,by omega⟩;exact⟨WalP.half d,by omega⟩
 obtain⟨F',hF'⟩:∃ F:Nat,(1-w)*(WalP.half d)=F:=by rcases hw with rfl | rfl;exact⟨WalP.half d,by omega⟩;exact⟨0,by omega⟩
 have hFH:F+WalP.half d≤S∧F'+WalP.half d≤S∧(F+WalP.half d≤F'∨F'+WalP.half d≤F):=by
  rw [hh] at hF hF' ⊢
  rcases hw with rfl | rfl <;> omega
 obtain⟨f1,f2,f3⟩:=hFH
 have hlen:=length_layD (H:=WalP.half d) (which:=w) (gen:=gen) hb
 obtain⟨r1,r2,r3⟩:=Calm.runL hS hc (by rw [hh] at hlen hn ⊢;omega) (fit_lay hne hb hn f1 w hF) (layD_last (WalP.half d) w gen list)
 have hh2:=half_of r2
 have hhe:WalP.half (run d (layD (WalP.half d) w gen list)).1=WalP.half d:=by rw [hh2,hh]
 have hsl:(see d).length=S:=by rw [length_see];exact hc.secs
 refine⟨r1,r2,hS,hw,g0,g1,hne,hb,rfl,rfl,by rw [hhe];exact hn,?_,?_⟩
 ·show viewP _ w=_
  rw [r2.view hS (by omega) F w (by rw [hhe];exact hF) hw,hhe,r3]
  exact lay_view hne hb hn (by omega) w hF
 ·show genV (viewP _ (1-w))<gen
  have hw':1-w=0∨1-w=1:=by omega
  rw [r2.view hS (by omega) F' (1-w) (by rw [hhe];exact hF') hw',hhe,r3]
  have e:=lay_far (v:=see d) (F':=F') (gen:=gen) hne hb hn (by omega) w hF f3
  unfold hv at e
  rw [e,← hc.view hS (by omega) F' (1-w) hF' hw']
  exact ho
theorem format_holds {S:Nat} {d:DiskP} (hc:Calm S 0 d) (hS:S≤4096) (list:List (List UInt8)) :
  (total list=none∧formatP d list=(d,log0,1))∨(∃ n,total list=some n∧S / 2<n∧formatP d list=(d,log0,8))∨(list≠[]∧(∀ b∈list,takes b.length≠0)∧posN list≤S / 2∧(formatP d list).2.2=0∧(formatP d list).2.1=⟨0,1,posN list,list.length⟩∧Holds S (formatP d list).1 (formatP d list).2.1 list):=by
 have hr:=hc.right hS (by omega)
 have hh:=half_of hc
 rcases total_eq list with ht | ⟨hne,hb,ht⟩
 ·left
  refine⟨ht,?_⟩
  simp only [formatP,ht]
 ·right
  by_cases hn:WalP.half d<posN list
  ·left
   refine⟨_,ht,by rw [← hh];exact hn,?_⟩
   simp only [formatP,ht,hr,if_true,if_pos hn]
  ·right
   have h2:=posN_two hne hb
   obtain⟨p1,p2,p3⟩:=hc.put hS (by omega) (WalP.half d) zeroS (by omega) (by rw [hh] at hn ⊢;omega)
   have e1:run d (.put (WalP.half d) zeroS :: layD (WalP.half d) 0 1 list)=run (putP d (WalP.half d) zeroS).1 (layD (WalP.half d) 0 1 list):=by
    show (if (putP d (WalP.half d) zeroS).2=0 then run (putP d (WalP.half d) zeroS).1 (layD (WalP.half d) 0 1 list) else putP d (WalP.half d) zeroS)=_
    rw [if_pos p1]
   have hh2:=half_of p2
   have hhe:WalP.half (putP d (WalP.half d) zeroS).1=WalP.half d:=by rw [hh2,hh]
   have ho:genV (viewP (putP d (WalP.half d) zeroS).1 (1-0))<1:=by
    rw [p2.view hS (by omega) (WalP.half d) (1-0) (by rw [hhe];omega) (by omega),hhe,p3,genV_none (fun _=>?_)]
    ·omega
    ·have e:((((see d).set ((WalP.half d:Int)).toNat zeroS).drop (WalP.half d)).take (WalP.half d)).getD 0 []=zeroS:=by
      rw [List.getD_eq_getElem?_getD,List.getElem?_take,if_pos (by omega),List.getElem?_drop,Nat.add_zero,show ((WalP.half d:Int)).toNat=WalP.half d by omega,List.getElem?_set_self (by rw [length_see,hc.secs];rw [hh] at hn ⊢;omega)]
      rfl
     rw [e]
     exact zero_none
   have hl:=lay_holds p2 hS (by omega) (w:=0) (gen:=1) (.inl rfl) (by omega) (by omega) hne hb (by rw [hhe];omega) ho
   rw [hhe] at hl
   obtain⟨l1,l2⟩:=hl
   have e2:formatP d list=((run d (.put (WalP.half d) zeroS :: layD (WalP.half d) 0 1 list)).1,⟨0,1,posN list,list.length⟩,0):=by
    simp only [formatP,ht,hr,if_true,if_neg hn]
    rw [if_pos (by rw [e1];exact l1)]
   rw [e2,e1]
   exact⟨hne,hb,by rw [← hh];omega,rfl,rfl,l2⟩
theorem append_holds {S:Nat} {d:DiskP} {l:LogP} {list:List (List UInt8)} (h:Holds S d l list) (b:List UInt8) :
  (takes b.length=0∧appendP d l b=(d,l,1))∨(takes b.length≠0∧roomP d l<takes b.length∧appendP d l b=(d,l,8)) ∨
  (takes b.length≠0∧takes b.length≤roomP d l∧(appendP d l b).2.2=0∧(appendP d l b).2.1={ l with used:=l.used+takes b.length,count:=l.count+1 }∧Holds S (appendP d l b).1 (appendP d l b).2.1 (list++[b])):=by
 by_cases ht:takes b.length=0
 ·exact .inl ⟨ht,by unfold appendP;rw [if_pos (.inl ht)]⟩
 ·right
  have hR:=h.right
  by_cases hro:roomP d l<takes b.length
  ·exact .inl ⟨ht,hro,by unfold appendP;rw [if_neg (by simp [ht,hR]),if_pos hro]⟩
  ·right
   have hS:=h.hS
   have hh:=half_of h.calm
   have hroom:=h.room
   have hfits:=h.fits
   have hsum:posN list+takes b.length≤WalP.half d:=by omega
   obtain⟨F,hF⟩:∃ F:Nat,l.half*(WalP.half d)=F:=by rcases h.half with e | e <;> rw [e];exact⟨0,by omega⟩;exact⟨WalP.half d,by omega⟩
   obtain⟨F',hF'⟩:∃ F:Nat,(1-l.half)*(WalP.half d)=F:=by rcases h.half with e | e <;> rw [e];exact⟨WalP.half d,by omega⟩;exact⟨0,by omega⟩
   have hFH:F+WalP.half d≤S∧F'+WalP.half d≤S∧(F+WalP.half d≤F'∨F'+WalP.half d≤F):=by
    have:=h.half
    rw [hh] at hF hF' ⊢
    rcases this with e | e <;> rw [e] at hF hF' <;> omega
   obtain⟨f1,f2,f3⟩:=hFH
   have hat:l.half*(WalP.half d)+l.used=((F+posN list:Nat):Int):=by rw [hF,h.used];omega
   have hc:=takes_chunks ht
   have h2:=takes_two ht
   have hsl:(see d).length=S:=by rw [length_see];exact h.calm.secs
   have hfit:∀ x∈appendD d l b,fit S x:=by
    intro x hx
    unfold appendD at hx
    rw [hat] at hx
    rcases List.mem_append.1 hx with hx | hx
    ·exact fit_bytes (by omega) ht x hx
    ·simp only [List.mem_cons,List.not_mem_nil,or_false] at hx
     rcases hx with rfl | rfl | rfl
     ·trivial
     ·show 0≤((F+posN list:Nat):Int)∧((F+posN list:Nat):Int)<S
      omega
     ·trivial
   have hlen:(appendD d l b).length≤200:=by
    have:=takes_le b.length
    rw [length_chunks] at hc
    unfold appendD
    rw [List.length_append,length_bytesD]
    simp
    omega
   obtain⟨r1,r2,r3⟩:=Calm.runL hS h.calm (by omega) hfit ⟨bytesD (l.half*half d+l.used) b++[.flush,.put (l.half*half d+l.used) (markS l.gen l.count b.length (SumP.toI (SumP.sum b)))],by unfold appendD;simp⟩
   have hh2:=half_of r2
   have hhe:WalP.half (run d (appendD d l b)).1=WalP.half d:=by rw [hh2,hh]
   have e:appendP d l b=((run d (appendD d l b)).1,{ l with used:=l.used+takes b.length,count:=l.count+1 },0):=by
    unfold appendP
    rw [if_neg (by simp [ht,hR]),if_neg hro]
    simp only [r1,if_true]
   have hsee:see (run d (appendD d l b)).1=(wr (see d) (F+posN list+1) (chunks b)).set (F+posN list) (markOf l.gen list.length b):=by
    rw [r3]
    unfold appendD
    rw [hat,after_append,bytes_after]
    show List.set _ ((F+posN list:Nat):Int).toNat _=_
    rw [Int.toNat_natCast,h.count]
    rfl
   rw [e]
   refine⟨ht,by omega,rfl,rfl,r2,hS,h.half,h.gen0,h.gen1,by simp,?_,?_,?_,?_,?_,?_⟩
   ·intro x hx
    rcases List.mem_append.1 hx with hx | hx
    ·exact h.tk x hx
    ·rw [List.mem_singleton.1 hx];exact ht
   ·show l.used+_=_
    rw [h.used,posN_append];simp [posN]
   ·show l.count+1=_
    rw [h.count];simp
   ·show _≤WalP.half (run d (appendD d l b)).1
    rw [hhe,posN_append];simpa [posN] using hsum
   ·show viewP (run d (appendD d l b)).1 l.half=recsV l.gen 0 (list++[b])++_
    rw [r2.view hS (by omega) F l.half (by rw [hhe];exact hF) h.half,hhe,hsee]
    exact app_view h.tk ht hsum (by omega) (by unfold hv;rw [← h.calm.view hS (by omega) F l.half hF h.half];exact h.here)
   ·show genV (viewP (run d (appendD d l b)).1 (1-l.half))<l.gen
    have hw':1-l.half=0∨1-l.half=1:=by have:=h.half;omega
    rw [r2.view hS (by omega) F' (1-l.half) (by rw [hhe];exact hF') hw',hhe,hsee]
    have e:=app_far (v:=see d) (a:=F+posN list) (F:=F') (H:=WalP.half d) (m:=markOf l.gen list.length b) (b:=b) (by omega) (by omega)
    unfold hv at e
    rw [e,← h.calm.view hS (by omega) F' (1-l.half) hF' hw']
    exact h.other
theorem compact_holds {S:Nat} {d:DiskP} {l:LogP} {list0:List (List UInt8)} (h:Holds S d l list0) (hg:l.gen<1099511627776) (list:List (List UInt8)) :
  ((total list=none∧compactP d l list=(d,l,1))∨((∃ n,total list=some n∧S / 2<n)∧compactP d l list=(d,l,8))) ∨
  (list≠[]∧(∀ b∈list,takes b.length≠0)∧posN list≤S / 2∧(compactP d l list).2.2=0∧(compactP d l list).2.1=⟨1-l.half,l.gen+1,posN list,list.length⟩∧Holds S (compactP d l list).1 (compactP d l list).2.1 list):=by
 have hh:=half_of h.calm
 have hR:=h.right
 rcases total_eq list with ht | ⟨hne,hb,ht⟩
 ·refine .inl (.inl ⟨ht,?_⟩)
  simp only [compactP,ht]
 ·by_cases hn:WalP.half d<posN list
  ·refine .inl (.inr ⟨⟨_,ht,by rw [← hh];exact hn⟩,?_⟩)
   simp only [compactP,ht,hR,if_true,if_pos hn]
  ·right
   have ho:genV (viewP d (1-(1-l.half)))<l.gen+1:=by
    rw [show 1-(1-l.half)=l.half by omega,h.here]
    unfold genV
    rw [records_back h.gen0 h.gen1 h.ne h.tk _ (by have:=len_le_posN list0 h.tk;have:=h.fits;have:=h.hS;rw [hh] at *;omega)]
    show l.gen<l.gen+1
    omega
   obtain⟨l1,l2⟩:=lay_holds h.calm h.hS (by omega) (w:=1-l.half) (gen:=l.gen+1) (by have:=h.half;omega) (by have:=h.gen0;omega) (by omega) hne hb (by omega) ho
   have e:compactP d l list=((run d (layD (WalP.half d) (1-l.half) (l.gen+1) list)).1,⟨1-l.half,l.gen+1,posN list,list.length⟩,0):=by
    simp only [compactP,ht,hR,if_true,if_neg hn]
    rw [if_neg (by omega),if_pos l1]
   rw [e]
   exact⟨hne,hb,by rw [← hh];omega,rfl,rfl,l2⟩
theorem open_holds {S:Nat} {d:DiskP} {l:LogP} {list:List (List UInt8)} (h:Holds S d l list) (hg:l.gen<1099511627776) :
  (openP d).2.2.1=list∧(openP d).2.2.2=0∧(openP d).2.1=⟨1-l.half,l.gen+1,posN list,list.length⟩∧Holds S (openP d).1 (openP d).2.1 list:=by
 have hr:=h.calm.right h.hS (by omega)
 have hd:=h.calm.down
 have hh:=half_of h.calm
 have hlen:list.length≤2^40:=by have:=len_le_posN list h.tk;have:=h.fits;have:=h.hS;rw [hh] at *;omega
 have eh:recordsP (viewP d l.half)=(list,posN list,l.gen,0):=by rw [h.here];exact records_back h.gen0 h.gen1 h.ne h.tk _ hlen
 have eo:=h.other
 unfold genV at eo
 have hl:(⟨l.half,l.gen,posN list,list.length⟩:LogP)=l:=by rw [← h.used,← h.count]
 have hw:∃ x:List (List UInt8)×Nat×Int×Int,x=(list,posN list,l.gen,0) ∧
   (if (recordsP (viewP d 0)).2.2.1<(recordsP (viewP d 1)).2.2.1 then recordsP (viewP d 1) else recordsP (viewP d 0))=x∧(if (recordsP (viewP d 0)).2.2.1<(recordsP (viewP d 1)).2.2.1 then (1:Int) else 0)=l.half:=by
  refine⟨_,rfl,?_⟩
  rcases h.half with e | e
  ·rw [e] at eh eo
   rw [if_neg (by rw [eh];show ¬ l.gen<(recordsP (viewP d (1-0))).2.2.1;omega),if_neg (by rw [eh];show ¬ l.gen<(recordsP (viewP d (1-0))).2.2.1;omega),e]
   exact⟨eh,rfl⟩
  ·rw [e] at eh eo
   rw [if_pos (by rw [eh];exact eo),if_pos (by rw [eh];exact eo),e]
   exact⟨eh,rfl⟩
 obtain⟨x,hx,h1,h2⟩:=hw
 have hcom:compactP d l list=compactP d l list:=rfl
 rcases compact_holds h hg list with (⟨ht,_⟩ | ⟨⟨n,ht,hn⟩,_⟩) | ⟨_,_,_,c1,c2,c3⟩
 ·rw [total_some h.ne h.tk] at ht;cases ht
 ·rw [total_some h.ne h.tk] at ht
  cases ht
  have:=h.fits
  omega
 ·have e:openP d=((compactP d l list).1,(compactP d l list).2.1,list,0):=by
   simp only [openP,hr,hd,h1,h2,hx,hl,c1]
   simp
  rw [e]
  exact⟨rfl,rfl,c2,c3⟩
theorem calm_new {n:Nat} (hn:n≤4096):Calm n 0 (newP n).1:=by
 unfold newP
 rw [if_pos (by omega)]
 exact⟨by simp,rfl,rfl,fun x hx=>absurd hx List.not_mem_nil,Nat.le_refl _⟩
end WalP
end
section
namespace WalP
abbrev St:=List (List UInt8)×List WriteP
def stepS (s:St):Deed→St
 | .put a x=>(s.1,s.2++[⟨a,x⟩])
 | .flush=>(settleN s.1 s.2 (fun _=>true) s.2.length,[])
def steps (s:St) (ds:List Deed):St:=ds.foldl stepS s
theorem steps_append (s:St) (xs ys:List Deed):steps s (xs++ys)=steps (steps s xs) ys:=by simp [steps,List.foldl_append]
def falls (Q:St→Prop):St→List Deed→Prop
 | _,[]=>True
 | s,x :: xs=>Q s∧falls Q (stepS s x) xs
theorem falls_append (Q:St→Prop):∀ (xs ys:List Deed) (s:St),falls Q s xs→falls Q (steps s xs) ys→falls Q s (xs++ys)
 | [],ys,s,_,h=>h
 | x :: xs,ys,s,h1,h2=>⟨h1.1,falls_append Q xs ys (stepS s x) h1.2 h2⟩
structure Up (S n:Nat) (d:DiskP):Prop where
 secs:d.secs.length=S
 down:d.down=false
 fuse:-1≤d.fuse∧d.fuse≤1099511627776
 at_:∀ x∈d.loose,0≤x.at_∧x.at_<S
 len:d.loose.length≤n
theorem Up.right {S n:Nat} {d:DiskP} (h:Up S n d) (hS:S≤4096) (hn:n≤100000):rightB d=true:=right_of h.secs h.len h.fuse h.at_ hS hn
theorem Up.mono {S n m:Nat} {d:DiskP} (h:Up S n d) (hm:n≤m):Up S m d:=⟨h.secs,h.down,h.fuse,h.at_,Nat.le_trans h.len hm⟩
theorem Up.calm {S n:Nat} {d:DiskP} (h:Up S n d) (hf:d.fuse = -1):Calm S n d:=⟨h.secs,h.down,hf,h.at_,h.len⟩
structure Fell (S n:Nat) (d:DiskP):Prop where
 secs:d.secs.length=S
 down:d.down=true
 fuse:d.fuse=0
 at_:∀ x∈d.loose,0≤x.at_∧x.at_<S
 len:d.loose.length≤n
theorem Fell.right {S n:Nat} {d:DiskP} (h:Fell S n d) (hS:S≤4096) (hn:n≤100000):rightB d=true:=right_of h.secs h.len (by rw [h.fuse];omega) h.at_ hS hn
theorem Up.deed {S n:Nat} {d:DiskP} (h:Up S n d) (hS:S≤4096) (hn:n≤100000) (x:Deed) (hx:fit S x) :
  ((WalP.deed d x).2=0∧Up S (n+1) (WalP.deed d x).1∧((WalP.deed d x).1.secs,(WalP.deed d x).1.loose)=stepS (d.secs,d.loose) x∧(d.fuse = -1→(WalP.deed d x).1.fuse = -1)∧(WalP.deed d x).1.fuse≤d.fuse) ∨
  ((WalP.deed d x).2=9∧Fell S n (WalP.deed d x).1∧(WalP.deed d x).1.secs=d.secs∧(WalP.deed d x).1.loose=d.loose∧d.fuse=0):=by
 have hr:=h.right hS hn
 have hd:=h.down
 have hf:=h.fuse
 by_cases h0:d.fuse=0
 ·right
  have hdn:downP d=true:=by simp [downP,h0]
  have hb:burnF d=0:=by simp [burnF,hdn,h0]
  cases x with
  | put a s =>
   have ht:thereB d a=true:=by simp only [thereB,h.secs];simp;exact hx
   have e:WalP.deed d (.put a s)=({ d with fuse:=0,down:=true },9):=by simp [WalP.deed,putP,hr,ht,hdn,hb]
   rw [e]
   exact⟨rfl,⟨h.secs,rfl,rfl,h.at_,h.len⟩,rfl,rfl,h0⟩
  | flush =>
   have e:WalP.deed d .flush=({ d with fuse:=0,down:=true },9):=by simp [WalP.deed,flushP,hr,hdn,hb]
   rw [e]
   exact⟨rfl,⟨h.secs,rfl,rfl,h.at_,h.len⟩,rfl,rfl,h0⟩
 ·left
  have hdn:downP d=false:=by simp [downP,hd,h0]
  obtain⟨f,hfe⟩:∃ f,f=burnF d:=⟨_,rfl⟩
  have hfb:-1≤f∧f≤1099511627776∧f≤d.fuse∧(d.fuse = -1→f = -1):=by
   rw [hfe];unfold burnF;rw [hdn]
   simp only [Bool.false_eq_true,if_false]
   split <;> omega
  cases x with
  | put a s =>
   have ht:thereB d a=true:=by simp only [thereB,h.secs];simp;exact hx
   have e:WalP.deed d (.put a s)=({ d with loose:=d.loose++[⟨a,s⟩],fuse:=f,down:=false },0):=by simp [WalP.deed,putP,hr,ht,hdn,hfe]
   rw [e]
   refine⟨rfl,⟨h.secs,rfl,⟨hfb.1,hfb.2.1⟩,?_,?_⟩,rfl,hfb.2.2.2,hfb.2.2.1⟩
   ·intro y hy
    rcases List.mem_append.1 hy with hy | hy
    ·exact h.at_ y hy
    ·rw [List.mem_singleton.1 hy];exact hx
   ·have:=h.len
    simp;omega
  | flush =>
   have e:WalP.deed d .flush=(⟨settleN d.secs d.loose (fun _=>true) d.loose.length,[],f,false⟩,0):=by simp [WalP.deed,flushP,hr,hdn,hfe]
   rw [e]
   exact⟨rfl,⟨by show (settleN _ _ _ _).length=S;rw [length_settleN];exact h.secs,rfl,⟨hfb.1,hfb.2.1⟩,fun x hx=>absurd hx List.not_mem_nil,Nat.zero_le _⟩,rfl,hfb.2.2.2,hfb.2.2.1⟩
theorem run_falls {S:Nat} (hS:S≤4096) {Q:St→Prop}:∀ (ds:List Deed) {n:Nat} {d:DiskP},Up S n d→n+ds.length≤100000→(∀ x∈ds,fit S x)→falls Q (d.secs,d.loose) ds →
  ((run d ds).2=0∧Up S (n+ds.length) (run d ds).1∧((run d ds).1.secs,(run d ds).1.loose)=steps (d.secs,d.loose) ds∧(d.fuse = -1→(run d ds).1.fuse = -1)∧(run d ds).1.fuse≤d.fuse) ∨
  ((run d ds).2=9∧Fell S (n+ds.length) (run d ds).1∧Q ((run d ds).1.secs,(run d ds).1.loose)∧d.fuse ≠ -1)
 | [],n,d,h,_,_,_=>.inl ⟨rfl,h,rfl,id,Int.le_refl _⟩
 | x :: ds,n,d,h,hn,hf,hq=>by
  have hl:(x :: ds).length=ds.length+1:=rfl
  rcases h.deed hS (by omega) x (hf x (List.mem_cons_self ..)) with ⟨e1,e2,e3,e4,e4'⟩ | ⟨e1,e2,e3,e4,e5⟩
  ·have hq2:=hq.2
   rw [← e3] at hq2
   simp only [WalP.run,e1,if_true]
   rcases run_falls hS ds e2 (by omega) (fun y hy=>hf y (List.mem_cons_of_mem _ hy)) hq2 with ⟨i1,i2,i3,i4,i5⟩ | ⟨i1,i2,i3,i4⟩
   ·refine .inl ⟨i1,i2.mono (by omega),?_,fun h=>i4 (e4 h),Int.le_trans i5 e4'⟩
    rw [i3,e3];rfl
   ·refine .inr ⟨i1,⟨i2.secs,i2.down,i2.fuse,i2.at_,Nat.le_trans i2.len (by omega)⟩,i3,fun h=>i4 (e4 h)⟩
  ·simp only [WalP.run,e1,show (9:Int)≠0 by decide,if_false]
   refine .inr ⟨trivial,⟨e2.secs,e2.down,e2.fuse,e2.at_,Nat.le_trans e2.len (by omega)⟩,?_,by omega⟩
   rw [e3,e4]
   exact hq.1
structure Settled (s:St) (t:List (List UInt8)):Prop where
 len:t.length=s.1.length
 each:∀ i:Nat,t[i]?=s.1[i]?∨∃ x∈s.2,x.at_=i∧t[i]?=some x.data
theorem falls_puts {Q:St→Prop} {P:WriteP→Prop} (ss:List (List UInt8)) (hQ:∀ ls:List WriteP,(∀ x∈ls,P x)→Q (ss,ls)):∀ (ds:List Deed) (ls:List WriteP),(∀ x∈ls,P x)→(∀ y∈ds,∃ a s,y = .put a s∧P ⟨a,s⟩) →
  falls Q (ss,ls) ds∧(∃ ls',steps (ss,ls) ds=(ss,ls')∧(∀ x∈ls',P x))
 | [],ls,h,_=>⟨trivial,ls,rfl,h⟩
 | y :: ds,ls,h,hy=>by
  obtain⟨a,s,rfl,hp⟩:=hy y (List.mem_cons_self ..)
  have h':∀ x∈ls++[⟨a,s⟩],P x:=by
   intro x hx
   rcases List.mem_append.1 hx with hx | hx
   ·exact h x hx
   ·rw [List.mem_singleton.1 hx];exact hp
  obtain⟨h1,ls',h2,h3⟩:=falls_puts ss hQ ds _ h' (fun z hz=>hy z (List.mem_cons_of_mem _ hz))
  exact⟨⟨hQ ls h,h1⟩,ls',h2,h3⟩
theorem see_steps (f:Int) (b:Bool):∀ (ds:List Deed) (s:St),(∀ x∈s.2,0≤x.at_∧x.at_<s.1.length)→(∀ x∈ds,fit s.1.length x) →
  see ⟨(steps s ds).1,(steps s ds).2,f,b⟩=after (see ⟨s.1,s.2,f,b⟩) ds∧(∀ x∈(steps s ds).2,0≤x.at_∧x.at_<s.1.length)∧(steps s ds).1.length=s.1.length
 | [],s,h,_=>⟨rfl,h,rfl⟩
 | x :: ds,s,h,hf=>by
  have h1:see ⟨(stepS s x).1,(stepS s x).2,f,b⟩=after1 (see ⟨s.1,s.2,f,b⟩) x∧(∀ y∈(stepS s x).2,0≤y.at_∧y.at_<s.1.length)∧(stepS s x).1.length=s.1.length:=by
   have hx:=hf x (List.mem_cons_self ..)
   cases x with
   | put a u =>
    obtain⟨k,rfl⟩:∃ k:Nat,a=k:=⟨a.toNat,by have:=hx.1;omega⟩
    refine⟨?_,?_,rfl⟩
    ·have:=see_put ⟨s.1,s.2,f,b⟩ k u f b (by have:=hx.2;show k<s.1.length;omega)
     exact this
    ·intro y hy
     rcases List.mem_append.1 hy with hy | hy
     ·exact h y hy
     ·rw [List.mem_singleton.1 hy];exact hx
   | flush =>
    refine⟨?_,fun y hy=>absurd hy List.not_mem_nil,length_settleN _ _ _ _⟩
    have:=settle_see (d:=⟨s.1,s.2,f,b⟩) (fun x hx=>(h x hx).1)
    show see ⟨settleN s.1 s.2 (fun _=>true) s.2.length,[],f,b⟩=_
    rw [see_sure]
    exact this
  obtain⟨e1,e2,e3⟩:=h1
  have ih:=see_steps f b ds (stepS s x) (by rw [e3];exact e2) (by rw [e3];exact fun y hy=>hf y (List.mem_cons_of_mem _ hy))
  rw [e3] at ih
  refine⟨?_,ih.2.1,ih.2.2⟩
  show see ⟨(steps (stepS s x) ds).1,(steps (stepS s x) ds).2,f,b⟩=_
  rw [ih.1,e1]
  rfl
theorem steps_flush {ss:List (List UInt8)} (ds:List Deed) (hf:∀ x∈ds,fit ss.length x):steps (ss,[]) (ds++[.flush])=(after ss ds,[]):=by
 have hf':∀ x∈ds++[Deed.flush],fit ss.length x:=by
  intro x hx
  rcases List.mem_append.1 hx with hx | hx
  ·exact hf x hx
  ·rw [List.mem_singleton.1 hx];trivial
 have h:=see_steps 0 false (ds++[.flush]) (ss,[]) (fun x hx=>absurd hx List.not_mem_nil) hf'
 have h2:(steps (ss,[]) (ds++[.flush])).2=[]:=by rw [steps_append];rfl
 have h1:=h.1
 rw [h2,see_sure] at h1
 show ((steps (ss,[]) (ds++[.flush])).1,(steps (ss,[]) (ds++[.flush])).2)=_
 rw [h2,h1]
 have e:see ⟨ss,[],0,false⟩=ss:=see_sure _ _ _
 show (after (see ⟨ss,[],0,false⟩) (ds++[Deed.flush]),_)=_
 rw [e,after_append]
 rfl
end WalP
end
section
namespace WalP
def low (t:List (List UInt8)) (F:Nat) (g:Int):Prop:=∀ s,t[F]?=some s→(readMark s).2=true→(readMark s).1.gen<g
def base (S:Nat) (w:Int):Nat:=w.toNat*(S / 2)
structure KeptAt (S:Nat) (t:List (List UInt8)) (w gen:Int) (list:List (List UInt8)):Prop where
 len:t.length=S
 hS:S≤4096
 hw:w=0∨w=1
 g0:1≤gen
 ne:list≠[]
 tk:∀ b∈list,takes b.length≠0
 fits:posN list≤S / 2
 here:∃ z,hv t (base S w) (S / 2)=recsV gen 0 list++z∧(0<z.length→(readMark (z.getD 0 [])).2=false)
 other:low t (base S (1-w)) gen
theorem base_facts {S:Nat} {w:Int} (hw:w=0∨w=1):w*((S / 2:Nat):Int)=(base S w:Nat)∧(1-w)*((S / 2:Nat):Int)=(base S (1-w):Nat)∧base S w+S / 2≤S∧base S (1-w)+S / 2≤S∧(base S w+S / 2≤base S (1-w)∨base S (1-w)+S / 2≤base S w):=by
 unfold base
 rcases hw with rfl | rfl
 ·refine⟨by simp,by simp,by simp;omega,by simp;omega,by simp⟩
 ·refine⟨by simp,by simp,by simp;omega,by simp;omega,by simp⟩
theorem zeroS_none {t:List (List UInt8)} {F:Nat} {g:Int} (h:t[F]?=some zeroS):low t F g:=fun s hs hm=>by
 rw [h] at hs
 cases hs
 rw [zero_none] at hm
 cases hm
theorem KeptAt.old {S:Nat} {t0 t:List (List UInt8)} {w gen:Int} {list:List (List UInt8)} (h:KeptAt S t0 w gen list) (hl:t.length=S) (he:∀ i,base S w≤i→i<base S w+S / 2→t[i]?=t0[i]?) (ho:t[base S (1-w)]?=t0[base S (1-w)]?∨t[base S (1-w)]?=some zeroS):KeptAt S t w gen list:=by
 refine⟨hl,h.hS,h.hw,h.g0,h.ne,h.tk,h.fits,?_,?_⟩
 ·have e:hv t (base S w) (S / 2)=hv t0 (base S w) (S / 2):=by
   apply List.ext_getElem?
   intro i
   rw [hv_at,hv_at]
   by_cases hi:i<S / 2
   ·rw [if_pos hi,if_pos hi,he _ (by omega) (by omega)]
   ·rw [if_neg hi,if_neg hi]
  rw [e]
  exact h.here
 ·rcases ho with ho | ho
  ·intro s hs
   rw [ho] at hs
   exact h.other s hs
  ·exact zeroS_none ho
theorem KeptAt.first {S:Nat} {t:List (List UInt8)} {w gen:Int} {list:List (List UInt8)} (h:KeptAt S t w gen list) (hg:gen≤1099511627776):low t (base S w) (gen+1):=by
 obtain⟨z,hz,_⟩:=h.here
 obtain⟨b,l,hbl⟩:∃ b l,list=b :: l:=by cases hl:list with | nil=>exact absurd hl h.ne | cons b l=>exact⟨b,l,rfl⟩
 have hb:=h.tk b (by rw [hbl];exact List.mem_cons_self ..)
 have hp:0<S / 2:=by have:=posN_two h.ne h.tk;have:=h.fits;omega
 have e:t[base S w]?=some (markOf gen 0 b):=by
  have e1:=hv_at t (base S w) (S / 2) 0
  rw [if_pos hp,Nat.add_zero,hz,hbl] at e1
  rw [← e1];simp [recsV,recV]
 intro s hs hm
 rw [e] at hs
 cases hs
 have hb':=markOf_back (gen:=gen) (k:=0) (b:=b) h.g0 hg (by omega) hb
 rw [hb']
 show gen<gen+1
 omega
theorem recsD_at (gen:Int):∀ (l:List (List UInt8)) (a k:Nat),(∀ b∈l,takes b.length≠0)→∀ y∈recsD gen a k l,∃ (p:Nat) (s:List UInt8),y = .put p s∧a≤p∧p<a+posN l∧(k=0→a<p)
 | [],a,k,_,y,hy=>absurd hy List.not_mem_nil
 | b :: l,a,k,hb,y,hy=>by
  have h0:=hb b (List.mem_cons_self ..)
  have hc:=takes_chunks h0
  rw [length_chunks] at hc
  have h2:=takes_two h0
  simp only [recsD] at hy
  rw [posN_cons]
  rcases List.mem_append.1 hy with hy | hy
  ·unfold recD at hy
   rcases List.mem_append.1 hy with hy | hy
   ·unfold bytesD at hy
    obtain⟨i,hi,rfl⟩:=List.mem_map.1 hy
    rw [List.mem_range] at hi
    exact⟨a+1+i,_,by congr 1,by omega,by omega,fun _=>by omega⟩
   ·split at hy
    ·rw [List.mem_singleton.1 hy]
     exact⟨a,_,rfl,by omega,by omega,fun h=>by omega⟩
    ·exact absurd hy List.not_mem_nil
  ·rw [show ((a:Int)+(takes b.length:Nat))=((a+takes b.length:Nat):Int) by omega] at hy
   obtain⟨p,s,rfl,h1,h3,_⟩:=recsD_at gen l (a+takes b.length) (k+1) (fun x hx=>hb x (List.mem_cons_of_mem _ hx)) y hy
   exact⟨p,s,rfl,by omega,by omega,fun _=>by omega⟩
theorem after_apart {i:Nat}:∀ (ds:List Deed) (v:List (List UInt8)),(∀ y∈ds,∃ (p:Nat) (s:List UInt8),y = .put p s∧p≠i)→(after v ds)[i]?=v[i]?
 | [],v,_=>rfl
 | y :: ds,v,h=>by
  obtain⟨p,s,rfl,hp⟩:=h y (List.mem_cons_self ..)
  show (after (v.set (p:Int).toNat s) ds)[i]?=_
  rw [after_apart ds _ (fun z hz=>h z (List.mem_cons_of_mem _ hz)),List.getElem?_set_ne (by omega)]
theorem Settled.none {ss t:List (List UInt8)} (h:Settled (ss,[]) t):t=ss:=by
 apply List.ext_getElem?
 intro i
 rcases h.each i with h | ⟨x,hx,_⟩
 ·exact h
 ·exact absurd hx List.not_mem_nil
theorem Settled.one {ss t:List (List UInt8)} {a:Nat} {s:List UInt8} (h:Settled (ss,[⟨(a:Int),s⟩]) t):t=ss∨t=ss.set a s:=by
 by_cases ha:t[a]?=ss[a]?
 ·left
  apply List.ext_getElem?
  intro i
  rcases h.each i with h | ⟨x,hx,h1,_⟩
  ·exact h
  ·rw [List.mem_singleton.1 hx] at h1
   have:a=i:=by have:(a:Int)=i:=h1;omega
   rw [← this];exact ha
 ·right
  apply List.ext_getElem?
  intro i
  rw [List.getElem?_set]
  by_cases hi:a=i
  ·subst hi
   rw [if_pos rfl]
   rcases h.each a with h' | ⟨x,hx,_,h2⟩
   ·exact absurd h' ha
   ·rw [List.mem_singleton.1 hx] at h2
    have hl:a<t.length:=(List.getElem?_eq_some_iff.1 h2).1
    have hlen:t.length=ss.length:=h.len
    rw [if_pos (by omega),h2]
  ·rw [if_neg hi]
   rcases h.each i with h | ⟨x,hx,h1,_⟩
   ·exact h
   ·rw [List.mem_singleton.1 hx] at h1
    have:(a:Int)=i:=h1
    omega
theorem lay_falls {S:Nat} {d:DiskP} {w gen:Int} {list0 list:List (List UInt8)} (hu:Up S 0 d) (hk:KeptAt S d.secs w gen list0) (hg:gen≤1099511627775) (hne:list≠[]) (hb:∀ b∈list,takes b.length≠0) (hn:posN list≤S / 2) :
  ((run d (layD (S / 2) (1-w) (gen+1) list)).2=0∧Up S 0 (run d (layD (S / 2) (1-w) (gen+1) list)).1∧KeptAt S (run d (layD (S / 2) (1-w) (gen+1) list)).1.secs (1-w) (gen+1) list ∧
   hv (run d (layD (S / 2) (1-w) (gen+1) list)).1.secs (base S (1-w)) (S / 2)=recsV (gen+1) 0 list++List.replicate (S / 2-posN list) zeroS∧(d.fuse = -1→(run d (layD (S / 2) (1-w) (gen+1) list)).1.fuse = -1)) ∨
  ((run d (layD (S / 2) (1-w) (gen+1) list)).2=9∧Fell S 100000 (run d (layD (S / 2) (1-w) (gen+1) list)).1∧d.fuse ≠ -1∧∀ t,Settled ((run d (layD (S / 2) (1-w) (gen+1) list)).1.secs,(run d (layD (S / 2) (1-w) (gen+1) list)).1.loose) t→KeptAt S t w gen list0∨KeptAt S t (1-w) (gen+1) list):=by
 obtain⟨b1,b2,b3,b4,b5⟩:=base_facts (S:=S) hk.hw
 have hS:=hk.hS
 have hL:=hk.len
 obtain⟨F,hF⟩:∃ F,F=base S (1-w):=⟨_,rfl⟩
 obtain⟨H,hH⟩:∃ H,H=S / 2:=⟨_,rfl⟩
 have hlo:d.loose=[]:=List.eq_nil_of_length_eq_zero (Nat.le_zero.1 hu.len)
 have hfit:=fit_lay (S:=S) (F:=F) (gen:=gen+1) hne hb hn (by rw [hF];omega) (1-w) (by rw [hF];exact b2)
 have hlen:=length_layD (H:=S / 2) (which:=1-w) (gen:=gen+1) hb
 obtain⟨s0,hs0⟩:∃ s0,s0=d.secs:=⟨_,rfl⟩
 rw [← hs0] at hk hL
 have hH2:2≤H:=by have:=posN_two hne hb;omega
 have hFH:F+H≤s0.length:=by rw [hF,hH,hL];exact b4
 have e1:(1-w)*((S / 2:Nat):Int)=(F:Int):=by rw [hF];exact b2
 have hview:=lay_view (v:=s0) (F:=F) (H:=H) (gen:=gen+1) hne hb (by rw [hH];exact hn) hFH (1-w) (by rw [hH];exact e1)
 have hfar:=lay_far (v:=s0) (F:=F) (H:=H) (F':=base S w) (gen:=gen+1) hne hb (by rw [hH];exact hn) hFH (1-w) (by rw [hH];exact e1) (by rw [hH,hF];omega)
 have hnew:KeptAt S (after s0 (layD H (1-w) (gen+1) list)) (1-w) (gen+1) list:=by
  refine⟨by rw [length_after];exact hL,hS,by have:=hk.hw;omega,by have:=hk.g0;omega,hne,hb,hn,⟨_,by rw [← hF,← hH];exact hview,fun h=>?_⟩,?_⟩
  ·rw [List.length_replicate] at h
   rw [List.getD_eq_getElem?_getD,List.getElem?_replicate,if_pos h]
   exact zero_none
  ·rw [show 1-(1-w)=w by omega]
   intro s hs hm
   have e:=hv_at (after s0 (layD H (1-w) (gen+1) list)) (base S w) H 0
   rw [hfar,hv_at,if_pos (by omega),if_pos (by omega),Nat.add_zero] at e
   rw [← e] at hs
   exact hk.first (by omega) s hs hm
 have hold:∀ t,t.length=S→(∀ i,¬ (F≤i∧i<F+H)→t[i]?=s0[i]?)→(t[F]?=s0[F]?∨t[F]?=some zeroS)→KeptAt S t w gen list0:=fun t h1 h2 h3 =>
  hk.old h1 (fun i hi1 hi2=>h2 i (by rw [hF,hH];omega)) (by rw [← hF];exact h3)
 have hnewQ:∀ t,t=after s0 (layD H (1-w) (gen+1) list)→KeptAt S t (1-w) (gen+1) list:=fun t h=>h▸hnew
 obtain⟨s1,hs1⟩:∃ s1,s1=after s0 (zerosD F H):=⟨_,rfl⟩
 have hs1w:s1=wr s0 F (List.replicate H zeroS):=by rw [hs1,zeros_after]
 have hl1:s1.length=S:=by rw [hs1,length_after];exact hL
 have h1F:s1[F]?=some zeroS:=by
  rw [hs1w,wr_at _ _ _ _ (by simp;exact hFH),if_pos (by simp;omega),List.getElem?_replicate,if_pos (by omega)]
 have h1o:∀ i,¬ (F≤i∧i<F+H)→s1[i]?=s0[i]?:=fun i hi=>by
  rw [hs1w,wr_at _ _ _ _ (by simp;exact hFH),if_neg (by simpa using hi)]
 obtain⟨s2,hs2⟩:∃ s2,s2=after s1 (recsD (gen+1) F 0 list):=⟨_,rfl⟩
 have hl2:s2.length=S:=by rw [hs2,length_after];exact hl1
 have hrec:=recsD_at (gen+1) list F 0 hb
 have h2F:s2[F]?=some zeroS:=by
  rw [hs2,after_apart _ _ (fun y hy=>?_),h1F]
  obtain⟨p,s,h1,h2,h3,h4⟩:=hrec y hy
  exact⟨p,s,h1,by have:=h4 rfl;omega⟩
 have h2o:∀ i,¬ (F≤i∧i<F+H)→s2[i]?=s0[i]?:=fun i hi=>by
  rw [hs2,after_apart _ _ (fun y hy=>?_),h1o i hi]
  obtain⟨p,s,h1,h2,h3,h4⟩:=hrec y hy
  exact⟨p,s,h1,by omega⟩
 have hlay:layD (S / 2) (1-w) (gen+1) list=(zerosD F H++[.flush])++((recsD (gen+1) F 0 list++[.flush])++[.put F (markOf (gen+1) 0 (list.headD [])),.flush]):=by
  unfold layD
  rw [← hH,hH,e1,← hH]
  simp
 have hafter:after s0 (layD H (1-w) (gen+1) list)=s2.set F (markOf (gen+1) 0 (list.headD [])):=by
  rw [hH,hlay,after_append,after_append s0 (zerosD F H),← hs1]
  show after s1 ((recsD (gen+1) F 0 list++[.flush])++_)=_
  rw [after_append,after_append,← hs2]
  rfl
 have hfz:∀ x∈zerosD F H,fit S x:=fun x hx=>hfit x (by rw [hlay];simp [hx])
 have hfr:∀ x∈recsD (gen+1) F 0 list,fit S x:=fun x hx=>hfit x (by rw [hlay];simp [hx])
 obtain⟨Q,hQ⟩:∃ Q:St→Prop,Q=fun s=>∀ t,Settled s t→KeptAt S t w gen list0∨KeptAt S t (1-w) (gen+1) list:=⟨_,rfl⟩
 have hfalls:falls Q (s0,[]) (layD (S / 2) (1-w) (gen+1) list):=by
  rw [hlay]
  have pA:∀ ls:List WriteP,(∀ x∈ls,((F:Int)≤x.at_∧x.at_<F+H)∧x.data=zeroS)→Q (s0,ls):=by
   intro ls hls
   rw [hQ]
   intro t ht
   left
   refine hold t (ht.len.trans hL) (fun i hi=>?_) ?_
   ·rcases ht.each i with h | ⟨x,hx,h1,_⟩
    ·exact h
    ·have:=(hls x hx).1;omega
   ·rcases ht.each F with h | ⟨x,hx,h1,h2⟩
    ·exact .inl h
    ·right;rw [h2,(hls x hx).2]
  obtain⟨fA,lsA,sA,hA⟩:=falls_puts (P:=fun x=>((F:Int)≤x.at_∧x.at_<F+H)∧x.data=zeroS) s0 pA (zerosD F H) [] (fun x hx=>absurd hx List.not_mem_nil) (fun y hy=>by
   unfold zerosD at hy
   obtain⟨i,hi,rfl⟩:=List.mem_map.1 hy
   rw [List.mem_range] at hi
   exact⟨_,_,rfl,⟨by show (F:Int)≤F+i;omega,by show (F:Int)+i<F+H;omega⟩,rfl⟩)
  have fA':falls Q (s0,[]) (zerosD F H++[.flush]):=falls_append Q _ _ _ fA (by rw [sA];exact⟨pA lsA hA,trivial⟩)
  refine falls_append Q _ _ _ fA' ?_
  rw [steps_flush _ (by rw [hL];exact hfz),← hs1]
  have pB:∀ ls:List WriteP,(∀ x∈ls,(F:Int)<x.at_∧x.at_<F+H)→Q (s1,ls):=by
   intro ls hls
   rw [hQ]
   intro t ht
   left
   refine hold t (ht.len.trans hl1) (fun i hi=>?_) ?_
   ·rcases ht.each i with h | ⟨x,hx,h1,_⟩
    ·exact h.trans (h1o i hi)
    ·have:=hls x hx;omega
   ·rcases ht.each F with h | ⟨x,hx,h1,h2⟩
    ·exact .inr (h.trans h1F)
    ·have:=hls x hx;omega
  obtain⟨fB,lsB,sB,hB⟩:=falls_puts (P:=fun x=>(F:Int)<x.at_∧x.at_<F+H) s1 pB (recsD (gen+1) F 0 list) [] (fun x hx=>absurd hx List.not_mem_nil) (fun y hy=>by
   obtain⟨p,s,h1,h2,h3,h4⟩:=hrec y hy
   have:=h4 rfl
   exact⟨p,s,h1,by show (F:Int)<p;omega,by show (p:Int)<F+H;omega⟩)
  have fB':falls Q (s1,[]) (recsD (gen+1) F 0 list++[.flush]):=falls_append Q _ _ _ fB (by rw [sB];exact⟨pB lsB hB,trivial⟩)
  refine falls_append Q _ _ _ fB' ?_
  rw [steps_flush _ (by rw [hl1];exact hfr),← hs2]
  refine⟨?_,?_,trivial⟩
  ·rw [hQ]
   intro t ht
   rw [ht.none]
   exact .inl (hold s2 hl2 h2o (.inr h2F))
  ·rw [hQ]
   intro t ht
   rcases Settled.one ht with h | h
   ·rw [h]
    exact .inl (hold s2 hl2 h2o (.inr h2F))
   ·right
    exact hnewQ t (by rw [h,hafter])
 have hend:steps (s0,[]) (layD (S / 2) (1-w) (gen+1) list)=(after s0 (layD H (1-w) (gen+1) list),[]):=by
  obtain⟨es,hes⟩:=layD_last (S / 2) (1-w) (gen+1) list
  rw [hes,steps_flush _ (fun x hx=>by rw [hL];exact hfit x (by rw [hes];simp [hx])),hH,hes,after_append]
  rfl
 have hmain:=run_falls hS (Q:=Q) (layD (S / 2) (1-w) (gen+1) list) hu (by omega) hfit (by rw [hlo,← hs0];exact hfalls)
 rw [hlo,← hs0,hend] at hmain
 rcases hmain with ⟨r1,r2,r3,r4,_⟩ | ⟨r1,r2,r3,r4⟩
 ·left
  simp only [Prod.mk.injEq] at r3
  refine⟨r1,⟨r2.secs,r2.down,r2.fuse,r2.at_,by rw [r3.2];exact Nat.le_refl _⟩,by rw [r3.1];exact hnew,by rw [r3.1,← hF,← hH];exact hview,r4⟩
 ·right
  rw [hQ] at r3
  exact⟨r1,⟨r2.secs,r2.down,r2.fuse,r2.at_,Nat.le_trans r2.len (by omega)⟩,r4,r3⟩
end WalP
end
section
namespace WalP
structure HoldsF (S:Nat) (d:DiskP) (l:LogP) (list:List (List UInt8)):Prop where
 up:Up S 0 d
 kept:KeptAt S d.secs l.half l.gen list
 zeros:hv d.secs (base S l.half) (S / 2)=recsV l.gen 0 list++List.replicate (S / 2-posN list) zeroS
 used:l.used=posN list
 count:l.count=list.length
theorem Up.no_loose {S:Nat} {d:DiskP} (h:Up S 0 d):d.loose=[]:=List.eq_nil_of_length_eq_zero (Nat.le_zero.1 h.len)
theorem half_up {S n:Nat} {d:DiskP} (h:Up S n d):half d=S / 2:=by unfold half;rw [h.secs]
theorem Up.view {S:Nat} {d:DiskP} (h:Up S 0 d) (hS:S≤4096) {w:Int} (hw:w=0∨w=1):viewP d w=hv d.secs (base S w) (S / 2):=by
 have hr:=h.right hS (by omega)
 have hs:=h.secs
 have hd:=h.down
 have hlo:=h.no_loose
 have hh:=half_up h
 obtain⟨b1,_,b3,_,_⟩:=base_facts (S:=S) hw
 unfold viewP
 rw [hh]
 apply List.ext_getElem?
 intro i
 rw [List.getElem?_map,hv_at]
 by_cases hi:i<S / 2
 ·rw [List.getElem?_range hi,if_pos hi,b1]
  have ht:thereB d (((base S w:Nat):Int)+i)=true:=by simp [thereB,hs];omega
  have hl:base S w+i<d.secs.length:=by omega
  have e:(((base S w:Nat):Int)+i).toNat=base S w+i:=by omega
  simp [readP,hr,ht,hd,hlo,lastW,e,hl]
 ·rw [if_neg hi,List.getElem?_eq_none (by simpa using hi)];rfl
theorem HoldsF.right {S:Nat} {d:DiskP} {l:LogP} {list:List (List UInt8)} (h:HoldsF S d l list) (hg:l.gen≤1099511627776):rightL d l=true:=by
 have hr:=h.up.right h.kept.hS (by omega)
 have hh:=half_up h.up
 have h2:=posN_two h.kept.ne h.kept.tk
 have hc:=len_le_posN list h.kept.tk
 have hf:=h.kept.fits
 have hp:0<list.length:=List.length_pos_iff.2 h.kept.ne
 have hw:=h.kept.hw
 have g0:=h.kept.g0
 unfold rightL
 rw [hr,h.used,h.count,hh]
 simp only [Bool.true_and,Bool.and_eq_true,Bool.or_eq_true,decide_eq_true_eq]
 omega
theorem KeptAt.list_len {S:Nat} {t:List (List UInt8)} {w gen:Int} {list:List (List UInt8)} (h:KeptAt S t w gen list):list.length≤2^40:=by
 have:=len_le_posN list h.tk
 have:=h.fits
 have:=h.hS
 omega
theorem KeptAt.records {S:Nat} {t:List (List UInt8)} {w gen:Int} {list:List (List UInt8)} (h:KeptAt S t w gen list) (hg:gen≤1099511627776):recordsP (hv t (base S w) (S / 2))=(list,posN list,gen,0):=by
 obtain⟨z,hz,hz0⟩:=h.here
 rw [hz]
 unfold recordsP
 have hl:=length_recsV gen list 0 h.tk
 have hp:=len_le_posN list h.tk
 have:=recsGo_back gen h.g0 hg z hz0 list [] [] ((recsV gen 0 list++z).length+1) 0 h.tk (by have:=h.list_len;simpa using this) (by rw [List.length_append];omega) (.inl rfl) (by simpa using h.ne)
 simpa using this
theorem low_gen {S:Nat} {t:List (List UInt8)} {w g:Int} (hl:low t (base S w) g) (g0:1≤g):genV (hv t (base S w) (S / 2))<g:=by
 rcases genV_eq (hv t (base S w) (S / 2)) with h | ⟨h1,h2,h3⟩
 ·omega
 ·rw [h3]
  have hS:0<S / 2:=by simp [hv] at h1;omega
  have e:=hv_at t (base S w) (S / 2) 0
  rw [if_pos hS,Nat.add_zero] at e
  have hs:t[base S w]?=some ((hv t (base S w) (S / 2)).getD 0 []):=by
   rw [← e,List.getD_eq_getElem?_getD,List.getElem?_eq_getElem h1];rfl
  exact hl _ hs h2
theorem compact_cases {S:Nat} {d:DiskP} {l:LogP} {list0:List (List UInt8)} (hu:Up S 0 d) (hk:KeptAt S d.secs l.half l.gen list0) (hR:rightL d l=true) (hg:l.gen≤1099511627775) (list:List (List UInt8)) :
  (total list=none∧compactP d l list=(d,l,1))∨(total list=some (posN list)∧S / 2<posN list∧compactP d l list=(d,l,8)) ∨
  (∃ d',compactP d l list=(d',⟨1-l.half,l.gen+1,posN list,list.length⟩,0)∧HoldsF S d' ⟨1-l.half,l.gen+1,posN list,list.length⟩ list∧(d.fuse = -1→d'.fuse = -1)) ∨
  (∃ d',compactP d l list=(d',l,9)∧Fell S 100000 d'∧d.fuse ≠ -1∧∀ t,Settled (d'.secs,d'.loose) t→KeptAt S t l.half l.gen list0∨KeptAt S t (1-l.half) (l.gen+1) list):=by
 have hh:=half_up hu
 rcases total_eq list with ht | ⟨hne,hb,ht⟩
 ·exact .inl ⟨ht,by simp only [compactP,ht]⟩
 ·right
  by_cases hn:half d<posN list
  ·left
   refine⟨ht,by rw [← hh];exact hn,?_⟩
   simp only [compactP,ht,hR,if_true,if_pos hn]
  ·right
   have e:compactP d l list=if (run d (layD (S / 2) (1-l.half) (l.gen+1) list)).2=0 then ((run d (layD (S / 2) (1-l.half) (l.gen+1) list)).1,⟨1-l.half,l.gen+1,posN list,list.length⟩,0) else ((run d (layD (S / 2) (1-l.half) (l.gen+1) list)).1,l,(run d (layD (S / 2) (1-l.half) (l.gen+1) list)).2):=by
    simp only [compactP,ht,hR,if_true,if_neg hn]
    rw [if_neg (by omega),hh]
   rcases lay_falls hu hk hg hne hb (by rw [← hh];omega) with ⟨r1,r2,r3,r4,r5⟩ | ⟨r1,r2,r3,r4⟩
   ·left
    refine⟨_,by rw [e,if_pos r1],⟨r2,r3,r4,rfl,rfl⟩,r5⟩
   ·right
    refine⟨_,by rw [e,if_neg (by rw [r1];decide),r1],r2,r3,r4⟩
theorem open_cases {S:Nat} {d:DiskP} {w gen:Int} {list:List (List UInt8)} (hu:Up S 0 d) (hk:KeptAt S d.secs w gen list) (hg:gen≤1099511627775) :
  (∃ d',openP d=(d',⟨1-w,gen+1,posN list,list.length⟩,list,0)∧HoldsF S d' ⟨1-w,gen+1,posN list,list.length⟩ list∧(d.fuse = -1→d'.fuse = -1)) ∨
  (∃ d',openP d=(d',log0,[],9)∧Fell S 100000 d'∧d.fuse ≠ -1∧∀ t,Settled (d'.secs,d'.loose) t→KeptAt S t w gen list∨KeptAt S t (1-w) (gen+1) list):=by
 have hS:=hk.hS
 have hr:=hu.right hS (by omega)
 have hd:=hu.down
 have hw':1-w=0∨1-w=1:=by have:=hk.hw;omega
 have eh:recordsP (viewP d w)=(list,posN list,gen,0):=by rw [hu.view hS hk.hw];exact hk.records (by omega)
 have eo:genV (viewP d (1-w))<gen:=by rw [hu.view hS hw'];exact low_gen hk.other hk.g0
 unfold genV at eo
 have hx:(if (recordsP (viewP d 0)).2.2.1<(recordsP (viewP d 1)).2.2.1 then recordsP (viewP d 1) else recordsP (viewP d 0))=(list,posN list,gen,0)∧(if (recordsP (viewP d 0)).2.2.1<(recordsP (viewP d 1)).2.2.1 then (1:Int) else 0)=w:=by
  rcases hk.hw with e | e
  ·rw [e] at eh eo
   rw [if_neg (by rw [eh];show ¬ gen<(recordsP (viewP d (1-0))).2.2.1;omega),if_neg (by rw [eh];show ¬ gen<(recordsP (viewP d (1-0))).2.2.1;omega),e]
   exact⟨eh,rfl⟩
  ·rw [e] at eh eo
   rw [if_pos (by rw [eh];exact eo),if_pos (by rw [eh];exact eo),e]
   exact⟨eh,rfl⟩
 obtain⟨h1,h2⟩:=hx
 have hR:rightL d ⟨w,gen,posN list,list.length⟩=true:=by
  have hh:=half_up hu
  have h2:=posN_two hk.ne hk.tk
  have hc:=len_le_posN list hk.tk
  have hf:=hk.fits
  have hp:0<list.length:=List.length_pos_iff.2 hk.ne
  have hw:=hk.hw
  have g0:=hk.g0
  unfold rightL
  rw [hr,hh]
  simp only [Bool.true_and,Bool.and_eq_true,Bool.or_eq_true,decide_eq_true_eq]
  omega
 have e:openP d=if (compactP d ⟨w,gen,posN list,list.length⟩ list).2.2≠0 then ((compactP d ⟨w,gen,posN list,list.length⟩ list).1,log0,[],(compactP d ⟨w,gen,posN list,list.length⟩ list).2.2) else ((compactP d ⟨w,gen,posN list,list.length⟩ list).1,(compactP d ⟨w,gen,posN list,list.length⟩ list).2.1,list,0):=by
  simp only [openP,hr,hd,h1,h2]
  simp
 rcases compact_cases hu hk hR hg list with ⟨ht,_⟩ | ⟨_,hn,_⟩ | ⟨d',c1,c2,c3⟩ | ⟨d',c1,c2,c3,c4⟩
 ·rw [total_some hk.ne hk.tk] at ht;cases ht
 ·have:=hk.fits;omega
 ·left
  refine⟨d',?_,c2,c3⟩
  rw [e,c1,if_neg (by simp)]
 ·right
  refine⟨d',?_,c2,c3,c4⟩
  rw [e,c1,if_pos (show (9:Int)≠0 by decide)]
end WalP
end
section
open WalP
def FallP (G:Int) (d:DiskP) (A B:List (List UInt8)):Prop:=Fell 80 100000 d∧∀ t,Settled (d.secs,d.loose) t→∃ w gen,gen≤G∧(KeptAt 80 t w gen A∨KeptAt 80 t w gen B)
def UpK (G:Int) (d:DiskP) (X:List (List UInt8)):Prop:=Up 80 0 d∧∃ w gen,gen≤G∧KeptAt 80 d.secs w gen X
theorem UpK.opened {G:Int} {d:DiskP} {X:List (List UInt8)} (h:UpK G d X) (hG:G≤1000000) (A B:List (List UInt8)) (hX:X=A∨X=B) :
  (∃ d' l',openP d=(d',l',X,0)∧HoldsF 80 d' l' X∧l'.gen≤G+1∧(d.fuse = -1→d'.fuse = -1))∨(∃ d',openP d=(d',log0,[],9)∧d.fuse ≠ -1∧FallP (G+1) d' A B):=by
 obtain⟨hu,w,gen,hg,hk⟩:=h
 rcases open_cases hu hk (by omega) with ⟨d',e,h1,h2⟩ | ⟨d',e,h1,h2,h3⟩
 ·left
  exact⟨d',_,e,h1,by show gen+1≤_;omega,h2⟩
 ·right
  refine⟨d',e,h2,h1,fun t ht=>?_⟩
  rcases h3 t ht with h | h
  ·refine⟨w,gen,by omega,?_⟩
   rcases hX with rfl | rfl
   ·exact .inl h
   ·exact .inr h
  ·refine⟨1-w,gen+1,by omega,?_⟩
   rcases hX with rfl | rfl
   ·exact .inl h
   ·exact .inr h
end
section
open Go.RowKit WalP PackP
theorem op_buildSlice {P:Program} {o:Oper} {a:Act} {w w':World} {K:Act→World→Prop} {Q:Exit→Act→World→Prop} (t:TypeId) (n:Nat) (L:List (Nat×Operand)) (ho:o.op = .buildSlice t n L.toArray) {v:Value} {L':List (Nat×Value)} (hL:L.map (fun x=>(x.1,a.eval x.2))=L') (hb:(Instr.buildSlice t n L'.toArray).run P w = .ok v w')
  (h:K (a.put o.dst v) w'):Oper.wp P o a w K Q:=by
 subst hL
 unfold Oper.wp execOp
 simp only [ho,Sem.run_bind,Sem.run_pure,Result.andThen_ok,List.map_toArray,hb]
 exact h
section
variable {P:Program} {ops:Array Oper} {rest:List Oper} {o:Oper} {a:Act} {w:World} {Q:Exit→Act→World→Prop}
end
def LS (D L:Nat) (w:World) (v:Value) (ls:List (List UInt8)):Prop:=∃ a c,v = .slice a ls.length c∧PiecesS (fun b=>b≠D∧b≠L) w.heap.size w (.slice a ls.length c) ls
theorem LS.below {D L:Nat} {w w':World} {v:Value} {ls:List (List UInt8)} (h:LS D L w v ls) (hb:Below w.heap.size w w'):LS D L w' v ls:=by
 obtain⟨a,c,rfl,h⟩:=h
 exact⟨a,c,rfl,(h.below hb).tight⟩
theorem LS.keep {D L:Nat} {w w':World} {v:Value} {ls:List (List UInt8)} (h:LS D L w v ls) (hk:∀ k,k≠D→k≠L→w'.heap[k]?=w.heap[k]?):LS D L w' v ls:=by
 obtain⟨a,c,rfl,h⟩:=h
 exact⟨a,c,rfl,(h.keep (fun k hk' _=>hk k hk'.1 hk'.2)).tight⟩
theorem LS.pieces {D L:Nat} {w:World} {a:Option Addr} {n c:Nat} {ls:List (List UInt8)} (h:LS D L w (.slice a n c) ls):Pieces w.heap.size w (.slice a n c) ls:=by
 obtain⟨_,_,hv,h⟩:=h
 rw [hv]
 exact h.pieces
structure Core (W:World) (D L:Nat) (w:World) (d:DiskP) (l:LogP) (want:List (List UInt8)) (v:Value):Prop where
 d:DAt w D d
 l:LAt w L l
 b:Below W.heap.size W w
 v:LS D L w v want
theorem Core.below {W:World} {D L:Nat} {w w':World} {d:DiskP} {l:LogP} {want:List (List UInt8)} {v:Value} (h:Core W D L w d l want v) (hb:Below w.heap.size w w'):Core W D L w' d l want v :=
 ⟨h.d.below hb,h.l.below hb,h.b.trans (hb.mono h.b.size),h.v.below hb⟩
theorem Core.stored {W:World} {D L:Nat} {w w9:World} {d d':DiskP} {l l':LogP} {want:List (List UInt8)} {v:Value} (h:Core W D L w d l want v) (hD:W.heap.size≤D) (hL:W.heap.size≤L)
  (hs:DAt w9 D d'∧LAt w9 L l'∧w9.heap.size=w.heap.size∧(∀ k,k≠D→k≠L→w9.heap[k]?=w.heap[k]?)∧(∀ B w0,Below B w0 w→B≤D→B≤L→Below B w0 w9)):Core W D L w9 d' l' want v :=
 ⟨hs.1,hs.2.1,hs.2.2.2.2 _ _ h.b hD hL,h.v.keep hs.2.2.2.1⟩
end
section
open Go.RowKit
theorem run_append2 {P:Program} {B:Nat} {w:World} {v x:Value} {sz n m bytes:Nat} {cs news:List Value} (t xt ty e:TypeId) (i:TypeInfo) (z:Value)
  (ht:P.underlying t=some (.slice e)) (hxt:(∃ e',P.underlying xt=some (.slice e'))∨P.underlying xt=some .string) (hi:P.info? e=some i) (hz:i.zero=some z) (hsz:i.size=sz) (hby:i.bytes=bytes) (hzs:z.cells.size=sz)
  (hown:Own B w e v sz n cs) (hsrc:Src P w x sz m news) (h1:∀ u∈news,u.oneCell'=true) (h63:n+m≤maxLen) (hroom:(n+m)*bytes≤140737488355328) (hB:B≤w.heap.size) :
  ∃ v' w',(Builtin.append_ #[t,xt] ty #[v,x]).run P w = .ok v' w'∧Own B w' e v' sz (n+m) (cs++news)∧Below B w w'∧(∀ (T:Nat) (cs':Array Value) (t':TypeId) (fr:Nat×Nat),w.heap[T]?=some (.cells cs' t' fr)→t'≠e→w'.heap[T]?=w.heap[T]?):=by
 subst hsz
 subst hby
 obtain⟨hl,a,cap,rfl,hnc,hcap,halt⟩:=hown
 obtain⟨hnl,hlen,hfirst⟩:=hsrc
 have hf0:=hfirst w (fun _=>rfl)
 have hf1:=hfirst w.drew (fun p=>by simp)
 have hll:(cs++news).length=(n+m)*i.size:=by rw [List.length_append,hl,hnl,Nat.add_mul]
 by_cases hfit:n+m≤cap
 ·rcases halt with h0 | ⟨g,cur,rfl,hg,hh,hs,htake⟩
  ·subst h0
   obtain⟨rfl,rfl⟩:n=0∧m=0:=by omega
   have e1:cs=[]:=List.eq_nil_of_length_eq_zero (by simpa using hl)
   have e2:news=[]:=List.eq_nil_of_length_eq_zero (by simpa using hnl)
   subst e1;subst e2
   refine⟨.slice a 0 0,w,?_,Own.none _ _ _ _ _,Below.refl _ _,fun _ _ _ _ _ _=>rfl⟩
   rcases hxt with ⟨e',hxt⟩ | hxt <;> cases a <;> simp [Builtin.append_,run_underlying ht,run_underlying hxt,sizeOf,typeInfo,hi,hlen,hf0,storeCells]
  ·have hst:=run_storeCells_at P g (n*i.size) e news 0 cur w hh (by rw [hs,hnl,Nat.add_zero,← Nat.add_mul];exact Nat.mul_le_mul_right _ hfit) h1
   simp only [Nat.add_zero] at hst
   refine⟨.slice (some ⟨g,0,Option.none⟩) (n+m) cap,w.setRow g (cur.toList.take (n*i.size)++news++cur.toList.drop (n*i.size+news.length)).toArray,?_,⟨hll,_,cap,rfl,hfit,hcap,.inr ⟨g,_,rfl,hg,setRow_heap w g cur _ e _ hh,?_,?_⟩⟩,?_,?_⟩
   ·rcases hxt with ⟨e',hxt⟩ | hxt <;> simp [Builtin.append_,run_underlying ht,run_underlying hxt,sizeOf,typeInfo,hi,hlen,hf0,hfit,Addr.add_lit,hst]
   ·have:n*i.size+news.length≤cap*i.size:=by rw [hnl,← Nat.add_mul];exact Nat.mul_le_mul_right _ hfit
    simp only [List.size_toArray,List.length_append,List.length_take,List.length_drop,Array.length_toList]
    omega
   ·rw [htake,← hll]
    exact List.take_left
   ·exact⟨rfl,rfl,rfl,by simp [World.setRow],fun k hk=>setRow_other w g k _ (by omega)⟩
   ·intro T cs' t' fr hT hne
    refine setRow_other w g T _ (fun e'=>?_)
    subst e'
    rw [hh] at hT
    cases hT
    exact hne rfl
 ·have hfo:(Builtin.firstCells i.size n (.slice a n cap)).run P w.drew = .ok cs.toArray w.drew:=by
   have hr:Row w.heap.size w (.slice a n cap) i.size n cs:=Own.row ⟨hl,a,cap,rfl,hnc,hcap,halt⟩
   exact hr.src.2.2 w.drew (fun p=>by simp)
  have h63':¬ (9223372036854775807<((n:Int)+(m:Int))):=by unfold maxLen at h63;omega
  have h48':¬ (281474976710656<Builtin.nextslicecap (n+m) cap*i.bytes):=Nat.not_lt.2 (growslice_fits (by omega) hroom)
  have hge:=grownCap_ge w (n+m) cap e
  have hcm:=grownCap_le_maxLen w (n+m) cap e h63
  refine⟨.slice (some ⟨w.heap.size,0,Option.none⟩) (n+m) (grownCap w (n+m) cap e),w.drew.alloc (.cells (cs.toArray++news.toArray++Builtin.zeroCells z.cells (grownCap w (n+m) cap e-(n+m))) e),?_,
   ⟨hll,_,_,rfl,hge,hcm,.inr ⟨w.heap.size,_,rfl,hB,heap_alloc_new w.drew _,?_,?_⟩⟩,?_,?_⟩
  ·rcases hxt with ⟨e',hxt⟩ | hxt <;> (simp [Builtin.append_,run_underlying ht,run_underlying hxt,sizeOf,typeInfo,zeroValue,hi,hz,hlen,hfit,h63',h48',Question.forced,hf1,hfo,newRow,grownCap];(congr 2;apply Array.ext';simp [List.append_assoc]))
  ·simp only [Array.size_append,List.size_toArray,size_zeroCells,hzs,hl,hnl,← Nat.add_mul]
   congr 1
   omega
  ·simp only [Array.toList_append,List.append_assoc]
   rw [← List.append_assoc,← hll]
   exact List.take_left
  ·exact⟨rfl,rfl,rfl,by simp,fun k hk=>Below.heap_alloc w.drew _ k (Nat.lt_of_lt_of_le hk hB)⟩
  ·intro T cs' t' fr hT _
   exact Below.heap_alloc w.drew _ T (zB hT)
theorem wp_append2 {P:Program} {ops:Array Oper} {rest:List Oper} {o:Oper} {a:Act} {w:World} {Q:Exit→Act→World→Prop} (hgd:o.guard=Option.none) (s y:Operand) (t xt e:TypeId)
  (ho:o.op = .call { callee:=.builtin .append,args:=#[s,y],argTypes:=#[t,xt] }) (i:TypeInfo) (z:Value) (sz bytes:Nat)
  (ht:P.underlying t=some (.slice e)) (hxt:(∃ e',P.underlying xt=some (.slice e'))∨P.underlying xt=some .string) (hi:P.info? e=some i) (hz:i.zero=some z) (hsz:i.size=sz) (hby:i.bytes=bytes) (hzs:z.cells.size=sz)
  {B:Nat} {v x:Value} {n m:Nat} {cs news:List Value} (hs:a.eval s=v) (hx:a.eval y=x)
  (hown:Own B w e v sz n cs) (hsrc:Src P w x sz m news) (h1:∀ u∈news,u.oneCell'=true) (h63:n+m≤maxLen) (hroom:(n+m)*bytes≤140737488355328) (hB:B≤w.heap.size)
  (h:∀ v' w',Own B w' e v' sz (n+m) (cs++news)→Below B w w'→(∀ (T:Nat) (cs':Array Value) (t':TypeId) (fr:Nat×Nat),w.heap[T]?=some (.cells cs' t' fr)→t'≠e→w'.heap[T]?=w.heap[T]?)→wpList P ops Q rest (a.put o.dst v') w'):wpList P ops Q (o :: rest) a w:=by
 refine wpList_plain hgd fun K hK=>?_
 obtain⟨v',w',hr,h2,h3,h4⟩:=run_append2 (P:=P) t xt o.type e i z ht hxt hi hz hsz hby hzs hown hsrc h1 h63 hroom hB
 subst hs
 subst hx
 unfold Oper.wp execOp
 simp only [ho,resolve,invoke,builtin,Sem.run_bind,Sem.run_pure,Result.andThen_ok,List.map_toArray,List.map_cons,List.map_nil,hr]
 exact hK _ _ (h v' w' h2 h3 h4)
theorem Own.setType {B:Nat} {w:World} {e t:TypeId} {v:Value} {sz n:Nat} {cs:List Value} {cs':Array Value} {fr:Nat×Nat} (h:Own B w e v sz n cs) (p:Addr) (u:Value) (hp:w.heap[p.block]?=some (.cells cs' t fr)) (ht:t≠e):Own B (w.setCell p u) e v sz n cs:=by
 obtain⟨h1,a,cap,rfl,h2,h3,h4⟩:=h
 refine⟨h1,a,cap,rfl,h2,h3,?_⟩
 rcases h4 with h4 | ⟨g,cur,rfl,hg,hh,hs,ht'⟩
 ·exact .inl h4
 ·refine .inr ⟨g,cur,rfl,hg,?_,hs,ht'⟩
  simp only [World.setCell,Array.getElem?_modify]
  rw [if_neg (fun e'=>by rw [e',hh] at hp;cases hp;exact ht rfl)]
  exact hh
end
section
namespace KvP
open PackP
theorem dec1_gone {r:RS} (h:r.num.2=1):dec1 r=(((r.num.1.fail (decide (1<r.num.2)) 3).text).1,⟨((r.num.1.fail (decide (1<r.num.2)) 3).text).2,[],true⟩):=by
 unfold dec1
 simp only [h,if_true]
theorem dec1_put {r:RS} (h:r.num.2≠1):dec1 r=((((r.num.1.fail (decide (1<r.num.2)) 3).text).1.text).1,⟨((r.num.1.fail (decide (1<r.num.2)) 3).text).2,(((r.num.1.fail (decide (1<r.num.2)) 3).text).1.text).2,false⟩):=by
 unfold dec1
 simp only [if_neg h]
theorem decN_snoc:∀ (n:Nat) (r:RS),decN (n+1) r=((dec1 (decN n r).1).1,(decN n r).2++[(dec1 (decN n r).1).2])
 | 0,r=>rfl
 | n+1,r=>by
  have ih:=decN_snoc n (dec1 r).1
  rw [decN]
  dsimp only
  rw [ih]
  rfl
theorem len_decN:∀ (n:Nat) (r:RS),(decN n r).2.length=n
 | 0,_=>rfl
 | n+1,r=>by
  rw [decN]
  dsimp only
  rw [List.length_cons,len_decN n]
theorem take_keep {r:RS} (h:r.e≠0) (n:Nat):r.take n=(r,none):=by unfold RS.take;rw [if_neg h]
theorem num_keep {r:RS} (h:r.e≠0):r.num=(r,0):=by unfold RS.num;rw [take_keep h]
theorem text_keep {r:RS} (h:r.e≠0):r.text=(r,[]):=by unfold RS.text;rw [take_keep h]
theorem fail_keep {r:RS} (h:r.e≠0) (b:Bool) (x:Int):r.fail b x=r:=by unfold RS.fail;rw [if_neg (fun h'=>h h'.2)]
theorem doneE_bad {r:RS} (h:r.e≠0):r.doneE=r.e:=by unfold RS.doneE;rw [if_neg (fun h'=>h h'.1)]
theorem dec1_keep {r:RS} (h:r.e≠0):(dec1 r).1=r:=by
 rw [dec1_put (by rw [num_keep h];exact (by decide:(0:Int)≠1)),num_keep h]
 dsimp only
 rw [fail_keep h,text_keep h]
 dsimp only
 rw [text_keep h]
theorem decN_stuck (M k:Nat) (r0:RS) (hk:k≤M) (h:(decN k r0).1.e≠0):(decN M r0).1=(decN k r0).1:=by
 obtain⟨n,rfl⟩:=Nat.exists_eq_add_of_le hk
 clear hk
 induction n with
 | zero=>rfl
 | succ n ih =>
  rw [← Nat.add_assoc,decN_snoc]
  rw [← ih] at h
  rw [dec1_keep h,ih]
theorem num_nat (r:RS):∃ n:Nat,r.num.2=(n:Int):=by
 unfold RS.num
 split
 ·exact⟨0,rfl⟩
 ·split
  ·exact⟨0,rfl⟩
  ·exact⟨_,rfl⟩
theorem count_nat (r:RS):∃ M:Nat,(r.count 400).2=(M:Int)∧M≤400:=by
 obtain⟨n,hn⟩:=num_nat r
 unfold RS.count
 dsimp only
 split
 ·split
  ·exact⟨0,rfl,by decide⟩
  ·rename_i h
   exact⟨n,hn,by rw [hn] at h;omega⟩
 ·exact⟨0,rfl,by decide⟩
theorem decodeP_bad (bs:List UInt8) (M:Nat) (hM:((RS.mk bs 0).count 400).2=(M:Int)) (h:(decN M ((RS.mk bs 0).count 400).1).1.doneE≠0):decodeP bs=([],(decN M ((RS.mk bs 0).count 400).1).1.doneE):=by
 unfold decodeP
 dsimp only
 rw [hM,Int.toNat_natCast]
 have e:(if (decN M ((RS.mk bs 0).count 400).1).1.doneE=0∧changesB (decN M ((RS.mk bs 0).count 400).1).2=false then (3:Int) else (decN M ((RS.mk bs 0).count 400).1).1.doneE)=(decN M ((RS.mk bs 0).count 400).1).1.doneE:=if_neg (fun h'=>h h'.1)
 rw [e,if_neg h]
theorem decodeP_form (bs:List UInt8) (M:Nat) (hM:((RS.mk bs 0).count 400).2=(M:Int)) (h:(decN M ((RS.mk bs 0).count 400).1).1.doneE=0) (hc:changesB (decN M ((RS.mk bs 0).count 400).1).2=false):decodeP bs=([],3):=by
 unfold decodeP
 dsimp only
 rw [hM,Int.toNat_natCast]
 have e:(if (decN M ((RS.mk bs 0).count 400).1).1.doneE=0∧changesB (decN M ((RS.mk bs 0).count 400).1).2=false then (3:Int) else (decN M ((RS.mk bs 0).count 400).1).1.doneE)=3:=if_pos ⟨h,hc⟩
 rw [e]
 rfl
theorem decodeP_good (bs:List UInt8) (M:Nat) (hM:((RS.mk bs 0).count 400).2=(M:Int)) (h:(decN M ((RS.mk bs 0).count 400).1).1.doneE=0) (hc:changesB (decN M ((RS.mk bs 0).count 400).1).2=true):decodeP bs=((decN M ((RS.mk bs 0).count 400).1).2,0):=by
 unfold decodeP
 dsimp only
 rw [hM,Int.toNat_natCast]
 have e:(if (decN M ((RS.mk bs 0).count 400).1).1.doneE=0∧changesB (decN M ((RS.mk bs 0).count 400).1).2=false then (3:Int) else (decN M ((RS.mk bs 0).count 400).1).1.doneE)=0:=by
  rw [if_neg (fun h'=>by have h2:=h'.2;rw [hc] at h2;cases h2),h]
 rw [e,if_pos rfl]
end KvP
end
section
open Go.RowKit WalP PackP
structure StepP where
 bytes:List UInt8
 last:Int
 pack:Bool
 fuse:Int
def StepP.wf (s:StepP):Prop:=0≤s.last∧s.last<256 ∧ -128≤s.fuse∧s.fuse≤127
theorem LS.made {D L:Nat} {w0 w:World} {v:Value} {ls:List (List UInt8)} {vs:List Value} {n:Nat} (hD:D<w0.heap.size) (hL:L<w0.heap.size) (hn:n=ls.length) (hown:Own w0.heap.size w 23 v 1 n vs)
  (hel:∀ (k:Nat) (h:k<ls.length),∃ u,vs[k]?=some u∧Bytes w.heap.size w u ls[k]∧Sl (fun b=>b≠D∧b≠L) u):LS D L w v ls:=by
 subst hn
 obtain⟨_,a,c,rfl,_,_,_⟩:=id hown
 exact⟨a,c,rfl,vs,hown.row,hown.sl (fun b hb=>by omega),hel⟩
end
section
open Go.RowKit WalP PackP
theorem info_disk:∃ i,Tryz.prog.info? 38=some i∧i.size=4:=by
 obtain⟨i,hi,hs⟩:=Option.map_eq_some_iff.1 zQ
 exact⟨i,hi,hs⟩
theorem info_log:∃ i,Tryz.prog.info? 41=some i∧i.size=4:=by
 obtain⟨i,hi,hs⟩:=Option.map_eq_some_iff.1 size_log
 exact⟨i,hi,hs⟩
theorem ones4 {a b c d:Value} (h0:a.oneCell'=true) (h1:b.oneCell'=true) (h2:c.oneCell'=true) (h3:d.oneCell'=true):∀ v∈(#[a,b,c,d]:Array Value).toList,v.oneCell'=true:=by
 intro v hv
 simp only [List.mem_cons,List.not_mem_nil,or_false] at hv
 rcases hv with rfl | rfl | rfl | rfl <;> assumption
end
section
open Go.RowKit WalP PackP
theorem sl_far {T:Nat} {B:Nat} {w:World} {v:Value} {sz n:Nat} {cs:List Value} {C:Array Value} {e:TypeId} {fz:Nat×Nat} (hsz:64≤sz) (h:Row B w v sz n cs) (hT:w.heap[T]?=some (.cells C e fz)) (hC:C.size<64):Sl (·≠T) v:=by
 obtain⟨hl,a,cap,rfl,_,_,h3⟩:=h
 intro a' n' c' hv hp
 cases hv
 obtain⟨b,off,hb,_,hc⟩:=h3 hp
 cases hb
 show b≠T
 intro e1
 subst e1
 have hlen:off+63<off+cs.length:=by
  rw [hl]
  have:sz≤n*sz:=Nat.le_mul_of_pos_left sz hp
  omega
 have h63:63<cs.length:=by omega
 have:=hc 63 _ (List.getElem?_eq_getElem h63)
 unfold World.cell? at this
 rw [hT] at this
 simp only at this
 have h4:C[off+63]?=none:=Array.getElem?_eq_none (by omega)
 rw [h4] at this
 cases this
theorem DiskV.kept {B T:Nat} {w w':World} {v:Value} {d:DiskP} {C:Array Value} {e:TypeId} {fz:Nat×Nat} (h:DiskV B w v d) (hT:w.heap[T]?=some (.cells C e fz)) (hC:C.size<64) (hk:∀ k,k≠T→w'.heap[k]?=w.heap[k]?):DiskV B w' v d:=by
 obtain⟨sv,lv,rfl,hs,hl⟩:=h
 exact⟨sv,lv,rfl,⟨hs.1,hs.2.keepS (sl_far (by decide) hs.2 hT hC) (fun k hk1 _=>hk k hk1)⟩,⟨hl.1,hl.2.keepS (sl_far (by decide) hl.2 hT hC) (fun k hk1 _=>hk k hk1)⟩⟩
theorem DAt.kept {T D:Nat} {w w':World} {d:DiskP} {C:Array Value} {e:TypeId} {fz:Nat×Nat} (h:DAt w D d) (hT:w.heap[T]?=some (.cells C e fz)) (hC:C.size<64) (hk:∀ k,k≠T→w'.heap[k]?=w.heap[k]?) (hne:D≠T):DAt w' D d:=by
 obtain⟨a0,n0,a1,n1,h1,h2⟩:=h
 exact⟨a0,n0,a1,n1,(hk D hne).trans h1,(h2.kept hT hC hk).tight⟩
theorem LAt.kept {T L:Nat} {w w':World} {l:LogP} (h:LAt w L l) (hk:∀ k,k≠T→w'.heap[k]?=w.heap[k]?) (hne:L≠T):LAt w' L l:=(hk L hne).trans h
theorem DAt.stored {D:Nat} {w w':World} {d d':DiskP} {y0 y1 y2 y3:Value} (h:DAt w D d) (hd:DiskV w.heap.size w (.agg #[y0,y1,y2,y3]) d') (hr:w'.heap[D]?=some (.cells #[y0,y1,y2,y3] 38 (0,0))) (hk:∀ k,k≠D→w'.heap[k]?=w.heap[k]?):DAt w' D d':=by
 obtain⟨x0,x1,x2,x3,hx⟩:=h.row
 obtain⟨p1,q1,p2,q2,hv,_,_⟩:=hd.parts
 have hd':=(hd.kept hx (by simp) hk).tight
 simp only [Value.agg.injEq,Array.mk.injEq,List.cons.injEq] at hv
 obtain⟨rfl,rfl,rfl,rfl,_⟩:=hv
 exact⟨p1,q1,p2,q2,hr,hd'⟩
end
section
namespace KvP
open PackP WalP
def cA:List ChangeP:=[⟨[98],[50],false⟩,⟨[97],[49],false⟩]
def cB:List ChangeP:=[⟨[97],[],true⟩]
def prA:List PairP:=[⟨[97],[49]⟩,⟨[98],[50]⟩]
def prB:List PairP:=[⟨[98],[50]⟩]
theorem commit_step {d:DiskP} {l:LogP} {recs:List (List UInt8)} {pairs:List PairP} {c:List ChangeP} {n:Nat} (h:Holds 40 d l recs) (hpb:pairsB pairs=true) (hc:changesB c=true) (hlen:(bytesP c).length≤6000)
  (hp':pairsB (doP pairs c)=true) (htk:takes (bytesP c).length=n) (hn:n≠0) (hroom:n+posN recs≤20) :
  ∃ d',commitK d ⟨l,pairs⟩ c=(d',⟨{ l with used:=l.used+n,count:=l.count+1 },doP pairs c⟩,0)∧Holds 40 d' { l with used:=l.used+n,count:=l.count+1 } (recs++[bytesP c]):=by
 have hrm:=h.room
 have hh:WalP.half d=20:=half_of h.calm
 rw [hh] at hrm
 have hen:encodeP c=(bytesP c,0):=by unfold encodeP;rw [hc,if_pos rfl,if_neg (by omega)]
 have hrs:rightS d ⟨l,pairs⟩=true:=by
  unfold rightS
  rw [Bool.and_eq_true]
  exact⟨h.right,hpb⟩
 rcases append_holds h (bytesP c) with ⟨h1,_⟩ | ⟨_,h1,_⟩ | ⟨_,_,a1,a2,a3⟩
 ·rw [htk] at h1
  exact absurd h1 hn
 ·rw [htk,hrm] at h1
  exact absurd h1 (by omega)
 ·rw [htk] at a2
  refine⟨(appendP d l (bytesP c)).1,?_,?_⟩
  ·unfold commitK
   rw [hc,hrs,hen]
   dsimp only
   rw [hp',a1]
   simp only [Bool.and_self,if_true]
   rw [if_neg (show ¬ ((0:Int)=8) by decide),a1,if_pos rfl,a2]
  ·rw [a2] at a3
   exact a3
theorem kalive_plain:∃ d1 d2 d3 d4 l4,formatK (newP 40).1=(d1,⟨⟨0,1,2,1⟩,[]⟩,0)∧commitK d1 ⟨⟨0,1,2,1⟩,[]⟩ cA=(d2,⟨⟨0,1,4,2⟩,prA⟩,0)∧commitK d2 ⟨⟨0,1,4,2⟩,prA⟩ cB=(d3,⟨⟨0,1,6,3⟩,prB⟩,0)∧openK d3=(d4,⟨l4,prB⟩,0):=by
 have h0:=calm_new (n:=40) (by decide)
 have ht:takes (bytesP []).length≠0:=by decide
 have hs:snapP []=[bytesP []]:=rfl
 rcases format_holds h0 (by decide) [bytesP []] with ⟨h,_⟩ | ⟨n,h,hn,_⟩ | ⟨_,_,_,f1,f2,f3⟩
 ·exact absurd h (by rw [total_some (by decide) (fun b hb=>by rw [List.mem_singleton.1 hb];exact ht)];simp)
 ·rw [total_some (by decide) (fun b hb=>by rw [List.mem_singleton.1 hb];exact ht)] at h
  cases h
  exact absurd hn (by decide)
 ·have hfk:∃ d1,formatK (newP 40).1=(d1,⟨⟨0,1,2,1⟩,[]⟩,0)∧Holds 40 d1 ⟨0,1,2,1⟩ [bytesP []]:=by
   unfold formatK
   rw [hs]
   generalize formatP (newP 40).1 [bytesP []]=F at f1 f2 f3 ⊢
   obtain⟨d1,l1,e1⟩:=F
   dsimp only at f1 f2 f3
   subst f1
   have el:l1=⟨0,1,2,1⟩:=f2
   subst el
   exact⟨d1,rfl,f3⟩
  obtain⟨d1,e1,g1⟩:=hfk
  obtain⟨d2,e2,g2⟩:=commit_step (n:=2) (pairs:=[]) (c:=cA) g1 (by decide) (by decide) (by decide) (by decide) (by decide) (by decide) (by decide)
  obtain⟨d3,e3,g3⟩:=commit_step (n:=2) (pairs:=prA) (c:=cB) g2 (by decide) (by decide) (by decide) (by decide) (by decide) (by decide) (by decide)
  obtain⟨o1,o2,o3,o4⟩:=open_holds g3 (by decide)
  have p1:playedP [bytesP []] []=([],0):=played_snoc (a:=[]) (x:=[]) (l:=[]) (c:=[]) rfl rfl rfl
  have p2:playedP ([bytesP []]++[bytesP cA]) []=(doP [] cA,0):=played_snoc p1 (by decide) (by decide)
  have p3:playedP (([bytesP []]++[bytesP cA])++[bytesP cB]) []=(doP (doP [] cA) cB,0):=played_snoc p2 (by decide) (by decide)
  refine⟨d1,d2,d3,(openP d3).1,(openP d3).2.1,e1,e2,e3,?_⟩
  unfold openK
  dsimp only
  rw [o2,if_pos rfl,o1,p3,if_pos rfl]
  rfl
end KvP
end
section
open Go.RowKit
theorem still_load {P:Program} {ops:Array Oper} {rest:List Oper} {o:Oper} {a:Act} {w:World} {Q:Act→Prop} (x:Operand) (t:TypeId) (hgd:o.guard=none) (ho:o.op = .load t x) {ad:Addr} {v:Value} (hx:a.eval x = .pointer (some ad)) (hl:(loadVar t ad).run P w = .ok v w)
  (h:wpStill P ops w Q rest (a.put o.dst v)):wpStill P ops w Q (o :: rest) a:=by
 refine wpStill_step fun K hK=>?_
 simp only [Region.wanted,hgd,if_true]
 unfold Oper.still execOp
 simp only [ho,hx,Instr.loadAt,Instr.sureAddr,Sem.run_bind,Sem.run_pure,Result.andThen_ok,hl,Oper.stillUpon_value]
 exact hK _ h
end
section
open Go.RowKit
theorem equal_int (d:Nat) (a:Int) (w:World):(Op.equalIn (d+1) 3 (.int .i64 a) (.int .i64 a)).run Tryz.prog w = .ok true w:=by
 simp [Op.equalIn,run_underlying Tryz.underlying3]
theorem wextract {x:WriteP} (hx:x.data.length=64):(wcells x).toArray.extract 1 65=(u8s x.data).toArray:=by
 simp [wcells]
 rw [List.take_of_length_le (by rw [zL];omega)]
theorem load_sec {B:Nat} {w:World} {a:Option Addr} {n c:Nat} {ss:List (List UInt8)} (h:Secs B w (.slice a n c) ss) {k:Nat} (hk:k<ss.length) :
  ∃ b off,a=some ⟨b,off,none⟩∧b<B∧n=ss.length∧n≤c∧c≤2^63-1∧∀ w',(∀ p:Addr,p.block<B→w'.cell? p=w.cell? p)→(loadVar 94 ⟨b,off+k*64,none⟩).run Tryz.prog w' = .ok (.agg (u8s ss[k]).toArray) w':=by
 obtain⟨h64,_,a',cap,hv,hnc,hcap,hcells⟩:=h
 cases hv
 obtain⟨b,off,rfl,hBb,hc⟩:=hcells (by omega)
 obtain⟨i44,hi44,hs44⟩:=info44
 have hat:=flat_at u8s 64 ss (fun x hx=>by rw [zL,h64 x hx]) k ss[k] (List.getElem?_eq_getElem hk)
 exact⟨b,off,rfl,hBb,rfl,hnc,hcap,fun w' hw=>run_load_big (P:=Tryz.prog) (t:=94) Tryz.underlying94 (.inl ⟨_,_,rfl⟩) hi44 (w:=w') (b:=b) (off:=off+k*64) (cs:=u8s ss[k]) hs44 (by rw [zL,h64 _ (List.getElem_mem hk)])
  (fun j u hj=>by rw [Nat.add_assoc];exact (hw ⟨b,off+(k*64+j),none⟩ hBb).trans (hc _ _ (hat j u hj)))⟩
theorem load_loose {B:Nat} {w:World} {a:Option Addr} {n c:Nat} {ss:List WriteP} (h:Loose B w (.slice a n c) ss) {k:Nat} (hk:k<ss.length) :
  ∃ b off,a=some ⟨b,off,none⟩∧b<B∧n=ss.length∧n≤c∧c≤2^63-1∧∀ w',(∀ p:Addr,p.block<B→w'.cell? p=w.cell? p)→(loadVar 96 ⟨b,off+k*65,none⟩).run Tryz.prog w' = .ok (.agg (wcells ss[k]).toArray) w':=by
 obtain⟨h64,_,a',cap,hv,hnc,hcap,hcells⟩:=h
 cases hv
 obtain⟨b,off,rfl,hBb,hc⟩:=hcells (by omega)
 obtain⟨i46,hi46,hs46⟩:=info46
 have hat:=flat_at wcells 65 ss (fun x hx=>by rw [length_wcells,h64 x hx]) k ss[k] (List.getElem?_eq_getElem hk)
 exact⟨b,off,rfl,hBb,rfl,hnc,hcap,fun w' hw=>run_load_big (P:=Tryz.prog) (t:=96) Tryz.underlying96 (.inr ⟨_,rfl⟩) hi46 (w:=w') (b:=b) (off:=off+k*65) (cs:=wcells ss[k]) hs46 (by rw [length_wcells,h64 _ (List.getElem_mem hk)])
  (fun j u hj=>by rw [Nat.add_assoc];exact (hw ⟨b,off+(k*65+j),none⟩ hBb).trans (hc _ _ (hat j u hj)))⟩
set_option maxRecDepth 100000 in
set_option maxHeartbeats 2000000 in
theorem same_any {B B':Nat} (v v':Value) (d:DiskP) (w:World) (h:DiskV B w v d) (h':DiskV B' w v' d) :
  Calls Tryz.prog 22 #[v,v'] w fun e w'=>e = .returned (.bool true)∧Below w.heap.size w w':=by
 obtain⟨a1,n1,a2,n2,rfl,hs,hl⟩:=h.tight.parts
 obtain⟨c1,m1,c2,m2,rfl,hs',hl'⟩:=h'.tight.parts
 clear h h'
 obtain⟨_,_,_,hv,q1,p1,_⟩:=hs.2
 cases hv
 obtain⟨_,_,_,hv,q2,p2,_⟩:=hl.2
 cases hv
 obtain⟨_,_,_,hv,q3,p3,_⟩:=hs'.2
 cases hv
 obtain⟨_,_,_,hv,q4,p4,_⟩:=hl'.2
 cases hv
 unfold maxLen at p1 p2 p3 p4
 obtain⟨L,hL⟩:∃ L,L=d.secs.length:=⟨_,rfl⟩
 obtain⟨M,hM⟩:∃ M,M=d.loose.length:=⟨_,rfl⟩
 rw [← hL] at q1 q3 hs hs' ⊢
 rw [← hM] at q2 q4 hl hl' ⊢
 obtain⟨w2,hw2⟩:∃ w2,w2=(w.alloc (.cells #[.slice a1 L n1,.slice a2 M n2,.int .i64 d.fuse,.bool d.down] 38)).alloc (.cells #[.slice c1 L m1,.slice c2 M m2,.int .i64 d.fuse,.bool d.down] 38):=⟨_,rfl⟩
 have hB:Below w.heap.size w w2:=by rw [hw2];exact Below.alloc (Below.alloc (Below.refl _ _) (Nat.le_refl _) _) (by simp) _
 have G0:w2.heap[w.heap.size]?=some (.cells #[.slice a1 L n1,.slice a2 M n2,.int .i64 d.fuse,.bool d.down] 38 (0,0)):=by rw [hw2];exact heap_alloc2_old w _ _
 have G1:w2.heap[w.heap.size+1]?=some (.cells #[.slice c1 L m1,.slice c2 M m2,.int .i64 d.fuse,.bool d.down] 38 (0,0)):=by rw [hw2];exact heap_alloc2_new w _ _
 have HS:=zh hs
 have HS':=zh hs'
 have HL:=zh hl
 have HL':=zh hl'
 clear hs hs' hl hl'
 have HW2:=zh hw2
 clear hw2
 have HLL:=zh hL
 have HMM:=zh hM
 clear hL hM
 have hg46:Tryz.prog.eqGuardType Tryz.prog.depth 96=false:=by kernel_rfl
 go_enter Tryz.func22,Tryz.ntmps22
 go_wp2_with fail
 rw [← HW2.out]
 go_loopw [5] (fun i wr=>∃ k:Nat,k≤L∧i = .int .i64 k∧Below w.heap.size w wr∧wr.heap[w.heap.size]?=some (.cells #[.slice a1 L n1,.slice a2 M n2,.int .i64 d.fuse,.bool d.down] 38 (0,0))∧wr.heap[w.heap.size+1]?=some (.cells #[.slice c1 L m1,.slice c2 M m2,.int .i64 d.fuse,.bool d.down] 38 (0,0))) (fun i _=>L-(intOf i).toNat)
 case atStart=>exact⟨0,Nat.zero_le _,rfl,hB,G0,G1⟩
 case round =>
  obtain⟨k,hk,rfl,hBr,R0,R1⟩:=hrel
  have C0:=cR wr _ 0 _ _ _ R0
  have C1:=cR wr _ 0 _ _ _ R1
  by_cases hlt:k<L
  ·have hlt':k<d.secs.length:=HLL.out▸hlt
   obtain⟨ba,oa,rfl,hBa,e1,_,_,hlA⟩:=load_sec HS.out hlt'
   obtain⟨bb,ob,rfl,hBb,e2,_,_,hlB⟩:=load_sec HS'.out hlt'
   have hlA:=hlA wr.drew (fun p hp=>hBr.cell hp)
   have hlB:=hlB wr.drew (fun p hp=>hBr.cell hp)
   obtain⟨X,hX⟩:∃ X,X=(u8s d.secs[k]).toArray:=⟨_,rfl⟩
   have hq:(Op.equalIn 10000 94 (.agg X) (.agg X)).run Tryz.prog wr.drew = .ok true wr.drew:=by
    rw [hX]
    exact (equal44 (HS.out.1 _ (List.getElem_mem hlt')) (HS.out.1 _ (List.getElem_mem hlt')) _).trans (by simp)
   rw [← hX] at hlA hlB
   clear hX e1 e2
   go_wp2_with fail
   refine wp_region_still_lit (by kernel_rfl) (by kernel_rfl) ?_
   repeat still_step
   refine still_load (.tmp 47) 94 rfl rfl rfl hlA ?_
   repeat still_step
   refine still_load (.tmp 52) 94 rfl rfl rfl hlB ?_
   repeat still_step
   refine wpStill_nil ?_
   have hB2:=zD hBr 1
   have S0:(wr.drewN 1).heap[w.heap.size]?=_:=R0
   have S1:(wr.drewN 1).heap[w.heap.size+1]?=_:=R1
   change Exit.then _ _ _ _ (wr.drewN 1)
   go_wp2_with fail
   go_roundw
   case rel=>exact⟨k+1,by omega,by go_num,hB2,S0,S1⟩
   case measure=>simp [intOf];omega
  ·skip
   go_wp2_with fail
   have hBr1:=hBr
   have R01:=R0
   have R11:=R1
   clear C0 C1 hBr R0 R1
   go_loopw [6] (fun i wr=>∃ k:Nat,k≤M∧i = .int .i64 k∧Below w.heap.size w wr∧wr.heap[w.heap.size]?=some (.cells #[.slice a1 L n1,.slice a2 M n2,.int .i64 d.fuse,.bool d.down] 38 (0,0))∧wr.heap[w.heap.size+1]?=some (.cells #[.slice c1 L m1,.slice c2 M m2,.int .i64 d.fuse,.bool d.down] 38 (0,0))) (fun i _=>M-(intOf i).toNat)
   case atStart=>exact⟨0,Nat.zero_le _,rfl,hBr1,R01,R11⟩
   case round =>
    obtain⟨k,hk,rfl,hBr,R0,R1⟩:=hrel
    have C0:=cR wr _ 1 _ _ _ R0
    have C1:=cR wr _ 1 _ _ _ R1
    by_cases hlt:k<M
    ·have hlt':k<d.loose.length:=HMM.out▸hlt
     obtain⟨ba,oa,rfl,hBa,e1,_,_,hlA⟩:=load_loose HL.out hlt'
     obtain⟨bb,ob,rfl,hBb,e2,_,_,hlB⟩:=load_loose HL'.out hlt'
     have hlA:=hlA wr.drew (fun p hp=>hBr.cell hp)
     have hlB:=hlB wr.drew (fun p hp=>hBr.cell hp)
     obtain⟨X,hX⟩:∃ X,X=(wcells d.loose[k]).toArray:=⟨_,rfl⟩
     have h64:=HL.out.1 _ (List.getElem_mem hlt')
     have hx0:X[0]?=some (.int .i64 d.loose[k].at_):=by rw [hX];simp [wcells]
     have hq:(Op.equalIn 9999 94 (.agg (X.extract 1 65)) (.agg (X.extract 1 65))).run Tryz.prog wr.drew = .ok true wr.drew:=by
      rw [hX,wextract h64]
      exact (equal44_in 9997 h64 h64 _).trans (by simp)
     have hq3:(Op.equalIn 9999 3 (.int .i64 d.loose[k].at_) (.int .i64 d.loose[k].at_)).run Tryz.prog wr.drew = .ok true wr.drew:=equal_int 9998 _ _
     obtain⟨z,hz⟩:∃ z,z=d.loose[k].at_:=⟨_,rfl⟩
     rw [← hz] at hx0 hq3
     clear hz
     rw [← hX] at hlA hlB
     clear hX e1 e2
     go_wp2_with fail
     refine wp_region_still_lit (by kernel_rfl) (by kernel_rfl) ?_
     repeat still_step
     refine still_load (.tmp 65) 96 rfl rfl rfl hlA ?_
     repeat still_step
     refine still_load (.tmp 70) 96 rfl rfl rfl hlB ?_
     repeat still_step
     refine wpStill_nil ?_
     have hB2:=zD hBr 1
     have S0:(wr.drewN 1).heap[w.heap.size]?=_:=R0
     have S1:(wr.drewN 1).heap[w.heap.size+1]?=_:=R1
     change Exit.then _ _ _ _ (wr.drewN 1)
     go_wp2_with fail
     go_roundw
     case rel=>exact⟨k+1,by omega,by go_num,hB2,S0,S1⟩
     case measure=>simp [intOf];omega
    ·skip
     go_wp2_with fail
     go_ret
     exact⟨rfl,hBr⟩
end
section
open Go.RowKit
set_option maxRecDepth 100000 in
set_option maxHeartbeats 1000000 in
theorem refright_any {B:Nat} (v:Value) (d:DiskP) (w:World) (h:DiskV B w v d) :
  Calls Tryz.prog 69 #[v] w fun e w'=>e = .returned (.bool (rightB d))∧Below w.heap.size w w':=by
 obtain⟨a1,n1,a2,n2,rfl,hs,hl⟩:=h.tight.parts
 have hcs:=hs.2
 obtain⟨_,_,_,hv,hln1,hcap1,_⟩:=hcs
 cases hv
 obtain⟨hls,_,a,cap,hv,hnc,hcap2,hcells⟩:=hl
 cases hv
 unfold maxLen at hcap1 hcap2
 obtain⟨w2,hw2⟩:∃ w2,w2=w.alloc (.cells #[.slice a1 d.secs.length n1,.slice a2 d.loose.length n2,.int .i64 d.fuse,.bool d.down] 38):=⟨_,rfl⟩
 have hB:Below w.heap.size w w2:=by rw [hw2];exact Below.alloc (Below.refl _ _) (Nat.le_refl _) _
 have G0:w2.heap[w.heap.size]?=some (.cells #[.slice a1 d.secs.length n1,.slice a2 d.loose.length n2,.int .i64 d.fuse,.bool d.down] 38 (0,0)):=by rw [hw2];exact heap_alloc_new w _
 have hcl:=fun hp=>hcells hp
 obtain⟨L,hL⟩:∃ L,L=d.secs.length:=⟨_,rfl⟩
 obtain⟨M,hM⟩:∃ M,M=d.loose.length:=⟨_,rfl⟩
 obtain⟨f,hf⟩:∃ f,f=d.fuse:=⟨_,rfl⟩
 have hR:rightB d=(decide (L≤4096)&&decide (M≤100000)&&(decide (-1≤f)&&decide (f≤1099511627776))&&!badAt d d.loose):=by rw [hL,hM,hf];rfl
 rw [← hL,← hM,← hf] at G0
 rw [← hM] at hcells
 rw [← hL,← hM,← hf] at hw2
 have C0:=cR w2 _ 0 _ _ _ G0
 have C1:=cR w2 _ 1 _ _ _ G0
 have C2:=cR w2 _ 2 _ _ _ G0
 have G0':=G0
 rw [hR,← hL,← hM,← hf]
 rw [← hL] at hln1
 rw [← hM] at hnc
 have HW2:=zh hw2
 have HL:=zh hL
 have HM:=zh hM
 have HC:=zh hcells
 have HG0:=zh G0'
 clear hw2 hL hM hf hcells hcl h hs G0 hR G0'
 have hBw:=hB
 rw [HW2.out] at hBw
 by_cases h1:L≤4096
 rotate_left
 ·go_enter Tryz.func69,Tryz.ntmps69
  go_wp2_with fail
  go_ret
  exact⟨by simp [h1],hBw⟩
 by_cases h2:M≤100000
 rotate_left
 ·go_enter Tryz.func69,Tryz.ntmps69
  go_wp2_with fail
  go_ret
  exact⟨by simp [h2],hBw⟩
 by_cases h3:-1≤f
 rotate_left
 ·go_enter Tryz.func69,Tryz.ntmps69
  go_wp2_with fail
  go_ret
  exact⟨by simp [show ¬ (-1≤f) by omega],hBw⟩
 by_cases h4:f≤1099511627776
 rotate_left
 ·go_enter Tryz.func69,Tryz.ntmps69
  go_wp2_with fail
  go_ret
  exact⟨by simp [show ¬ (f≤1099511627776) by omega],hBw⟩
 go_enter Tryz.func69,Tryz.ntmps69
 go_wp2_with fail
 rw [← HW2.out]
 have G0:=HG0.out
 have H1:=zh (And.intro h1 (And.intro h2 (And.intro h3 h4)))
 clear h1 h3 h4 C0 C1 C2 hBw
 go_loopw [3] (fun i wr=>∃ k:Nat,k≤M∧i = .int .i64 k∧(∀ j (hj:j<d.loose.length),j<k→thereB d d.loose[j].at_=true)∧Below w.heap.size w wr∧wr.heap[w.heap.size]?=some (.cells #[.slice a1 L n1,.slice a2 M n2,.int .i64 f,.bool d.down] 38 (0,0))) (fun i _=>M-(intOf i).toNat)
 case atStart=>exact⟨0,Nat.zero_le _,rfl,fun j _ h=>absurd h (Nat.not_lt_zero _),hB,G0⟩
 case round =>
  obtain⟨k,hk,rfl,hpre,hb,hrow⟩:=hrel
  have C0:=cR wr _ 0 _ _ _ hrow
  have C1:=cR wr _ 1 _ _ _ hrow
  have HPRE:=zh hpre
  clear hpre hB G0
  by_cases hlt:k<M
  ·have hlt':k<d.loose.length:=HM.out▸hlt
   obtain⟨b,off,rfl,hBb,hc⟩:=HC.out (by omega)
   have hat:=flat_at wcells 65 d.loose (fun x hx=>by rw [length_wcells,hls x hx]) k d.loose[k] (List.getElem?_eq_getElem hlt')
   have hc0:=hat 0 (.int .i64 d.loose[k].at_) (by simp [wcells])
   have E0:=(hb.cell (p:=⟨b,off+(k*65+0),none⟩) hBb).trans (hc _ _ hc0)
   rw [Nat.add_zero] at E0
   obtain⟨x,hx⟩:∃ x,x=d.loose[k].at_:=⟨_,rfl⟩
   rw [← hx] at E0
   have ht:thereB d d.loose[k].at_=(decide (0≤x)&&decide (x<L)):=by rw [hx,HL.out];rfl
   have HT:=zh ht
   clear hat hc hc0 hx ht
   by_cases hx0:x<0
   ·have hT:thereB d d.loose[k].at_=false:=by rw [HT.out];simp [show ¬ (0≤x) by omega]
    have HTF:=zh hT
    clear hT
    go_wp2_with fail
    go_quiet (fail)
    have hb2:=zD hb nq
    go_wp2_with fail
    go_ret
    exact⟨by rw [badAt_some d d.loose k hlt' HTF.out];simp,hb2⟩
   ·by_cases hx1:x<L
    ·have hT:thereB d d.loose[k].at_=true:=by rw [HT.out];simp [show (0≤x) by omega,hx1]
     have HTF:=zh hT
     clear hT
     go_wp2_with fail
     go_quiet (fail)
     have hb2:=zD hb nq
     have hrow2:(wr.drewN nq).heap[w.heap.size]?=_:=hrow
     go_wp2_with fail
     go_roundw
     case rel =>
      refine⟨k+1,by omega,by go_num,fun j hj hjk=>?_,hb2,hrow2⟩
      by_cases hjk2:j<k
      ·exact HPRE.out j hj hjk2
      ·obtain rfl:j=k:=by omega
       exact HTF.out
     case measure=>simp [intOf];omega
    ·have hT:thereB d d.loose[k].at_=false:=by rw [HT.out];simp [hx1]
     have HTF:=zh hT
     clear hT
     go_wp2_with fail
     go_quiet (fail)
     have hb2:=zD hb nq
     go_wp2_with fail
     go_ret
     exact⟨by rw [badAt_some d d.loose k hlt' HTF.out];simp,hb2⟩
  ·go_wp2_with fail
   go_ret
   refine⟨?_,hb⟩
   rw [badAt_none d d.loose (fun j hj=>HPRE.out j hj (by have:=HM.out;omega))]
   obtain⟨q1,q2,q3,q4⟩:=H1.out
   simp [q1,q2,q3,q4]
end
section
open Go.RowKit
theorem Own.keepAt {B C:Nat} {w0 w w':World} {e:TypeId} {v:Value} {sz n:Nat} {cs cs0:List Value} (h:Own B w e v sz n cs) (h0:Own B w0 e v sz n cs0) (hb:Below C w w') (hC:w0.heap.size≤C):Own B w' e v sz n cs:=by
 obtain⟨hl,a,cap,rfl,h1,h2,h3⟩:=h
 refine⟨hl,a,cap,rfl,h1,h2,?_⟩
 rcases h3 with h3 | ⟨g,cur,rfl,hg,hh,hs,ht⟩
 ·exact .inl h3
 ·obtain⟨_,a',cap',hv,_,_,h4⟩:=h0
  cases hv
  rcases h4 with h4 | ⟨g',cur',hg',_,hh',_⟩
  ·exact .inl h4
  ·cases hg'
   exact .inr ⟨g,cur,rfl,hg,(hb.block g (Nat.lt_of_lt_of_le (zB hh') hC)).trans hh,hs,ht⟩
set_option maxRecDepth 100000 in
theorem run_slice0_secs (w:World):(Instr.buildSlice 35 0 #[]).run Tryz.prog w = .ok (.slice (some ⟨w.heap.size,0,none⟩) 0 0) (w.alloc (.cells #[] 94)):=by
 obtain⟨i0,z0,hi,hz0,hz1,hz2,hz3⟩:=zero_parts infoz_sector
 simp [Instr.buildSlice,zeroValue,typeInfo,hi,hz0,hz1,run_underlying Tryz.underlying35,sizeOf,Instr.fill,newRow]
 congr 2
 apply Array.ext'
 simp
set_option maxRecDepth 100000 in
theorem run_slice0_write (w:World):(Instr.buildSlice 36 0 #[]).run Tryz.prog w = .ok (.slice (some ⟨w.heap.size,0,none⟩) 0 0) (w.alloc (.cells #[] 96)):=by
 obtain⟨i0,z0,hi,hz0,hz1,hz2,hz3⟩:=zero_parts infoz_write
 simp [Instr.buildSlice,zeroValue,typeInfo,hi,hz0,hz1,run_underlying Tryz.underlying36,sizeOf,Instr.fill,newRow]
 congr 2
 apply Array.ext'
 simp
set_option maxRecDepth 100000 in
set_option maxHeartbeats 1000000 in
theorem copy_any {B:Nat} (v:Value) (d:DiskP) (w:World) (h:DiskV B w v d) (hlen:d.secs.length≤2^40∧d.loose.length≤2^40) :
  Calls Tryz.prog 17 #[v] w fun e w'=>(∃ sv lv,e = .returned (.agg #[sv,lv,.int .i64 d.fuse,.bool d.down])∧∃ C,w.heap.size≤C∧C≤w'.heap.size∧SecsO w.heap.size w' sv d.secs∧Row C w' sv 64 d.secs.length (d.secs.map u8s).flatten∧LooseO C w' lv d.loose)∧Below w.heap.size w w':=by
 obtain⟨a1,n1,a2,n2,rfl,hs,hl⟩:=h.tight.parts
 clear h
 have F:=Fr2.new (w:=w) hs hl
 obtain⟨w2,hw2⟩:∃ w2,w2=(w.alloc (.cells #[.slice a1 d.secs.length n1,.slice a2 d.loose.length n2,.int .i64 d.fuse,.bool d.down] 38)).alloc (.cells #[.slice none 0 0,.slice none 0 0,.int .i64 0,.bool false] 38):=⟨_,rfl⟩
 have hB:Below w.heap.size w w2:=by rw [hw2];exact Below.alloc (Below.alloc (Below.refl _ _) (Nat.le_refl _) _) (by simp) _
 have hle:w.heap.size+2≤w2.heap.size:=by rw [hw2];simp
 rw [← hw2] at F
 clear hs hl
 have C0:=cR w2 _ 0 _ _ _ F.g0
 have C1:=cR w2 _ 1 _ _ _ F.g0
 obtain⟨i0,z0,hi,hz0,hz1,hz2,hz3⟩:=zero_parts infoz_sector
 obtain⟨i1,z1,hi',hz0',hz1',hz2',hz3'⟩:=zero_parts infoz_write
 have R1:=zh (show 0+d.secs.length≤maxLen by unfold maxLen;omega)
 have R2:=zh (show (0+d.secs.length)*64≤140737488355328 by omega)
 have R3:=zh (show 0+d.loose.length≤maxLen by unfold maxLen;omega)
 have R4:=zh (show (0+d.loose.length)*72≤140737488355328 by omega)
 have hsz2:w2.heap.size=w.heap.size+1+1:=by rw [hw2];simp
 obtain⟨wA,hwA⟩:∃ wA,wA=w2.alloc (.cells #[] 94):=⟨_,rfl⟩
 have ho:Own (w.heap.size+1+1) wA 94 (.slice (some ⟨w.heap.size+1+1,0,none⟩) 0 0) 64 0 []:=Own.none _ _ _ _ _
 have hbA:Below w2.heap.size w2 wA:=by rw [hwA];exact Below.alloc (Below.refl _ _) (Nat.le_refl _) _
 have F:=F.below hbA (by omega) (by omega)
 have hsrc:=Row.src (P:=Tryz.prog) F.s.2
 have hBA:w.heap.size+1+1≤wA.heap.size:=by have:=hbA.size;omega
 have hB:=hB.trans (hbA.mono hB.size)
 have C0:=cR wA _ 0 _ _ _ F.g0
 have C1:=cR wA _ 1 _ _ _ F.g0
 have HW2:=zh hw2
 have HWA:=zh hwA
 clear hlen hw2 hwA hle hsz2 hbA
 go_enter Tryz.func17,Tryz.ntmps17
 go_wp2_with (refine wp_buildSlice_l 35 0 [] rfl rfl rfl (run_slice0_secs _) ?_;refine Halt.in ?_)
 refine Halt.out ?_
 rw [← HW2.out,← HWA.out]
 go_wp2_with (at_builtin;refine wp_append rfl (.tmp 3) (.tmp 5) 35 35 94 rfl i0 z0 64 64 Tryz.underlying35 (.inl ⟨_,Tryz.underlying35⟩) hi hz0 hz1 hz2 hz3 rfl rfl ho hsrc (oneCell_secs _) R1.out R2.out hBA ?_;intro v2 w3 hown3 hbw3;refine Halt.in ?_)
 refine Halt.out ?_
 rw [Nat.zero_add,List.nil_append] at hown3
 have hs3:SecsO (w.heap.size+1+1) w3 v2 d.secs:=⟨F.s.1,hown3⟩
 obtain⟨b1,m1,rfl⟩:=hs3.form
 have HS3:=zh hs3
 have F:=F.below hbw3 (by omega) (by omega)
 have hB:=hB.trans (hbw3.mono (by omega))
 clear ho hsrc hBA hbw3 hown3 C0 C1 hi hz0 hz1 hz2 hz3
 obtain⟨w4,hw4⟩:∃ w4,w4=w3.setCell ⟨w.heap.size,0,none⟩ (.slice b1 d.secs.length m1):=⟨_,rfl⟩
 have hlt:w.heap.size<w.heap.size+1+1:=by omega
 have hs4:SecsO (w.heap.size+1+1) w4 (.slice b1 d.secs.length m1) d.secs:=by rw [hw4];exact hs3.setOther ⟨w.heap.size,0,none⟩ _ hlt
 have hb34:Below w.heap.size w3 w4:=by rw [hw4];exact (Below.refl _ _).setCell (p:=⟨w.heap.size,0,none⟩) (Nat.le_refl _) _
 have hl4:=F.l.below hb34
 have G0:w4.heap[w.heap.size]?=some (.cells #[.slice b1 d.secs.length m1,.slice a2 d.loose.length n2,.int .i64 d.fuse,.bool d.down] 38 (0,0)):=by
  rw [hw4];simp [World.setCell,Array.getElem?_modify,F.g0]
 have G1:w4.heap[w.heap.size+1]?=some (.cells #[.slice none 0 0,.slice none 0 0,.int .i64 0,.bool false] 38 (0,0)):=by
  rw [hw4];exact (setFar (by omega) 0 _).trans F.g2
 have hsz4:w4.heap.size=w3.heap.size:=by rw [hw4];simp
 have hsz3:w.heap.size+1+1≤w3.heap.size:=by have:=zB F.g2;omega
 have hB4:=hB.trans hb34
 have C0:=cR w3 _ 0 _ _ _ F.g0
 have Y:=zF F.g0
 obtain⟨wB,hwB⟩:∃ wB,wB=w4.alloc (.cells #[] 96):=⟨_,rfl⟩
 have ho:Own w3.heap.size wB 96 (.slice (some ⟨w3.heap.size,0,none⟩) 0 0) 65 0 []:=Own.none _ _ _ _ _
 have hbB:Below w4.heap.size w4 wB:=by rw [hwB];exact Below.alloc (Below.refl _ _) (Nat.le_refl _) _
 have hlB:=hl4.below (hbB.mono (by omega))
 have hsB:=hs4.keep hbB (Nat.le_refl _)
 have rB:=hs4.secs.2.below hbB
 have G0:=(hbB.block _ (by omega)).trans G0
 have G1:=(hbB.block _ (by omega)).trans G1
 have hsrc:=Row.src (P:=Tryz.prog) hlB.2
 have hBB:w3.heap.size≤wB.heap.size:=by have:=hbB.size;omega
 have hB:=hB4.trans (hbB.mono hB4.size)
 rw [hsz4] at rB
 have HW:=zh (show wB=(w3.setCell ⟨w.heap.size,0,none⟩ (.slice b1 d.secs.length m1)).alloc (.cells #[] 96) by rw [hwB,hw4])
 clear hw4 hwB hsz4 hs4 hs3 hbB hb34 hl4 F hB4
 go_wp2_with (refine wp_buildSlice_l 36 0 [] rfl rfl rfl (run_slice0_write _) ?_;refine Halt.in ?_)
 refine Halt.out ?_
 rw [← HW.out]
 clear C0 Y
 have C1:=cR wB _ 1 _ _ _ G0
 go_wp2_with (at_builtin;refine wp_append rfl (.tmp 8) (.tmp 10) 36 36 96 rfl i1 z1 65 72 Tryz.underlying36 (.inl ⟨_,Tryz.underlying36⟩) hi' hz0' hz1' hz2' hz3' rfl rfl ho hsrc (oneCell_ws _) R3.out R4.out hBB ?_;intro v5 w5 hown5 hbw5;refine Halt.in ?_)
 refine Halt.out ?_
 rw [Nat.zero_add,List.nil_append] at hown5
 have hl5:LooseO w3.heap.size w5 v5 d.loose:=⟨hlB.1,hown5⟩
 obtain⟨b2,m2,rfl⟩:=hl5.form
 have r5:=(RowIn.of hsB.2 rB).below hbw5
 have o5:=hsB.2.keepAt HS3.out.2 hbw5 (Nat.le_refl _)
 have h64:=hsB.1
 have G0:=(hbw5.block _ (by omega)).trans G0
 have G1:=(hbw5.block _ (by omega)).trans G1
 have hB:=hB.trans (hbw5.mono (by omega))
 clear ho hsrc hBB hown5 C1 hi' hz0' hz1' hz2' hz3' hlB hsB rB
 have hsz5:w3.heap.size≤w5.heap.size:=Nat.le_trans (show w3.heap.size≤wB.heap.size by have:=HW.out;rw [this];simp) hbw5.size
 clear hbw5
 obtain⟨w6,hw6⟩:∃ w6,w6=w5.setCell ⟨w.heap.size,1,none⟩ (.slice b2 d.loose.length m2):=⟨_,rfl⟩
 have G0':w6.heap[w.heap.size]?=some (.cells #[.slice b1 d.secs.length m1,.slice b2 d.loose.length m2,.int .i64 d.fuse,.bool d.down] 38 (0,0)):=by
  rw [hw6];simp [World.setCell,Array.getElem?_modify,G0]
 have G1':w6.heap[w.heap.size+1]?=some (.cells #[.slice none 0 0,.slice none 0 0,.int .i64 0,.bool false] 38 (0,0)):=by
  rw [hw6];exact (setFar (by omega) 1 _).trans G1
 have hlt3:w.heap.size<w3.heap.size:=by omega
 have r6:RowIn (w.heap.size+1+1) w3.heap.size w6 (.slice b1 d.secs.length m1) 64 d.secs.length (d.secs.map u8s).flatten:=by rw [hw6];exact r5.setOther ⟨w.heap.size,1,none⟩ _ hlt
 have s6:SecsO (w.heap.size+1+1) w6 (.slice b1 d.secs.length m1) d.secs:=⟨h64,by rw [hw6];exact o5.setOther ⟨w.heap.size,1,none⟩ _ hlt⟩
 have hl6:LooseO w3.heap.size w6 (.slice b2 d.loose.length m2) d.loose:=by rw [hw6];exact hl5.setOther ⟨w.heap.size,1,none⟩ _ hlt3
 have hB6:Below w.heap.size w w6:=by rw [hw6];exact hB.setCell (p:=⟨w.heap.size,1,none⟩) (Nat.le_refl _) _
 have hld:=run_loadVar_row (P:=Tryz.prog) w6 w.heap.size 38 38 _ (0,0) _ G0' Tryz.underlying38 rfl zQ
 have C1:=cR w5 _ 1 _ _ _ G0
 have Y:=zF G0
 have hsz6:w3.heap.size≤w6.heap.size:=by rw [hw6];simpa using hsz5
 have HW6:=zh hw6
 clear hw6 hl5 r5 G1
 go_wp2_with (refine wp_load_to (w':=w6) (.tmp 1) 38 rfl rfl ?_ rfl hld ?_;(exact HW6.out);refine Halt.in ?_)
 refine Halt.out ?_
 clear hld C1 Y
 have D0:=cR w6 _ 0 _ _ _ G1'
 have D1:=cR w6 _ 1 _ _ _ G1'
 have D2:=cR w6 _ 2 _ _ _ G1'
 have D3:=cR w6 _ 3 _ _ _ G1'
 have Z:=zF G1'
 go_wp2_with fail
 have hl1:w.heap.size+1<w3.heap.size:=by omega
 have hl2:w.heap.size+1<w.heap.size+1+1:=Nat.lt_succ_self _
 refine bodyPost_ret (results_cell_row rfl _ _ (w.heap.size+1) _ _ _ _ rfl (put4_heap G1' _ _ _ _) Tryz.underlying38 rfl zQ) rfl ?_
 exact⟨⟨_,_,rfl,w3.heap.size,by omega,by simpa [put4] using hsz6,(put4_secs s6 hl2 _ _ _ _).lower (by omega),((((r6.setOther ⟨w.heap.size+1,0,none⟩ _ hl2).setOther ⟨w.heap.size+1,1,none⟩ _ hl2).setOther ⟨w.heap.size+1,2,none⟩ _ hl2).setOther ⟨w.heap.size+1,3,none⟩ _ hl2).row,put4_loose hl6 hl1 _ _ _ _⟩,put4_below hB6 (by omega) _ _ _ _⟩
end
end Go.Proofs.YtaijompnohkmaaaGreatDoor
