/- Layer 6 (kv), plainly: how a transaction ends on a disk that may fall, for the statement on falls. -/
import Derived.Test.YtaijompnohkmaaaGreatDoorMT
set_option linter.unusedSimpArgs false
set_option linter.unusedVariables false
namespace Go.Proofs.YtaijompnohkmaaaGreatDoor
namespace KvP
open PackP WalP
/-- A store holds pairs,on a disk that is up,with a fuse or none. -/
def HoldsK (G : Int) (d : DiskP) (s : StoreP) (want : List PairP) : Prop :=
 ∃ recs,HoldsF 90 d s.log recs ∧ s.log.gen ≤ G ∧ playedP recs [] = (want,0) ∧ s.pairs = want
/-- What may be behind a fall. -/
def FallK (G : Int) (d : DiskP) (A B : List PairP) : Prop :=
 Fell 90 100000 d ∧ ∀ t,Settled (d.secs,d.loose) t → ∃ w gen recs,gen ≤ G ∧ KeptAt 90 t w gen recs ∧ (playedP recs [] = (A,0) ∨ playedP recs [] = (B,0))
/-- A disk that is up,with pairs kept in it. -/
def UpP (G : Int) (d : DiskP) (X : List PairP) : Prop:=Up 90 0 d ∧ ∃ w gen recs,gen ≤ G ∧ KeptAt 90 d.secs w gen recs ∧ playedP recs [] = (X,0)
theorem played_pairs : ∀ (recs : List (List UInt8)) (l X : List PairP),pairsB l = true → playedP recs l = (X,0) → pairsB X = true
 | [],l,X,hl,h=>by cases h;exact hl
 | b :: bs,l,X,hl,h=>by
  rw [playedP] at h
  by_cases h1 : (decodeP b).2 = 0
  ·rw [if_pos h1] at h
   by_cases h2 : pairsB (doP l (decodeP b).1) = true
   ·rw [if_pos h2] at h
    exact played_pairs bs _ X h2 h
   ·rw [if_neg h2] at h
    cases h
  ·rw [if_neg h1] at h
   cases h
theorem pairsB_nil : pairsB [] = true:=by decide
theorem HoldsK.pairs {G : Int} {d : DiskP} {s : StoreP} {want : List PairP} (h : HoldsK G d s want) : pairsB want = true:=by
 obtain ⟨recs,_,_,h1,_⟩:=h
 exact played_pairs recs [] want pairsB_nil h1
theorem UpP.pairs {G : Int} {d : DiskP} {X : List PairP} (h : UpP G d X) : pairsB X = true:=by
 obtain ⟨_,_,_,recs,_,_,h1⟩:=h
 exact played_pairs recs [] X pairsB_nil h1
theorem snap_takes {l : List PairP} (h : pairsB l = true) : ∀ b ∈ snapP l,takes b.length ≠ 0:=by
 obtain ⟨_,h2,_⟩:=pairsB_parts h
 intro b hb
 unfold snapP at hb
 obtain ⟨c,hc,rfl⟩:=List.mem_map.1 hb
 have hk:=snap_ok h2 c hc
 have h8:=bytes_ge c
 have h6:=hk.2.1
 unfold takes
 rw [if_neg (by omega)]
 omega
theorem snapP_ne (l : List PairP) : snapP l ≠ []:=by
 unfold snapP
 intro h
 exact snapF_ne l [] (List.map_eq_nil_iff.1 h)
/-- How a transaction ends. -/
theorem commit_outcome {G : Int} {d : DiskP} {s : StoreP} {want : List PairP} (h : HoldsK G d s want) (hG : G ≤ 1000000) (c : List ChangeP) :
  (∃ e,commitK d s c = (d,s,e) ∧ (e = 1 ∨ e = 4 ∨ e = 8)) ∨
  (∃ d' s',commitK d s c = (d',s',0) ∧ changesB c = true ∧ HoldsK (G + 1) d' s' (doP want c)) ∨
  (∃ d',commitK d s c = (d',s,9) ∧ changesB c = true ∧ FallK (G + 1) d' want (doP want c)):=by
 have hp:=h.pairs
 obtain ⟨recs,hf,hg,hpl,rfl⟩:=h
 have hR : rightS d s = true:=by
  unfold rightS
  rw [hf.right (by omega),hp]
  rfl
 unfold commitK
 by_cases hc : changesB c = true
 ·rw [if_pos (by rw [hc,hR];rfl)]
  have he : encodeP c = if 6000 < (bytesP c).length then ([],4) else (bytesP c,0):=by
   unfold encodeP
   rw [if_pos hc]
  by_cases hl : 6000 < (bytesP c).length
  ·rw [if_pos hl] at he
   rw [he]
   exact .inl ⟨4,by rw [if_neg (by simp)],.inr (.inl rfl)⟩
  ·rw [if_neg hl] at he
   rw [he,if_pos rfl]
   by_cases hq : pairsB (doP s.pairs c) = true
   ·rw [if_pos hq]
    have htk : takes (bytesP c).length ≠ 0:=by
     have h8:=bytes_ge c
     unfold takes
     rw [if_neg (by omega)]
     omega
    rcases append_cases hf (by omega) (bytesP c) with ⟨h0,_⟩ | ⟨_,e⟩ | ⟨d',e,h1,_⟩ | ⟨d',e,h1,_,h2⟩
    ·exact absurd h0 htk
    ·simp only [e,if_true]
     rcases compact_cases hf.up hf.kept (hf.right (by omega)) (by omega) (snapP (doP s.pairs c)) with ⟨ht,_⟩ | ⟨_,_,e⟩ | ⟨d',e,h1,_⟩ | ⟨d',e,h1,_,h2⟩
     ·rw [total_some (snapP_ne _) (snap_takes hq)] at ht;cases ht
     ·rw [e]
      exact .inl ⟨8,by rw [if_neg (by simp)],.inr (.inr rfl)⟩
     ·rw [e]
      refine .inr (.inl ⟨d',_,by rw [if_pos rfl],hc,?_⟩)
      exact ⟨_,h1,by show s.log.gen + 1 ≤ _;omega,played_snap hq,rfl⟩
     ·rw [e]
      refine .inr (.inr ⟨d',by rw [if_neg (by simp)],hc,h1,fun t ht=>?_⟩)
      rcases h2 t ht with h | h
      ·exact ⟨_,_,_,by omega,h,.inl hpl⟩
      ·exact ⟨_,_,_,by omega,h,.inr (played_snap hq)⟩
    ·simp only [e]
     refine .inr (.inl ⟨d',⟨{ s.log with used:=s.log.used + takes (bytesP c).length,count:=s.log.count + 1 },doP s.pairs c⟩,by simp,hc,?_⟩)
     exact ⟨_,h1,by show s.log.gen ≤ _;omega,played_snoc hpl hc hq,rfl⟩
    ·simp only [e]
     refine .inr (.inr ⟨d',by simp,hc,h1,fun t ht=>?_⟩)
     rcases h2 t ht with h | h
     ·exact ⟨_,_,_,by omega,h,.inl hpl⟩
     ·exact ⟨_,_,_,by omega,h,.inr (played_snoc hpl hc hq)⟩
   ·rw [if_neg hq]
    exact .inl ⟨8,rfl,.inr (.inr rfl)⟩
 ·rw [if_neg (by simp [hc])]
  exact .inl ⟨1,rfl,.inl rfl⟩
theorem FallK.start {G : Int} {d : DiskP} {A B : List PairP} (h : FallK G d A B) (m : Int) : ∃ d',startP d m = (d',0) ∧ d'.fuse = -1 ∧ ∃ X,(X = A ∨ X = B) ∧ UpP G d' X:=by
 obtain ⟨t,e,hs,hu⟩:=h.1.start (by decide) m
 obtain ⟨w,gen,recs,hg,hk,hr⟩:=h.2 t hs
 rcases hr with hr | hr
 ·exact ⟨_,e,rfl,A,.inl rfl,hu,w,gen,recs,hg,hk,hr⟩
 ·exact ⟨_,e,rfl,B,.inr rfl,hu,w,gen,recs,hg,hk,hr⟩
/-- How an opening ends,with no fuse. -/
theorem UpP.opened {G : Int} {d : DiskP} {X : List PairP} (h : UpP G d X) (hG : G ≤ 1000000) (hq : d.fuse = -1) : ∃ d' s',openK d = (d',s',0) ∧ HoldsK (G + 1) d' s' X ∧ d'.fuse = -1:=by
 obtain ⟨hu,w,gen,recs,hg,hk,hr⟩:=h
 rcases open_cases hu hk (by omega) with ⟨d',e,h1,h2⟩ | ⟨d',e,h1,h2,h3⟩
 ·refine ⟨d',⟨⟨1 - w,gen + 1,posN recs,recs.length⟩,X⟩,?_,⟨recs,h1,by show gen + 1 ≤ _;omega,hr,rfl⟩,h2 hq⟩
  simp only [openK,e,hr,if_true]
 ·exact absurd hq h2
theorem HoldsK.upP {G : Int} {d : DiskP} {s : StoreP} {X : List PairP} (h : HoldsK G d s X) : UpP G d X:=by
 obtain ⟨recs,hf,hg,hpl,_⟩:=h
 exact ⟨hf.up,_,_,recs,hg,hf.kept,hpl⟩
theorem HoldsK.arm {G : Int} {d : DiskP} {s : StoreP} {X : List PairP} (h : HoldsK G d s X) {f : Int} (h0 : -1 ≤ f) (h1 : f ≤ 1000) : armP d f = ({ d with fuse:=f },0) ∧ HoldsK G { d with fuse:=f } s X:=by
 obtain ⟨recs,hf,hg,hpl,hs⟩:=h
 obtain ⟨e,hu⟩:=hf.arm h0 (by omega)
 exact ⟨e,recs,hu,hg,hpl,hs⟩
theorem HoldsK.pairs_eq {G : Int} {d : DiskP} {s : StoreP} {X : List PairP} (h : HoldsK G d s X) : s.pairs = X:=by
 obtain ⟨_,_,_,_,hs⟩:=h
 exact hs
theorem HoldsK.weak {G G' : Int} {d : DiskP} {s : StoreP} {X : List PairP} (h : HoldsK G d s X) (hg : G ≤ G') : HoldsK G' d s X:=by
 obtain ⟨recs,hf,hg',hpl,hs⟩:=h
 exact ⟨recs,hf,by omega,hpl,hs⟩
theorem after_put45 (v : List (List UInt8)) (ds : List Deed) : after v (.put 45 zeroS :: ds) = after (v.set 45 zeroS) ds:=rfl
theorem format_holds90 {d0 : DiskP} (hc : WalP.Calm 90 0 d0) (X : List (List UInt8)) (hX : X ≠ []) (hXt : ∀ b ∈ X,takes b.length ≠ 0) (hX2 : posN X = 2) :
  ∃ d1,formatP d0 X = (d1,⟨0,1,2,X.length⟩,0) ∧ HoldsF 90 d1 ⟨0,1,2,X.length⟩ X ∧ d1.fuse = -1:=by
 have htot : total X = some 2:=by rw [total_some hX hXt,hX2]
 rcases format_holds hc (by decide) X with ⟨h,_⟩ | ⟨n,h,hn,_⟩ | ⟨hne,htk,hp,f1,f2,f3⟩
 ·rw [htot] at h;cases h
 ·rw [htot] at h
  cases h
  exact absurd hn (by decide)
 ·have hr:=hc.right (by decide) (by omega)
  have hh:=half_of hc
  rw [hX2] at f2
  obtain ⟨p1,p2,p3⟩:=hc.put (by decide) (by omega) 45 zeroS (by omega) (by omega)
  generalize hF : formatP d0 X = F at f1 f2 f3 ⊢
  obtain ⟨a,b,c⟩:=F
  simp only at f1 f2 f3
  subst f1
  subst f2
  refine ⟨a,rfl,?_,f3.calm.fuse⟩
  have hup:=f3.calm.is_up
  have hv0:=hup.view (by decide) (w:=0) (.inl rfl)
  have hv1:=hup.view (by decide) (w:=1) (.inr rfl)
  have here:=f3.here
  have hhalf:=half_up hup
  change viewP a 0 = _ at here
  rw [hv0,hhalf] at here
  have hz : a.secs[45]? = some zeroS:=by
   have hlo:=hup.no_loose
   have hsee : see a = a.secs:=by
    have:=see_sure a.secs a.fuse a.down
    rw [← hlo] at this
    exact this
   have hrun : a = (run d0 (.put 45 zeroS :: layD 45 0 1 X)).1:=by
    have e : formatP d0 X = if (run d0 (.put 45 zeroS :: layD 45 0 1 X)).2 = 0 then ((run d0 (.put 45 zeroS :: layD 45 0 1 X)).1,⟨0,1,2,X.length⟩,0) else ((run d0 (.put 45 zeroS :: layD 45 0 1 X)).1,log0,(run d0 (.put 45 zeroS :: layD 45 0 1 X)).2):=by
     have e0 : half d0 = 45:=hh
     simp only [formatP,htot,hr,if_true,e0]
     rfl
    rw [hF] at e
    split at e
    ·exact congrArg Prod.fst e
    ·rename_i hne'
     have:=congrArg (fun x=>x.2.2) e
     simp only at this
     exact absurd this.symm hne'
   have hfit : ∀ x ∈ (Deed.put 45 zeroS :: layD 45 0 1 X),fit 90 x:=by
    intro x hx
    rcases List.mem_cons.1 hx with rfl | hx
    ·exact ⟨by decide,by decide⟩
    ·exact fit_lay (F:=0) hne htk (by rw [hX2];decide) (by decide) 0 (by decide) x hx
   have hl:=length_layD (H:=45) (which:=0) (gen:=1) htk
   obtain ⟨_,_,r3⟩:=WalP.Calm.run (by decide) (Deed.put 45 zeroS :: layD 45 0 1 X) hc (by rw [List.length_cons];omega) hfit
   rw [← hrun,hsee] at r3
   rw [r3]
   rw [after_put45]
   have hsl : (see d0).length = 90:=by rw [length_see];exact hc.secs
   have e:=lay_far (v:=(see d0).set 45 zeroS) (F:=0) (H:=45) (F':=45) (gen:=1) hne htk (by rw [hX2];decide) (by rw [List.length_set,hsl];decide) 0 (by decide) (.inl (by decide))
   have e0:=congrArg (fun l=>l[0]?) e
   simp only [hv_at] at e0
   rw [if_pos (by decide),if_pos (by decide)] at e0
   rw [show 45 + 0 = 45 from rfl] at e0
   rw [e0,List.getElem?_set_self (by rw [hsl];decide)]
  refine ⟨hup,⟨hup.secs,by decide,.inl rfl,Int.le_refl _,hne,htk,hp,⟨_,here,fun h=>?_⟩,zeroS_none hz⟩,here,by rw [hX2];rfl,rfl⟩
  rw [List.length_replicate] at h
  rw [List.getD_eq_getElem?_getD,List.getElem?_replicate,if_pos h]
  exact zero_none
theorem formatK_holds {d0 : DiskP} (hc : WalP.Calm 90 0 d0) : ∃ d1 s1,formatK d0 = (d1,s1,0) ∧ HoldsK 1 d1 s1 [] ∧ d1.fuse = -1:=by
 have h8 : (bytesP []).length = 8:=bytes_nil
 have htk : ∀ b ∈ snapP [],takes b.length ≠ 0:=snap_takes pairsB_nil
 have h2 : posN (snapP []) = 2:=by
  show posN [bytesP []] = 2
  simp only [posN,List.map_cons,List.map_nil,h8]
  decide
 obtain ⟨d1,e,hf,hq⟩:=format_holds90 hc (snapP []) (snapP_ne []) htk h2
 refine ⟨d1,⟨⟨0,1,2,(snapP []).length⟩,[]⟩,?_,⟨snapP [],hf,Int.le_refl _,played_snap pairsB_nil,rfl⟩,hq⟩
 simp only [formatK,e]
end KvP
end Go.Proofs.YtaijompnohkmaaaGreatDoor
