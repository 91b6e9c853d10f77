/- Layer 6 (kv), as plain functions: pairs, changes, and what changes do. -/
import Derived.Test.YtaijompnohkmaaaGreatDoorOA
import Derived.ChangeArms
import Derived.OpenShut
import Derived.DataReads
import Derived.Lib.Strings
import Derived.Lib.Hide
import Derived.Test.YtaijompnohkmaaaGreatDoorProg
import Derived.KernelRfl
import Derived.Deep.QuietTactic
import Derived.BigQuiet
import Derived.Deep.RegionHeld3
set_option linter.unusedSimpArgs false
set_option linter.unusedVariables false
namespace Go.Proofs.YtaijompnohkmaaaGreatDoor
section
namespace KvP
open PackP
structure PairP where
 key:List UInt8
 val:List UInt8
structure ChangeP where
 key:List UInt8
 val:List UInt8
 gone:Bool
def mayP (k v:List UInt8):Bool:=decide (1≤k.length)&&decide (k.length≤64)&&decide (v.length≤4096)
def Rising (l:List PairP):Prop:=l.Pairwise (fun a b=>a.key<b.key)
instance (l:List PairP):Decidable (Rising l):=inferInstanceAs (Decidable (List.Pairwise _ _))
def pairsB (l:List PairP):Bool:=decide (l.length≤400)&&l.all (fun p=>mayP p.key p.val)&&decide (Rising l)
def okC (c:ChangeP):Bool:=mayP c.key c.val&&!(c.gone&&decide (c.val≠[]))
def changesB (l:List ChangeP):Bool:=decide (l.length≤400)&&l.all okC
def getP (l:List PairP) (k:List UInt8):Option (List UInt8):=(l.find? (fun p=>decide (p.key=k))).map PairP.val
def putK:List PairP→List UInt8→List UInt8→List PairP
 | [],k,v=>[⟨k,v⟩]
 | p :: l,k,v=>if p.key<k then p :: putK l k v else if p.key=k then ⟨k,v⟩ :: l else ⟨k,v⟩ :: p :: l
def delK (l:List PairP) (k:List UInt8):List PairP:=l.filter (fun p=>decide (p.key≠k))
def do1 (l:List PairP) (c:ChangeP):List PairP:=if c.gone then delK l c.key else putK l c.key c.val
def doP (l:List PairP) (c:List ChangeP):List PairP:=c.foldl do1 l
def changeB (c:ChangeP):List UInt8:=if c.gone then numB 1++textB c.key else numB 0++textB c.key++textB c.val
def bytesP (l:List ChangeP):List UInt8:=numB l.length++(l.map changeB).flatten
def encodeP (l:List ChangeP):List UInt8×Int:=if changesB l then (if 6000<(bytesP l).length then ([],4) else (bytesP l,0)) else ([],1)
def dec1 (r:RS):RS×ChangeP :=
 let (r,k):=r.num
 let r:=r.fail (decide (1<k)) 3
 let (r,key):=r.text
 if k=1 then (r,⟨key,[],true⟩) else let (r,val):=r.text;(r,⟨key,val,false⟩)
def decN:Nat→RS→RS×List ChangeP
 | 0,r=>(r,[])
 | n+1,r=>let (r,c):=dec1 r;let (r,l):=decN n r;(r,c :: l)
theorem lt_trans3 {a b c:List UInt8} (h:a<b) (h':b<c):a<c:=List.lt_trans h h'
theorem lt_of_not {a b:List UInt8} (h:¬ a<b) (h':¬ a=b):b<a:=by
 rcases Std.Trichotomous.rel_or_eq_or_rel_swap (r:=fun x y:List UInt8=>x<y) (a:=a) (b:=b) with h1 | h1 | h1
 ·exact absurd h1 h
 ·exact absurd h1 h'
 ·exact h1
theorem mem_putK {l:List PairP} {k v:List UInt8} {p:PairP} (h:p∈putK l k v):p=⟨k,v⟩∨p∈l:=by
 induction l with
 | nil=>exact .inl (List.mem_singleton.1 h)
 | cons q l ih =>
  rw [putK] at h
  split at h
  ·rcases List.mem_cons.1 h with h | h
   ·exact .inr (h▸List.mem_cons_self ..)
   ·rcases ih h with h | h
    ·exact .inl h
    ·exact .inr (List.mem_cons_of_mem _ h)
  ·split at h
   ·rcases List.mem_cons.1 h with h | h
    ·exact .inl h
    ·exact .inr (List.mem_cons_of_mem _ h)
   ·rcases List.mem_cons.1 h with h | h
    ·exact .inl h
    ·exact .inr h
theorem Rising.put {l:List PairP} (h:Rising l) (k v:List UInt8):Rising (putK l k v):=by
 induction l with
 | nil=>exact List.pairwise_singleton ..
 | cons q l ih =>
  obtain⟨h1,h2⟩:=List.pairwise_cons.1 h
  rw [putK]
  split
  ·rename_i hq
   refine List.pairwise_cons.2 ⟨fun p hp=>?_,ih h2⟩
   rcases mem_putK hp with rfl | hp
   ·exact hq
   ·exact h1 p hp
  ·split
   ·rename_i hq
    subst hq
    exact List.pairwise_cons.2 ⟨fun p hp=>h1 p hp,h2⟩
   ·rename_i h3 h4
    have hk:=lt_of_not h3 h4
    refine List.pairwise_cons.2 ⟨fun p hp=>?_,h⟩
    rcases List.mem_cons.1 hp with rfl | hp
    ·exact hk
    ·exact lt_trans3 hk (h1 p hp)
theorem Rising.del {l:List PairP} (h:Rising l) (k:List UInt8):Rising (delK l k):=h.filter _
theorem Rising.do1 {l:List PairP} (h:Rising l) (c:ChangeP):Rising (do1 l c):=by
 unfold KvP.do1
 split
 ·exact h.del _
 ·exact h.put _ _
theorem Rising.doP {l:List PairP} (h:Rising l) (c:List ChangeP):Rising (doP l c):=by
 unfold KvP.doP
 induction c generalizing l with
 | nil=>exact h
 | cons x c ih=>exact ih (h.do1 x)
theorem getP_nil (k:List UInt8):getP [] k=none:=rfl
theorem getP_cons (p:PairP) (l:List PairP) (k:List UInt8):getP (p :: l) k=if p.key=k then some p.val else getP l k:=by
 unfold getP
 rw [List.find?_cons]
 by_cases h:p.key=k
 ·simp [h]
 ·simp [h]
theorem getP_put (l:List PairP) (k v x:List UInt8):getP (putK l k v) x=if k=x then some v else getP l x:=by
 induction l with
 | nil=>rw [putK,getP_cons]
 | cons q l ih =>
  rw [putK]
  split
  ·rename_i hq
   rw [getP_cons,ih,getP_cons]
   by_cases h1:k=x
   ·subst h1
    have:q.key≠k:=fun e=>List.lt_irrefl k (e▸hq)
    simp [this]
   ·rw [if_neg h1]
    simp [h1]
  ·split
   ·rename_i hq
    rw [getP_cons,getP_cons,hq]
    by_cases h1:k=x
    ·simp [h1]
    ·simp [h1]
   ·rw [getP_cons]
theorem getP_del (l:List PairP) (k x:List UInt8):getP (delK l k) x=if k=x then none else getP l x:=by
 induction l with
 | nil=>simp [delK,getP_nil]
 | cons q l ih =>
  unfold delK at ih ⊢
  rw [List.filter_cons]
  by_cases hq:q.key=k
  ·rw [if_neg (by simp [hq]),ih,getP_cons,hq]
   by_cases h1:k=x
   ·simp [h1]
   ·simp [h1]
  ·rw [if_pos (by simp [hq]),getP_cons,ih,getP_cons]
   by_cases h1:k=x
   ·subst h1
    simp [hq]
   ·simp [h1]
end KvP
end
section
namespace KvP
def placeN (l:List PairP) (k:List UInt8):Nat:=(l.takeWhile (fun p=>decide (p.key<k))).length
def thereN (l:List PairP) (k:List UInt8):Bool:=match l[placeN l k]? with | some p=>decide (p.key=k) | none=>false
theorem placeN_cons (p:PairP) (l:List PairP) (k:List UInt8):placeN (p :: l) k=if p.key<k then placeN l k+1 else 0:=by
 unfold placeN
 rw [List.takeWhile_cons]
 by_cases h:p.key<k
 ·simp [h]
 ·simp [h]
theorem placeN_le (l:List PairP) (k:List UInt8):placeN l k≤l.length:=by
 induction l with
 | nil=>exact Nat.le_refl _
 | cons p l ih =>
  rw [placeN_cons]
  split
  ·simpa using ih
  ·exact Nat.zero_le _
theorem placeN_below (l:List PairP) (k:List UInt8):∀ i (h:i<l.length),i<placeN l k→l[i].key<k:=by
 induction l with
 | nil=>intro i h;cases h
 | cons p l ih =>
  intro i h hi
  rw [placeN_cons] at hi
  split at hi
  ·rename_i hp
   cases i with
   | zero=>exact hp
   | succ i=>exact ih i (by simpa using h) (by omega)
  ·cases hi
theorem placeN_at (l:List PairP) (k:List UInt8) (h:placeN l k<l.length):¬ l[placeN l k].key<k:=by
 induction l with
 | nil=>cases h
 | cons p l ih =>
  by_cases hp:p.key<k
  ·have e:placeN (p :: l) k=placeN l k+1:=by rw [placeN_cons,if_pos hp]
   have h2:placeN l k<l.length:=by rw [e] at h;simpa using h
   have:=ih h2
   simp only [e,List.getElem_cons_succ]
   exact this
  ·have e:placeN (p :: l) k=0:=by rw [placeN_cons,if_neg hp]
   simp only [e,List.getElem_cons_zero]
   exact hp
theorem thereN_cons (p:PairP) (l:List PairP) (k:List UInt8):thereN (p :: l) k=if p.key<k then thereN l k else decide (p.key=k):=by
 unfold thereN
 by_cases h:p.key<k
 ·rw [placeN_cons,if_pos h,if_pos h,List.getElem?_cons_succ]
 ·rw [placeN_cons,if_neg h,if_neg h]
  rfl
theorem putK_place (l:List PairP) (k v:List UInt8):putK l k v=l.take (placeN l k)++⟨k,v⟩ :: l.drop (placeN l k+(if thereN l k then 1 else 0)):=by
 induction l with
 | nil=>rfl
 | cons p l ih =>
  rw [putK,thereN_cons,placeN_cons]
  by_cases h:p.key<k
  ·rw [if_pos h,if_pos h,if_pos h,ih,List.take_succ_cons,Nat.add_right_comm,List.drop_succ_cons,List.cons_append]
  ·rw [if_neg h,if_neg h,if_neg h]
   by_cases he:p.key=k
   ·simp [he]
   ·simp [he]
theorem Rising.tail {p:PairP} {l:List PairP} (h:Rising (p :: l)):Rising l:=(List.pairwise_cons.1 h).2
theorem Rising.head {p:PairP} {l:List PairP} (h:Rising (p :: l)):∀ q∈l,p.key<q.key:=(List.pairwise_cons.1 h).1
theorem delK_eq_of {l:List PairP} {k:List UInt8} (h:∀ q∈l,q.key≠k):delK l k=l:=List.filter_eq_self.2 (fun q hq=>decide_eq_true (h q hq))
theorem delK_place {l:List PairP} (hr:Rising l) (k:List UInt8):delK l k=if thereN l k then l.take (placeN l k)++l.drop (placeN l k+1) else l:=by
 induction l with
 | nil=>rfl
 | cons p l ih =>
  have i2:=ih hr.tail
  rw [thereN_cons,placeN_cons]
  by_cases h:p.key<k
  ·have hne:p.key≠k:=fun e=>List.lt_irrefl k (e▸h)
   have:delK (p :: l) k=p :: delK l k:=by
    unfold delK
    rw [List.filter_cons,if_pos (by simpa using hne)]
   rw [this,i2,if_pos h,if_pos h]
   cases thereN l k <;> simp
  ·rw [if_neg h,if_neg h]
   have hb:∀ q∈l,q.key≠k:=fun q hq e=>by
    have h1:=hr.head q hq
    rw [e] at h1
    exact h h1
   by_cases he:p.key=k
   ·have:delK (p :: l) k=delK l k:=by
     unfold delK
     rw [List.filter_cons,if_neg (by simpa using he)]
    rw [this,delK_eq_of hb]
    simp [he]
   ·have:delK (p :: l) k=p :: delK l k:=by
     unfold delK
     rw [List.filter_cons,if_pos (by simpa using he)]
    rw [this,delK_eq_of hb]
    simp [he]
theorem getP_none_of {l:List PairP} {k:List UInt8} (h:∀ q∈l,q.key≠k):getP l k=none:=by
 unfold getP
 rw [List.find?_eq_none.2 (fun q hq=>by simpa using h q hq)]
 rfl
theorem getP_place {l:List PairP} (hr:Rising l) (k:List UInt8):getP l k=if thereN l k then (l[placeN l k]?).map PairP.val else none:=by
 induction l with
 | nil=>rfl
 | cons p l ih =>
  have i2:=ih hr.tail
  rw [getP_cons,thereN_cons,placeN_cons]
  by_cases h:p.key<k
  ·have hne:p.key≠k:=fun e=>List.lt_irrefl k (e▸h)
   rw [if_neg hne,i2,if_pos h,if_pos h]
   rfl
  ·rw [if_neg h,if_neg h]
   by_cases he:p.key=k
   ·simp [he]
   ·have hb:∀ q∈l,q.key≠k:=fun q hq e=>by
     have h1:=hr.head q hq
     rw [e] at h1
     exact h h1
    rw [if_neg he,getP_none_of hb]
    simp [he]
end KvP
end
section
open Go.RowKit Go.ChangeShapes Go.WideShapes
def Opens {α:Type} (P:Program) (W:World) (t:TypeId) (R:α→List Value→Prop):Prop :=
 ∀ (H:Type) (enc:TypeId×Value→H) (fuel:Nat) (cs:List Value) (x:DataW H×List MemPlace),DataW.trod enc P W 0 (fun _=>true) true fuel t cs=some x →
  (∀ n∈DataW.weights P t x.1,n≤reachBytes)→∃ a,R a cs
section
variable {P:Program} {W:World} {t:TypeId}
theorem opens_bool (ht:P.underlying t=some .bool):Opens P W t (fun (b:Bool) cs=>cs=[.bool b]):=fun _ _ _ _ _ h _ =>
 let ⟨b,h1,_⟩:=DataW.trod_bool ht h;⟨b,h1⟩
theorem opens_int {k:IntKind} (ht:P.underlying t=some (.int k)):Opens P W t (fun (z:Int) cs=>cs=[.int k z]∧(Lit.int k z).wf=true):=fun _ _ _ _ _ h _ =>
 let ⟨z,h1,_,h2⟩:=DataW.trod_int ht h;⟨z,h1,h2⟩
theorem wf_i64 {z:Int} (h:(Lit.int .i64 z).wf=true):-9223372036854775808≤z∧z≤9223372036854775807:=by
 have h':=h
 simp [Lit.wf,IntKind.min,IntKind.max,IntKind.signed,IntKind.bits] at h'
 omega
theorem wf_u8 {z:Int} (h:(Lit.int .u8 z).wf=true):0≤z∧z<256:=by
 have h':=h
 simp [Lit.wf,IntKind.min,IntKind.max,IntKind.signed,IntKind.bits] at h'
 omega
theorem opens_u8 (ht:P.underlying t=some (.int .u8)):Opens P W t (fun (b:UInt8) cs=>cs=[u8 b]):=fun H enc fuel cs x h hx=>by
 obtain⟨z,rfl,hw⟩:=opens_int ht H enc fuel cs x h hx
 have hz:=wf_u8 hw
 refine⟨UInt8.ofNat z.toNat,?_⟩
 unfold u8
 congr 2
 rw [UInt8.toNat_ofNat']
 omega
theorem add_plain' (b off k:Nat):(⟨b,off,none⟩:Addr).add k=⟨b,off+k,none⟩:=by
 unfold Addr.add;split <;> simp_all
theorem flatten_get {css:List (List Value)} {sz:Nat} (hsz:∀ c∈css,c.length=sz):∀ (i j:Nat) (c:List Value),css[i]?=some c→j<sz→css.flatten[i*sz+j]?=c[j]?:=by
 induction css with
 | nil=>intro i j c h;simp at h
 | cons c0 css ih =>
  intro i j c h hj
  have h0:c0.length=sz:=hsz c0 (List.mem_cons_self ..)
  cases i with
  | zero =>
   simp only [List.getElem?_cons_zero,Option.some.injEq] at h
   subst h
   rw [List.flatten_cons,Nat.zero_mul,Nat.zero_add,List.getElem?_append_left (by omega)]
  | succ i =>
   simp only [List.getElem?_cons_succ] at h
   rw [List.flatten_cons,List.getElem?_append_right (by rw [h0,Nat.succ_mul];omega),h0]
   have e:(i+1)*sz+j-sz=i*sz+j:=by rw [Nat.succ_mul];omega
   rw [e]
   exact ih (fun c hc=>hsz c (List.mem_cons_of_mem _ hc)) i j c h hj
theorem flatten_len {css:List (List Value)} {sz:Nat} (hsz:∀ c∈css,c.length=sz):css.flatten.length=css.length*sz:=by
 induction css with
 | nil=>simp
 | cons c css ih =>
  rw [List.flatten_cons,List.length_append,ih (fun c hc=>hsz c (List.mem_cons_of_mem _ hc)),hsz c (List.mem_cons_self ..),List.length_cons,Nat.succ_mul];omega
def SliceR {α:Type} (B:Nat) (W:World) (sz by_:Nat) (R:α→List Value→Prop) (xs:List α) (cs:List Value):Prop :=
 xs.length*by_≤reachBytes∧∃ (v:Value) (css:List (List Value)),cs=[v]∧css.length=xs.length∧(∀ c∈css,c.length=sz)∧Row B W v sz xs.length css.flatten∧∀ (i:Nat) (a:α) (c:List Value),xs[i]?=some a→css[i]?=some c→R a c
theorem choose_list {β γ:Type} (n:Nat) (q:Nat→β→γ→Prop) (h:∀ i,i<n→∃ b c,q i b c):∃ (bs:List β) (cs:List γ),bs.length=n∧cs.length=n∧∀ (i:Nat) b c,bs[i]?=some b→cs[i]?=some c→q i b c:=by
 induction n with
 | zero=>exact⟨[],[],rfl,rfl,fun i b c hb=>by simp at hb⟩
 | succ n ih =>
  obtain⟨bs,cs,h1,h2,h3⟩:=ih (fun i hi=>h i (by omega))
  obtain⟨b,c,hq⟩:=h n (by omega)
  refine⟨bs++[b],cs++[c],by simp [h1],by simp [h2],fun i b' c' hb hc=>?_⟩
  by_cases hi:i<n
  ·rw [List.getElem?_append_left (by omega)] at hb hc
   exact h3 i b' c' hb hc
  ·have hin:i=n:=by
    have:i<(bs++[b]).length:=(List.getElem?_eq_some_iff.1 hb).1
    simp [h1] at this;omega
   subst hin
   rw [List.getElem?_append_right (by omega),h1] at hb
   rw [List.getElem?_append_right (by omega),h2] at hc
   simp at hb hc
   subst hb;subst hc
   exact hq
theorem mem_weightsAll {H:Type} {e:TypeId}:∀ (ds:List (DataW H)) (i:Nat) (d:DataW H),ds[i]?=some d→∀ n∈DataW.weights P e d,n∈DataW.weightsAll P e ds
 | [],i,d,h,_,_=>by simp at h
 | d0 :: ds,0,d,h,n,hn=>by
  simp only [List.getElem?_cons_zero,Option.some.injEq] at h
  subst h
  rw [DataW.weightsAll]
  exact List.mem_append_left _ hn
 | d0 :: ds,i+1,d,h,n,hn=>by
  rw [DataW.weightsAll]
  exact List.mem_append_right _ (mem_weightsAll ds i d (by simpa using h) n hn)
theorem mem_weightsEach {H:Type}:∀ (ts:List TypeId) (ds:List (DataW H)) (i:Nat) (t:TypeId) (d:DataW H),ts[i]?=some t→ds[i]?=some d→∀ n∈DataW.weights P t d,n∈DataW.weightsEach P ts ds
 | [],_,_,_,_,h,_,_,_=>by simp at h
 | _ :: _,[],_,_,_,_,h,_,_=>by simp at h
 | t0 :: ts,d0 :: ds,0,t,d,ht,hd,n,hn=>by
  simp only [List.getElem?_cons_zero,Option.some.injEq] at ht hd
  subst ht;subst hd
  rw [DataW.weightsEach]
  exact List.mem_append_left _ hn
 | t0 :: ts,d0 :: ds,i+1,t,d,ht,hd,n,hn=>by
  rw [DataW.weightsEach]
  exact List.mem_append_right _ (mem_weightsEach ts ds i t d (by simpa using ht) (by simpa using hd) n hn)
theorem opens_slice {α:Type} {e:TypeId} {R:α→List Value→Prop} (ht:P.underlying t=some (.slice e)) (hsz:0<P.cellsOf e) (he:Opens P W e R) :
  Opens P W t (SliceR W.heap.size W (P.cellsOf e) (P.bytesOf e) R):=fun H enc fuel cs x h hwt=>by
 rcases DataW.trod_slice ht h with ⟨rfl,_⟩ | ⟨a,len,cap,elems,rest,n,_,rfl,rfl,_,hl,hm,hlen,hel,_,_⟩
 ·exact⟨[],by simp,.slice none 0 0,[],rfl,rfl,by simp,Row.nil _ _ _,fun i a c h=>by simp at h⟩
 ·have hw1:DataW.weights P t (DataW.slice (elems.map (·.1)) (rest.map (·.1)))=(elems.length+rest.length)*P.bytesOf e :: (DataW.weightsAll P e (elems.map (·.1))++DataW.weightsAll P e (rest.map (·.1))):=by
   rw [DataW.weights];simp [ht]
  simp only [hw1] at hwt
  have each:∀ i,i<len→∃ (b:α) (c:List Value),W.cells? 0 (a.add (i*P.cellsOf e)) (P.cellsOf e)=some c∧R b c:=fun i hi=>by
   have h1:=hel i hi
   rw [List.getElem?_eq_getElem (by omega)] at h1
   obtain⟨c,h2,h3⟩:=Option.bind_eq_some_iff.1 h1
   obtain⟨b,hb⟩:=he H enc n c _ h3 (fun m hm=>hwt m (List.mem_cons_of_mem _ (List.mem_append_left _ (mem_weightsAll _ i _ (by rw [List.getElem?_map,List.getElem?_eq_getElem (by omega)];rfl) m hm))))
   exact⟨b,c,h2,hb⟩
  obtain⟨xs,css,h1,h2,h3⟩:=choose_list len _ each
  have hcl:∀ c∈css,c.length=P.cellsOf e:=fun c hc=>by
   obtain⟨i,hi,rfl⟩:=List.getElem_of_mem hc
   have:=h3 i _ _ (List.getElem?_eq_getElem (by omega)) (List.getElem?_eq_getElem hi)
   exact (World.cells?_some this.1).2.1
  refine⟨xs,?_,_,css,rfl,by omega,hcl,⟨by rw [flatten_len hcl,h2,h1],some a,cap,by rw [h1],by omega,hm,fun hn=>?_⟩,fun i b c hb hc=>(h3 i b c hb hc).2⟩
  ·have:=hwt _ (List.mem_cons_self ..)
   exact Nat.le_trans (Nat.mul_le_mul_right _ (by omega)) this
  rw [h1] at hn
  have key:∀ i j,i<len→j<P.cellsOf e→W.cell? ((a.add (i*P.cellsOf e)).add j)=css.flatten[i*P.cellsOf e+j]?:=fun i j hi hj=>by
   have:=h3 i _ _ (List.getElem?_eq_getElem (by omega)) (List.getElem?_eq_getElem (show i<css.length by omega))
   rw [(World.cells?_some this.1).2.2 j hj,flatten_get hcl i j _ (List.getElem?_eq_getElem (by omega)) hj]
  have h00:=key 0 0 hn hsz
  have hfl:css.flatten.length=len*P.cellsOf e:=by rw [flatten_len hcl,h2]
  have hpos:0<len*P.cellsOf e:=Nat.mul_pos hn hsz
  have e0:(a.add (0*P.cellsOf e)).add 0=a:=by simp [Addr.add]
  rw [e0,Nat.zero_mul,Nat.zero_add,List.getElem?_eq_getElem (by omega)] at h00
  obtain⟨b,off,spot⟩:=a
  have hs:spot=none:=by
   unfold World.cell? at h00
   split at h00
   ·cases spot with
    | none=>rfl
    | some s=>simp at h00
   ·cases h00
  subst hs
  refine⟨b,off,rfl,World.block_lt_of_cell? W _ h00,fun k u hk=>?_⟩
  have hk':k<len*P.cellsOf e:=by rw [← hfl];exact (List.getElem?_eq_some_iff.1 hk).1
  have hdiv:k / P.cellsOf e<len:=(Nat.div_lt_iff_lt_mul hsz).2 hk'
  have hmod:=Nat.mod_lt k hsz
  have hke:k / P.cellsOf e*P.cellsOf e+k%P.cellsOf e=k:=by rw [Nat.mul_comm];exact Nat.div_add_mod k _
  have:=key (k / P.cellsOf e) (k%P.cellsOf e) hdiv hmod
  rw [add_plain',add_plain',Nat.add_assoc,hke] at this
  rw [this,hk]
theorem flatten_u8:∀ (css:List (List Value)) (bs:List UInt8),css.length=bs.length→(∀ (i:Nat) (a:UInt8) (c:List Value),bs[i]?=some a→css[i]?=some c→c=[u8 a])→css.flatten=u8s bs:=by
 intro css
 induction css with
 | nil=>intro bs h _;cases bs <;> simp_all [u8s]
 | cons c css ih =>
  intro bs h h2
  cases bs with
  | nil=>simp at h
  | cons b bs =>
   rw [List.flatten_cons,h2 0 b c rfl rfl,ih bs (by simpa using h) (fun i a c ha hc=>h2 (i+1) a c (by simpa using ha) (by simpa using hc))]
   rfl
end
end
section
open Go.RowKit KvP
def str (s:List UInt8):Value:=.string ⟨s.toArray⟩
def pairCells (p:PairP):List Value:=[str p.key,str p.val]
def changeCells (c:ChangeP):List Value:=[str c.key,str c.val,.bool c.gone]
def PairsV (B:Nat) (w:World) (v:Value) (l:List PairP):Prop:=Row B w v 2 l.length (l.map pairCells).flatten
def ChangesV (B:Nat) (w:World) (v:Value) (l:List ChangeP):Prop:=Row B w v 3 l.length (l.map changeCells).flatten
theorem PairsV.below {B:Nat} {w w':World} {v:Value} {l:List PairP} (h:PairsV B w v l) (hb:Below B w w'):PairsV B w' v l:=Row.below h hb
theorem PairsV.tight {B:Nat} {w:World} {v:Value} {l:List PairP} (h:PairsV B w v l):PairsV w.heap.size w v l:=Row.tight h (by decide)
theorem ChangesV.below {B:Nat} {w w':World} {v:Value} {l:List ChangeP} (h:ChangesV B w v l) (hb:Below B w w'):ChangesV B w' v l:=Row.below h hb
theorem ChangesV.tight {B:Nat} {w:World} {v:Value} {l:List ChangeP} (h:ChangesV B w v l):ChangesV w.heap.size w v l:=Row.tight h (by decide)
theorem load_pair {B:Nat} {w:World} {a:Option Addr} {n c:Nat} {l:List PairP} (h:PairsV B w (.slice a n c) l) {k:Nat} (hk:k<l.length) :
  ∃ b off,a=some ⟨b,off,none⟩∧b<B∧∀ w',Below B w w'→w'.cell? ⟨b,off+k*2,none⟩=some (str l[k].key)∧w'.cell? ⟨b,off+k*2+1,none⟩=some (str l[k].val):=by
 obtain⟨hl,a0,cap,hv,hnc,hcap,hcells⟩:=h
 cases hv
 obtain⟨b,off,rfl,hBb,hc⟩:=hcells (by omega)
 have hlen:∀ c∈l.map pairCells,c.length=2:=fun c hc=>by obtain⟨p,_,rfl⟩:=List.mem_map.1 hc;rfl
 have hat:(l.map pairCells)[k]?=some (pairCells l[k]):=by rw [List.getElem?_map,List.getElem?_eq_getElem hk];rfl
 have one:∀ j (x:Value),j<2→(pairCells l[k])[j]?=some x→∀ w',Below B w w'→w'.cell? ⟨b,off+(k*2+j),none⟩=some x:=fun j x hj hx w' hw=>by
  have e:=flatten_get hlen k j _ hat hj
  rw [hx] at e
  exact (hw.cell (p:=⟨b,off+(k*2+j),none⟩) hBb).trans (hc (k*2+j) x e)
 exact⟨b,off,rfl,hBb,fun w' hw=>⟨by simpa using one 0 _ (by decide) rfl w' hw,by have:=one 1 _ (by decide) rfl w' hw;rwa [← Nat.add_assoc] at this⟩⟩
theorem load_change {B:Nat} {w:World} {a:Option Addr} {n c:Nat} {l:List ChangeP} (h:ChangesV B w (.slice a n c) l) {k:Nat} (hk:k<l.length) :
  ∃ b off,a=some ⟨b,off,none⟩∧b<B∧∀ w',Below B w w'→w'.cell? ⟨b,off+k*3,none⟩=some (str l[k].key)∧w'.cell? ⟨b,off+k*3+1,none⟩=some (str l[k].val)∧w'.cell? ⟨b,off+k*3+2,none⟩=some (.bool l[k].gone):=by
 obtain⟨hl,a0,cap,hv,hnc,hcap,hcells⟩:=h
 cases hv
 obtain⟨b,off,rfl,hBb,hc⟩:=hcells (by omega)
 have hlen:∀ c∈l.map changeCells,c.length=3:=fun c hc=>by obtain⟨p,_,rfl⟩:=List.mem_map.1 hc;rfl
 have hat:(l.map changeCells)[k]?=some (changeCells l[k]):=by rw [List.getElem?_map,List.getElem?_eq_getElem hk];rfl
 have one:∀ j (x:Value),j<3→(changeCells l[k])[j]?=some x→∀ w',Below B w w'→w'.cell? ⟨b,off+(k*3+j),none⟩=some x:=fun j x hj hx w' hw=>by
  have e:=flatten_get hlen k j _ hat hj
  rw [hx] at e
  exact (hw.cell (p:=⟨b,off+(k*3+j),none⟩) hBb).trans (hc (k*3+j) x e)
 exact⟨b,off,rfl,hBb,fun w' hw=>⟨by simpa using one 0 _ (by decide) rfl w' hw,by have:=one 1 _ (by decide) rfl w' hw;rwa [← Nat.add_assoc] at this,by have:=one 2 _ (by decide) rfl w' hw;rwa [← Nat.add_assoc] at this⟩⟩
end
section
open Go.RowKit KvP
theorem str_list (s:List UInt8):(ByteArray.mk s.toArray).toList=s:=by rw [Lib.toList_data]
theorem str_size (s:List UInt8):(ByteArray.mk s.toArray).size=s.length:=by simp [ByteArray.size]
set_option maxRecDepth 100000 in
set_option maxHeartbeats 1000000 in
theorem may_any (k v:List UInt8) (w:World):Calls Tryz.prog 80 #[str k,str v] w fun e w'=>e = .returned (.bool (mayP k v))∧w=w':=by
 unfold str
 obtain⟨a,ha⟩:∃ a,a=ByteArray.mk k.toArray:=⟨_,rfl⟩
 obtain⟨b,hb⟩:∃ b,b=ByteArray.mk v.toArray:=⟨_,rfl⟩
 have a1:a.toList=k:=by rw [ha,str_list]
 have a2:a.size=k.length:=by rw [ha,str_size]
 have b2:b.size=v.length:=by rw [hb,str_size]
 rw [← ha,← hb]
 have HA1:=zh a1
 have HA2:=zh a2
 have HB2:=zh b2
 clear ha hb a1 a2 b2
 by_cases h0:k=[]
 ·have q0:a.toList.isEmpty=true:=by rw [HA1.out,h0];rfl
  have hm:mayP k v=false:=by rw [h0];rfl
  rw [hm]
  clear h0 hm
  go_enter Tryz.func80,Tryz.ntmps80
  go_wp2_with fail
  go_ret
  exact⟨rfl,rfl⟩
 ·have q0:a.toList.isEmpty=false:=by rw [HA1.out];cases k <;> simp_all
  have h1:1≤k.length:=List.length_pos_iff.2 h0
  by_cases h2:k.length≤64
  ·have q1:decide ((a.size:Int)≤64)=true:=by rw [HA2.out];simp;omega
   have hm:mayP k v=decide ((b.size:Int)≤4096):=by
    rw [HB2.out]
    unfold mayP
    rw [decide_eq_true h1,decide_eq_true h2]
    simp only [Bool.true_and]
    by_cases h:v.length≤4096
    ·rw [decide_eq_true h,decide_eq_true (by omega)]
    ·rw [decide_eq_false h,decide_eq_false (by omega)]
   rw [hm]
   clear h0 hm h1 h2
   go_enter Tryz.func80,Tryz.ntmps80
   go_wp2_with fail
   go_ret
   exact⟨by simp,rfl⟩
  ·have q1:decide ((a.size:Int)≤64)=false:=by rw [HA2.out];simp;omega
   have hm:mayP k v=false:=by
    unfold mayP
    rw [decide_eq_false h2]
    simp
   rw [hm]
   clear h0 hm h1 h2
   go_enter Tryz.func80,Tryz.ntmps80
   go_wp2_with fail
   go_ret
   exact⟨rfl,rfl⟩
set_option maxRecDepth 100000 in
set_option maxHeartbeats 1000000 in
theorem refmay_any (k v:List UInt8) (w:World):Calls Tryz.prog 71 #[str k,str v] w fun e w'=>e = .returned (.bool (mayP k v))∧w=w':=by
 unfold str
 obtain⟨a,ha⟩:∃ a,a=ByteArray.mk k.toArray:=⟨_,rfl⟩
 obtain⟨b,hb⟩:∃ b,b=ByteArray.mk v.toArray:=⟨_,rfl⟩
 have a2:a.size=k.length:=by rw [ha,str_size]
 have b2:b.size=v.length:=by rw [hb,str_size]
 rw [← ha,← hb]
 have HA2:=zh a2
 have HB2:=zh b2
 clear ha hb a2 b2
 by_cases h0:1≤k.length
 ·have q0:decide ((1:Int)≤(a.size:Int))=true:=by rw [HA2.out];simp;omega
  by_cases h2:k.length≤64
  ·have q1:decide ((a.size:Int)≤64)=true:=by rw [HA2.out];simp;omega
   have hm:mayP k v=decide ((b.size:Int)≤4096):=by
    rw [HB2.out]
    unfold mayP
    rw [decide_eq_true h0,decide_eq_true h2]
    simp only [Bool.true_and]
    by_cases h:v.length≤4096
    ·rw [decide_eq_true h,decide_eq_true (by omega)]
    ·rw [decide_eq_false h,decide_eq_false (by omega)]
   rw [hm]
   clear h0 hm h2
   go_enter Tryz.func71,Tryz.ntmps71
   go_wp2_with fail
   go_ret
   exact⟨by simp,rfl⟩
  ·have q1:decide ((a.size:Int)≤64)=false:=by rw [HA2.out];simp;omega
   have hm:mayP k v=false:=by
    unfold mayP
    rw [decide_eq_false h2]
    simp
   rw [hm]
   clear h0 hm h2
   go_enter Tryz.func71,Tryz.ntmps71
   go_wp2_with fail
   go_ret
   exact⟨by simp,rfl⟩
 ·have q0:decide ((1:Int)≤(a.size:Int))=false:=by rw [HA2.out];simp;omega
  have hm:mayP k v=false:=by
   unfold mayP
   rw [decide_eq_false h0]
   rfl
  rw [hm]
  clear h0 hm
  go_enter Tryz.func71,Tryz.ntmps71
  go_wp2_with fail
  go_ret
  exact⟨by simp,rfl⟩
end
section
namespace KvP
open PackP
theorem length_numB8 (z:Int):(numB z).length=8:=length_be _ _
theorem num_back (z:Int) (rest:List UInt8):(RS.mk (numB z++rest) 0).num=(RS.mk rest 0,(clamp z:Int)):=by
 have hc:=clamp_le z
 have hl:=length_numB8 z
 have ht:(RS.mk (numB z++rest) 0).take 8=(RS.mk rest 0,some (numB z)):=by
  unfold RS.take
  rw [if_pos rfl,if_neg (by simp [hl])]
  simp [← hl]
 have hn:numOf (numB z)=clamp z:=numOf_be 8 _ (by omega)
 unfold RS.num
 rw [ht]
 simp only
 rw [hn,if_neg (by omega)]
theorem text_back (s rest:List UInt8):(RS.mk (textB s++rest) 0).text=(RS.mk rest 0,cutT s):=by
 have hc:=cutT_len s
 have hl:=length_be 4 (cutT s).length
 have ht:(RS.mk (textB s++rest) 0).take 4=(RS.mk (cutT s++rest) 0,some (be 4 (cutT s).length)):=by
  unfold RS.take textB
  rw [if_pos rfl,if_neg (by simp [hl])]
  have h4:∀ x y:List UInt8,x.length=4→(x++y).take 4=x∧(x++y).drop 4=y:=by
   intro x y h;rw [← h];simp
  rw [List.append_assoc,(h4 _ _ hl).1,(h4 _ _ hl).2]
 have ht2:(RS.mk (cutT s++rest) 0).take (cutT s).length=(RS.mk rest 0,some (cutT s)):=by
  unfold RS.take
  rw [if_pos rfl,if_neg (by simp)]
  simp
 have hn:numOf (be 4 (cutT s).length)=(cutT s).length:=numOf_be 4 _ (by omega)
 unfold RS.text
 rw [ht]
 simp only
 rw [hn,if_neg (by omega),ht2]
theorem rev_ind {α:Type} {p:List α→Prop} (h0:p []) (h1:∀ l a,p l→p (l++[a])) (l:List α):p l:=by
 have h:∀ l:List α,p l.reverse:=by
  intro l
  induction l with
  | nil=>exact h0
  | cons a l ih=>rw [List.reverse_cons];exact h1 _ _ ih
 have:=h l.reverse
 rwa [List.reverse_reverse] at this
theorem be_numOf:∀ (bs:List UInt8) (k:Nat),bs.length=k→be k (numOf bs)=bs:=by
 intro bs
 induction bs using rev_ind with
 | h0=>intro k h;subst h;rfl
 | h1 bs c ih =>
  intro k h
  cases k with
  | zero=>simp at h
  | succ k =>
   rw [be_low,numOf_snoc]
   have hc:c.toNat<256:=c.toNat_lt
   rw [show (numOf bs*256+c.toNat) / 256=numOf bs by omega,ih k (by simpa using h)]
   congr 1
   have:UInt8.ofNat (numOf bs*256+c.toNat)=c:=by
    apply UInt8.toNat_inj.1
    rw [UInt8.toNat_ofNat']
    omega
   rw [this]
theorem numB_nat {n:Nat} (h:n≤4611686018427387904):clamp (n:Int)=n:=by
 unfold clamp
 split
 ·omega
 ·split <;> omega
end KvP
end
section
namespace KvP
open PackP
def decodeP (b:List UInt8):List ChangeP×Int :=
 let x:=(RS.mk b 0).count 400
 let y:=decN x.2.toNat x.1
 let e:=if y.1.doneE=0∧changesB y.2=false then 3 else y.1.doneE
 if e=0 then (y.2,0) else ([],e)
theorem okC_parts {c:ChangeP} (h:okC c=true):1≤c.key.length∧c.key.length≤64∧c.val.length≤4096∧(c.gone=true→c.val=[]):=by
 unfold okC mayP at h
 simp only [Bool.and_eq_true,decide_eq_true_eq,Bool.not_eq_true',Bool.and_eq_false_iff,decide_eq_false_iff_not,Classical.not_not] at h
 exact⟨h.1.1.1,h.1.1.2,h.1.2,fun hg=>by
  rcases h.2 with h2 | h2
  ·rw [hg] at h2;cases h2
  ·exact h2⟩
theorem cutT_small {s:List UInt8} (h:s.length≤4096):cutT s=s:=List.take_of_length_le h
theorem dec1_back {c:ChangeP} (h:okC c=true) (rest:List UInt8):dec1 ⟨changeB c++rest,0⟩=(⟨rest,0⟩,c):=by
 obtain⟨h1,h2,h3,h4⟩:=okC_parts h
 obtain⟨key,val,gone⟩:=c
 simp only at h1 h2 h3 h4
 unfold dec1 changeB
 cases gone with
 | true =>
  obtain rfl:=h4 rfl
  simp only [if_true,List.append_assoc,num_back,show clamp 1=1 from rfl,RS.fail,text_back]
  simp [text_back,cutT_small (show key.length≤4096 by omega)]
 | false =>
  simp only [List.append_assoc,num_back,show clamp 0=0 from rfl,RS.fail,text_back]
  simp [num_back,text_back,show clamp 0=0 from rfl,cutT_small (show key.length≤4096 by omega),cutT_small h3]
theorem decN_back:∀ (l:List ChangeP),(∀ c∈l,okC c=true)→∀ rest,decN l.length ⟨(l.map changeB).flatten++rest,0⟩=(⟨rest,0⟩,l)
 | [],_,rest=>rfl
 | c :: l,h,rest=>by
  rw [List.length_cons,decN,List.map_cons,List.flatten_cons,List.append_assoc,dec1_back (h c (List.mem_cons_self ..))]
  simp only
  rw [decN_back l (fun x hx=>h x (List.mem_cons_of_mem _ hx)) rest]
theorem changesB_parts {l:List ChangeP} (h:changesB l=true):l.length≤400∧∀ c∈l,okC c=true:=by
 unfold changesB at h
 simp only [Bool.and_eq_true,decide_eq_true_eq,List.all_eq_true] at h
 exact h
theorem decode_bytes {l:List ChangeP} (h:changesB l=true):decodeP (bytesP l)=(l,0):=by
 obtain⟨h1,h2⟩:=changesB_parts h
 have hc:(RS.mk (bytesP l) 0).count 400=(⟨(l.map changeB).flatten,0⟩,(l.length:Int)):=by
  unfold RS.count bytesP
  rw [num_back]
  simp only [if_true]
  rw [numB_nat (by omega),if_neg (by omega)]
 unfold decodeP
 rw [hc]
 simp only [Int.toNat_natCast]
 have:=decN_back l h2 []
 rw [List.append_nil] at this
 rw [this]
 simp [RS.doneE,h]
end KvP
end
section
namespace KvP
open PackP
def chg (p:PairP):ChangeP:=⟨p.key,p.val,false⟩
def snapF:List PairP→List ChangeP→List (List ChangeP)
 | [],c=>[c]
 | p :: l,c=>if 6000<(bytesP (c++[chg p])).length then c :: snapF l [chg p] else snapF l (c++[chg p])
def snapP (l:List PairP):List (List UInt8):=(snapF l []).map bytesP
theorem length_textS {s:List UInt8} (h:s.length≤4096):(textB s).length=4+s.length:=by
 unfold textB
 rw [cutT_small h,List.length_append,length_be]
theorem length_chg {p:PairP} (h:mayP p.key p.val=true):(changeB (chg p)).length=16+p.key.length+p.val.length:=by
 unfold mayP at h
 simp only [Bool.and_eq_true,decide_eq_true_eq] at h
 unfold changeB chg
 simp only [Bool.false_eq_true,if_false,List.length_append,length_numB8]
 rw [length_textS (by omega),length_textS h.2]
 omega
theorem bytes_snoc (c:List ChangeP) (x:ChangeP):(bytesP (c++[x])).length=(bytesP c).length+(changeB x).length:=by
 unfold bytesP
 simp [length_numB8]
 omega
theorem bytes_nil:(bytesP []).length=8:=by
 unfold bytesP
 simp [length_numB8]
theorem snapF_all (q:List ChangeP→Prop):∀ (l:List PairP) (c:List ChangeP),q c→(∀ p∈l,q [chg p])→(∀ p∈l,∀ c,q c→¬ 6000<(bytesP (c++[chg p])).length→q (c++[chg p]))→∀ x∈snapF l c,q x
 | [],c,h,_,_=>fun x hx=>by rw [List.mem_singleton.1 hx];exact h
 | p :: l,c,h,h1,h2=>fun x hx=>by
  rw [snapF] at hx
  split at hx
  ·rcases List.mem_cons.1 hx with rfl | hx
   ·exact h
   ·exact snapF_all q l _ (h1 p (List.mem_cons_self ..)) (fun p hp=>h1 p (List.mem_cons_of_mem _ hp)) (fun p hp=>h2 p (List.mem_cons_of_mem _ hp)) x hx
  ·rename_i hn
   exact snapF_all q l _ (h2 p (List.mem_cons_self ..) c h hn) (fun p hp=>h1 p (List.mem_cons_of_mem _ hp)) (fun p hp=>h2 p (List.mem_cons_of_mem _ hp)) x hx
theorem okC_chg {p:PairP} (h:mayP p.key p.val=true):okC (chg p)=true:=by
 unfold okC chg
 simp [h]
def ChunkOk (c:List ChangeP):Prop:=(∀ x∈c,okC x=true)∧(bytesP c).length≤6000∧17*c.length+8≤(bytesP c).length
theorem snap_ok {l:List PairP} (h:∀ p∈l,mayP p.key p.val=true):∀ x∈snapF l [],ChunkOk x:=by
 have hk:∀ p∈l,17≤(changeB (chg p)).length∧(changeB (chg p)).length≤16+64+4096:=fun p hp=>by
  rw [length_chg (h p hp)]
  have:=h p hp
  unfold mayP at this
  simp only [Bool.and_eq_true,decide_eq_true_eq] at this
  omega
 refine snapF_all ChunkOk l [] ⟨fun x hx=>absurd hx (List.not_mem_nil),by rw [bytes_nil];decide,by rw [bytes_nil];decide⟩ (fun p hp=>?_) (fun p hp c hc hn=>?_)
 ·have e:=bytes_snoc [] (chg p)
  rw [bytes_nil,List.nil_append] at e
  have:=hk p hp
  exact⟨fun x hx=>by rw [List.mem_singleton.1 hx];exact okC_chg (h p hp),by omega,by rw [List.length_singleton];omega⟩
 ·have e:=bytes_snoc c (chg p)
  have:=hk p hp
  have h3:=hc.2.2
  refine⟨fun x hx=>?_,by omega,by rw [List.length_append,List.length_singleton];omega⟩
  rcases List.mem_append.1 hx with hx | hx
  ·exact hc.1 x hx
  ·rw [List.mem_singleton.1 hx];exact okC_chg (h p hp)
theorem ChunkOk.changes {c:List ChangeP} (h:ChunkOk c):changesB c=true:=by
 unfold changesB
 have:=h.2.1
 have:=h.2.2
 simp only [Bool.and_eq_true,decide_eq_true_eq,List.all_eq_true]
 exact⟨by omega,h.1⟩
end KvP
end
section
open Go.RowKit
structure WriteP where
 at_:Int
 data:List UInt8
structure DiskP where
 secs:List (List UInt8)
 loose:List WriteP
 fuse:Int
 down:Bool
def wcells (x:WriteP):List Value:=.int .i64 x.at_ :: u8s x.data
def Secs (B:Nat) (w:World) (v:Value) (ss:List (List UInt8)):Prop:=(∀ s∈ss,s.length=64)∧Row B w v 64 ss.length (ss.map u8s).flatten
def Loose (B:Nat) (w:World) (v:Value) (ls:List WriteP):Prop:=(∀ x∈ls,x.data.length=64)∧Row B w v 65 ls.length (ls.map wcells).flatten
theorem Secs.below {B:Nat} {w w':World} {v:Value} {ss:List (List UInt8)} (h:Secs B w v ss) (hb:Below B w w'):Secs B w' v ss:=⟨h.1,h.2.below hb⟩
theorem Loose.below {B:Nat} {w w':World} {v:Value} {ls:List WriteP} (h:Loose B w v ls) (hb:Below B w w'):Loose B w' v ls:=⟨h.1,h.2.below hb⟩
theorem Secs.tight {B:Nat} {w:World} {v:Value} {ss:List (List UInt8)} (h:Secs B w v ss):Secs w.heap.size w v ss:=⟨h.1,h.2.tight (by decide)⟩
theorem Loose.tight {B:Nat} {w:World} {v:Value} {ls:List WriteP} (h:Loose B w v ls):Loose w.heap.size w v ls:=⟨h.1,h.2.tight (by decide)⟩
def DiskV (B:Nat) (w:World) (v:Value) (d:DiskP):Prop:=∃ sv lv,v = .agg #[sv,lv,.int .i64 d.fuse,.bool d.down]∧Secs B w sv d.secs∧Loose B w lv d.loose
theorem DiskV.below {B:Nat} {w w':World} {v:Value} {d:DiskP} (h:DiskV B w v d) (hb:Below B w w'):DiskV B w' v d:=by
 obtain⟨sv,lv,h1,h2,h3⟩:=h
 exact⟨sv,lv,h1,h2.below hb,h3.below hb⟩
theorem DiskV.tight {B:Nat} {w:World} {v:Value} {d:DiskP} (h:DiskV B w v d):DiskV w.heap.size w v d:=by
 obtain⟨sv,lv,h1,h2,h3⟩:=h
 exact⟨sv,lv,h1,h2.tight,h3.tight⟩
theorem run_load_big {P:Program} {t:TypeId} {i:TypeInfo} {d:TypeDesc} (hu:P.underlying t=some d) (hd:(∃ n e,d = .array n e)∨∃ fs,d = .struct fs) (hi:P.info? t=some i) {w:World} {b off n:Nat} {cs:List Value}
  (hsz:i.size=n) (hl:cs.length=n) (hc:∀ k u,cs[k]?=some u→w.cell? ⟨b,off+k,none⟩=some u) :
  (loadVar t ⟨b,off,none⟩).run P w = .ok (.agg cs.toArray) w:=by
 have h:=run_loadCells_list (P:=P) w ⟨b,off,none⟩ cs (fun j v hj=>by
  have:(⟨b,off,none⟩:Addr).add j=⟨b,off+j,none⟩:=by unfold Addr.add;split <;> simp_all
  rw [this];exact hc j v hj)
 rw [hl] at h
 rcases hd with ⟨n',e,rfl⟩ | ⟨fs,rfl⟩ <;> simp [loadVar,isAgg,run_underlying hu,sizeOf,typeInfo,hi,hsz,h]
theorem flat_at {α:Type} (f:α→List Value) (sz:Nat):∀ (xs:List α),(∀ x∈xs,(f x).length=sz)→∀ (k:Nat) (x:α),xs[k]?=some x→∀ (j:Nat) (u:Value),(f x)[j]?=some u→(xs.map f).flatten[k*sz+j]?=some u
 | [],_,k,x,h,_,_,_=>by simp at h
 | y :: ys,hs,0,x,h,j,u,hj=>by
  simp only [List.getElem?_cons_zero,Option.some.injEq] at h
  subst h
  rw [List.map_cons,List.flatten_cons,Nat.zero_mul,Nat.zero_add,List.getElem?_append_left (List.getElem?_eq_some_iff.1 hj).1]
  exact hj
 | y :: ys,hs,k+1,x,h,j,u,hj=>by
  have h0:=hs y (List.mem_cons_self ..)
  rw [List.map_cons,List.flatten_cons,List.getElem?_append_right (by rw [h0,Nat.succ_mul];omega),h0]
  have e:(k+1)*sz+j-sz=k*sz+j:=by rw [Nat.succ_mul];omega
  rw [e]
  exact flat_at f sz ys (fun x hx=>hs x (List.mem_cons_of_mem _ hx)) k x (by simpa using h) j u hj
theorem zL (s:List UInt8):(u8s s).length=s.length:=by simp [u8s]
theorem length_wcells (x:WriteP):(wcells x).length=x.data.length+1:=by simp [wcells,u8s]
end
section
open Go.RowKit
section
variable {P:Program} {ops:Array Oper} {rest:List Oper} {o:Oper} {a:Act} {w:World} {Q:Exit→Act→World→Prop}
theorem wp_load_at (x:Operand) (t:TypeId) (hgd:o.guard=none) (ho:o.op = .load t x) {ad:Addr} {v:Value} (hx:a.eval x = .pointer (some ad)) (hl:(loadVar t ad).run P w = .ok v w)
  (h:wpList P ops Q rest (a.put o.dst v) w):wpList P ops Q (o :: rest) a w:=by
 refine wpList_plain hgd fun K hK=>?_
 unfold Oper.wp execOp
 simp only [ho,hx,Instr.loadAt,Instr.sureAddr,Sem.run_bind,Sem.run_pure,Result.andThen_ok,hl]
 exact hK _ _ h
theorem wp_store_at (x y:Operand) (t:TypeId) (hgd:o.guard=none) (ho:o.op = .store t x y) {ad:Addr} {v:Value} {w':World} (hx:a.eval x = .pointer (some ad)) (hy:a.eval y=v) (hl:(storeVar t ad v).run P w = .ok () w')
  (h:wpList P ops Q rest (a.put o.dst undef) w'):wpList P ops Q (o :: rest) a w:=by
 refine wpList_plain hgd fun K hK=>?_
 unfold Oper.wp execOp
 simp only [ho,hx,hy,Instr.storeAt,Instr.sureAddr,Sem.run_bind,Sem.run_pure,Result.andThen_ok,hl]
 exact hK _ _ h
theorem wp_alloc_at (t:TypeId) (hgd:o.guard=none) (ho:o.op = .alloc t) {z:Value} (hz:(zeroValue t).run P w = .ok z w)
  (h:wpList P ops Q rest (a.put o.dst (.pointer (some ⟨w.heap.size,0,none⟩))) (w.alloc (.cells z.cells t))):wpList P ops Q (o :: rest) a w:=by
 refine wpList_plain hgd fun K hK=>?_
 unfold Oper.wp execOp
 have hr:(Instr.alloc t true (.tuple #[])).run P w = .ok (.pointer (some ⟨w.heap.size,0,none⟩)) (w.alloc (.cells z.cells t)):=by
  simp only [Instr.alloc,Sem.run_bind,hz,Result.andThen_ok]
  rfl
 simp only [ho,Sem.run_bind,Sem.run_pure,Result.andThen_ok,hr]
 exact hK _ _ h
theorem run_store_big {t:TypeId} {i:TypeInfo} (hi:P.info? t=some i) {w:World} {g off:Nat} {cur:Array Value} {e:TypeId} {cs:List Value} (hg:w.heap[g]?=some (.cells cur e (0,0)))
  (hsz:i.size=cs.length) (hfit:off+cs.length≤cur.size) (h1:∀ v∈cs,v.oneCell'=true) :
  (storeVar t ⟨g,off,none⟩ (.agg cs.toArray)).run P w = .ok () (w.setRow g (cur.toList.take off++cs++cur.toList.drop (off+cs.length)).toArray):=by
 have h:=run_storeCells_at P g off e cs 0 cur w hg (by simpa using hfit) h1
 simp only [Nat.add_zero] at h
 simp [storeVar,Value.cells,sizeOf,typeInfo,hi,hsz,h]
end
end
section
open Go.RowKit
theorem info_write:(Tryz.prog.info? 96).map (fun i=>(i.size,i.bytes))=some (65,72):=by kernel_rfl
theorem size_parts {P:Program} {e:TypeId} {size bytes:Nat} (h:(P.info? e).map (fun i=>(i.size,i.bytes))=some (size,bytes)):∃ i,P.info? e=some i∧i.size=size∧i.bytes=bytes:=by
 obtain⟨i,hi,hzz⟩:=Option.map_eq_some_iff.1 h
 simp only [Prod.mk.injEq] at hzz
 exact⟨i,hi,hzz.1,hzz.2⟩
def thereB (d:DiskP) (at_:Int):Bool:=decide (0≤at_)&&decide (at_<d.secs.length)
def fusedB (n:Int):Bool:=decide (-1≤n)&&decide (n≤1099511627776)
set_option maxRecDepth 100000 in
theorem fused_any (n:Int) (w:World):Calls Tryz.prog 128 #[.int .i64 n] w fun e w'=>e = .returned (.bool (fusedB n))∧w=w':=by
 by_cases h1:-1≤n
 ·have hf:fusedB n=decide (n≤1099511627776):=by simp [fusedB,h1]
  rw [hf]
  clear hf
  go_enter Tryz.func128,Tryz.ntmps128
  go_wp2
  go_ret
  exact⟨rfl,rfl⟩
 ·have hf:fusedB n=false:=by simp [fusedB,h1]
  rw [hf]
  have t0:decide (-1≤n)=false:=by simp;omega
  clear hf h1
  go_enter Tryz.func128,Tryz.ntmps128
  go_wp2
  go_ret
  exact⟨rfl,rfl⟩
set_option maxRecDepth 100000 in
theorem there_any {B:Nat} (v:Value) (d:DiskP) (at_:Int) (w:World) (h:DiskV B w v d) :
  Calls Tryz.prog 131 #[v,.int .i64 at_] w fun e w'=>e = .returned (.bool (thereB d at_))∧Below w.heap.size w w':=by
 obtain⟨sv,lv,rfl,⟨_,_,a,cap,rfl,hnc,hcap,_⟩,⟨_,_,a2,cap2,rfl,_⟩⟩:=h
 unfold maxLen at hcap
 have hb:Below w.heap.size w (w.alloc (.cells #[.slice a d.secs.length cap,.slice a2 d.loose.length cap2,.int .i64 d.fuse,.bool d.down] 38)):=Below.alloc (Below.refl _ _) (Nat.le_refl _) _
 by_cases h1:0≤at_
 ·have hf:thereB d at_=decide (at_<d.secs.length):=by simp [thereB,h1]
  rw [hf]
  clear hf
  go_enter Tryz.func131,Tryz.ntmps131
  go_wp2
  go_ret
  exact⟨rfl,hb⟩
 ·have hf:thereB d at_=false:=by simp [thereB,h1]
  rw [hf]
  have t0:decide (0≤at_)=false:=by simp;omega
  clear hf h1
  go_enter Tryz.func131,Tryz.ntmps131
  go_wp2
  go_ret
  exact⟨rfl,hb⟩
def DiskAt (B g:Nat) (w:World) (d:DiskP):Prop:=∃ sv lv,w.heap[g]?=some (.cells #[sv,lv,.int .i64 d.fuse,.bool d.down] 38 (0,0))∧Secs B w sv d.secs∧Loose B w lv d.loose
theorem DiskAt.below {B g B':Nat} {w w':World} {d:DiskP} (h:DiskAt B g w d) (hb:Below B' w w') (hg:g<B') (hB:B≤B'):DiskAt B g w' d:=by
 obtain⟨sv,lv,h1,h2,h3⟩:=h
 exact⟨sv,lv,(hb.block g hg).trans h1,h2.below (hb.mono hB),h3.below (hb.mono hB)⟩
set_option maxRecDepth 100000 in
theorem pred_any {B g:Nat} (A:Array Value) (at_:Int) (d:DiskP) (w:World) (h:DiskAt B g w d) (hA:A[0]?=some (.int .i64 at_)) :
  Calls Tryz.prog 130 #[.agg A,.pointer (some ⟨g,0,none⟩)] w fun e w'=>e = .returned (.bool (!thereB d at_))∧Below w.heap.size w w':=by
 obtain⟨sv,lv,h1,h2,h3⟩:=h
 have hg:g<w.heap.size:=zB h1
 have hb:Below w.heap.size w (w.alloc (.cells A 96)):=Below.alloc (Below.refl _ _) (Nat.le_refl _) _
 have c0:=cR w g 0 _ _ _ h1
 have c1:=cR w g 1 _ _ _ h1
 have c2:=cR w g 2 _ _ _ h1
 have c3:=cR w g 3 _ _ _ h1
 have hd:DiskV w.heap.size w (.agg #[sv,lv,.int .i64 d.fuse,.bool d.down]) d:=⟨sv,lv,rfl,h2.tight,h3.tight⟩
 have hd2:=hd.below hb
 have k1:=there_any _ d at_ _ hd2
 go_enter Tryz.func130,Tryz.ntmps130
 go_wp2_with fail
 refine k1.mono ?_
 rintro e w1 ⟨rfl,hb1⟩
 go_wp2_with fail
 go_ret
 exact⟨rfl,hb.trans (hb1.mono hb.size)⟩
def badAt (d:DiskP) (ls:List WriteP):Bool:=ls.any fun x=>!thereB d x.at_
theorem badAt_none (d:DiskP) (ls:List WriteP) (h:∀ k (hk:k<ls.length),thereB d ls[k].at_=true):badAt d ls=false:=by
 unfold badAt
 rw [List.any_eq_false]
 intro x hx
 obtain⟨k,hk,rfl⟩:=List.getElem_of_mem hx
 simp [h k hk]
theorem badAt_some (d:DiskP) (ls:List WriteP) (k:Nat) (hk:k<ls.length) (h:thereB d ls[k].at_=false):badAt d ls=true:=by
 unfold badAt
 rw [List.any_eq_true]
 exact⟨ls[k],List.getElem_mem hk,by simp [h]⟩
set_option maxRecDepth 100000 in
set_option maxHeartbeats 1000000 in
theorem index_any {B g:Nat} (v:Value) (ls:List WriteP) (d:DiskP) (w:World) (h:DiskAt B g w d) (hB:B≤g) (hl:Loose B w v ls) :
  Calls Tryz.prog 150 #[v,.func (.func 130) #[] #[.pointer (some ⟨g,0,none⟩)]] w fun e w'=>(∃ z:Int,e = .returned (.int .i64 z)∧(decide (0≤z))=badAt d ls)∧Below w.heap.size w w':=by
 obtain⟨hls,_,a,cap,rfl,hnc,hcap,hcells⟩:=hl
 unfold maxLen at hcap
 have hg:g<w.heap.size:=by obtain⟨_,_,h1,_⟩:=h;exact zB h1
 obtain⟨i0,hi,hsz,_⟩:=size_parts info_write
 go_enter Tryz.func150,Tryz.ntmps150
 go_wp2
 go_loopw [8] (fun i wr=>∃ k:Nat,k≤ls.length∧i = .int .i64 k∧(∀ j (hj:j<ls.length),j<k→thereB d ls[j].at_=true)∧Below w.heap.size w wr) (fun i _=>ls.length-(intOf i).toNat)
 case atStart=>exact⟨0,Nat.zero_le _,rfl,fun j _ h=>absurd h (Nat.not_lt_zero _),Below.refl _ _⟩
 case round =>
  obtain⟨k,hk,rfl,hpre,hb⟩:=hrel
  by_cases hlt:k<ls.length
  ·obtain⟨b,off,rfl,hBb,hc⟩:=hcells (by omega)
   have hBw:b<w.heap.size:=Nat.lt_trans (Nat.lt_of_lt_of_le hBb hB) hg
   have hat:=flat_at wcells 65 ls (fun x hx=>by rw [length_wcells,hls x hx]) k ls[k] (List.getElem?_eq_getElem hlt)
   have hld:=run_load_big (P:=Tryz.prog) (t:=96) Tryz.underlying96 (.inr ⟨_,rfl⟩) hi (w:=wr) (b:=b) (off:=off+k*65) (cs:=wcells ls[k]) hsz (by rw [length_wcells,hls _ (List.getElem_mem hlt)])
    (fun j u hj=>by rw [Nat.add_assoc];exact (hb.cell (p:=⟨b,off+(k*65+j),none⟩) hBw).trans (hc _ _ (hat j u hj)))
   have HP:=zh hpre
   have hA:(wcells ls[k]).toArray[0]?=some (.int .i64 ls[k].at_):=by simp [wcells]
   have hd:DiskAt B g wr d:=h.below hb hg (Nat.le_trans hB (Nat.le_of_lt hg))
   have k1:=pred_any _ _ d wr hd hA
   obtain⟨q,hq⟩:∃ q,q=thereB d ls[k].at_:=⟨_,rfl⟩
   rw [← hq] at k1
   have HQ:=zh hq
   clear hpre hc hat hcells hA hd hq
   obtain⟨A,hAe⟩:∃ A,A=(wcells ls[k]).toArray:=⟨_,rfl⟩
   rw [← hAe] at hld k1
   clear hAe
   cases q with
   | true =>
    go_wp2_with (refine wp_load_at (.tmp 14) 96 rfl rfl rfl hld ?_)
    refine k1.mono ?_
    rintro e w1 ⟨rfl,hb1⟩
    go_wp2_with fail
    go_roundw
    case rel =>
     refine⟨k+1,by omega,by go_num,fun j hj hjk=>?_,hb.trans (hb1.mono hb.size)⟩
     by_cases hjk2:j<k
     ·exact HP.out j hj hjk2
     ·obtain rfl:j=k:=by omega
      exact HQ.out.symm
    case measure=>simp [intOf];omega
   | false =>
    go_wp2_with (refine wp_load_at (.tmp 14) 96 rfl rfl rfl hld ?_)
    refine k1.mono ?_
    rintro e w1 ⟨rfl,hb1⟩
    go_wp2_with fail
    go_ret
    exact⟨⟨k,rfl,by rw [badAt_some d ls k hlt HQ.out.symm];simp⟩,hb.trans (hb1.mono hb.size)⟩
  ·have hke:k=ls.length:=by omega
   subst hke
   have HP:=zh hpre
   clear hpre hcells
   go_wp2_with fail
   go_ret
   exact⟨⟨-1,rfl,by rw [badAt_none d ls (fun j hj=>HP.out j hj hj)];decide⟩,hb⟩
end
section
open Go.RowKit
set_option maxRecDepth 100000 in
theorem contains_any {B g:Nat} (v:Value) (ls:List WriteP) (d:DiskP) (w:World) (h:DiskAt B g w d) (hB:B≤g) (hl:Loose B w v ls) :
  Calls Tryz.prog 129 #[v,.func (.func 130) #[] #[.pointer (some ⟨g,0,none⟩)]] w fun e w'=>e = .returned (.bool (badAt d ls))∧Below w.heap.size w w':=by
 have k1:=index_any v ls d w h hB hl
 obtain⟨q,hq⟩:∃ q,q=badAt d ls:=⟨_,rfl⟩
 rw [← hq] at k1 ⊢
 clear hq hl h
 go_enter Tryz.func129,Tryz.ntmps129
 go_wp2_with fail
 refine k1.mono ?_
 rintro e w1 ⟨⟨z,rfl,hz⟩,hb1⟩
 go_wp2_with fail
 go_ret
 exact⟨by rw [← hz];rfl,hb1⟩
def rightB (d:DiskP):Bool:=decide (d.secs.length≤4096)&&decide (d.loose.length≤100000)&&fusedB d.fuse&&!badAt d d.loose
set_option maxRecDepth 100000 in
theorem right_any {B:Nat} (v:Value) (d:DiskP) (w:World) (h:DiskV B w v d) :
  Calls Tryz.prog 90 #[v] w fun e w'=>e = .returned (.bool (rightB d))∧Below w.heap.size w w':=by
 have h:=h.tight
 obtain⟨sv,lv,rfl,hs,hl⟩:=h
 have hb:Below w.heap.size w (w.alloc (.cells #[sv,lv,.int .i64 d.fuse,.bool d.down] 38)):=Below.alloc (Below.refl _ _) (Nat.le_refl _) _
 have hg:(w.alloc (.cells #[sv,lv,.int .i64 d.fuse,.bool d.down] 38)).heap[w.heap.size]?=some (.cells #[sv,lv,.int .i64 d.fuse,.bool d.down] 38 (0,0)):=heap_alloc_new w _
 have hl':=hl.below hb
 have hda:DiskAt w.heap.size w.heap.size (w.alloc (.cells #[sv,lv,.int .i64 d.fuse,.bool d.down] 38)) d:=⟨sv,lv,hg,hs.below hb,hl'⟩
 obtain⟨_,_,a,cap,hsv,hnc,hcap,_⟩:=hs
 obtain⟨_,_,a2,cap2,hlv,hnc2,hcap2,_⟩:=hl
 unfold maxLen at hcap hcap2
 have k1:=fun w=>fused_any d.fuse w
 have k2:=fun (w':World) (hw:Below (w.heap.size+1) (w.alloc (.cells #[sv,lv,.int .i64 d.fuse,.bool d.down] 38)) w')=>contains_any lv d.loose d w' (hda.below hw (Nat.lt_succ_self _) (Nat.le_succ _)) (Nat.le_refl _) (hl'.below (hw.mono (Nat.le_succ _)))
 subst hsv hlv
 by_cases h1:d.secs.length≤4096
 ·by_cases h2:d.loose.length≤100000
  ·have e:rightB d=(fusedB d.fuse&&!badAt d d.loose):=by simp [rightB,h1,h2]
   rw [e]
   obtain⟨q,hq⟩:∃ q,q=fusedB d.fuse:=⟨_,rfl⟩
   obtain⟨r,hr⟩:∃ r,r=badAt d d.loose:=⟨_,rfl⟩
   simp only [← hq] at k1
   simp only [← hr] at k2
   rw [← hq,← hr]
   clear hq hr e hda hl'
   cases q with
   | true =>
    go_enter Tryz.func90,Tryz.ntmps90
    go_wp2_with fail
    refine (k1 _).mono ?_
    rintro e w1 ⟨rfl,rfl⟩
    go_wp2_with fail
    refine (k2 _ (Below.refl _ _)).mono ?_
    rintro e w1 ⟨rfl,hb1⟩
    go_wp2_with fail
    go_ret
    exact⟨rfl,hb.trans (hb1.mono hb.size)⟩
   | false =>
    go_enter Tryz.func90,Tryz.ntmps90
    go_wp2_with fail
    refine (k1 _).mono ?_
    rintro e w1 ⟨rfl,rfl⟩
    go_wp2_with fail
    go_ret
    exact⟨rfl,hb⟩
  ·have e:rightB d=false:=by simp [rightB,h2]
   have t0:decide (((d.loose.length:Nat):Int)≤100000)=false:=by simp;omega
   rw [e]
   clear e k1 k2 hda hl'
   go_enter Tryz.func90,Tryz.ntmps90
   go_wp2_with fail
   go_ret
   exact⟨rfl,hb⟩
 ·have e:rightB d=false:=by simp [rightB,h1]
  have t0:decide (((d.secs.length:Nat):Int)≤4096)=false:=by simp;omega
  rw [e]
  clear e k1 k2 hda hl'
  go_enter Tryz.func90,Tryz.ntmps90
  go_wp2_with fail
  go_ret
  exact⟨rfl,hb⟩
end
section
open Go.RowKit
theorem infoz_write:(Tryz.prog.info? 96).bind (fun i=>i.zero.map fun z=>(i.size,i.bytes,z.cells.size))=some (65,72,65):=by kernel_rfl
theorem infoz_sector:(Tryz.prog.info? 94).bind (fun i=>i.zero.map fun z=>(i.size,i.bytes,z.cells.size))=some (64,64,64):=by kernel_rfl
theorem zero_parts {P:Program} {e:TypeId} {a b c:Nat} (h:(P.info? e).bind (fun i=>i.zero.map fun z=>(i.size,i.bytes,z.cells.size))=some (a,b,c)):∃ i z,P.info? e=some i∧i.zero=some z∧i.size=a∧i.bytes=b∧z.cells.size=c:=by
 obtain⟨i,hi,h⟩:=Option.bind_eq_some_iff.1 h
 obtain⟨z,hz,h⟩:=Option.map_eq_some_iff.1 h
 simp only [Prod.mk.injEq] at h
 exact⟨i,z,hi,hz,h.1,h.2.1,h.2.2⟩
def SecsO (B:Nat) (w:World) (v:Value) (ss:List (List UInt8)):Prop:=(∀ s∈ss,s.length=64)∧Own B w 94 v 64 ss.length (ss.map u8s).flatten
def LooseO (B:Nat) (w:World) (v:Value) (ls:List WriteP):Prop:=(∀ x∈ls,x.data.length=64)∧Own B w 96 v 65 ls.length (ls.map wcells).flatten
theorem SecsO.secs {B:Nat} {w:World} {v:Value} {ss:List (List UInt8)} (h:SecsO B w v ss):Secs w.heap.size w v ss:=⟨h.1,h.2.row⟩
theorem LooseO.loose {B:Nat} {w:World} {v:Value} {ls:List WriteP} (h:LooseO B w v ls):Loose w.heap.size w v ls:=⟨h.1,h.2.row⟩
theorem oneCell_secs (ss:List (List UInt8)):∀ u∈(ss.map u8s).flatten,u.oneCell'=true:=by
 intro u hu
 obtain⟨l,hl,hu⟩:=List.mem_flatten.1 hu
 obtain⟨s,_,rfl⟩:=List.mem_map.1 hl
 exact oneCell_u8s s u hu
theorem oneCell_w (x:WriteP):∀ u∈wcells x,u.oneCell'=true:=by
 intro u hu
 rcases List.mem_cons.1 hu with rfl | hu
 ·rfl
 ·exact oneCell_u8s _ u hu
theorem oneCell_ws (ls:List WriteP):∀ u∈(ls.map wcells).flatten,u.oneCell'=true:=by
 intro u hu
 obtain⟨l,hl,hu⟩:=List.mem_flatten.1 hu
 obtain⟨s,_,rfl⟩:=List.mem_map.1 hl
 exact oneCell_w s u hu
theorem length_flat {α:Type} (f:α→List Value) (sz:Nat):∀ (xs:List α),(∀ x∈xs,(f x).length=sz)→(xs.map f).flatten.length=xs.length*sz
 | [],_=>by simp
 | y :: ys,h=>by
  rw [List.map_cons,List.flatten_cons,List.length_append,h y (List.mem_cons_self ..),length_flat f sz ys (fun x hx=>h x (List.mem_cons_of_mem _ hx)),List.length_cons,Nat.succ_mul,Nat.add_comm]
theorem Own.setOther {B:Nat} {w:World} {e:TypeId} {v:Value} {sz n:Nat} {cs:List Value} (h:Own B w e v sz n cs) (p:Addr) (u:Value) (hp:p.block<B):Own B (w.setCell p u) e v sz n cs:=by
 obtain⟨h1,a,cap,rfl,h2,h3,h4⟩:=h
 refine⟨h1,a,cap,rfl,h2,h3,?_⟩
 rcases h4 with h4 | ⟨g,cur,rfl,hg,hh,hs,ht⟩
 ·exact .inl h4
 ·refine .inr ⟨g,cur,rfl,hg,?_,hs,ht⟩
  simp only [World.setCell,Array.getElem?_modify]
  rw [if_neg (by omega)]
  exact hh
theorem SecsO.setOther {B:Nat} {w:World} {v:Value} {ss:List (List UInt8)} (h:SecsO B w v ss) (p:Addr) (u:Value) (hp:p.block<B):SecsO B (w.setCell p u) v ss:=⟨h.1,h.2.setOther p u hp⟩
theorem LooseO.setOther {B:Nat} {w:World} {v:Value} {ls:List WriteP} (h:LooseO B w v ls) (p:Addr) (u:Value) (hp:p.block<B):LooseO B (w.setCell p u) v ls:=⟨h.1,h.2.setOther p u hp⟩
theorem SecsO.keep {B B':Nat} {w w':World} {v:Value} {ss:List (List UInt8)} (h:SecsO B w v ss) (hb:Below B' w w') (hB:w.heap.size≤B'):SecsO B w' v ss:=⟨h.1,h.2.below hb hB⟩
theorem LooseO.keep {B B':Nat} {w w':World} {v:Value} {ls:List WriteP} (h:LooseO B w v ls) (hb:Below B' w w') (hB:w.heap.size≤B'):LooseO B w' v ls:=⟨h.1,h.2.below hb hB⟩
set_option maxRecDepth 100000 in
set_option maxHeartbeats 400000 in
theorem clone64_any {B:Nat} (v:Value) (ss:List (List UInt8)) (w:World) (hr:Secs B w v ss) (hlen:ss.length≤2^40) :
  Calls Tryz.prog 174 #[v] w fun e w'=>∃ v',e = .returned v'∧SecsO w.heap.size w' v' ss∧Below w.heap.size w w':=by
 have hr:=hr.tight
 have hR:=hr
 obtain⟨h64,h1,a,cap,rfl,hnc,hcap,hcells⟩:=hr
 have kn:=fun (w:World) (a:Option Addr) (n c n' c':Nat)=>eql_slice_nil Tryz.underlying35 w a n c n' c'
 cases a with
 | none =>
  have hn:ss=[]:=by
   cases ss with
   | nil=>rfl
   | cons b bs=>obtain⟨b,off,h,_⟩:=hcells (by simp);cases h
  subst hn
  clear hcells h1 hR
  go_enter Tryz.func174,Tryz.ntmps174
  go_wp2
  go_ret
  exact⟨_,rfl,⟨h64,Own.none _ _ _ _ _⟩,Below.refl _ _⟩
 | some ad =>
  obtain⟨i0,z0,hi,hz0,hz1,hz2,hz3⟩:=zero_parts infoz_sector
  have ho:Own w.heap.size (w.alloc (.cells #[] 94)) 94 (.slice (some ⟨w.heap.size,0,none⟩) 0 0) 64 0 []:=Own.none _ _ _ _ _
  have hb:Below w.heap.size w (w.alloc (.cells #[] 94)):=Below.alloc (Below.refl _ _) (Nat.le_refl _) _
  have hs:=Row.src (P:=Tryz.prog) (hR.below hb).2
  have hB:w.heap.size≤(w.alloc (.cells #[] 94)).heap.size:=hb.size
  have hl1:0+ss.length≤maxLen:=by unfold maxLen;omega
  have hl2:(0+ss.length)*64≤140737488355328:=by omega
  have H1:=zh hl1
  have H2:=zh hl2
  clear hR h1 hcells hcap hl1 hl2 hlen
  go_enter Tryz.func174,Tryz.ntmps174
  go_wp2_with (at_builtin;refine wp_append rfl (.tmp 5) (.tmp 6) 35 35 94 rfl i0 z0 64 64 Tryz.underlying35 (.inl ⟨_,Tryz.underlying35⟩) hi hz0 hz1 hz2 hz3 rfl rfl ho hs (oneCell_secs _) H1.out H2.out hB ?_;intro v2 w2 hown2 hb2)
  go_ret
  refine⟨_,rfl,⟨h64,?_⟩,hb.trans hb2⟩
  rw [Nat.zero_add,List.nil_append] at hown2
  exact hown2
set_option maxRecDepth 100000 in
set_option maxHeartbeats 400000 in
theorem cloneW_any {B:Nat} (v:Value) (ls:List WriteP) (w:World) (hr:Loose B w v ls) (hlen:ls.length≤2^40) :
  Calls Tryz.prog 175 #[v] w fun e w'=>∃ v',e = .returned v'∧LooseO w.heap.size w' v' ls∧Below w.heap.size w w':=by
 have hr:=hr.tight
 have hR:=hr
 obtain⟨h64,h1,a,cap,rfl,hnc,hcap,hcells⟩:=hr
 have kn:=fun (w:World) (a:Option Addr) (n c n' c':Nat)=>eql_slice_nil Tryz.underlying36 w a n c n' c'
 cases a with
 | none =>
  have hn:ls=[]:=by
   cases ls with
   | nil=>rfl
   | cons b bs=>obtain⟨b,off,h,_⟩:=hcells (by simp);cases h
  subst hn
  clear hcells h1 hR
  go_enter Tryz.func175,Tryz.ntmps175
  go_wp2
  go_ret
  exact⟨_,rfl,⟨h64,Own.none _ _ _ _ _⟩,Below.refl _ _⟩
 | some ad =>
  obtain⟨i0,z0,hi,hz0,hz1,hz2,hz3⟩:=zero_parts infoz_write
  have ho:Own w.heap.size (w.alloc (.cells #[] 96)) 96 (.slice (some ⟨w.heap.size,0,none⟩) 0 0) 65 0 []:=Own.none _ _ _ _ _
  have hb:Below w.heap.size w (w.alloc (.cells #[] 96)):=Below.alloc (Below.refl _ _) (Nat.le_refl _) _
  have hs:=Row.src (P:=Tryz.prog) (hR.below hb).2
  have hB:w.heap.size≤(w.alloc (.cells #[] 96)).heap.size:=hb.size
  have hl1:0+ls.length≤maxLen:=by unfold maxLen;omega
  have hl2:(0+ls.length)*72≤140737488355328:=by omega
  have H1:=zh hl1
  have H2:=zh hl2
  clear hR h1 hcells hcap hl1 hl2 hlen
  go_enter Tryz.func175,Tryz.ntmps175
  go_wp2_with (at_builtin;refine wp_append rfl (.tmp 5) (.tmp 6) 36 36 96 rfl i0 z0 65 72 Tryz.underlying36 (.inl ⟨_,Tryz.underlying36⟩) hi hz0 hz1 hz2 hz3 rfl rfl ho hs (oneCell_ws _) H1.out H2.out hB ?_;intro v2 w2 hown2 hb2)
  go_ret
  refine⟨_,rfl,⟨h64,?_⟩,hb.trans hb2⟩
  rw [Nat.zero_add,List.nil_append] at hown2
  exact hown2
end
section
open Go.RowKit
theorem results_ct {P:Program} {fn:Func} {p u:Tmp} {ty:TypeId} (h:fn.results=#[.cell p ty,.tmp u]) (tmps:Array Value) (w:World) (g:Nat) (t:TypeId) (cs:Array Value) (fr:Nat×Nat) (d:TypeDesc)
  (hp:tmps.getD p undef = .pointer (some ⟨g,0,none⟩)) (hg:w.heap[g]?=some (.cells cs t fr))
  (hu:P.underlying ty=some d) (hd:(match d with | .struct _ | .array _ _=>true | _=>false)=true) (hi:(P.info? ty).map (·.size)=some cs.size) :
  (results fn tmps).run P w = .ok (.tuple #[.agg cs,tmps.getD u undef]) w:=by
 have hp':tmps[p]?.getD undef = .pointer (some ⟨g,0,none⟩):=by simpa using hp
 simp [results,h,hp',asAddr,run_loadVar_row w g t ty cs fr d hg hu hd hi]
theorem zQ:(Tryz.prog.info? 38).map (·.size)=some 4:=by kernel_rfl
theorem SecsO.form {B:Nat} {w:World} {v:Value} {ss:List (List UInt8)} (h:SecsO B w v ss):∃ a cap,v = .slice a ss.length cap:=by obtain⟨_,_,a,cap,rfl,_⟩:=h;exact⟨a,cap,rfl⟩
theorem LooseO.form {B:Nat} {w:World} {v:Value} {ss:List WriteP} (h:LooseO B w v ss):∃ a cap,v = .slice a ss.length cap:=by obtain⟨_,_,a,cap,rfl,_⟩:=h;exact⟨a,cap,rfl⟩
theorem zF {w:World} {g:Nat} {cs:Array Value} {t:TypeId} (h:w.heap[g]?=some (.cells cs t (0,0))) (k:Nat):w.frozen? ⟨g,k,none⟩=false:=by simp [World.frozen?,h]
theorem Row.mix {C C':Nat} {w w':World} {v:Value} {sz n:Nat} {cs cs':List Value} (h1:Row C w v sz n cs) (h2:Row C' w' v sz n cs'):Row C w' v sz n cs':=by
 obtain⟨_,a,cap,rfl,_,_,h1⟩:=h1
 obtain⟨hl,a',cap',hv,hn,hc,h2⟩:=h2
 obtain⟨rfl,rfl⟩:a=a'∧cap=cap':=by cases hv;exact⟨rfl,rfl⟩
 refine⟨hl,a,cap,rfl,hn,hc,fun hp=>?_⟩
 obtain⟨b,off,e,hb,_⟩:=h1 hp
 obtain⟨b',off',e',_,hc'⟩:=h2 hp
 rw [e] at e'
 cases e'
 exact⟨b,off,e,hb,hc'⟩
def downP (d:DiskP):Bool:=d.down || (d.fuse == 0)
def burnF (d:DiskP):Int:=if downP d then d.fuse else if 0<d.fuse then d.fuse-1 else d.fuse
def burnE (d:DiskP):Int:=if downP d then 9 else 0
theorem set0 {w:World} {g:Nat} {a b c d:Value} {t:TypeId} {fr:Nat×Nat} (h:w.heap[g]?=some (.cells #[a,b,c,d] t fr)) (u v:Value):((w.setCell ⟨g,0,none⟩ u).setCell ⟨g,1,none⟩ v).heap[g]?=some (.cells #[u,v,c,d] t fr):=by
 simp [World.setCell,Array.getElem?_modify,h]
theorem setFar {w:World} {g h:Nat} (hne:g≠h) (k:Nat) (u:Value):(w.setCell ⟨g,k,none⟩ u).heap[h]?=w.heap[h]?:=by
 simp only [World.setCell,Array.getElem?_modify]
 rw [if_neg hne]
abbrev put4 (w:World) (h:Nat) (a b c d:Value):World:=(((w.setCell ⟨h,0,none⟩ a).setCell ⟨h,1,none⟩ b).setCell ⟨h,2,none⟩ c).setCell ⟨h,3,none⟩ d
theorem put4_heap {w:World} {h:Nat} {a0 b0 c0 d0:Value} {t:TypeId} {fr:Nat×Nat} (hh:w.heap[h]?=some (.cells #[a0,b0,c0,d0] t fr)) (a b c d:Value):(put4 w h a b c d).heap[h]?=some (.cells #[a,b,c,d] t fr):=by
 simp [put4,World.setCell,Array.getElem?_modify,hh]
theorem put4_secs {B h:Nat} {w:World} {v:Value} {ss:List (List UInt8)} (hs:SecsO B w v ss) (hB:h<B) (a b c d:Value):SecsO B (put4 w h a b c d) v ss:=(((hs.setOther _ _ hB).setOther _ _ hB).setOther _ _ hB).setOther _ _ hB
theorem put4_loose {B h:Nat} {w:World} {v:Value} {ss:List WriteP} (hs:LooseO B w v ss) (hB:h<B) (a b c d:Value):LooseO B (put4 w h a b c d) v ss:=(((hs.setOther _ _ hB).setOther _ _ hB).setOther _ _ hB).setOther _ _ hB
theorem put4_below {B h:Nat} {w w':World} (hb:Below B w w') (hB:B≤h) (a b c d:Value):Below B w (put4 w' h a b c d) :=
 (((hb.setCell (p:=⟨h,0,none⟩) hB a).setCell (p:=⟨h,1,none⟩) hB b).setCell (p:=⟨h,2,none⟩) hB c).setCell (p:=⟨h,3,none⟩) hB d
theorem SecsO.lower {B B':Nat} {w:World} {v:Value} {ss:List (List UInt8)} (h:SecsO B w v ss) (hB:B'≤B):SecsO B' w v ss:=⟨h.1,h.2.lower hB⟩
theorem LooseO.lower {B B':Nat} {w:World} {v:Value} {ss:List WriteP} (h:LooseO B w v ss) (hB:B'≤B):LooseO B' w v ss:=⟨h.1,h.2.lower hB⟩
set_option maxRecDepth 100000 in
set_option maxHeartbeats 1000000 in
theorem burn_any {B:Nat} (v:Value) (d:DiskP) (w:World) (h:DiskV B w v d) (hr:rightB d=true) :
  Calls Tryz.prog 156 #[v] w fun e w'=>(∃ sv lv,e = .returned (.tuple #[.agg #[sv,lv,.int .i64 (burnF d),.bool (downP d)],.int .i64 (burnE d)])∧∃ C,w.heap.size≤C∧SecsO w.heap.size w' sv d.secs∧Row C w' sv 64 d.secs.length (d.secs.map u8s).flatten∧LooseO C w' lv d.loose)∧Below w.heap.size w w':=by
 have h:=h.tight
 obtain⟨sv,lv,rfl,hs,hl⟩:=h
 have hrs:d.secs.length≤2^40∧d.loose.length≤2^40 ∧ -1≤d.fuse∧d.fuse≤2^40:=by
  simp only [rightB,fusedB,Bool.and_eq_true,decide_eq_true_eq] at hr
  omega
 clear hr
 obtain⟨r1,r2,r3,r4⟩:=hrs
 have R1:=zh r1
 have R2:=zh r2
 obtain⟨w2,hw2⟩:∃ w2,w2=((w.alloc (.cells #[sv,lv,.int .i64 d.fuse,.bool d.down] 38)).alloc (.cells #[.slice none 0 0,.slice none 0 0,.int .i64 0,.bool false] 38)):=⟨_,rfl⟩
 have hb2:Below w.heap.size w w2:=by rw [hw2];exact Below.alloc (Below.alloc (Below.refl _ _) (Nat.le_refl _) _) (by simp) _
 have hsz2:w2.heap.size=w.heap.size+2:=by rw [hw2];simp
 have hg0:w2.heap[w.heap.size]?=some (.cells #[sv,lv,.int .i64 d.fuse,.bool d.down] 38 (0,0)):=by rw [hw2];exact heap_alloc2_old w _ _
 have hg1:w2.heap[w.heap.size+1]?=some (.cells #[.slice none 0 0,.slice none 0 0,.int .i64 0,.bool false] 38 (0,0)):=by rw [hw2];exact heap_alloc2_new w _ _
 have hs2:Secs w.heap.size w2.drew sv d.secs:=(show Secs w.heap.size w2 sv d.secs from hs.below hb2)
 have F1:=zh (fun (w5:World) (h:Below w2.drew.heap.size w2.drew w5)=>(show Below w2.heap.size w2 w5 from ⟨h.os,h.tape,h.output,h.size,h.block⟩))
 have F2:=zh (fun (w5:World) (h:Below w2.drew.heap.size w2.drew w5)=>(hl.below hb2).below (((F1.out w5 h).mono hb2.size)))
 have c0:=cR w2 _ 0 _ _ _ hg0
 have c1:=cR w2 _ 1 _ _ _ hg0
 have hlt1:w.heap.size<w2.heap.size:=by omega
 have F3:=zh (fun (w5:World) (h:Below w2.drew.heap.size w2.drew w5)=>((F1.out w5 h).cell (p:=⟨w.heap.size,1,none⟩) hlt1).trans c1)
 have F4:=zh (fun (w5:World) (h:Below w2.drew.heap.size w2.drew w5)=>((F1.out w5 h).block w.heap.size hlt1).trans hg0)
 clear hs hl
 go_enter Tryz.func156,Tryz.ntmps156
 go_wp2_with fail
 rw [← hw2]
 clear hw2
 go_region_with (first
  | (go_at_call 174;refine (clone64_any sv d.secs _ hs2 R1.out).mono ?_;rintro e w5 ⟨v5,rfl,ho5,hb5⟩;obtain⟨a5,k5,rfl⟩:=ho5.form;have hl5:=F2.out w5 hb5;have hc5:=F3.out w5 hb5;have hg5:=F4.out w5 hb5)
  | (go_at_call 175;refine (cloneW_any lv d.loose _ hl5 R2.out).mono ?_;rintro e w6 ⟨v6,rfl,ho6,hb6⟩;obtain⟨a6,k6,rfl⟩:=ho6.form;have hg6:=(hb6.block w.heap.size (zB hg5)).trans hg5;have hk0:=cR w6 _ 0 _ _ _ hg6;have hk1:=cR w6 _ 1 _ _ _ hg6;have hf0:=zF hg6 0;have hf1:=zF hg6 1))
 all_goals
  clear F1 F2 F3 F4 hc5 hl5 c0 c1 hk0 hk1 hf0 hf1 hs2 h R1 R2
  have hb26:Below w.heap.size w w6:=hb2.trans ((show Below w.heap.size w2 w5 from ⟨hb5.os,hb5.tape,hb5.output,hb5.size,fun k hk=>hb5.block k (Nat.lt_trans hk hlt1)⟩).trans (hb6.mono (by have:=hb5.size;simp only [heap_drew] at this;omega)))
  have hs5:w2.heap.size≤w5.heap.size:=hb5.size
  have hh6:w6.heap[w.heap.size+1]?=some (.cells #[.slice none 0 0,.slice none 0 0,.int .i64 0,.bool false] 38 (0,0)):=(hb6.block (w.heap.size+1) (by omega)).trans ((hb5.block (w.heap.size+1) (by simp only [heap_drew];omega)).trans hg1)
  have hg7:=set0 hg6 (.slice a5 d.secs.length k5) (.slice a6 d.loose.length k6)
  have hh7:=((setFar (w:=w6.setCell ⟨w.heap.size,0,none⟩ (.slice a5 d.secs.length k5)) (g:=w.heap.size) (h:=w.heap.size+1) (by omega) 1 (.slice a6 d.loose.length k6)).trans (setFar (w:=w6) (by omega) 0 (.slice a5 d.secs.length k5))).trans hh6
  have p5:=((ho5.keep hb6 (Nat.le_refl _)).setOther ⟨w.heap.size,0,none⟩ (.slice a5 d.secs.length k5) hlt1).setOther ⟨w.heap.size,1,none⟩ (.slice a6 d.loose.length k6) hlt1
  have p6:=(ho6.setOther ⟨w.heap.size,0,none⟩ (.slice a5 d.secs.length k5) (Nat.lt_of_lt_of_le hlt1 hs5)).setOther ⟨w.heap.size,1,none⟩ (.slice a6 d.loose.length k6) (Nat.lt_of_lt_of_le hlt1 hs5)
  have hb7:=(hb26.setCell (p:=⟨w.heap.size,0,none⟩) (Nat.le_refl _) (.slice a5 d.secs.length k5)).setCell (p:=⟨w.heap.size,1,none⟩) (Nat.le_refl _) (.slice a6 d.loose.length k6)
  obtain⟨w7,hw7⟩:∃ w7,w7=(w6.setCell ⟨w.heap.size,0,none⟩ (.slice a5 d.secs.length k5)).setCell ⟨w.heap.size,1,none⟩ (.slice a6 d.loose.length k6):=⟨_,rfl⟩
  rw [← hw7] at hg7 hh7 p5 p6 hb7 ⊢
  clear hw7 hb6 hb5 hg1 hg0 hb2 hg5 ho6 hg6 hh6 hb26 hlt1
  have hb2z:w.heap.size+2≤w2.heap.size:=by omega
  clear hsz2
  have q5:SecsO (w.heap.size+2) w7 (.slice a5 d.secs.length k5) d.secs:=p5.lower hb2z
  have q6:=p6
  have hC:w.heap.size+2≤w5.heap.size:=Nat.le_trans hb2z hs5
  have r5:=ho5.secs.2
  have c2:=cR w7 _ 2 _ _ _ hg7
  have c3:=cR w7 _ 3 _ _ _ hg7
  have c0:=cR w7 _ 0 _ _ _ hg7
  have c1:=cR w7 _ 1 _ _ _ hg7
  have f0:=zF hg7
  have e0:=cR w7 _ 0 _ _ _ hh7
  have e1:=cR w7 _ 1 _ _ _ hh7
  have e2:=cR w7 _ 2 _ _ _ hh7
  have e3:=cR w7 _ 3 _ _ _ hh7
  have f1:=zF hh7
  have H1:w.heap.size+1<w.heap.size+2:=Nat.lt_succ_self _
  have H2:w.heap.size≤w.heap.size+2:=Nat.le_add_right _ _
  have H3:w.heap.size≤w.heap.size+1:=Nat.le_succ _
  have H4:w.heap.size<w.heap.size+2:=by omega
  have H5:w.heap.size≠w.heap.size+1:=by omega
  have H6:w.heap.size+1<w5.heap.size:=by omega
  have H7:w.heap.size<w5.heap.size:=by omega
  have H8:w.heap.size≤w5.heap.size:=by omega
  clear p5 p6 hs5 hb2z ho5 hC
  by_cases hz:d.fuse=0
  ·have t0:((d.fuse:Int) == 0)=true:=by rw [beq_iff_eq];exact hz
   have u1:downP d=true:=by simp [downP,hz]
   have u2:burnF d=d.fuse:=by simp [burnF,u1]
   have u3:burnE d=9:=by simp [burnE,u1]
   have U:=zh (And.intro u2 (And.intro u1 u3))
   clear u1 u2 u3 hz
   go_wp2_with fail
   refine bodyPost_ret (results_ct rfl _ _ (w.heap.size+1) _ _ _ _ rfl (put4_heap ((setFar H5 3 _).trans hh7) _ _ _ _) Tryz.underlying38 rfl zQ) rfl ?_
   exact⟨⟨_,_,by rw [U.out.1,U.out.2.1,U.out.2.2] <;> rfl,w5.heap.size,H8,(put4_secs (q5.setOther ⟨w.heap.size,3,none⟩ _ H4) H1 _ _ _ _).lower H2,r5.mix (put4_secs (q5.setOther ⟨w.heap.size,3,none⟩ _ H4) H1 _ _ _ _).2.row,put4_loose (q6.setOther ⟨w.heap.size,3,none⟩ _ H7) H6 _ _ _ _⟩,put4_below (hb7.setCell (p:=⟨w.heap.size,3,none⟩) (Nat.le_refl _) _) H3 _ _ _ _⟩
  ·have t0:((d.fuse:Int) == 0)=false:=by rw [beq_eq_false_iff_ne];exact hz
   obtain⟨D,hD⟩:∃ D,D=d.down:=⟨_,rfl⟩
   have c3':=c3
   rw [← hD] at c3' hg7
   clear c3
   cases D with
   | true =>
   have u1:downP d=true:=by simp [downP,← hD]
   have u2:burnF d=d.fuse:=by simp [burnF,u1]
   have u3:burnE d=9:=by simp [burnE,u1]
   have U:=zh (And.intro u2 (And.intro u1 u3))
   clear u1 u2 u3 hz hD
   go_wp2_with fail
   refine bodyPost_ret (results_ct rfl _ _ (w.heap.size+1) _ _ _ _ rfl (put4_heap hh7 _ _ _ _) Tryz.underlying38 rfl zQ) rfl ?_
   exact⟨⟨_,_,by rw [U.out.1,U.out.2.1,U.out.2.2] <;> rfl,w5.heap.size,H8,(put4_secs q5 H1 _ _ _ _).lower H2,r5.mix (put4_secs q5 H1 _ _ _ _).2.row,put4_loose q6 H6 _ _ _ _⟩,put4_below hb7 H3 _ _ _ _⟩
   | false =>
   have u1:downP d=false:=by simp [downP,← hD,hz]
   have u3:burnE d=0:=by simp [burnE,u1]
   by_cases hp:0<d.fuse
   ·have u2:burnF d=d.fuse-1:=by simp [burnF,u1,hp]
    have U:=zh (And.intro u2 (And.intro u1 u3))
    clear u1 u2 u3 hz hD
    have hz:=hp
    go_wp2_with fail
    refine bodyPost_ret (results_ct rfl _ _ (w.heap.size+1) _ _ _ _ rfl (put4_heap ((setFar H5 2 _).trans hh7) _ _ _ _) Tryz.underlying38 rfl zQ) rfl ?_
    exact⟨⟨_,_,by rw [U.out.1,U.out.2.1,U.out.2.2] <;> rfl,w5.heap.size,H8,(put4_secs (q5.setOther ⟨w.heap.size,2,none⟩ _ H4) H1 _ _ _ _).lower H2,r5.mix (put4_secs (q5.setOther ⟨w.heap.size,2,none⟩ _ H4) H1 _ _ _ _).2.row,put4_loose (q6.setOther ⟨w.heap.size,2,none⟩ _ H7) H6 _ _ _ _⟩,put4_below (hb7.setCell (p:=⟨w.heap.size,2,none⟩) (Nat.le_refl _) _) H3 _ _ _ _⟩
   ·have u2:burnF d=d.fuse:=by simp [burnF,u1,hp]
    have U:=zh (And.intro u2 (And.intro u1 u3))
    clear u1 u2 u3 hz hD
    go_wp2_with fail
    refine bodyPost_ret (results_ct rfl _ _ (w.heap.size+1) _ _ _ _ rfl (put4_heap hh7 _ _ _ _) Tryz.underlying38 rfl zQ) rfl ?_
    exact⟨⟨_,_,by rw [U.out.1,U.out.2.1,U.out.2.2] <;> rfl,w5.heap.size,H8,(put4_secs q5 H1 _ _ _ _).lower H2,r5.mix (put4_secs q5 H1 _ _ _ _).2.row,put4_loose q6 H6 _ _ _ _⟩,put4_below hb7 H3 _ _ _ _⟩
end
section
open Go.RowKit
theorem fold_put (off:Nat):∀ (cs:List Value) (n:Nat) (A:Array Value),off+n+cs.length≤A.size →
  ((cs.zipIdx n).foldl (fun (a:Array Value) (x:Value×Nat)=>a.setIfInBounds (off+x.2) x.1) A).toList=A.toList.take (off+n)++cs++A.toList.drop (off+n+cs.length)
 | [],n,A,_=>by simp
 | c :: cs,n,A,h=>by
  rw [List.zipIdx_cons,List.foldl_cons,fold_put off cs (n+1) _ (by simp only [Array.size_setIfInBounds,List.length_cons] at h ⊢;omega)]
  simp only [List.length_cons] at h
  have hlt:off+n<A.toList.length:=by simp;omega
  simp only [Array.toList_setIfInBounds,List.length_cons]
  have e1:off+(n+1)=off+n+1:=by omega
  have e2:off+n+1+cs.length=off+n+(cs.length+1):=by omega
  rw [e1,e2,List.take_add_one,List.take_set_of_le (Nat.le_refl _),List.getElem?_set_self hlt,List.drop_set_of_lt (by omega)]
  simp
theorem fold_put_arr (off:Nat) (C A:Array Value) (h:off+C.size≤A.size) :
  (C.zipIdx.foldl (fun (a:Array Value) (x:Value×Nat)=>a.setIfInBounds (off+x.2) x.1) A)=(A.toList.take off++C.toList++A.toList.drop (off+C.size)).toArray:=by
 have h1:=fold_put off C.toList 0 A (by simpa using h)
 apply Array.ext'
 rw [← Array.foldl_toList,Array.toList_zipIdx]
 simpa using h1
theorem cells_agg (A:Array Value):(Value.agg A).cells=A:=rfl
theorem cells_int (k:IntKind) (n:Int):(Value.int k n).cells=#[.int k n]:=rfl
theorem infoz_u8s:(Tryz.prog.info? 3).map (fun i=>i.size)=some 1:=by kernel_rfl
theorem run_build_write {w:World} (at_:Int) (A:Array Value) (hA:A.size=64) :
  (Instr.build 96 #[(0,.int .i64 at_),(1,.agg A)]).run Tryz.prog w = .ok (.agg (.int .i64 at_ :: A.toList).toArray) w:=by
 obtain⟨i0,z0,hi,hz0,hz1,hz2,hz3⟩:=zero_parts infoz_write
 obtain⟨i1,hi1,hs1⟩:=Option.map_eq_some_iff.1 infoz_u8s
 obtain⟨i2,z2,hi2,_,hs2,_,_⟩:=zero_parts infoz_sector
 have e:(z0.cells.setIfInBounds 0 (Value.int .i64 at_)).size=65:=by simpa using hz3
 have e1:=fold_put_arr 1 A (z0.cells.setIfInBounds 0 (Value.int .i64 at_)) (by rw [e,hA];exact Nat.le_refl _)
 have e2:(List.take 1 (z0.cells.setIfInBounds 0 (Value.int .i64 at_)).toList++A.toList++List.drop (1+A.size) (z0.cells.setIfInBounds 0 (Value.int .i64 at_)).toList) = .int .i64 at_ :: A.toList:=by
  rw [List.drop_eq_nil_of_le (by simp [hz3,hA]),List.append_nil]
  cases hl:z0.cells.toList with
  | nil=>have:=congrArg List.length hl;simp [hz3] at this
  | cons a l=>simp [hl]
 rw [e2] at e1
 have e4:z0.cells≠#[]:=by intro h;rw [h] at hz3;simp at hz3
 simp [Instr.build,zeroValue,typeInfo,hi,hz0,run_underlying Tryz.underlying96,sizeOf,hi1,hi2,hs1,hs2,Instr.fill,cells_agg,cells_int,hA,hz3,e4]
 simpa [hA] using e1
set_option maxRecDepth 100000 in
theorem run_buildSlice_write {w:World} (A:Array Value) (hA:A.size=65) :
  (Instr.buildSlice 36 1 #[(0,.agg A)]).run Tryz.prog w = .ok (.slice (some ⟨w.heap.size,0,none⟩) 1 1) (w.alloc (.cells A 96)):=by
 obtain⟨i0,z0,hi,hz0,hz1,hz2,hz3⟩:=zero_parts infoz_write
 have e1:=fold_put_arr 0 A ((Array.range 65).map (z0.cells[·%z0.cells.size]!)) (by simp [hA])
 have e2:(List.take 0 ((Array.range 65).map (z0.cells[·%z0.cells.size]!)).toList++A.toList++List.drop (0+A.size) ((Array.range 65).map (z0.cells[·%z0.cells.size]!)).toList)=A.toList:=by
  rw [List.drop_eq_nil_of_le (by simp [hA])];simp
 rw [e2] at e1
 simp only [Nat.zero_add] at e1
 simp [Instr.buildSlice,zeroValue,typeInfo,hi,hz0,hz1,run_underlying Tryz.underlying36,sizeOf,Instr.fill,cells_agg,cells_int,hA,hz3,newRow]
 congr 2
 simpa [hA,hz3] using e1
section
variable {P:Program} {ops:Array Oper} {rest:List Oper} {o:Oper} {a:Act} {w:World} {Q:Exit→Act→World→Prop}
theorem wp_load_to (x:Operand) (t:TypeId) (hgd:o.guard=none) (ho:o.op = .load t x) {ad:Addr} {v:Value} {w':World} (hw:w'=w) (hx:a.eval x = .pointer (some ad)) (hl:(loadVar t ad).run P w' = .ok v w')
  (h:wpList P ops Q rest (a.put o.dst v) w'):wpList P ops Q (o :: rest) a w:=by
 subst hw
 exact wp_load_at x t hgd ho hx hl h
theorem wp_build_l (t:TypeId) (L:List (Nat×Operand)) (hgd:o.guard=none) (ho:o.op = .build t L.toArray) {v:Value} {L':List (Nat×Value)} (hL:L.map (fun x=>(x.1,a.eval x.2))=L') (hb:(Instr.build t L'.toArray).run P w = .ok v w)
  (h:wpList P ops Q rest (a.put o.dst v) w):wpList P ops Q (o :: rest) a w:=by
 refine wpList_plain hgd fun K hK=>?_
 subst hL
 unfold Oper.wp execOp
 simp only [ho,Sem.run_bind,Sem.run_pure,Result.andThen_ok,List.map_toArray,hb]
 exact hK _ _ h
theorem wp_buildSlice_l (t:TypeId) (n:Nat) (L:List (Nat×Operand)) (hgd:o.guard=none) (ho:o.op = .buildSlice t n L.toArray) {v:Value} {w':World} {L':List (Nat×Value)} (hL:L.map (fun x=>(x.1,a.eval x.2))=L') (hb:(Instr.buildSlice t n L'.toArray).run P w = .ok v w')
  (h:wpList P ops Q rest (a.put o.dst v) w'):wpList P ops Q (o :: rest) a w:=by
 refine wpList_plain hgd fun K hK=>?_
 subst hL
 unfold Oper.wp execOp
 simp only [ho,Sem.run_bind,Sem.run_pure,Result.andThen_ok,List.map_toArray,hb]
 exact hK _ _ h
/-! The same with the operation written out: so they fail at once,under with_reducible,where another operation stands. -/
variable {dst:Option Tmp} {ty:TypeId} {pos:String} {after:Array Edge}
theorem wp_buildSlice_r (t:TypeId) (n:Nat) (L:List (Nat×Operand)) {v:Value} {w':World} {L':List (Nat×Value)} (hb:(Instr.buildSlice t n L'.toArray).run P w = .ok v w') (hL:L.map (fun x=>(x.1,a.eval x.2))=L')
  (h:wpList P ops Q rest (a.put dst v) w'):wpList P ops Q (⟨dst,.buildSlice t n L.toArray,ty,pos,after,none⟩ :: rest) a w:=wp_buildSlice_l t n L rfl rfl hL hb h
theorem wp_store_r (x y:Operand) (t:TypeId) {ad:Addr} {v:Value} {w':World} (hl:(storeVar t ad v).run P w = .ok () w') (hx:a.eval x = .pointer (some ad)) (hy:a.eval y=v)
  (h:wpList P ops Q rest (a.put dst undef) w'):wpList P ops Q (⟨dst,.store t x y,ty,pos,after,none⟩ :: rest) a w:=wp_store_at x y t rfl rfl hx hy hl h
end
end
end Go.Proofs.YtaijompnohkmaaaGreatDoor
