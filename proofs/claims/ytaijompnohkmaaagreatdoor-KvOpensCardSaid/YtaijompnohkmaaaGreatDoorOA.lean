/- General words for the walks: a slice that reads as a row of cells, in whatever program. -/
import Derived.WalkKit
import Derived.ProofKit
import Derived.Deep.Draws
import Derived.OpenShut
import Derived.WalkSpells
import Derived.Test.YtaijompnohkmaaaGreatDoorProg
import Derived.KernelRfl
import Derived.Lib.Hide
import Derived.WalkLawsBesides
import Derived.Laws.BytesArg
set_option linter.unusedSimpArgs false
set_option linter.unusedVariables false
namespace Go.Proofs.YtaijompnohkmaaaGreatDoor
theorem zq1 {α : Type _} (l : List α) (i : Nat) (a : α) : l.toArray.setIfInBounds i a = (l.set i a).toArray := List.setIfInBounds_toArray l i a
theorem zq2 {α : Type _} (x a : α) (xs : List α) : (x :: xs).set 0 a = a :: xs := rfl
theorem zq3 {α : Type _} (x a : α) (xs : List α) (n : Nat) : (x :: xs).set (n + 1) a = x :: xs.set n a := rfl
theorem zh {p : Prop} (h : p) : RowKit.Hid p := h
theorem cR (w : World) (g j : Nat) (cs : Array Value) (t : TypeId) (fr : Nat × Nat) (hg : w.heap[g]? = some (.cells cs t fr)) : w.cell? ⟨g, j, none⟩ = cs[j]? := cell_of_row w g j cs t fr hg
section
open Go.RowKit
def Row (B:Nat) (w:World) (v:Value) (sz n:Nat) (cs:List Value):Prop :=
 cs.length=n*sz∧∃ a cap,v = .slice a n cap∧n≤cap∧cap≤maxLen∧(0<n→∃ b off,a=some ⟨b,off,none⟩∧b<B∧∀ k u,cs[k]?=some u→w.cell? ⟨b,off+k,none⟩=some u)
theorem Row.below {B:Nat} {w w':World} {v:Value} {sz n:Nat} {cs:List Value} (h:Row B w v sz n cs) (hb:Below B w w'):Row B w' v sz n cs:=by
 obtain⟨h1,a,cap,rfl,h2,h3,h4⟩:=h
 refine⟨h1,a,cap,rfl,h2,h3,fun hn=>?_⟩
 obtain⟨b,off,rfl,h5,h6⟩:=h4 hn
 exact⟨b,off,rfl,h5,fun k u hk=>(hb.cell (p:=⟨b,off+k,none⟩) h5).trans (h6 k u hk)⟩
theorem Row.mono {B B':Nat} {w:World} {v:Value} {sz n:Nat} {cs:List Value} (h:Row B w v sz n cs) (hB:B≤B'):Row B' w v sz n cs:=by
 obtain⟨h1,a,cap,rfl,h2,h3,h4⟩:=h
 refine⟨h1,a,cap,rfl,h2,h3,fun hn=>?_⟩
 obtain⟨b,off,rfl,h5,h6⟩:=h4 hn
 exact⟨b,off,rfl,by omega,h6⟩
theorem Row.tight {B:Nat} {w:World} {v:Value} {sz n:Nat} {cs:List Value} (h:Row B w v sz n cs) (hsz:0<sz):Row w.heap.size w v sz n cs:=by
 obtain⟨h1,a,cap,rfl,h2,h3,h4⟩:=h
 refine⟨h1,a,cap,rfl,h2,h3,fun hn=>?_⟩
 obtain⟨b,off,rfl,h5,h6⟩:=h4 hn
 have hl:0<cs.length:=by rw [h1];exact Nat.mul_pos hn hsz
 exact⟨b,off,rfl,World.block_lt_of_cell? w _ (h6 0 _ (List.getElem?_eq_getElem hl)),h6⟩
theorem Row.nil (B:Nat) (w:World) (sz:Nat):Row B w (.slice none 0 0) sz 0 [] :=
 ⟨by simp,none,0,rfl,Nat.le_refl _,by simp [maxLen],fun h=>absurd h (Nat.lt_irrefl _)⟩
theorem Row.fresh {w:World} {C:Array Value} {e:TypeId} {fz:Nat×Nat} {sz n cap:Nat} {cs:List Value} (hl:cs.length=n*sz) (hnc:n≤cap) (hcap:cap≤maxLen)
  (hC:∀ (k:Nat) (u:Value),cs[k]?=some u→C[k]?=some u):Row (w.heap.size+1) (w.alloc (.cells C e fz)) (.slice (some ⟨w.heap.size,0,none⟩) n cap) sz n cs:=by
 refine⟨hl,_,cap,rfl,hnc,hcap,fun _=>⟨_,0,rfl,Nat.lt_succ_self _,fun k u hk=>?_⟩⟩
 have hnew:(w.alloc (.cells C e fz)).heap[w.heap.size]?=some (.cells C e fz):=by
  show (w.heap.push (.cells C e fz))[w.heap.size]?=_
  simp
 unfold World.cell?
 simp only [hnew,Nat.zero_add]
 exact hC k u hk
def u8 (b:UInt8):Value:=.int .u8 b.toNat
def u8s (bs:List UInt8):List Value:=bs.map u8
theorem u8s_at {bs:List UInt8} {k:Nat} (h:k<bs.length):(u8s bs)[k]?=some (.int .u8 (bs[k].toNat:Int)):=by
 simp [u8s,h,u8]
def Bytes (B:Nat) (w:World) (v:Value) (bs:List UInt8):Prop:=Row B w v 1 bs.length (u8s bs)
theorem Bytes.tight {B:Nat} {w:World} {v:Value} {bs:List UInt8} (h:Bytes B w v bs):Bytes w.heap.size w v bs:=Row.tight h (by decide)
theorem Bytes.below {B:Nat} {w w':World} {v:Value} {bs:List UInt8} (h:Bytes B w v bs) (hb:Below B w w'):Bytes B w' v bs:=Row.below h hb
def Pieces (B:Nat) (w:World) (v:Value) (ls:List (List UInt8)):Prop :=
 ∃ vs:List Value,Row B w v 1 ls.length vs∧∀ (k:Nat) (h:k<ls.length),∃ u,vs[k]?=some u∧Bytes B w u ls[k]
theorem Pieces.below {B:Nat} {w w':World} {v:Value} {ls:List (List UInt8)} (h:Pieces B w v ls) (hb:Below B w w'):Pieces B w' v ls:=by
 obtain⟨vs,h1,h2⟩:=h
 exact⟨vs,h1.below hb,fun k hk=>let ⟨u,h3,h4⟩:=h2 k hk;⟨u,h3,h4.below hb⟩⟩
theorem zD {B:Nat} {a w:World} (h:Below B a w) (n:Nat):Below B a (w.drewN n):=⟨h.os,h.tape,h.output,h.size,h.block⟩
theorem ret_int {k:IntKind} {a b:Int} (h:a=b):Ending.returned (.int k a) = .returned (.int k b):=by rw [h]
end
section
open Go.RowKit
def Own (B:Nat) (w:World) (e:TypeId) (v:Value) (sz n:Nat) (cs:List Value):Prop :=
 cs.length=n*sz∧∃ a cap,v = .slice a n cap∧n≤cap∧cap≤maxLen ∧
  (cap=0∨∃ g cur,a=some ⟨g,0,none⟩∧B≤g∧w.heap[g]?=some (.cells cur e (0,0))∧cur.size=cap*sz∧cur.toList.take (n*sz)=cs)
theorem zB {w:World} {g:Nat} {o:Obj} (h:w.heap[g]?=some o):g<w.heap.size:=(Array.getElem?_eq_some_iff.1 h).1
theorem Own.row {B:Nat} {w:World} {e:TypeId} {v:Value} {sz n:Nat} {cs:List Value} (h:Own B w e v sz n cs):Row w.heap.size w v sz n cs:=by
 obtain⟨h1,a,cap,rfl,h2,h3,h4⟩:=h
 refine⟨h1,a,cap,rfl,h2,h3,fun hn=>?_⟩
 rcases h4 with h4 | ⟨g,cur,rfl,hg,hh,hs,ht⟩
 ·omega
 ·refine⟨g,0,rfl,zB hh,fun k u hk=>?_⟩
  rw [Nat.zero_add,cR w g k cur e (0,0) hh]
  rw [← ht,List.getElem?_take] at hk
  split at hk
  ·simpa using hk
  ·cases hk
theorem Own.below {B B':Nat} {w w':World} {e:TypeId} {v:Value} {sz n:Nat} {cs:List Value} (h:Own B w e v sz n cs) (hb:Below B' w w') (hB:w.heap.size≤B'):Own B w' e v sz n cs:=by
 obtain⟨h1,a,cap,rfl,h2,h3,h4⟩:=h
 refine⟨h1,a,cap,rfl,h2,h3,?_⟩
 rcases h4 with h4 | ⟨g,cur,rfl,hg,hh,hs,ht⟩
 ·exact .inl h4
 ·exact .inr ⟨g,cur,rfl,hg,(hb.block g (Nat.lt_of_lt_of_le (zB hh) hB)).trans hh,hs,ht⟩
theorem Own.lower {B B':Nat} {w:World} {e:TypeId} {v:Value} {sz n:Nat} {cs:List Value} (h:Own B w e v sz n cs) (hB:B'≤B):Own B' w e v sz n cs:=by
 obtain⟨h1,a,cap,rfl,h2,h3,h4⟩:=h
 refine⟨h1,a,cap,rfl,h2,h3,?_⟩
 rcases h4 with h4 | ⟨g,cur,rfl,hg,r⟩
 ·exact .inl h4
 ·exact .inr ⟨g,cur,rfl,by omega,r⟩
theorem Own.none (B:Nat) (w:World) (e:TypeId) (a:Option Addr) (sz:Nat):Own B w e (.slice a 0 0) sz 0 [] :=
 ⟨by simp,a,0,rfl,Nat.le_refl _,by simp [maxLen],.inl rfl⟩
theorem Own.form {B:Nat} {w:World} {e:TypeId} {a:Option Addr} {cap sz n:Nat} {cs:List Value} (h:Own B w e (.slice a n cap) sz n cs) (hn:0<n) :
  ∃ g,a=some ⟨g,0,Option.none⟩∧B≤g∧g<w.heap.size∧(∀ k u,cs[k]?=some u→w.cell? ⟨g,k,Option.none⟩=some u)∧(∀ k,w.frozen? ⟨g,k,Option.none⟩=false) ∧
   ∀ k u,k<n*sz→Own B (w.setCell ⟨g,k,Option.none⟩ u) e (.slice a n cap) sz n (cs.set k u):=by
 obtain⟨h1,a',cap',hv,h2,h3,h4⟩:=h
 obtain⟨rfl,rfl⟩:a=a'∧cap=cap':=by cases hv;exact⟨rfl,rfl⟩
 rcases h4 with h4 | ⟨g,cur,rfl,hg,hh,hs,ht⟩
 ·omega
 ·refine⟨g,rfl,hg,zB hh,fun k u hk=>?_,fun k=>by simp [World.frozen?,hh],fun k u hk=>?_⟩
  ·rw [cR w g k cur e (0,0) hh]
   rw [← ht,List.getElem?_take] at hk
   split at hk
   ·simpa using hk
   ·cases hk
  ·have hks:k<cur.size:=Nat.lt_of_lt_of_le hk (by rw [hs];exact Nat.mul_le_mul_right _ h2)
   refine⟨by simpa using h1,_,cap,rfl,h2,h3,.inr ⟨g,cur.setIfInBounds k u,rfl,hg,?_,by simpa using hs,?_⟩⟩
   ·simp [World.setCell,Array.getElem?_modify,hh]
   ·rw [Array.toList_setIfInBounds,← ht,List.take_set]
def Src (P:Program) (w:World) (x:Value) (sz m:Nat) (news:List Value):Prop :=
 news.length=m*sz∧(Builtin.lenOf x).run P w = .ok m w∧∀ w':World,(∀ p,w'.cell? p=w.cell? p)→(Builtin.firstCells sz m x).run P w' = .ok news.toArray w'
theorem Row.src {P:Program} {B:Nat} {w:World} {x:Value} {sz m:Nat} {news:List Value} (h:Row B w x sz m news):Src P w x sz m news:=by
 obtain⟨h1,a,cap,rfl,h2,h3,h4⟩:=h
 refine⟨h1,by simp [Builtin.lenOf],fun w' hw'=>?_⟩
 by_cases hm:0<m
 ·obtain⟨b,off,rfl,_,hc⟩:=h4 hm
  refine run_firstCells_some w' sz m _ m cap news h1 (fun j u hu=>?_)
  have:(⟨b,off,Option.none⟩:Addr).add j=⟨b,off+j,Option.none⟩:=by unfold Addr.add;split <;> simp_all
  rw [this,hw']
  exact hc j u hu
 ·obtain rfl:m=0:=by omega
  have hn:news=[]:=List.eq_nil_of_length_eq_zero (by simpa using h1)
  subst hn
  cases a with
  | none=>exact run_firstCells_none w' sz 0 0 cap
  | some a=>exact run_firstCells_some w' sz 0 a 0 cap [] (by simp) (fun j u hu=>by simp at hu)
theorem src_string {P:Program} {w:World} (s:ByteArray):Src P w (.string s) 1 s.size (u8s s.data.toList):=by
 have hsz:s.data.toList.length=s.size:=Array.length_toList
 refine⟨by rw [u8s,List.length_map,hsz,Nat.mul_one],rfl,fun w' _=>?_⟩
 have hx:(s.extract 0 s.size).data=s.data:=by
  rw [ByteArray.data_extract]
  exact Array.extract_size
 simp only [Builtin.firstCells]
 rw [hx]
 have e:Array.map (fun b:UInt8=>Value.int IntKind.u8 (b.toNat:Int)) s.data=(u8s s.data.toList).toArray:=by
  apply Array.ext'
  rw [Array.toList_map]
  rfl
 rw [e]
 rfl
theorem oneCell_u8s (bs:List UInt8):∀ u∈u8s bs,u.oneCell'=true:=by
 intro u hu
 obtain⟨b,_,rfl⟩:=List.mem_map.1 hu
 rfl
theorem run_append {P:Program} {B:Nat} {w:World} {v x:Value} {sz n m bytes:Nat} {cs news:List Value} (t xt ty e:TypeId) (i:TypeInfo) (z:Value)
  (ht:P.underlying t=some (.slice e)) (hxt:(∃ e',P.underlying xt=some (.slice e'))∨P.underlying xt=some .string) (hi:P.info? e=some i) (hz:i.zero=some z) (hsz:i.size=sz) (hby:i.bytes=bytes) (hzs:z.cells.size=sz)
  (hown:Own B w e v sz n cs) (hsrc:Src P w x sz m news) (h1:∀ u∈news,u.oneCell'=true) (h63:n+m≤maxLen) (hroom:(n+m)*bytes≤140737488355328) (hB:B≤w.heap.size) :
  ∃ v' w',(Builtin.append_ #[t,xt] ty #[v,x]).run P w = .ok v' w'∧Own B w' e v' sz (n+m) (cs++news)∧Below B w w':=by
 subst hsz
 subst hby
 obtain⟨hl,a,cap,rfl,hnc,hcap,halt⟩:=hown
 obtain⟨hnl,hlen,hfirst⟩:=hsrc
 have hf0:=hfirst w (fun _=>rfl)
 have hf1:=hfirst w.drew (fun p=>by simp)
 have hll:(cs++news).length=(n+m)*i.size:=by rw [List.length_append,hl,hnl,Nat.add_mul]
 by_cases hfit:n+m≤cap
 ·rcases halt with h0 | ⟨g,cur,rfl,hg,hh,hs,htake⟩
  ·subst h0
   obtain⟨rfl,rfl⟩:n=0∧m=0:=by omega
   have e1:cs=[]:=List.eq_nil_of_length_eq_zero (by simpa using hl)
   have e2:news=[]:=List.eq_nil_of_length_eq_zero (by simpa using hnl)
   subst e1;subst e2
   refine⟨.slice a 0 0,w,?_,Own.none _ _ _ _ _,Below.refl _ _⟩
   rcases hxt with ⟨e',hxt⟩ | hxt <;> cases a <;> simp [Builtin.append_,run_underlying ht,run_underlying hxt,sizeOf,typeInfo,hi,hlen,hf0,storeCells]
  ·have hst:=run_storeCells_at P g (n*i.size) e news 0 cur w hh (by rw [hs,hnl,Nat.add_zero,← Nat.add_mul];exact Nat.mul_le_mul_right _ hfit) h1
   simp only [Nat.add_zero] at hst
   refine⟨.slice (some ⟨g,0,Option.none⟩) (n+m) cap,w.setRow g (cur.toList.take (n*i.size)++news++cur.toList.drop (n*i.size+news.length)).toArray,?_,⟨hll,_,cap,rfl,hfit,hcap,.inr ⟨g,_,rfl,hg,setRow_heap w g cur _ e _ hh,?_,?_⟩⟩,?_⟩
   ·rcases hxt with ⟨e',hxt⟩ | hxt <;> simp [Builtin.append_,run_underlying ht,run_underlying hxt,sizeOf,typeInfo,hi,hlen,hf0,hfit,Addr.add_lit,hst]
   ·have:n*i.size+news.length≤cap*i.size:=by rw [hnl,← Nat.add_mul];exact Nat.mul_le_mul_right _ hfit
    simp only [List.size_toArray,List.length_append,List.length_take,List.length_drop,Array.length_toList]
    omega
   ·rw [htake,← hll]
    exact List.take_left
   ·exact⟨rfl,rfl,rfl,by simp [World.setRow],fun k hk=>setRow_other w g k _ (by omega)⟩
 ·have hfo:(Builtin.firstCells i.size n (.slice a n cap)).run P w.drew = .ok cs.toArray w.drew:=by
   have hr:Row w.heap.size w (.slice a n cap) i.size n cs:=Own.row ⟨hl,a,cap,rfl,hnc,hcap,halt⟩
   exact hr.src.2.2 w.drew (fun p=>by simp)
  have h63':¬ (9223372036854775807<((n:Int)+(m:Int))):=by unfold maxLen at h63;omega
  have h48':¬ (281474976710656<Builtin.nextslicecap (n+m) cap*i.bytes):=Nat.not_lt.2 (growslice_fits (by omega) hroom)
  have hge:=grownCap_ge w (n+m) cap e
  have hcm:=grownCap_le_maxLen w (n+m) cap e h63
  refine⟨.slice (some ⟨w.heap.size,0,Option.none⟩) (n+m) (grownCap w (n+m) cap e),w.drew.alloc (.cells (cs.toArray++news.toArray++Builtin.zeroCells z.cells (grownCap w (n+m) cap e-(n+m))) e),?_,
   ⟨hll,_,_,rfl,hge,hcm,.inr ⟨w.heap.size,_,rfl,hB,heap_alloc_new w.drew _,?_,?_⟩⟩,?_⟩
  ·rcases hxt with ⟨e',hxt⟩ | hxt <;> (simp [Builtin.append_,run_underlying ht,run_underlying hxt,sizeOf,typeInfo,zeroValue,hi,hz,hlen,hfit,h63',h48',Question.forced,hf1,hfo,newRow,grownCap];(congr 2;apply Array.ext';simp [List.append_assoc]))
  ·simp only [Array.size_append,List.size_toArray,size_zeroCells,hzs,hl,hnl,← Nat.add_mul]
   congr 1
   omega
  ·simp only [Array.toList_append,List.append_assoc]
   rw [← List.append_assoc,← hll]
   exact List.take_left
  ·exact⟨rfl,rfl,rfl,by simp,fun k hk=>Below.heap_alloc w.drew _ k (Nat.lt_of_lt_of_le hk hB)⟩
theorem wp_append {P:Program} {ops:Array Oper} {rest:List Oper} {o:Oper} {a:Act} {w:World} {Q:Exit→Act→World→Prop} (hgd:o.guard=Option.none) (s y:Operand) (t xt e:TypeId)
  (ho:o.op = .call { callee:=.builtin .append,args:=#[s,y],argTypes:=#[t,xt] }) (i:TypeInfo) (z:Value) (sz bytes:Nat)
  (ht:P.underlying t=some (.slice e)) (hxt:(∃ e',P.underlying xt=some (.slice e'))∨P.underlying xt=some .string) (hi:P.info? e=some i) (hz:i.zero=some z) (hsz:i.size=sz) (hby:i.bytes=bytes) (hzs:z.cells.size=sz)
  {B:Nat} {v x:Value} {n m:Nat} {cs news:List Value} (hs:a.eval s=v) (hx:a.eval y=x)
  (hown:Own B w e v sz n cs) (hsrc:Src P w x sz m news) (h1:∀ u∈news,u.oneCell'=true) (h63:n+m≤maxLen) (hroom:(n+m)*bytes≤140737488355328) (hB:B≤w.heap.size)
  (h:∀ v' w',Own B w' e v' sz (n+m) (cs++news)→Below B w w'→wpList P ops Q rest (a.put o.dst v') w'):wpList P ops Q (o :: rest) a w:=by
 refine wpList_plain hgd fun K hK=>?_
 obtain⟨v',w',hr,h2,h3⟩:=run_append (P:=P) t xt o.type e i z ht hxt hi hz hsz hby hzs hown hsrc h1 h63 hroom hB
 subst hs
 subst hx
 unfold Oper.wp execOp
 simp only [ho,resolve,invoke,builtin,Sem.run_bind,Sem.run_pure,Result.andThen_ok,List.map_toArray,List.map_cons,List.map_nil,hr]
 exact hK _ _ (h v' w' h2 h3)
end
section
namespace PackP
def be:Nat→Nat→List UInt8
 | 0,_=>[]
 | k+1,n=>UInt8.ofNat (n / 2^(8*k)) :: be k n
theorem length_be (k n:Nat):(be k n).length=k:=by
 induction k with
 | zero=>rfl
 | succ k ih=>simp [be,ih]
theorem be_low (k:Nat):∀ n,be (k+1) n=be k (n / 256)++[UInt8.ofNat n]:=by
 induction k with
 | zero=>intro n;simp [be]
 | succ k ih =>
  intro n
  have h:be (k+1+1) n=UInt8.ofNat (n / 2^(8*(k+1))) :: be (k+1) n:=rfl
  rw [h,ih n]
  have h2:be (k+1) (n / 256)=UInt8.ofNat (n / 256 / 2^(8*k)) :: be k (n / 256):=rfl
  rw [h2,List.cons_append]
  congr 2
  rw [Nat.div_div_eq_div_mul,Nat.mul_add,Nat.pow_add,Nat.mul_comm]
def numOf (bs:List UInt8):Nat:=bs.foldl (fun n c=>n*256+c.toNat) 0
theorem numOf_snoc (bs:List UInt8) (c:UInt8):numOf (bs++[c])=numOf bs*256+c.toNat:=by
 unfold numOf;rw [List.foldl_append];rfl
theorem numOf_be (k:Nat):∀ n,n<256^k→numOf (be k n)=n:=by
 induction k with
 | zero=>intro n h;simp at h;subst h;rfl
 | succ k ih =>
  intro n h
  rw [be_low,numOf_snoc,ih (n / 256) (by rw [Nat.pow_succ] at h;omega),UInt8.toNat_ofNat']
  omega
theorem fold_lt (bs:List UInt8):∀ a:Nat,bs.foldl (fun n c=>n*256+c.toNat) a<(a+1)*256^bs.length:=by
 induction bs with
 | nil=>intro a;simp
 | cons c bs ih =>
  intro a
  have hc:=c.toNat_lt
  have h:=ih (a*256+c.toNat)
  rw [List.foldl_cons,List.length_cons,Nat.pow_succ,Nat.mul_comm (256^bs.length) 256,← Nat.mul_assoc]
  exact Nat.lt_of_lt_of_le h (Nat.mul_le_mul_right _ (by omega))
theorem numOf_lt (bs:List UInt8):numOf bs<256^bs.length:=by
 have:=fold_lt bs 0
 simpa [numOf] using this
def clamp (n:Int):Nat:=if n≤0 then 0 else if 4611686018427387904≤n then 4611686018427387904 else n.toNat
theorem clamp_le (n:Int):clamp n≤4611686018427387904:=by unfold clamp;split <;> (try split) <;> omega
def numB (n:Int):List UInt8:=be 8 (clamp n)
def cutT (s:List UInt8):List UInt8:=s.take 4096
def textB (s:List UInt8):List UInt8:=be 4 (cutT s).length++cutT s
theorem cutT_len (s:List UInt8):(cutT s).length≤4096:=List.length_take_le _ _
structure RS where
 b:List UInt8
 e:Int
def RS.fail (r:RS) (bad:Bool) (x:Int):RS:=if bad=true∧r.e=0 then { r with e:=x } else r
def RS.take (r:RS) (n:Nat):RS×Option (List UInt8) :=
 if r.e=0 then (if r.b.length<n then ({ r with e:=2 },none) else ({ r with b:=r.b.drop n },some (r.b.take n))) else (r,none)
def RS.num (r:RS):RS×Int :=
 match r.take 8 with
 | (r,none)=>(r,0)
 | (r,some b)=>if 4611686018427387904<numOf b then ({ r with e:=3 },0) else (r,(numOf b:Int))
def RS.text (r:RS):RS×List UInt8 :=
 match r.take 4 with
 | (r,none)=>(r,[])
 | (r,some b)=>if 4096<numOf b then ({ r with e:=4 },[]) else match r.take (numOf b) with
  | (r,none)=>(r,[])
  | (r,some s)=>(r,s)
def RS.count (r:RS) (most:Int):RS×Int :=
 let (r,n):=r.num
 if r.e=0 then (if most<n then ({ r with e:=4 },0) else (r,n)) else (r,0)
def RS.doneE (r:RS):Int:=if r.e=0∧0<r.b.length then 3 else r.e
end PackP
end
section
section
variable {P:Program}
theorem eql_slice_nil {t e:TypeId} (h:P.underlying t=some (.slice e)) (w:World) (a:Option Addr) (n c n' c':Nat) :
  (binOp .eql t (.slice a n c) (.slice none n' c')).run P w = .ok (.bool a.isNone) w:=by
 simp only [binOp]
 simp [Op.equal,Op.maxDepth,Lib.run_equalIn_slice_nil w 9999 t e a n c n' c' h]
theorem eqIn_ptr_nil {t e:TypeId} (h:P.underlying t=some (.pointer e)) (w:World) (d:Nat) (a:Option Addr) :
  (Op.equalIn (d+1) t (.pointer a) (.pointer none)).run P w = .ok a.isNone w:=by
 cases a <;> simp [Op.equalIn,run_underlying h]
theorem eql_ptr_nil {t e:TypeId} (h:P.underlying t=some (.pointer e)) (w:World) (a:Option Addr) :
  (binOp .eql t (.pointer a) (.pointer none)).run P w = .ok (.bool a.isNone) w:=by
 have k:=eqIn_ptr_nil h w 9999 a
 cases a <;> (simp only [binOp];simp [Op.equal,Op.maxDepth,k])
theorem neq_ptr_nil {t e:TypeId} (h:P.underlying t=some (.pointer e)) (w:World) (a:Option Addr) :
  (binOp .neq t (.pointer a) (.pointer none)).run P w = .ok (.bool (!a.isNone)) w:=by
 have k:=eqIn_ptr_nil h w 9999 a
 cases a <;> (simp only [binOp];simp [Op.equal,Op.maxDepth,k])
end
end
section
open Go.RowKit PackP
theorem info_u8:(Tryz.prog.info? 5).map (fun i=>(i.zero,i.size,i.bytes))=some (some (.int .u8 0),1,1):=by kernel_rfl
theorem u8s_append (a b:List UInt8):u8s (a++b)=u8s a++u8s b:=List.map_append
def OwnB (B:Nat) (w:World) (v:Value) (bs:List UInt8):Prop:=Own B w 5 v 1 bs.length (u8s bs)
theorem OwnB.bytes {B:Nat} {w:World} {v:Value} {bs:List UInt8} (h:OwnB B w v bs):Bytes w.heap.size w v bs:=h.row
theorem Bytes.src {P:Program} {B:Nat} {w:World} {v:Value} {bs:List UInt8} (h:Bytes B w v bs):Src P w v 1 bs.length (u8s bs):=Row.src h
theorem ap_u8 {ops:Array Oper} {rest:List Oper} {o:Oper} {a:Act} {w:World} {Q:Exit→Act→World→Prop} (hgd:o.guard=none) (s y:Operand) (xt:TypeId)
  (ho:o.op = .call { callee:=.builtin .append,args:=#[s,y],argTypes:=#[23,xt] })
  (hxt:(∃ e',Tryz.prog.underlying xt=some (.slice e'))∨Tryz.prog.underlying xt=some .string)
  {B:Nat} {v x:Value} {bs ys:List UInt8} (hs:a.eval s=v) (hx:a.eval y=x)
  (hown:OwnB B w v bs) (hsrc:Src Tryz.prog w x 1 ys.length (u8s ys)) (hl:bs.length+ys.length≤2^46) (hB:B≤w.heap.size)
  (h:∀ v' w',OwnB B w' v' (bs++ys)→Below B w w'→wpList Tryz.prog ops Q rest (a.put o.dst v') w'):wpList Tryz.prog ops Q (o :: rest) a w:=by
 obtain⟨i0,hi,hz0,hz1,hz2⟩:=info_parts info_u8
 refine wp_append hgd s y 23 xt 5 ho i0 (.int .u8 0) 1 1 Tryz.underlying23 hxt hi hz0 hz1 hz2 rfl hs hx hown hsrc (oneCell_u8s _) (by unfold maxLen;omega) (by omega) hB ?_
 intro v' w' h1 h2
 refine h v' w' ?_ h2
 unfold OwnB
 rw [List.length_append,u8s_append]
 exact h1
set_option maxRecDepth 100000 in
set_option maxHeartbeats 400000 in
theorem clone_any (v:Value) (bs:List UInt8) (w:World) (B:Nat) (hr:Bytes B w v bs) (hlen:bs.length≤2^46) :
  Calls Tryz.prog 125 #[v] w fun e w'=>∃ v',e = .returned v'∧OwnB w.heap.size w' v' bs∧Below w.heap.size w w':=by
 replace hr:=hr.tight
 have hR:=hr
 obtain⟨h1,a,cap,rfl,hnc,hcap,hcells⟩:=hr
 have kn:=fun (w:World) (a:Option Addr) (n c n' c':Nat)=>eql_slice_nil Tryz.underlying23 w a n c n' c'
 cases a with
 | none =>
  have hn:bs=[]:=by
   cases bs with
   | nil=>rfl
   | cons b bs=>obtain⟨b,off,h,_⟩:=hcells (by simp);cases h
  subst hn
  go_enter Tryz.func125,Tryz.ntmps125
  go_wp2
  go_ret
  exact⟨_,rfl,Own.none _ _ _ _ _,Below.refl _ _⟩
 | some ad =>
  have hlen':([]:List UInt8).length+bs.length≤2^46:=by simpa using hlen
  have ho:OwnB w.heap.size (w.alloc (.cells #[] 5)) (.slice (some ⟨w.heap.size,0,none⟩) 0 0) []:=Own.none _ _ _ _ _
  have hb:Below w.heap.size w (w.alloc (.cells #[] 5)):=Below.alloc (Below.refl _ _) (Nat.le_refl _) _
  have hs:=Bytes.src (P:=Tryz.prog) (hR.below hb)
  have hB:w.heap.size≤(w.alloc (.cells #[] 5)).heap.size:=hb.size
  clear hR h1 hcells hcap
  go_enter Tryz.func125,Tryz.ntmps125
  go_wp2_with (at_builtin;refine ap_u8 rfl (.tmp 5) (.tmp 6) 23 rfl (.inl ⟨_,Tryz.underlying23⟩) rfl rfl ho hs hlen' hB ?_;intro v2 w2 hown2 hb2)
  go_ret
  exact⟨_,rfl,hown2,hb.trans hb2⟩
theorem byte_of (x j:Nat):(x:Int) / 2^(8*j)%256=((UInt8.ofNat (x / 2^(8*j))).toNat:Int):=by
 rw [UInt8.toNat_ofNat']
 have h:((2:Int)^(8*j))=((2^(8*j):Nat):Int):=by simp
 rw [h]
 omega
theorem fresh_u8 (w:World) (c:UInt8):Bytes (w.heap.size+1) (w.alloc (.cells #[.int .u8 (c.toNat:Int)] 5)) (.slice (some ⟨w.heap.size,0,none⟩) 1 1) [c] :=
 Row.fresh (sz:=1) (by simp [u8s]) (Nat.le_refl _) (by decide) (fun k u hk=>by simpa [u8s,u8] using hk)
theorem OwnB.alloc {B:Nat} {w:World} {v:Value} {bs:List UInt8} (h:OwnB B w v bs) (o:Obj):OwnB B (w.alloc o) v bs :=
 Own.below h (Below.alloc (Below.refl w.heap.size w) (Nat.le_refl _) o) (Nat.le_refl _)
theorem OwnB.keep {B B':Nat} {w w':World} {v:Value} {bs:List UInt8} (h:OwnB B w v bs) (hb:Below B' w w') (hB:w.heap.size≤B'):OwnB B w' v bs:=Own.below h hb hB
set_option maxRecDepth 100000 in
set_option maxHeartbeats 400000 in
theorem wide_any (B:Nat) (v:Value) (bs:List UInt8) (x k:Nat) (w:World) (hown:OwnB B w v bs) (hB:B≤w.heap.size) (hlen:bs.length+8≤2^46) (hx:x<2^64) (hk:k≤8) :
  Calls Tryz.prog 126 #[v,.int .u64 x,.int .i64 k] w fun e w'=>∃ v',e = .returned v'∧OwnB B w' v' (bs++be k x)∧Below B w w':=by
 go_enter Tryz.func126,Tryz.ntmps126
 go_wp2
 go_loopw [0,7] (fun s i wr=>∃ (r:Nat) (ys:List UInt8),r≤k∧i = .int .i64 ((r:Int)-1)∧be k x=ys++be r x∧OwnB B wr s (bs++ys)∧Below B w wr) (fun _ i _=>(intOf i+1).toNat)
 case atStart=>exact⟨k,[],Nat.le_refl _,rfl,rfl,by simpa using hown,Below.refl _ _⟩
 case round =>
  obtain⟨r,ys,hr,rfl,he,ho,hb⟩:=hrel
  have HE:=zh he
  clear he
  by_cases hr0:r=0
  ·subst hr0
   go_wp2
   go_ret
   refine⟨_,rfl,?_,hb⟩
   rw [HE.out]
   simpa [be] using ho
  ·obtain⟨j,rfl⟩:∃ j,r=j+1:=⟨r-1,by omega⟩
   have hl:(bs++ys).length+1≤2^46:=by
    have h1:=congrArg List.length HE.out
    rw [List.length_append,length_be,length_be] at h1
    rw [List.length_append];omega
   have HL:=zh hl
   clear hl
   obtain⟨C,hC⟩:∃ C,C=UInt8.ofNat (x / 2^(8*j)):=⟨_,rfl⟩
   have hb8:=byte_of x j
   rw [← hC] at hb8
   have HC:=zh hC
   clear hC
   have ho1:=ho.alloc (.cells #[.int .u8 (C.toNat:Int)] 5)
   have hs1:=Bytes.src (P:=Tryz.prog) (fresh_u8 wr C)
   have hb1:=hb.alloc (Nat.le_trans hB hb.size) (.cells #[.int .u8 (C.toNat:Int)] 5)
   go_wp2_with (at_builtin;refine ap_u8 rfl (.tmp 14) (.tmp 20) 23 rfl (.inl ⟨_,Tryz.underlying23⟩) rfl rfl ho1 hs1 HL.out (Nat.le_trans hB hb1.size) ?_;intro v2 w2 hown2 hb2)
   all_goals
    go_roundw
    case rel=>exact⟨j,ys++[C],by omega,rfl,by rw [HE.out,HC.out];simp [be],by rw [← List.append_assoc];exact hown2,hb1.trans hb2⟩
    case measure=>simp [intOf] <;> omega
theorem wide_num (B:Nat) (v:Value) (bs:List UInt8) (z z':Int) (w:World) (hown:OwnB B w v bs) (hB:B≤w.heap.size) (hlen:bs.length+8≤2^46) (hz:z'=(clamp z:Int)) :
  Calls Tryz.prog 126 #[v,.int .u64 z',.int .i64 8] w fun e w'=>∃ v',e = .returned v'∧OwnB B w' v' (bs++numB z)∧Below B w w':=by
 subst hz
 have:=clamp_le z
 exact wide_any B v bs (clamp z) 8 w hown hB hlen (by omega) (by omega)
def Ints (B:Nat) (w:World) (v:Value) (zs:List Int):Prop:=Row B w v 1 zs.length (zs.map fun z=>.int .i64 z)
theorem Ints.below {B:Nat} {w w':World} {v:Value} {zs:List Int} (h:Ints B w v zs) (hb:Below B w w'):Ints B w' v zs:=Row.below h hb
theorem Ints.tight {B:Nat} {w:World} {v:Value} {zs:List Int} (h:Ints B w v zs):Ints w.heap.size w v zs:=Row.tight h (by decide)
def numsB (zs:List Int):List UInt8:=(zs.map numB).flatten
theorem length_numB (z:Int):(numB z).length=8:=length_be _ _
theorem length_numsB (zs:List Int):(numsB zs).length=8*zs.length:=by
 induction zs with
 | nil=>rfl
 | cons z zs ih=>rw [numsB,List.map_cons,List.flatten_cons,List.length_append,length_numB,List.length_cons];unfold numsB at ih;omega
theorem numsB_succ (zs:List Int) (k:Nat) (h:k<zs.length):numsB (zs.take (k+1))=numsB (zs.take k)++numB zs[k]:=by
 unfold numsB
 rw [List.take_succ_eq_append_getElem h,List.map_append,List.flatten_append];simp
set_option maxRecDepth 100000 in
set_option maxHeartbeats 1000000 in
theorem num_any {B B':Nat} (v l:Value) (bs:List UInt8) (zs:List Int) (w:World) (hv:Bytes B w v bs) (hl:Ints B' w l zs) (hlen:bs.length+8*zs.length+8≤2^46) :
  Calls Tryz.prog 81 #[v,l] w fun e w'=>∃ v',e = .returned v'∧OwnB w.heap.size w' v' (bs++numsB zs)∧Below w.heap.size w w':=by
 replace hl:=hl.tight
 obtain⟨_,a,cap,rfl,hnc,hcap,hcells⟩:=hl
 unfold maxLen at hcap
 have hlen0:bs.length≤2^46:=by omega
 go_enter Tryz.func81,Tryz.ntmps81
 go_wp2_with (go_at_call 125;((with_reducible refine (clone_any _ bs _ B hv hlen0).mono ?_);rintro e w1 ⟨v1,rfl,ho1,hb1⟩))
 go_loopw [0,11] (fun s i wr=>∃ k:Nat,k≤zs.length∧i = .int .i64 k∧OwnB w.heap.size wr s (bs++numsB (zs.take k))∧Below w.heap.size w wr) (fun _ i _=>zs.length-(intOf i).toNat)
 case atStart=>exact⟨0,Nat.zero_le _,rfl,by simpa [numsB] using ho1,hb1⟩
 case round =>
  obtain⟨k,hk,rfl,ho,hb⟩:=hrel
  clear ho1 hb1
  by_cases hlt:k<zs.length
  ·obtain⟨b,off,rfl,hBb,hc⟩:=hcells (by omega)
   have hcell:=(hb.cell (p:=⟨b,off+k,none⟩) hBb).trans (hc k (.int .i64 zs[k]) (by simp [hlt]))
   have hl1:(bs++numsB (zs.take k)).length+8≤2^46:=by
    rw [List.length_append,length_numsB,List.length_take];omega
   have HL:=zh hl1
   have HN:=zh (numsB_succ zs k hlt)
   clear hc hcells hl1 hlen
   obtain⟨Z,hZ⟩:∃ Z,Z=zs[k]:=⟨_,rfl⟩
   rw [← hZ] at hcell HN
   clear hZ
   go_wp2_with (go_at_call 126;((refine (wide_num _ _ _ Z _ _ ho hb.size HL.out ?hz).mono ?_);(case hz=>unfold clamp;(repeat' split) <;> omega);rintro e w2 ⟨v2,rfl,ho2,hb2⟩))
   all_goals
    go_roundw
    case rel=>exact⟨k+1,by omega,by go_num,by rw [HN.out,← List.append_assoc];exact ho2,hb.trans hb2⟩
    case measure=>simp [intOf];omega
  ·have hke:k=zs.length:=by omega
   subst hke
   rw [List.take_length] at ho
   go_wp2
   go_ret
   exact⟨_,rfl,ho,hb⟩
end
section
open Go.RowKit PackP
def Strs (B:Nat) (w:World) (v:Value) (ss:List ByteArray):Prop:=Row B w v 1 ss.length (ss.map fun s=>.string s)
theorem Strs.below {B:Nat} {w w':World} {v:Value} {ss:List ByteArray} (h:Strs B w v ss) (hb:Below B w w'):Strs B w' v ss:=Row.below h hb
theorem Strs.tight {B:Nat} {w:World} {v:Value} {ss:List ByteArray} (h:Strs B w v ss):Strs w.heap.size w v ss:=Row.tight h (by decide)
def textsB (ss:List ByteArray):List UInt8:=(ss.map fun s=>textB s.data.toList).flatten
theorem length_textB (s:List UInt8):(textB s).length≤4100:=by
 unfold textB;rw [List.length_append,length_be];have:=cutT_len s;omega
theorem length_textsB (ss:List ByteArray):(textsB ss).length≤4100*ss.length:=by
 induction ss with
 | nil=>exact Nat.zero_le _
 | cons s ss ih=>rw [textsB,List.map_cons,List.flatten_cons,List.length_append,List.length_cons];unfold textsB at ih;have:=length_textB s.data.toList;omega
theorem textsB_succ (ss:List ByteArray) (k:Nat) (h:k<ss.length):textsB (ss.take (k+1))=textsB (ss.take k)++textB ss[k].data.toList:=by
 unfold textsB
 rw [List.take_succ_eq_append_getElem h,List.map_append,List.flatten_append];simp
theorem src_str {P:Program} (w:World) (s:ByteArray):Src P w (.string s) 1 s.data.toList.length (u8s s.data.toList):=by
 have h:=src_string (P:=P) (w:=w) s
 have hsz:s.data.toList.length=s.size:=Array.length_toList
 rw [hsz];exact h
theorem wide_len (B:Nat) (v:Value) (bs:List UInt8) (n:Nat) (w:World) (hown:OwnB B w v bs) (hB:B≤w.heap.size) (hlen:bs.length+8≤2^46) (hn:n≤4096) :
  Calls Tryz.prog 126 #[v,.int .u64 n,.int .i64 4] w fun e w'=>∃ v',e = .returned v'∧OwnB B w' v' (bs++be 4 n)∧Below B w w' :=
 wide_any B v bs n 4 w hown hB hlen (by omega) (by omega)
theorem cut_small (s:ByteArray) (h:s.size≤4096):cutT s.data.toList=s.data.toList:=by
 unfold cutT
 exact List.take_of_length_le (by rw [Array.length_toList];exact h)
theorem cut_great (s:ByteArray):(s.extract 0 4096).data.toList=cutT s.data.toList:=by
 unfold cutT
 rw [ByteArray.data_extract,Array.toList_extract,List.extract_eq_take_drop];simp
set_option maxRecDepth 100000 in
set_option maxHeartbeats 1000000 in
theorem text_any {B B':Nat} (v l:Value) (bs:List UInt8) (ss:List ByteArray) (w:World) (hv:Bytes B w v bs) (hl:Strs B' w l ss) (hlen:bs.length+4100*ss.length+4100≤2^46) (hss:∀ s∈ss,s.size≤reachBytes) :
  Calls Tryz.prog 82 #[v,l] w fun e w'=>∃ v',e = .returned v'∧OwnB w.heap.size w' v' (bs++textsB ss)∧Below w.heap.size w w':=by
 replace hl:=hl.tight
 obtain⟨_,a,cap,rfl,hnc,hcap,hcells⟩:=hl
 unfold maxLen at hcap
 have hlen0:bs.length≤2^46:=by omega
 go_enter Tryz.func82,Tryz.ntmps82
 go_wp2_with (go_at_call 125;((with_reducible refine (clone_any _ bs _ B hv hlen0).mono ?_);rintro e w1 ⟨v1,rfl,ho1,hb1⟩))
 go_loopw [0,11] (fun s i wr=>∃ k:Nat,k≤ss.length∧i = .int .i64 k∧OwnB w.heap.size wr s (bs++textsB (ss.take k))∧Below w.heap.size w wr) (fun _ i _=>ss.length-(intOf i).toNat)
 case atStart=>exact⟨0,Nat.zero_le _,rfl,by simpa [textsB] using ho1,hb1⟩
 case round =>
  obtain⟨k,hk,rfl,ho,hb⟩:=hrel
  clear ho1 hb1
  by_cases hlt:k<ss.length
  ·obtain⟨b,off,rfl,hBb,hc⟩:=hcells (by omega)
   have hcell:=(hb.cell (p:=⟨b,off+k,none⟩) hBb).trans (hc k (.string ss[k]) (by simp [hlt]))
   have hl1:(bs++textsB (ss.take k)).length+4100≤2^46:=by
    have:=length_textsB (ss.take k)
    rw [List.length_take] at this
    rw [List.length_append];omega
   have HL:=zh hl1
   have HN:=zh (textsB_succ ss k hlt)
   have hsz:ss[k].size≤2^47:=by have:=hss ss[k] (List.getElem_mem hlt);unfold reachBytes at this;omega
   clear hc hcells hl1 hlen hss
   obtain⟨Z,hZ⟩:∃ Z,Z=ss[k]:=⟨_,rfl⟩
   rw [← hZ] at hcell HN hsz
   clear hZ
   have hl8:(bs++textsB (ss.take k)).length+8≤2^46:=by have:=HL.out;omega
   have HL8:=zh hl8
   clear hl8
   by_cases hs:Z.size≤4096
   ·have hcut:=zh (cut_small Z hs)
    have hls:((bs++textsB (ss.take k))++be 4 Z.size).length+Z.data.toList.length≤2^46:=by
     have:=HL.out
     have hz:Z.data.toList.length=Z.size:=Array.length_toList
     rw [List.length_append,length_be,hz];omega
    have HLS:=zh hls
    clear hls
    go_wp2_with (first
     | (go_at_call 126;((with_reducible refine (wide_len _ _ _ _ _ ho hb.size HL8.out hs).mono ?_);rintro e w2 ⟨v2,rfl,ho2,hb2⟩;have hB2:=Nat.le_trans hb.size hb2.size))
     | (at_builtin;refine ap_u8 rfl (.tmp 24) (.tmp 25) 9 rfl (.inr Tryz.underlying9) rfl rfl ho2 (src_str _ Z) HLS.out hB2 ?_;intro v3 w3 ho3 hb3))
    go_roundw
    case rel=>exact⟨k+1,by omega,by go_num,by rw [HN.out,textB,hcut.out,Array.length_toList,← List.append_assoc,← List.append_assoc];exact ho3,(hb.trans hb2).trans hb3⟩
    case measure=>simp [intOf];omega
   ·obtain⟨T,hT⟩:∃ T,Z.extract 0 4096=T:=⟨_,rfl⟩
    have hcut:=cut_great Z
    rw [hT] at hcut
    have hTs:T.size≤4096:=by
     have h1:=cutT_len Z.data.toList
     rw [← hcut,Array.length_toList] at h1
     exact h1
    have hls:((bs++textsB (ss.take k))++be 4 T.size).length+T.data.toList.length≤2^46:=by
     have:=HL.out
     have hz:T.data.toList.length=T.size:=Array.length_toList
     rw [List.length_append,length_be,hz];omega
    have HLS:=zh hls
    have HC:=zh hcut
    clear hls hcut
    go_wp2_with (first
     | (go_at_call 126;((with_reducible refine (wide_len _ _ _ _ _ ho hb.size HL8.out hTs).mono ?_);rintro e w2 ⟨v2,rfl,ho2,hb2⟩;have hB2:=Nat.le_trans hb.size hb2.size))
     | (at_builtin;refine ap_u8 rfl (.tmp 24) (.tmp 25) 9 rfl (.inr Tryz.underlying9) rfl rfl ho2 (src_str _ T) HLS.out hB2 ?_;intro v3 w3 ho3 hb3))
    go_roundw
    case rel=>exact⟨k+1,by omega,by go_num,by rw [HN.out,textB,← HC.out,Array.length_toList,← List.append_assoc,← List.append_assoc];exact ho3,(hb.trans hb2).trans hb3⟩
    case measure=>simp [intOf];omega
  ·have hke:k=ss.length:=by omega
   subst hke
   rw [List.take_length] at ho
   go_wp2
   go_ret
   exact⟨_,rfl,ho,hb⟩
end
section
open Go.RowKit
def strB (bs:List UInt8):ByteArray:=⟨bs.toArray⟩
theorem run_bytes_string {P:Program} {src dst e:TypeId} (hs:P.underlying src=some (.slice e)) (he:P.underlying e=some (.int .u8)) (hd:P.underlying dst=some .string)
  {B:Nat} {w:World} {v:Value} {bs:List UInt8} (h:Bytes B w v bs):(convert src dst v).run P w = .ok (.string (strB bs)) w:=by
 have hsrc:=(Row.src (P:=P) h).2.2 w (fun _=>rfl)
 obtain⟨h1,a,cap,rfl,h2,h3,h4⟩:=h
 cases a with
 | none =>
  have hn:bs=[]:=by
   cases bs with
   | nil=>rfl
   | cons b bs=>obtain⟨b,off,h,_⟩:=h4 (by simp);cases h
  subst hn
  exact run_convert_bytes_nil w src e hs he _ _ dst hd
 | some ad =>
  simp only [Builtin.firstCells,Nat.mul_one] at hsrc
  have hl:(loadCells ad bs.length).run P w = .ok ((bs.map fun b=>(b.toNat:Int)).map (Value.int .u8)).toArray w:=by
   rw [hsrc]
   congr 2
   rw [List.map_map];rfl
  rw [run_convert_bytes_string w src dst e _ bs.length cap hs he hd,run_bytesToString w _ bs.length cap _ hl,foldl_push_bytes]
  congr 2
  have:(bs.map fun b=>(b.toNat:Int)).map (fun n=>UInt8.ofNat n.toNat)=bs:=by
   rw [List.map_map]
   conv=>rhs;rw [← List.map_id bs]
   apply List.map_congr_left
   intro b _
   simp
  rw [this]
  simp [strB,ByteArray.empty,ByteArray.emptyWithCapacity]
  rfl
end
section
open Go.RowKit PackP
theorem run_make8:∀ w:World,(Instr.makeSlice 23 (.int .i64 8) (.int .i64 8)).run Tryz.prog w =
  .ok (.slice (some ⟨w.heap.size,0,none⟩) 8 8) (w.alloc (.cells #[.int .u8 0,.int .u8 0,.int .u8 0,.int .u8 0,.int .u8 0,.int .u8 0,.int .u8 0,.int .u8 0] 5)):=fun _=>by kernel_rfl
theorem run_make4:∀ w:World,(Instr.makeSlice 23 (.int .i64 4) (.int .i64 4)).run Tryz.prog w =
  .ok (.slice (some ⟨w.heap.size,0,none⟩) 4 4) (w.alloc (.cells #[.int .u8 0,.int .u8 0,.int .u8 0,.int .u8 0] 5)):=fun _=>by kernel_rfl
theorem run_make_u8 (k:Nat) (hk:k=4∨k=8) (w:World):(Instr.makeSlice 23 (.int .i64 k) (.int .i64 k)).run Tryz.prog w =
  .ok (.slice (some ⟨w.heap.size,0,none⟩) k k) (w.alloc (.cells (Array.replicate k (.int .u8 0)) 5)):=by
 rcases hk with rfl | rfl
 ·exact run_make4 w
 ·exact run_make8 w
theorem own_made (w:World) (k:Nat) (hk:k=4∨k=8):OwnB w.heap.size (w.alloc (.cells (Array.replicate k (.int .u8 0)) 5)) (.slice (some ⟨w.heap.size,0,none⟩) k k) (List.replicate k 0):=by
 unfold OwnB
 rw [List.length_replicate]
 refine⟨by simp [u8s],_,k,rfl,Nat.le_refl _,by unfold maxLen;omega,.inr ⟨_,_,rfl,Nat.le_refl _,heap_alloc_new w _,by simp,?_⟩⟩
 simp [u8s,u8]
theorem byte_mod (m:Nat):(m:Int)%256=((UInt8.ofNat m).toNat:Int):=by
 rw [UInt8.toNat_ofNat'];omega
theorem set_zeros (j:Nat) (ys:List UInt8) (c:UInt8):(List.replicate (j+1) 0++ys).set j c=List.replicate j 0++c :: ys:=by
 apply List.ext_getElem?
 intro i
 rw [List.getElem?_set]
 by_cases h:j=i
 ·subst h
  rw [if_pos rfl,if_pos (by simp;omega),List.getElem?_append_right (by simp)];simp
 ·rw [if_neg h]
  by_cases h2:i<j
  ·rw [List.getElem?_append_left (by simp;omega),List.getElem?_append_left (by simp;omega)]
   simp [h2,Nat.lt_succ_of_lt h2]
  ·rw [List.getElem?_append_right (by simp;omega),List.getElem?_append_right (by simp;omega)]
   obtain⟨d,rfl⟩:∃ d,i=j+1+d:=⟨i-(j+1),by omega⟩
   simp only [List.length_replicate]
   rw [show j+1+d-(j+1)=d by omega,show j+1+d-j=d+1 by omega,List.getElem?_cons_succ]
set_option maxRecDepth 100000 in
set_option maxHeartbeats 1000000 in
theorem refBytes_any (n k:Nat) (w:World) (hk:k=4∨k=8) (hn:n≤2^62) :
  Calls Tryz.prog 127 #[.int .i64 n,.int .i64 k] w fun e w'=>∃ v',e = .returned v'∧OwnB w.heap.size w' v' (be k n)∧Below w.heap.size w w':=by
 have hmk:=run_make_u8 k hk
 have hk8:k≤8:=by omega
 go_enter Tryz.func127,Tryz.ntmps127
 go_wp2
 clear hmk
 go_loopw [0,6] (fun m i wr=>∃ (r M:Nat) (ys:List UInt8),r≤k∧M≤2^62∧i = .int .i64 ((r:Int)-1)∧m = .int .i64 M∧be k n=be r M++ys∧ys.length=k-r ∧
   Own w.heap.size wr 5 (.slice (some ⟨w.heap.size,0,none⟩) k k) 1 k (u8s (List.replicate r 0++ys))∧Below w.heap.size w wr) (fun _ i _=>(intOf i+1).toNat)
 case atStart =>
  refine⟨k,n,[],Nat.le_refl _,hn,rfl,rfl,by simp,by simp,?_,Below.alloc (Below.refl _ _) (Nat.le_refl _) _⟩
  have:=own_made w k hk
  unfold OwnB at this
  rw [List.length_replicate] at this
  simpa using this
 case round =>
  obtain⟨r,M,ys,hr,hM,rfl,rfl,he,hyl,ho,hb⟩:=hrel
  have HE:=zh he
  have HO:=zh ho
  have HY:=zh hyl
  clear he ho hyl
  by_cases hr0:r=0
  ·subst hr0
   go_wp2
   go_ret
   refine⟨_,rfl,?_,hb⟩
   rw [HE.out]
   have h1:=HO.out
   have h2:=HY.out
   unfold OwnB
   rw [show be 0 M=[] from rfl,List.nil_append,h2]
   simpa using h1
  ·obtain⟨j,rfl⟩:∃ j,r=j+1:=⟨r-1,by omega⟩
   obtain⟨C,hC⟩:∃ C,C=UInt8.ofNat M:=⟨_,rfl⟩
   have hb8:=byte_mod M
   rw [← hC] at hb8
   have HC:=zh hC
   clear hC
   obtain⟨g,hg,_,_,hgc,hgf,hgs⟩:=HO.out.form (by omega)
   obtain rfl:w.heap.size=g:=by injection hg with h;injection h
   have hjl:(u8s (List.replicate (j+1) 0++ys))[j]?=some (u8 0):=by
    rw [u8s,List.getElem?_map,List.getElem?_append_left (by simp)];simp
   have hcell:=hgc j _ hjl
   have hfz:=hgf j
   have ho3:=hgs j (u8 C) (by omega)
   have hb3:=hb.setCell (p:=⟨w.heap.size,j,none⟩) (Nat.le_refl _) (u8 C)
   have HO3:=zh ho3
   clear hjl hgc hgf hgs ho3 hg
   unfold u8 at hcell
   go_wp2
   go_roundw
   case rel =>
    refine⟨j,M / 256,C :: ys,by omega,by omega,rfl,by go_num,?_,?_,?_,hb3⟩
    ·rw [HE.out,be_low,HC.out,List.append_assoc];rfl
    ·rw [List.length_cons,HY.out];omega
    ·have h:=HO3.out
     rw [show (u8s (List.replicate (j+1) 0++ys)).set j (u8 C)=u8s (List.replicate j 0++C :: ys) by rw [← set_zeros];unfold u8s;rw [List.map_set]] at h
     exact h
   case measure=>simp [intOf] <;> omega
theorem ref_clamp (z z':Int) (w:World) (hz:z'=(clamp z:Int)) :
  Calls Tryz.prog 127 #[.int .i64 z',.int .i64 8] w fun e w'=>∃ v',e = .returned v'∧OwnB w.heap.size w' v' (numB z)∧Below w.heap.size w w':=by
 subst hz
 have:=clamp_le z
 exact refBytes_any (clamp z) 8 w (.inr rfl) (by omega)
theorem ref_len (n:Nat) (w:World) (hn:n≤4096) :
  Calls Tryz.prog 127 #[.int .i64 n,.int .i64 4] w fun e w'=>∃ v',e = .returned v'∧OwnB w.heap.size w' v' (be 4 n)∧Below w.heap.size w w' :=
 refBytes_any n 4 w (.inl rfl) (by omega)
set_option maxRecDepth 100000 in
set_option maxHeartbeats 1000000 in
theorem refNum_any (B:Nat) (v:Value) (bs:List UInt8) (z:Int) (w:World) (hv:Bytes B w v bs) (hlen:bs.length+8≤2^46) :
  Calls Tryz.prog 83 #[v,.int .i64 z] w fun e w'=>∃ v',e = .returned v'∧OwnB w.heap.size w' v' (bs++numB z)∧Below w.heap.size w w':=by
 replace hv:=hv.tight
 have ho:OwnB w.heap.size (w.alloc (.cells #[] 5)) (.slice (some ⟨w.heap.size,0,none⟩) 0 0) []:=Own.none _ _ _ _ _
 have hb:Below w.heap.size w (w.alloc (.cells #[] 5)):=Below.alloc (Below.refl _ _) (Nat.le_refl _) _
 have hs:=Bytes.src (P:=Tryz.prog) (hv.below hb)
 have hl0:([]:List UInt8).length+bs.length≤2^46:=by simp;omega
 have hl1:([]++bs).length+(numB z).length≤2^46:=by rw [length_numB,List.nil_append];omega
 go_enter Tryz.func83,Tryz.ntmps83
 go_wp2_with (first
  | (at_builtin;refine ap_u8 rfl (.tmp 5) (.tmp 6) 23 rfl (.inl ⟨_,Tryz.underlying23⟩) rfl rfl ho hs hl0 hb.size ?_;intro v2 w2 ho2 hb2)
  | (go_at_call 127;((refine (ref_clamp z _ _ ?hz).mono ?_);(case hz=>unfold clamp;(repeat' split) <;> omega);rintro e w3 ⟨v3,rfl,ho3,hb3⟩;have ho4:=ho2.keep hb3 (Nat.le_refl _);have hs3:=Bytes.src (P:=Tryz.prog) ho3.bytes;have hB3:=Nat.le_trans (Nat.le_trans hb.size hb2.size) hb3.size))
  | (at_builtin;refine ap_u8 rfl (.tmp 7) (.tmp 11) 23 rfl (.inl ⟨_,Tryz.underlying23⟩) rfl rfl ho4 hs3 hl1 hB3 ?_;intro v5 w5 ho5 hb5))
 all_goals
  go_ret
  exact⟨_,rfl,ho5,((hb.trans hb2).trans (hb3.mono (Nat.le_trans hb.size hb2.size))).trans hb5⟩
end
section
open Go.RowKit PackP
set_option maxRecDepth 100000 in
set_option maxHeartbeats 1000000 in
theorem refText_any (B:Nat) (v:Value) (bs:List UInt8) (Z:ByteArray) (w:World) (hv:Bytes B w v bs) (hlen:bs.length+4100≤2^46) (hsz:Z.size≤2^47) :
  Calls Tryz.prog 84 #[v,.string Z] w fun e w'=>∃ v',e = .returned v'∧OwnB w.heap.size w' v' (bs++textB Z.data.toList)∧Below w.heap.size w w':=by
 replace hv:=hv.tight
 have ho:OwnB w.heap.size (w.alloc (.cells #[] 5)) (.slice (some ⟨w.heap.size,0,none⟩) 0 0) []:=Own.none _ _ _ _ _
 have hb:Below w.heap.size w (w.alloc (.cells #[] 5)):=Below.alloc (Below.refl _ _) (Nat.le_refl _) _
 have hs:=Bytes.src (P:=Tryz.prog) (hv.below hb)
 have hl0:([]:List UInt8).length+bs.length≤2^46:=by simp;omega
 have hl1:∀ n,([]++bs).length+(be 4 n).length≤2^46:=by intro n;rw [length_be,List.nil_append];omega
 obtain⟨T,hT,hTs,hTl⟩:∃ T:ByteArray,(if Z.size≤4096 then Z else Z.extract 0 4096)=T∧T.size≤4096∧cutT Z.data.toList=T.data.toList:=by
  by_cases h:Z.size≤4096
  ·exact⟨Z,if_pos h,h,cut_small Z h⟩
  ·refine⟨_,if_neg h,?_,(cut_great Z).symm⟩
   have h1:=cutT_len Z.data.toList
   rw [← cut_great,Array.length_toList] at h1
   exact h1
 have hl2:(([]++bs)++be 4 T.size).length+T.data.toList.length≤2^46:=by
  have hz:T.data.toList.length=T.size:=Array.length_toList
  rw [List.length_append,length_be,hz,List.nil_append];omega
 have HC:=zh hTl
 clear hTl
 by_cases h:Z.size≤4096
 ·rw [if_pos h] at hT
  subst hT
  go_enter Tryz.func84,Tryz.ntmps84
  go_wp2_with (first
   | (at_builtin;refine ap_u8 rfl (.tmp 10) (.tmp 11) 23 rfl (.inl ⟨_,Tryz.underlying23⟩) rfl rfl ho hs hl0 hb.size ?_;intro v2 w2 ho2 hb2)
   | (go_at_call 127;((with_reducible refine (ref_len _ _ hTs).mono ?_);rintro e w3 ⟨v3,rfl,ho3,hb3⟩;have ho4:=ho2.keep hb3 (Nat.le_refl _);have hs3:=Bytes.src (P:=Tryz.prog) ho3.bytes;have hB3:=Nat.le_trans (Nat.le_trans hb.size hb2.size) hb3.size))
   | (at_builtin;refine ap_u8 rfl (.tmp 12) (.tmp 15) 23 rfl (.inl ⟨_,Tryz.underlying23⟩) rfl rfl ho4 hs3 (hl1 _) hB3 ?_;intro v5 w5 ho5 hb5;have hB5:=Nat.le_trans hB3 hb5.size)
   | (at_builtin;refine ap_u8 rfl (.tmp 16) (.tmp 17) 9 rfl (.inr Tryz.underlying9) rfl rfl ho5 (src_str _ _) hl2 hB5 ?_;intro v6 w6 ho6 hb6))
  go_ret
  refine⟨_,rfl,?_,(((hb.trans hb2).trans (hb3.mono (Nat.le_trans hb.size hb2.size))).trans hb5).trans hb6⟩
  rw [textB,HC.out,Array.length_toList,← List.append_assoc];exact ho6
 ·rw [if_neg h] at hT
  go_enter Tryz.func84,Tryz.ntmps84
  go_wp2_with (first
   | (at_builtin;refine ap_u8 rfl (.tmp 10) (.tmp 11) 23 rfl (.inl ⟨_,Tryz.underlying23⟩) rfl rfl ho hs hl0 hb.size ?_;intro v2 w2 ho2 hb2)
   | (go_at_call 127;((with_reducible refine (ref_len _ _ hTs).mono ?_);rintro e w3 ⟨v3,rfl,ho3,hb3⟩;have ho4:=ho2.keep hb3 (Nat.le_refl _);have hs3:=Bytes.src (P:=Tryz.prog) ho3.bytes;have hB3:=Nat.le_trans (Nat.le_trans hb.size hb2.size) hb3.size))
   | (at_builtin;refine ap_u8 rfl (.tmp 12) (.tmp 15) 23 rfl (.inl ⟨_,Tryz.underlying23⟩) rfl rfl ho4 hs3 (hl1 _) hB3 ?_;intro v5 w5 ho5 hb5;have hB5:=Nat.le_trans hB3 hb5.size)
   | (at_builtin;refine ap_u8 rfl (.tmp 16) (.tmp 17) 9 rfl (.inr Tryz.underlying9) rfl rfl ho5 (src_str _ _) hl2 hB5 ?_;intro v6 w6 ho6 hb6))
  go_ret
  refine⟨_,rfl,?_,(((hb.trans hb2).trans (hb3.mono (Nat.le_trans hb.size hb2.size))).trans hb5).trans hb6⟩
  rw [textB,HC.out,Array.length_toList,← List.append_assoc];exact ho6
end
section
open Go.RowKit PackP
def RdAt (T:TypeId) (B g:Nat) (w:World) (r:RS):Prop:=∃ v,w.heap[g]?=some (.cells #[v,.int .i64 r.e] T (0,0))∧Bytes B w v r.b∧B≤g
theorem RdAt.far {T:TypeId} {B g:Nat} {w w':World} {r:RS} {row:Option Nat} (h:RdAt T B g w r) (hg:w.grownBy w' row) (hr:∀ k,row=some k→B≤k∧k≠g):RdAt T B g w' r:=by
 obtain⟨v,h1,h2,h3⟩:=h
 refine⟨v,?_,?_,h3⟩
 ·rw [hg.block g (zB h1) (fun e=>(hr g e.symm).2 rfl)];exact h1
 ·obtain⟨a1,a,cap,rfl,a2,a3,a4⟩:=h2
  refine⟨a1,a,cap,rfl,a2,a3,fun hn=>?_⟩
  obtain⟨b,off,rfl,b1,b2⟩:=a4 hn
  refine⟨b,off,rfl,b1,fun k u hk=>?_⟩
  have hb:=zB h1
  rw [World.cell?_of_block (hg.block b (by omega) (fun e=>by have:=(hr b e.symm).1;omega))]
  exact b2 k u hk
theorem Row.take {B:Nat} {w:World} {a:Option Addr} {cap sz n:Nat} {cs:List Value} (h:Row B w (.slice a n cap) sz n cs) (k:Nat) (hk:k≤n):Row B w (.slice a k cap) sz k (cs.take (k*sz)):=by
 obtain⟨h1,a',cap',hv,h2,h3,h4⟩:=h
 obtain⟨rfl,rfl⟩:a=a'∧cap=cap':=by cases hv;exact⟨rfl,rfl⟩
 have hm:k*sz≤n*sz:=Nat.mul_le_mul_right _ hk
 refine⟨by rw [List.length_take,h1];omega,a,cap,rfl,by omega,h3,fun hn=>?_⟩
 obtain⟨b,off,rfl,h5,h6⟩:=h4 (by omega)
 refine⟨b,off,rfl,h5,fun j u hj=>?_⟩
 rw [List.getElem?_take] at hj
 split at hj
 ·exact h6 j u hj
 ·cases hj
theorem Row.drop {B:Nat} {w:World} {a:Option Addr} {cap sz n:Nat} {cs:List Value} (h:Row B w (.slice a n cap) sz n cs) (k:Nat) (hk:k≤n) :
  Row B w (.slice (if cap=k then a else a.map (·.add (k*sz))) (n-k) (cap-k)) sz (n-k) (cs.drop (k*sz)):=by
 obtain⟨h1,a',cap',hv,h2,h3,h4⟩:=h
 obtain⟨rfl,rfl⟩:a=a'∧cap=cap':=by cases hv;exact⟨rfl,rfl⟩
 refine⟨by rw [List.length_drop,h1,Nat.sub_mul],_,cap-k,rfl,by omega,by omega,fun hn=>?_⟩
 obtain⟨b,off,rfl,h5,h6⟩:=h4 (by omega)
 refine⟨b,off+k*sz,?_,h5,fun j u hj=>?_⟩
 ·rw [if_neg (by omega)]
  simp only [Option.map_some]
  congr 1
  unfold Addr.add;split <;> simp_all
 ·rw [List.getElem?_drop] at hj
  rw [Nat.add_assoc]
  exact h6 _ u hj
theorem u8s_take (bs:List UInt8) (k:Nat):(u8s bs).take k=u8s (bs.take k):=by unfold u8s;rw [List.map_take]
theorem u8s_drop (bs:List UInt8) (k:Nat):(u8s bs).drop k=u8s (bs.drop k):=by unfold u8s;rw [List.map_drop]
theorem run_slice_to {P:Program} {t e:TypeId} {i:TypeInfo} (ht:P.underlying t=some (.slice e)) (hi:P.info? e=some i) {B:Nat} {w:World} {a:Option Addr} {cap:Nat} {bs:List UInt8} (h:Bytes B w (.slice a bs.length cap) bs) (k:Nat) (hk:k≤bs.length) :
  ∃ v',(∀ w',(Instr.slice t (.slice a bs.length cap) none (some (.int .i64 k)) none).run P w' = .ok v' w')∧Bytes B w v' (bs.take k):=by
 have hc:bs.length≤cap:=by obtain⟨_,a',cap',hv,h2,_⟩:=h;cases hv;exact h2
 refine⟨.slice a k cap,fun w'=>?_,?_⟩
 ·have h0:(0:Int)≤(k:Int):=by omega
  have h1:(k:Int)≤(cap:Int):=by omega
  simp [Instr.slice,run_underlying ht,Instr.sliceBounds,run_sliceBound,sizeOf,typeInfo,hi,h0,h1]
  intros;cases a <;> simp [Addr.add]
 ·have:=Row.take h k hk
  unfold Bytes
  rw [List.length_take,Nat.min_eq_left hk,← u8s_take]
  simpa using this
theorem run_slice_from {P:Program} {t e:TypeId} {i:TypeInfo} (ht:P.underlying t=some (.slice e)) (hi:P.info? e=some i) (hsz:i.size=1) {B:Nat} {w:World} {a:Option Addr} {cap:Nat} {bs:List UInt8} (h:Bytes B w (.slice a bs.length cap) bs) (k:Nat) (hk:k≤bs.length) :
  ∃ v',(∀ w',(Instr.slice t (.slice a bs.length cap) (some (.int .i64 k)) none none).run P w' = .ok v' w')∧Bytes B w v' (bs.drop k):=by
 refine⟨.slice (if cap=k then a else a.map (·.add (k*1))) (bs.length-k) (cap-k),fun w'=>?_,?_⟩
 ·have h0:(0:Int)≤(k:Int):=by omega
  have h1:(k:Int)≤(bs.length:Int):=by omega
  simp [Instr.slice,run_underlying ht,Instr.sliceBounds,run_sliceBound,sizeOf,typeInfo,hi,hsz,h0,h1]
 ·have:=Row.drop h k hk
  unfold Bytes
  rw [List.length_drop,← u8s_drop]
  simpa using this
theorem RdAt.parts {T:TypeId} {B g:Nat} {w:World} {r:RS} (h:RdAt T B g w r):∃ v,w.heap[g]?=some (.cells #[v,.int .i64 r.e] T (0,0))∧Bytes B w v r.b∧B≤g ∧
  w.cell? ⟨g,0,none⟩=some v∧w.cell? ⟨g,1,none⟩=some (.int .i64 r.e)∧w.frozen? ⟨g,0,none⟩=false∧w.frozen? ⟨g,1,none⟩=false:=by
 obtain⟨v,h1,h2,h3⟩:=h
 exact⟨v,h1,h2,h3,cR w g 0 _ T (0,0) h1,cR w g 1 _ T (0,0) h1,by simp [World.frozen?,h1],by simp [World.frozen?,h1]⟩
theorem bytes_set {B g o:Nat} {w:World} {u v:Value} {bs:List UInt8} (h:Bytes B w v bs) (hg:B≤g):Bytes B (w.setCell ⟨g,o,none⟩ u) v bs :=
 Bytes.below h (Below.setCell (Below.refl B w) (p:=⟨g,o,none⟩) hg u)
theorem RdAt.setE {T:TypeId} {B g:Nat} {w:World} {r:RS} (h:RdAt T B g w r) (x:Int):RdAt T B g (w.setCell ⟨g,1,none⟩ (.int .i64 x)) { r with e:=x }:=by
 obtain⟨v,h1,h2,h3⟩:=h
 exact⟨v,by simp [World.setCell,Array.getElem?_modify,h1],bytes_set h2 h3,h3⟩
theorem RdAt.setB {T:TypeId} {B g:Nat} {w:World} {r:RS} (h:RdAt T B g w r) (v':Value) (bs:List UInt8) (hv:Bytes B w v' bs):RdAt T B g (w.setCell ⟨g,0,none⟩ v') { r with b:=bs }:=by
 obtain⟨v,h1,h2,h3⟩:=h
 exact⟨v',by simp [World.setCell,Array.getElem?_modify,h1],bytes_set hv h3,h3⟩
theorem only_set (w:World) (g o:Nat) (u:Value):w.grownBy (w.setCell ⟨g,o,none⟩ u) (some g) :=
 ⟨rfl,rfl,rfl,by simp [World.setCell],fun i hi hne=>Below.heap_setCell w ⟨g,o,none⟩ u i (by rintro rfl;exact hne rfl)⟩
theorem zO {a b c:World} {row:Option Nat} (h:a.grownBy b row) (k:b.grownBy c row):a.grownBy c row :=
 ⟨k.os.trans h.os,k.tape.trans h.tape,k.output.trans h.output,Nat.le_trans h.size k.size,fun i hi hne=>(k.block i (Nat.lt_of_lt_of_le hi h.size) hne).trans (h.block i hi hne)⟩
theorem only_refl (w:World) (row:Option Nat):w.grownBy w row:=⟨rfl,rfl,rfl,Nat.le_refl _,fun _ _ _=>rfl⟩
theorem below_of_only {a b:World} {g B:Nat} (h:a.grownBy b (some g)) (hB:B≤g) (hs:B≤a.heap.size):Below B a b :=
 ⟨h.os,h.tape,h.output,h.size,fun k hk=>h.block k (by omega) (fun e=>by injection e;omega)⟩
def RdEnd (T:TypeId) (B g:Nat) (w w':World) (r:RS):Prop:=RdAt T B g w' r∧w.grownBy w' (some g)
set_option maxRecDepth 100000 in
set_option maxHeartbeats 1000000 in
theorem fail_any (B g:Nat) (w:World) (r:RS) (bad:Bool) (x:Int) (h:RdAt 118 B g w r) :
  Calls Tryz.prog 85 #[.pointer (some ⟨g,0,none⟩),.bool bad,.int .i64 x] w fun e w'=>e = .returned (.tuple #[])∧RdEnd 118 B g w w' (r.fail bad x):=by
 have H:=zh h
 obtain⟨v,_,_,_,_,hc1,_,hf1⟩:=h.parts
 obtain⟨E,hE⟩:∃ E,E=r.e:=⟨_,rfl⟩
 rw [← hE] at hc1
 cases bad with
 | false =>
  have hr:r.fail false x=r:=by simp [RS.fail]
  have HR:=zh hr
  clear hr hE h
  go_enter Tryz.func85,Tryz.ntmps85
  go_wp2
  go_end0
  exact⟨rfl,by rw [HR.out];exact⟨H.out,only_refl _ _⟩⟩
 | true =>
  by_cases h0:E=0
  ·have hr:r.fail true x={ r with e:=x }:=by simp [RS.fail,← hE,h0]
   have HR:=zh hr
   subst h0
   clear hr hE h
   go_enter Tryz.func85,Tryz.ntmps85
   go_wp2
   go_end0
   exact⟨rfl,by rw [HR.out];exact⟨H.out.setE x,only_set _ _ _ _⟩⟩
  ·have hr:r.fail true x=r:=by simp [RS.fail,← hE,h0]
   have HR:=zh hr
   have t0:(E == 0)=false:=by rw [beq_eq_false_iff_ne];exact h0
   clear hr hE h h0
   go_enter Tryz.func85,Tryz.ntmps85
   go_wp2
   go_end0
   exact⟨rfl,by rw [HR.out];exact⟨H.out,only_refl _ _⟩⟩
theorem RdAt.cut {T:TypeId} {B g:Nat} {w:World} {r:RS} (h:RdAt T B g w r) (n:Nat) (hn:n≤r.b.length):∃ a cap v1 a2 l2 c2,
  w.cell? ⟨g,0,none⟩=some (.slice a r.b.length cap)∧w.cell? ⟨g,1,none⟩=some (.int .i64 r.e)∧w.frozen? ⟨g,0,none⟩=false ∧
  (∀ w',(Instr.slice 23 (.slice a r.b.length cap) none (some (.int .i64 n)) none).run Tryz.prog w' = .ok v1 w') ∧
  (∀ w',(Instr.slice 23 (.slice a r.b.length cap) (some (.int .i64 n)) none none).run Tryz.prog w' = .ok (.slice a2 l2 c2) w') ∧
  Bytes B (w.setCell ⟨g,0,none⟩ (.slice a2 l2 c2)) v1 (r.b.take n)∧RdEnd T B g w (w.setCell ⟨g,0,none⟩ (.slice a2 l2 c2)) { r with b:=r.b.drop n }:=by
 obtain⟨v,hh,hv,hBg,hc0,hc1,hf0,_⟩:=h.parts
 have hvv:=hv
 obtain⟨_,a,cap,rfl,hnc,hcap,_⟩:=hvv
 obtain⟨i0,hi,_,hsz,_⟩:=info_parts info_u8
 obtain⟨v1,kv1,hb1⟩:=run_slice_to (P:=Tryz.prog) Tryz.underlying23 hi hv n hn
 obtain⟨v2,kv2,hb2⟩:=run_slice_from (P:=Tryz.prog) Tryz.underlying23 hi hsz hv n hn
 have hb2':=hb2
 obtain⟨_,a2,c2,rfl,_⟩:=hb2'
 exact⟨a,cap,v1,a2,_,c2,hc0,hc1,hf0,kv1,kv2,bytes_set hb1 hBg,⟨h.setB _ _ hb2,only_set _ _ _ _⟩⟩
def TakeEnd (T:TypeId) (B g:Nat) (w:World) (r:RS) (n:Nat) (e:Ending) (w':World):Prop :=
 RdEnd T B g w w' (r.take n).1∧∃ v,Bytes B w' v ((r.take n).2.getD [])∧e = .returned (.tuple #[v,.bool (r.take n).2.isSome])
theorem nil_bytes (B:Nat) (w:World):Bytes B w (.slice none 0 0) []:=Row.nil B w 1
set_option maxRecDepth 100000 in
set_option maxHeartbeats 1000000 in
theorem take_any (B g:Nat) (w:World) (r:RS) (n:Nat) (hn:n≤2^62) (h:RdAt 118 B g w r) :
  Calls Tryz.prog 86 #[.pointer (some ⟨g,0,none⟩),.int .i64 n] w (TakeEnd 118 B g w r n):=by
 have H:=zh h
 obtain⟨v,hh,hv,hBg,hc0,_,_,_⟩:=h.parts
 have hvv:=hv
 obtain⟨_,a,cap,rfl,hnc,hcap,_⟩:=hvv
 unfold maxLen at hcap
 obtain⟨i0,hi,_,hsz,_⟩:=info_parts info_u8
 obtain⟨L,hL⟩:∃ L,L=r.b.length:=⟨_,rfl⟩
 rw [← hL] at hc0 hnc
 by_cases he:r.e=0
 ·by_cases hs:L<n
  ·have hr:r.fail true 2={ r with e:=2 }:=by simp [RS.fail,he]
   have ht:r.take n=({ r with e:=2 },none):=by unfold RS.take;rw [if_pos he,← hL,if_pos hs]
   have HT:=zh ht
   have HR:=zh hr
   have t0:decide ((L:Int)<(n:Int))=true:=by simp;omega
   clear ht hr he hL hv h hh
   go_enter Tryz.func86,Tryz.ntmps86
   go_wp2_with (go_at_call 85;((with_reducible refine (fail_any B g _ r _ _ H.out).mono ?_);rintro e w1 ⟨rfl,hE⟩;rw [HR.out] at hE;obtain⟨v1,_,_,_,_,hc1,_,_⟩:=hE.1.parts;have HE:=zh hE;clear hE))
   go_ret2
   unfold TakeEnd
   rw [HT.out]
   exact⟨HE.out,_,nil_bytes _ _,rfl⟩
  ·have hr:r.fail false 2=r:=by simp [RS.fail]
   have ht:r.take n=({ r with b:=r.b.drop n },some (r.b.take n)):=by unfold RS.take;rw [if_pos he,← hL,if_neg hs]
   have HT:=zh ht
   have HR:=zh hr
   have HE0:=zh he
   have t0:decide ((L:Int)<(n:Int))=false:=by simp;omega
   have hnl:n≤r.b.length:=by omega
   have HL0:=zh hL
   clear ht hr hv h hh hL he
   go_enter Tryz.func86,Tryz.ntmps86
   go_wp2_with (go_at_call 85;((with_reducible refine (fail_any B g _ r _ _ H.out).mono ?_);rintro e w1 ⟨rfl,hE⟩;rw [HR.out] at hE;obtain⟨a1,cap1,v1,a2,l2,c2,hc0',hc1',hf0',kv1,kv2,hb1,hb2⟩:=hE.1.cut n hnl;rw [HE0.out] at hc1';rw [← HL0.out] at hc0' kv1 kv2;have HE:=zh (zO hE.2 hb2.2);have HB1:=zh hb1;have HB2:=zh hb2.1;clear hE hb1 hb2 hnl))
   go_ret2
   unfold TakeEnd
   rw [HT.out]
   exact⟨⟨HB2.out,HE.out⟩,_,HB1.out,rfl⟩
 ·have ht:r.take n=(r,none):=by unfold RS.take;rw [if_neg he]
  have hr:∀ b,r.fail b 2=r:=by intro b;cases b <;> simp [RS.fail,he]
  obtain⟨E,hEe⟩:∃ E,E=r.e:=⟨_,rfl⟩
  have t0:(E == 0)=false:=by rw [beq_eq_false_iff_ne,hEe];exact he
  have t1:(!(E == 0))=true:=by rw [t0];rfl
  have HT:=zh ht
  have HR:=zh hr
  have HE0:=zh hEe
  clear ht hr he hL hv h hh hEe
  go_enter Tryz.func86,Tryz.ntmps86
  go_wp2_with (go_at_call 85;((with_reducible refine (fail_any B g _ r _ _ H.out).mono ?_);rintro e w1 ⟨rfl,hE⟩;rw [HR.out] at hE;obtain⟨v1,_,_,_,_,hc1,_,_⟩:=hE.1.parts;rw [← HE0.out] at hc1;have HE:=zh hE;clear hE))
  go_ret2
  unfold TakeEnd
  rw [HT.out]
  exact⟨HE.out,_,nil_bytes _ _,rfl⟩
theorem or_byte (n:Nat) (c:UInt8) (hn:n<2^56):bits .or .u64 ((n*256:Nat):Int) (c.toNat:Int)=((n*256+c.toNat:Nat):Int):=by
 have hc:=c.toNat_lt
 have h1:(BitVec.ofInt 64 ((n*256:Nat):Int)).toNat=n*256:=by
  rw [BitVec.ofInt_natCast,BitVec.toNat_ofNat];exact Nat.mod_eq_of_lt (by omega)
 have h2:(BitVec.ofInt 64 (c.toNat:Int)).toNat=c.toNat:=by
  rw [BitVec.ofInt_natCast,BitVec.toNat_ofNat];exact Nat.mod_eq_of_lt (by omega)
 show IntKind.u64.wrap ((BitVec.ofInt 64 ((n*256:Nat):Int) ||| BitVec.ofInt 64 (c.toNat:Int)).toNat:Int)=_
 rw [BitVec.toNat_or,h1,h2]
 have h3:n*256 ||| c.toNat=n*256+c.toNat:=by
  have:=Nat.two_pow_add_eq_or_of_lt (i:=8) (b:=c.toNat) (by omega) n
  rw [Nat.mul_comm n 256]
  exact this.symm
 rw [h3]
 have h4:n*256+c.toNat<18446744073709551616:=by omega
 simp only [IntKind.wrap,IntKind.bits,IntKind.signed]
 simp
 omega
theorem u64_byte (c:UInt8):IntKind.u64.wrap (c.toNat:Int)=(c.toNat:Int):=by
 have hc:=c.toNat_lt
 simp only [IntKind.wrap,IntKind.bits,IntKind.signed]
 simp
 omega
set_option maxRecDepth 100000 in
set_option maxHeartbeats 1000000 in
theorem number_any (B:Nat) (v:Value) (bs:List UInt8) (w:World) (h:Bytes B w v bs) (hl:bs.length≤8) :
  Calls Tryz.prog 87 #[v] w fun e w'=>e = .returned (.int .u64 (numOf bs))∧w=w':=by
 obtain⟨_,a,cap,rfl,hnc,hcap,hcells⟩:=h
 unfold maxLen at hcap
 go_enter Tryz.func87,Tryz.ntmps87
 go_wp2
 go_loop [2,7] (fun t i=>∃ k:Nat,k≤bs.length∧i = .int .i64 k∧t = .int .u64 (numOf (bs.take k))) (fun _ i=>bs.length-(intOf i).toNat)
 case atStart=>exact⟨0,Nat.zero_le _,rfl,rfl⟩
 case round =>
  obtain⟨k,hk,rfl,rfl⟩:=hrel
  by_cases hlt:k<bs.length
  ·obtain⟨b,off,rfl,hB,hc⟩:=hcells (by omega)
   have hcell:=hc k _ (u8s_at hlt)
   have hN:Hid (numOf (bs.take (k+1))=numOf (bs.take k)*256+bs[k].toNat):=by
    rw [List.take_succ_eq_append_getElem hlt,numOf_snoc];exact rfl
   have hb:numOf (bs.take k)<2^56:=by
    have h1:=numOf_lt (bs.take k)
    rw [List.length_take,Nat.min_eq_left hk] at h1
    have h2:256^k≤256^7:=Nat.pow_le_pow_right (by omega) (by omega)
    omega
   obtain⟨N,hNe⟩:∃ N,N=numOf (bs.take k):=⟨_,rfl⟩
   rw [← hNe] at hb hN
   rw [← hNe]
   obtain⟨c,hce⟩:∃ c,c=bs[k]:=⟨_,rfl⟩
   rw [← hce] at hcell hN
   have k1:=u64_byte c
   clear hNe hc hcells hce
   go_wp2
   all_goals
    go_round
    case rel=>exact⟨k+1,by omega,by go_num,by rw [hN.out,← or_byte N c hb,Int.natCast_mul];rfl⟩
    case measure=>simp [intOf];omega
  ·have hke:k=bs.length:=by omega
   subst hke
   rw [List.take_length]
   go_wp2
   go_ret
   exact⟨rfl,rfl⟩
theorem take_some (B g:Nat) (w:World) (r r1:RS) (n:Nat) (z:Int) (b:List UInt8) (hn:n≤2^62) (hz:z=n) (h:RdAt 118 B g w r) (ht:r.take n=(r1,some b)) :
  Calls Tryz.prog 86 #[.pointer (some ⟨g,0,none⟩),.int .i64 z] w fun e w'=>∃ v,e = .returned (.tuple #[v,.bool true])∧RdEnd 118 B g w w' r1∧Bytes B w' v b:=by
 subst hz
 refine (take_any B g w r n hn h).mono fun e w' ⟨h1,v,h2,h3⟩=>?_
 rw [ht] at h1 h2 h3
 exact⟨v,h3,h1,h2⟩
theorem take_none (B g:Nat) (w:World) (r r1:RS) (n:Nat) (z:Int) (hn:n≤2^62) (hz:z=n) (h:RdAt 118 B g w r) (ht:r.take n=(r1,none)) :
  Calls Tryz.prog 86 #[.pointer (some ⟨g,0,none⟩),.int .i64 z] w fun e w'=>∃ v,e = .returned (.tuple #[v,.bool false])∧RdEnd 118 B g w w' r1∧Bytes B w' v []:=by
 subst hz
 refine (take_any B g w r n hn h).mono fun e w' ⟨h1,v,h2,h3⟩=>?_
 rw [ht] at h1 h2 h3
 exact⟨v,h3,h1,h2⟩
theorem take_some_e {r r1:RS} {n:Nat} {b:List UInt8} (ht:r.take n=(r1,some b)):r.e=0∧r1.e=0∧b.length=n∧n≤r.b.length∧r1.b=r.b.drop n∧b=r.b.take n:=by
 unfold RS.take at ht
 split at ht
 ·rename_i he
  split at ht
  ·cases ht
  ·rename_i hl
   cases ht
   exact⟨he,he,by rw [List.length_take];omega,by omega,rfl,rfl⟩
 ·cases ht
theorem take_none_e {r r1:RS} {n:Nat} (ht:r.take n=(r1,none)):r1.e≠0:=by
 unfold RS.take at ht
 split at ht
 ·split at ht
  ·cases ht;simp
  ·cases ht
 ·rename_i he
  cases ht;exact he
set_option maxRecDepth 100000 in
set_option maxHeartbeats 1000000 in
theorem rnum_any (B g:Nat) (w:World) (r:RS) (h:RdAt 118 B g w r) :
  Calls Tryz.prog 48 #[.pointer (some ⟨g,0,none⟩)] w fun e w'=>e = .returned (.int .i64 r.num.2)∧RdEnd 118 B g w w' r.num.1:=by
 have kn:=fun (w:World) (a:Option Addr)=>eql_ptr_nil Tryz.underlying78 w a
 rcases ht:r.take 8 with ⟨r1,_ | b⟩
 ·have hnum:r.num=(r1,0):=by unfold RS.num;rw [ht]
  have HN:=zh hnum
  have HT:=zh ht
  clear hnum ht
  go_enter Tryz.func48,Tryz.ntmps48
  go_wp2_with (go_at_call 86;((refine (take_none B g _ r r1 8 _ (by omega) rfl h HT.out).mono ?_);rintro e w1 ⟨v1,rfl,hE,hb⟩))
  go_ret
  rw [HN.out]
  exact⟨rfl,hE⟩
 ·obtain⟨he,he1,hbl,_,_,_⟩:=take_some_e ht
  obtain⟨N,hN⟩:∃ N,N=numOf b:=⟨_,rfl⟩
  by_cases hg:4611686018427387904<N
  ·have hnum:r.num=({ r1 with e:=3 },0):=by unfold RS.num;rw [ht];simp only;rw [if_pos (by omega)]
   have hfl:r1.fail true 3={ r1 with e:=3 }:=by simp [RS.fail,he1]
   have t0:decide (4611686018427387904<(N:Int))=true:=by simp;omega
   have HN:=zh hnum
   have HT:=zh ht
   have HF:=zh hfl
   have HNe:=zh hN
   have hbl':b.length≤8:=by omega
   clear hnum ht hfl hN hg hbl he he1
   go_enter Tryz.func48,Tryz.ntmps48
   go_wp2_with (first
    | (go_at_call 86;((refine (take_some B g _ r r1 8 _ b (by omega) rfl h HT.out).mono ?_);rintro e w1 ⟨v1,rfl,hE,hb⟩;have hR1:=hE.1))
    | (go_at_call 87;((refine (number_any B _ b _ hb hbl').mono ?_);rintro e w2 ⟨rfl,rfl⟩;rw [← HNe.out]))
    | (go_at_call 85;((with_reducible refine (fail_any B g _ r1 _ _ hR1).mono ?_);rintro e w2 ⟨rfl,hE2⟩;rw [HF.out] at hE2;obtain⟨v3,_,_,_,_,hc1,_,_⟩:=hE2.1.parts)))
   go_ret
   rw [HN.out]
   exact⟨rfl,hE2.1,zO hE.2 hE2.2⟩
  ·have hnum:r.num=(r1,(N:Int)):=by unfold RS.num;rw [ht];simp only;rw [if_neg (by omega),hN]
   have hfl:r1.fail false 3=r1:=by simp [RS.fail]
   have t0:decide (4611686018427387904<(N:Int))=false:=by simp;omega
   have HN:=zh hnum
   have HT:=zh ht
   have HF:=zh hfl
   have HNe:=zh hN
   have HE1:=zh he1
   have hbl':b.length≤8:=by omega
   have hN62:N≤2^62:=by omega
   clear hnum ht hfl hN hg hbl he he1
   go_enter Tryz.func48,Tryz.ntmps48
   go_wp2_with (first
    | (go_at_call 86;((refine (take_some B g _ r r1 8 _ b (by omega) rfl h HT.out).mono ?_);rintro e w1 ⟨v1,rfl,hE,hb⟩;have hR1:=hE.1))
    | (go_at_call 87;((refine (number_any B _ b _ hb hbl').mono ?_);rintro e w2 ⟨rfl,rfl⟩;rw [← HNe.out]))
    | (go_at_call 85;((with_reducible refine (fail_any B g _ r1 _ _ hR1).mono ?_);rintro e w2 ⟨rfl,hE2⟩;rw [HF.out] at hE2;obtain⟨v3,_,_,_,_,hc1,_,_⟩:=hE2.1.parts;rw [HE1.out] at hc1)))
   go_ret
   rw [HN.out]
   exact⟨rfl,hE2.1,zO hE.2 hE2.2⟩
end
section
open Go.RowKit PackP
set_option maxRecDepth 100000 in
set_option maxHeartbeats 1000000 in
theorem rerr_any (B g:Nat) (w:World) (r:RS) (h:RdAt 118 B g w r) :
  Calls Tryz.prog 151 #[.pointer (some ⟨g,0,none⟩)] w fun e w'=>e = .returned (.int .i64 r.e)∧w=w':=by
 have kn:=fun (w:World) (a:Option Addr)=>eql_ptr_nil Tryz.underlying78 w a
 obtain⟨v,_,_,_,_,hc1,_,_⟩:=h.parts
 go_enter Tryz.func151,Tryz.ntmps151
 go_wp2
 go_ret
 exact⟨rfl,rfl⟩
theorem from_at (B B':Nat) (v:Value) (bs:List UInt8) (w:World) (h:Bytes B w v bs) (hB:B≤w.heap.size) :
  Calls Tryz.prog 46 #[v] w fun e w'=>e = .returned (.pointer (some ⟨w.heap.size,0,none⟩))∧RdAt 118 B w.heap.size w' ⟨bs,0⟩∧Below w.heap.size w w':=by
 have h':=h
 obtain⟨_,a,cap,rfl,_⟩:=h'
 go_enter Tryz.func46,Tryz.ntmps46
 go_wp2
 go_ret
 have hb:Below w.heap.size w (w.alloc (.cells #[.slice a bs.length cap,.int .i64 0] 118)):=Below.alloc (Below.refl _ _) (Nat.le_refl _) _
 exact⟨rfl,⟨_,heap_alloc_new w _,h.below (hb.mono hB),hB⟩,hb⟩
end
section
open Go.RowKit PackP
set_option maxRecDepth 100000 in
set_option maxHeartbeats 1000000 in
theorem rtext_any (B g:Nat) (w:World) (r:RS) (h:RdAt 118 B g w r) :
  Calls Tryz.prog 50 #[.pointer (some ⟨g,0,none⟩)] w fun e w'=>e = .returned (.string (strB r.text.2))∧RdEnd 118 B g w w' r.text.1:=by
 have kn:=fun (w:World) (a:Option Addr)=>eql_ptr_nil Tryz.underlying78 w a
 rcases ht:r.take 4 with ⟨r1,_ | b⟩
 ·have hnum:r.text=(r1,[]):=by unfold RS.text;rw [ht]
  have HN:=zh hnum
  have HT:=zh ht
  clear hnum ht
  go_enter Tryz.func50,Tryz.ntmps50
  go_wp2_with (go_at_call 86;((refine (take_none B g _ r r1 4 _ (by omega) rfl h HT.out).mono ?_);rintro e w1 ⟨v1,rfl,hE,hb⟩))
  go_ret
  rw [HN.out]
  exact⟨rfl,hE⟩
 ·obtain⟨he,he1,hbl,_,_,_⟩:=take_some_e ht
  obtain⟨N,hN⟩:∃ N,N=numOf b:=⟨_,rfl⟩
  have hNl:N<2^32:=by
   have:=numOf_lt b
   rw [hbl] at this;omega
  have HT:=zh ht
  have HNe:=zh hN
  have hbl':b.length≤8:=by omega
  by_cases hg:4096<N
  ·have hnum:r.text=({ r1 with e:=4 },[]):=by unfold RS.text;rw [ht];simp only;rw [if_pos (by omega)]
   have hfl:r1.fail true 4={ r1 with e:=4 }:=by simp [RS.fail,he1]
   have htk:∀ n,({ r1 with e:=4 }:RS).take n=({ r1 with e:=4 },none):=by intro n;simp [RS.take]
   have t0:decide (4096<(N:Int))=true:=by simp;omega
   have HN:=zh hnum
   have HF:=zh hfl
   have HK:=zh htk
   clear hnum ht hfl hN hg hbl he he1 htk
   go_enter Tryz.func50,Tryz.ntmps50
   go_wp2_with (go_at_call 86;((refine (take_some B g _ r r1 4 _ b (by omega) rfl h HT.out).mono ?_);rintro e w1 ⟨v1,rfl,hE,hb⟩;have hR1:=hE.1))
   go_wp2_with (first
    | (go_at_call 87;((refine (number_any B _ b _ hb hbl').mono ?_);rintro e w2 ⟨rfl,rfl⟩;rw [← HNe.out]))
    | (go_at_call 85;((with_reducible refine (fail_any B g _ r1 _ _ hR1).mono ?_);rintro e w2 ⟨rfl,hE2⟩;rw [HF.out] at hE2;have hR2:=hE2.1))
    | (go_at_call 86;((refine (take_none B g _ _ _ N _ (by omega) rfl hR2 (HK.out N)).mono ?_);rintro e w3 ⟨v3,rfl,hE3,hb3⟩;have kc:=run_bytes_string (P:=Tryz.prog) Tryz.underlying23 Tryz.underlying5 Tryz.underlying9 hb3)))
   go_ret
   rw [HN.out]
   exact⟨rfl,hE3.1,zO (zO hE.2 hE2.2) hE3.2⟩
  ·have hfl:r1.fail false 4=r1:=by simp [RS.fail]
   have t0:decide (4096<(N:Int))=false:=by simp;omega
   have HF:=zh hfl
   rcases ht2:r1.take N with ⟨r2,_ | s⟩
   ·have hnum:r.text=(r2,[]):=by unfold RS.text;rw [ht];simp only;rw [if_neg (by omega),← hN,ht2]
    have HN:=zh hnum
    have HK:=zh ht2
    clear hnum ht hfl hN hg hbl he he1 ht2
    go_enter Tryz.func50,Tryz.ntmps50
    go_wp2_with (go_at_call 86;((refine (take_some B g _ r r1 4 _ b (by omega) rfl h HT.out).mono ?_);rintro e w1 ⟨v1,rfl,hE,hb⟩;have hR1:=hE.1))
    go_wp2_with (first
     | (go_at_call 87;((refine (number_any B _ b _ hb hbl').mono ?_);rintro e w2 ⟨rfl,rfl⟩;rw [← HNe.out]))
     | (go_at_call 85;((with_reducible refine (fail_any B g _ r1 _ _ hR1).mono ?_);rintro e w2 ⟨rfl,hE2⟩;rw [HF.out] at hE2;have hR2:=hE2.1))
     | (go_at_call 86;((refine (take_none B g _ _ _ N _ (by omega) rfl hR2 HK.out).mono ?_);rintro e w3 ⟨v3,rfl,hE3,hb3⟩;have kc:=run_bytes_string (P:=Tryz.prog) Tryz.underlying23 Tryz.underlying5 Tryz.underlying9 hb3)))
    go_ret
    rw [HN.out]
    exact⟨rfl,hE3.1,zO (zO hE.2 hE2.2) hE3.2⟩
   ·have hnum:r.text=(r2,s):=by unfold RS.text;rw [ht];simp only;rw [if_neg (by omega),← hN,ht2]
    have HN:=zh hnum
    have HK:=zh ht2
    clear hnum ht hfl hN hg hbl he he1 ht2
    go_enter Tryz.func50,Tryz.ntmps50
    go_wp2_with (go_at_call 86;((refine (take_some B g _ r r1 4 _ b (by omega) rfl h HT.out).mono ?_);rintro e w1 ⟨v1,rfl,hE,hb⟩;have hR1:=hE.1))
    go_wp2_with (first
     | (go_at_call 87;((refine (number_any B _ b _ hb hbl').mono ?_);rintro e w2 ⟨rfl,rfl⟩;rw [← HNe.out]))
     | (go_at_call 85;((with_reducible refine (fail_any B g _ r1 _ _ hR1).mono ?_);rintro e w2 ⟨rfl,hE2⟩;rw [HF.out] at hE2;have hR2:=hE2.1))
     | (go_at_call 86;((refine (take_some B g _ _ _ N _ s (by omega) rfl hR2 HK.out).mono ?_);rintro e w3 ⟨v3,rfl,hE3,hb3⟩;have kc:=run_bytes_string (P:=Tryz.prog) Tryz.underlying23 Tryz.underlying5 Tryz.underlying9 hb3)))
    go_ret
    rw [HN.out]
    exact⟨rfl,hE3.1,zO (zO hE.2 hE2.2) hE3.2⟩
set_option maxRecDepth 100000 in
set_option maxHeartbeats 1000000 in
theorem rfail_any (B g:Nat) (w:World) (r:RS) (bad:Bool) (h:RdAt 118 B g w r) :
  Calls Tryz.prog 49 #[.pointer (some ⟨g,0,none⟩),.bool bad] w fun e w'=>e = .returned (.tuple #[])∧RdEnd 118 B g w w' (r.fail bad 3):=by
 have kn:=fun (w:World) (a:Option Addr)=>neq_ptr_nil Tryz.underlying78 w a
 go_enter Tryz.func49,Tryz.ntmps49
 go_wp2_with (go_at_call 85;((with_reducible refine (fail_any B g _ r _ _ h).mono ?_);rintro e w2 ⟨rfl,hE2⟩))
 go_end0
 exact⟨rfl,hE2⟩
set_option maxRecDepth 100000 in
set_option maxHeartbeats 1000000 in
theorem rdone_any (B g:Nat) (w:World) (r:RS) (h:RdAt 118 B g w r) :
  Calls Tryz.prog 51 #[.pointer (some ⟨g,0,none⟩)] w fun e w'=>e = .returned (.int .i64 r.doneE)∧RdEnd 118 B g w w' (r.fail (decide (0<r.b.length)) 3):=by
 have kn:=fun (w:World) (a:Option Addr)=>eql_ptr_nil Tryz.underlying78 w a
 obtain⟨v,_,hv,_,hc0,_,_,_⟩:=h.parts
 obtain⟨_,a,cap,rfl,hnc,hcap,_⟩:=hv
 unfold maxLen at hcap
 have hd:(r.fail (decide (0<r.b.length)) 3).e=r.doneE:=by
  unfold RS.fail RS.doneE
  by_cases h1:r.e=0 <;> by_cases h2:0<r.b.length <;> simp [h1,h2]
 obtain⟨L,hL⟩:∃ L,L=r.b.length:=⟨_,rfl⟩
 rw [← hL] at hc0 hnc hd ⊢
 obtain⟨r2,hr2⟩:∃ r2,r2=r.fail (decide (0<L)) 3:=⟨_,rfl⟩
 rw [← hr2] at hd ⊢
 have HD:=zh hd
 have HR:=zh hr2
 clear hd hr2 hL
 go_enter Tryz.func51,Tryz.ntmps51
 go_wp2_with (go_at_call 49;((with_reducible refine (rfail_any B g _ r _ h).mono ?_);rintro e w2 ⟨rfl,hE2⟩;rw [← HR.out] at hE2;obtain⟨v2,_,_,_,_,hc2,_,_⟩:=hE2.1.parts;rw [HD.out] at hc2))
 go_ret
 exact⟨rfl,hE2⟩
set_option maxRecDepth 100000 in
set_option maxHeartbeats 1000000 in
theorem rcount_any (B g:Nat) (w:World) (r:RS) (most:Int) (h:RdAt 118 B g w r) :
  Calls Tryz.prog 47 #[.pointer (some ⟨g,0,none⟩),.int .i64 most] w fun e w'=>e = .returned (.int .i64 (r.count most).2)∧RdEnd 118 B g w w' (r.count most).1:=by
 have kn:=fun (w:World) (a:Option Addr)=>eql_ptr_nil Tryz.underlying78 w a
 rcases hnum:r.num with ⟨r1,n⟩
 have hc:r.count most=if r1.e=0 then (if most<n then ({ r1 with e:=4 },0) else (r1,n)) else (r1,0):=by unfold RS.count;rw [hnum]
 have HN:=zh hnum
 have hb:=rnum_any B g w r h
 rw [hnum] at hb
 obtain⟨r2,hr2⟩:∃ r2,r2=r1.fail (decide (most<n)) 4:=⟨_,rfl⟩
 have hfin:r.count most=(r2,if r2.e=0 then n else 0):=by
  rw [hc,hr2]
  unfold RS.fail
  by_cases h1:r1.e=0 <;> by_cases h2:most<n <;> simp [h1,h2]
 have HC:=zh hfin
 have HR:=zh hr2
 obtain⟨E,hE⟩:∃ E,E=r2.e:=⟨_,rfl⟩
 have HE:=zh hE
 clear hc hnum hfin hr2 hE
 by_cases h0:E=0
 ·have H0:=zh h0
  clear h0
  go_enter Tryz.func47,Tryz.ntmps47
  go_wp2_with (first
   | (go_at_call 48;((with_reducible refine hb.mono ?_);rintro e w1 ⟨rfl,hE1⟩;have hR1:=hE1.1))
   | (go_at_call 85;((with_reducible refine (fail_any B g _ r1 _ _ hR1).mono ?_);rintro e w2 ⟨rfl,hE2⟩;rw [← HR.out] at hE2;obtain⟨v2,_,_,_,_,hc2,_,_⟩:=hE2.1.parts;rw [← HE.out,H0.out] at hc2)))
  go_ret
  rw [HC.out,if_pos (by rw [← HE.out];exact H0.out)]
  exact⟨rfl,hE2.1,zO hE1.2 hE2.2⟩
 ·have t0:(E == 0)=false:=by rw [beq_eq_false_iff_ne];exact h0
  have H0:=zh h0
  clear h0
  go_enter Tryz.func47,Tryz.ntmps47
  go_wp2_with (first
   | (go_at_call 48;((with_reducible refine hb.mono ?_);rintro e w1 ⟨rfl,hE1⟩;have hR1:=hE1.1))
   | (go_at_call 85;((with_reducible refine (fail_any B g _ r1 _ _ hR1).mono ?_);rintro e w2 ⟨rfl,hE2⟩;rw [← HR.out] at hE2;obtain⟨v2,_,_,_,_,hc2,_,_⟩:=hE2.1.parts;rw [← HE.out] at hc2)))
  go_ret
  rw [HC.out,if_neg (by rw [← HE.out];exact H0.out)]
  exact⟨rfl,hE2.1,zO hE1.2 hE2.2⟩
end
section
open Go.RowKit PackP
theorem fold_ge (bs:List UInt8):∀ a:Nat,a*256^bs.length≤bs.foldl (fun n c=>n*256+c.toNat) a:=by
 induction bs with
 | nil=>intro a;simp
 | cons c bs ih =>
  intro a
  have h:=ih (a*256+c.toNat)
  rw [List.foldl_cons,List.length_cons,Nat.pow_succ,Nat.mul_comm (256^bs.length) 256,← Nat.mul_assoc]
  exact Nat.le_trans (Nat.mul_le_mul_right _ (by omega)) h
theorem numOf_ge (bs:List UInt8) (k:Nat) (hk:k<bs.length):numOf (bs.take k)*256≤numOf bs:=by
 have h:numOf bs=(bs.drop k).foldl (fun n c=>n*256+c.toNat) (numOf (bs.take k)):=by
  unfold numOf
  rw [← List.foldl_append,List.take_append_drop]
 rw [h]
 refine Nat.le_trans (Nat.mul_le_mul_left _ ?_) (fold_ge _ _)
 have:1≤(bs.drop k).length:=by rw [List.length_drop];omega
 exact Nat.le_trans (by decide) (Nat.pow_le_pow_right (by decide) this)
def refN (bs:List UInt8):Int:=if 4611686018427387904<numOf bs then -1 else (numOf bs:Int)
set_option maxRecDepth 100000 in
set_option maxHeartbeats 1000000 in
theorem refNumber_any (B:Nat) (v:Value) (bs:List UInt8) (w:World) (h:Bytes B w v bs) (hl:bs.length≤8) :
  Calls Tryz.prog 88 #[v] w fun e w'=>e = .returned (.int .i64 (refN bs))∧w=w':=by
 obtain⟨_,a,cap,rfl,hnc,hcap,hcells⟩:=h
 unfold maxLen at hcap
 go_enter Tryz.func88,Tryz.ntmps88
 go_wp2
 go_loop [3,4] (fun t i=>∃ k:Nat,k≤bs.length∧i = .int .i64 k∧t = .int .i64 (numOf (bs.take k))) (fun _ i=>bs.length-(intOf i).toNat)
 case atStart=>exact⟨0,Nat.zero_le _,rfl,rfl⟩
 case round =>
  obtain⟨k,hk,rfl,rfl⟩:=hrel
  by_cases hlt:k<bs.length
  ·obtain⟨b,off,rfl,hB,hc⟩:=hcells (by omega)
   have hcell:=hc k _ (u8s_at hlt)
   have hN:Hid (numOf (bs.take (k+1))=numOf (bs.take k)*256+bs[k].toNat):=by
    rw [List.take_succ_eq_append_getElem hlt,numOf_snoc];exact rfl
   have hge:=zh (numOf_ge bs k hlt)
   obtain⟨N,hNe⟩:∃ N,N=numOf (bs.take k):=⟨_,rfl⟩
   rw [← hNe] at hN hge
   rw [← hNe]
   obtain⟨c,hce⟩:∃ c,c=bs[k]:=⟨_,rfl⟩
   rw [← hce] at hcell hN
   have hcl:c.toNat<256:=c.toNat_lt
   clear hNe hc hcells hce
   by_cases hbig:36028797018963968≤N
   ·have t0:decide (36028797018963968≤(N:Int))=true:=by simp;omega
    have hr:refN bs = -1:=by unfold refN;rw [if_pos (by have:=hge.out;omega)]
    have HR:=zh hr
    clear hr hbig
    go_wp2
    go_ret
    exact⟨ret_int HR.out.symm,rfl⟩
   ·have t0:decide (36028797018963968≤(N:Int))=false:=by simp;omega
    have hb:N<2^55:=by omega
    clear hbig
    go_wp2
    all_goals
     go_round
     case rel=>exact⟨k+1,by omega,by go_num,by rw [hN.out];go_num⟩
     case measure=>simp [intOf];omega
  ·have hke:k=bs.length:=by omega
   subst hke
   rw [List.take_length]
   obtain⟨N,hNe⟩:∃ N,N=numOf bs:=⟨_,rfl⟩
   rw [← hNe]
   by_cases hbig:4611686018427387904<N
   ·have t0:decide (4611686018427387904<(N:Int))=true:=by simp;omega
    have hr:refN bs = -1:=by unfold refN;rw [if_pos (by omega)]
    have HR:=zh hr
    clear hr hbig hNe
    go_wp2
    go_ret
    exact⟨ret_int HR.out.symm,rfl⟩
   ·have t0:decide (4611686018427387904<(N:Int))=false:=by simp;omega
    have hr:refN bs=N:=by unfold refN;rw [if_neg (by omega),hNe]
    have HR:=zh hr
    clear hr hbig hNe
    go_wp2
    go_ret
    exact⟨ret_int HR.out.symm,rfl⟩
def RTakeEnd (T:TypeId) (B g:Nat) (w:World) (r:RS) (n:Nat) (e:Ending) (w':World):Prop :=
 RdEnd T B g w w' (r.take n).1∧∃ v,Bytes B w' v ((r.take n).2.getD [])∧e = .returned v
set_option maxRecDepth 100000 in
set_option maxHeartbeats 1000000 in
theorem refTake_any (B g:Nat) (w:World) (r:RS) (n:Nat) (hn:n≤2^62) (h:RdAt 87 B g w r) :
  Calls Tryz.prog 89 #[.pointer (some ⟨g,0,none⟩),.int .i64 n] w (RTakeEnd 87 B g w r n):=by
 have H:=zh h
 by_cases he:r.e=0
 ·by_cases hs:r.b.length<n
  ·have ht:r.take n=({ r with e:=2 },none):=by unfold RS.take;rw [if_pos he,if_pos hs]
   have HT:=zh ht
   obtain⟨v,_,hv,_,hc0,hc1,_,hf1⟩:=h.parts
   obtain⟨_,a,cap,rfl,hnc,hcap,_⟩:=hv
   unfold maxLen at hcap
   obtain⟨L,hL⟩:∃ L,L=r.b.length:=⟨_,rfl⟩
   rw [← hL] at hc0 hnc hs
   rw [he] at hc1
   have t0:decide ((L:Int)<(n:Int))=true:=by simp;omega
   have h3:=h.setE 2
   have HE:Hid (RdEnd 87 B g w (w.setCell ⟨g,1,none⟩ (.int .i64 2)) { r with e:=2 }):=⟨h3,only_set _ _ _ _⟩
   clear ht hL he h h3
   go_enter Tryz.func89,Tryz.ntmps89
   go_wp2
   go_ret
   unfold RTakeEnd
   rw [HT.out]
   exact⟨HE.out,_,nil_bytes _ _,rfl⟩
  ·have ht:r.take n=({ r with b:=r.b.drop n },some (r.b.take n)):=by unfold RS.take;rw [if_pos he,if_neg hs]
   have HT:=zh ht
   obtain⟨a,cap,v1,a2,l2,c2,hc0,hc1,hf0,kv1,kv2,hb1,hb2⟩:=h.cut n (by omega)
   obtain⟨L,hL⟩:∃ L,L=r.b.length:=⟨_,rfl⟩
   rw [← hL] at hc0 kv1 kv2 hs
   rw [he] at hc1
   have hle:n≤L:=by omega
   have HB1:=zh hb1
   have HB2:=zh hb2
   clear ht hL he h hb1 hb2 hs
   go_enter Tryz.func89,Tryz.ntmps89
   go_wp2
   go_ret
   unfold RTakeEnd
   rw [HT.out]
   exact⟨HB2.out,_,HB1.out,rfl⟩
 ·have ht:r.take n=(r,none):=by unfold RS.take;rw [if_neg he]
  have HT:=zh ht
  obtain⟨v,_,hv,_,hc0,hc1,_,hf1⟩:=h.parts
  obtain⟨E,hEe⟩:∃ E,E=r.e:=⟨_,rfl⟩
  rw [← hEe] at hc1
  have t0:(E == 0)=false:=by rw [beq_eq_false_iff_ne,hEe];exact he
  clear ht he h hEe
  go_enter Tryz.func89,Tryz.ntmps89
  go_wp2
  go_ret
  unfold RTakeEnd
  rw [HT.out]
  exact⟨⟨H.out,only_refl _ _⟩,_,nil_bytes _ _,rfl⟩
theorem refTake_at (B g:Nat) (w:World) (r r1:RS) (n:Nat) (z:Int) (b:Option (List UInt8)) (hn:n≤2^62) (hz:z=n) (h:RdAt 87 B g w r) (ht:r.take n=(r1,b)) :
  Calls Tryz.prog 89 #[.pointer (some ⟨g,0,none⟩),.int .i64 z] w fun e w'=>∃ v,e = .returned v∧RdEnd 87 B g w w' r1∧Bytes B w' v (b.getD []):=by
 subst hz
 refine (refTake_any B g w r n hn h).mono fun e w' ⟨h1,v,h2,h3⟩=>?_
 rw [ht] at h1 h2
 exact⟨v,h3,h1,h2⟩
set_option maxRecDepth 100000 in
set_option maxHeartbeats 1000000 in
theorem refRNum_any (B g:Nat) (w:World) (r:RS) (h:RdAt 87 B g w r) :
  Calls Tryz.prog 53 #[.pointer (some ⟨g,0,none⟩)] w fun e w'=>e = .returned (.int .i64 r.num.2)∧RdEnd 87 B g w w' r.num.1:=by
 rcases ht:r.take 8 with ⟨r1,_ | b⟩
 ·have hnum:r.num=(r1,0):=by unfold RS.num;rw [ht]
  have he:=take_none_e ht
  obtain⟨E,hEe⟩:∃ E,E=r1.e:=⟨_,rfl⟩
  have t0:(E == 0)=false:=by rw [beq_eq_false_iff_ne,hEe];exact he
  have HE:=zh hEe
  have HN:=zh hnum
  have HT:=zh ht
  have hl0:(([]:List UInt8)).length≤8:=by decide
  clear hnum ht he hEe
  go_enter Tryz.func53,Tryz.ntmps53
  go_wp2_with (first
   | (go_at_call 89;((refine (refTake_at B g _ r r1 8 _ none (by omega) rfl h HT.out).mono ?_);rintro e w1 ⟨v1,rfl,hE,hb⟩;obtain⟨v2,_,_,_,_,hc2,_,_⟩:=hE.1.parts;rw [← HE.out] at hc2;replace hb:Bytes B w1 v1 []:=hb))
   | (go_at_call 88;((refine (refNumber_any B _ [] _ hb hl0).mono ?_);rintro e w2 ⟨rfl,rfl⟩)))
  all_goals
   go_ret
   rw [HN.out]
   exact⟨rfl,hE⟩
 ·obtain⟨he,he1,hbl,_,_,_⟩:=take_some_e ht
  have hbl':b.length≤8:=by omega
  obtain⟨Z,hZ⟩:∃ Z,Z=refN b:=⟨_,rfl⟩
  have HT:=zh ht
  have HZ:=zh hZ
  have HE:=zh he1
  by_cases hg:4611686018427387904<numOf b
  ·have hnum:r.num=({ r1 with e:=3 },0):=by unfold RS.num;rw [ht];simp only;rw [if_pos hg]
   have hZ1:Z = -1:=by rw [hZ];unfold refN;rw [if_pos hg]
   have t0:decide (Z<0)=true:=by rw [hZ1];decide
   have HN:=zh hnum
   clear hnum ht hZ hg hbl he he1 hZ1
   go_enter Tryz.func53,Tryz.ntmps53
   go_wp2_with (first
    | (go_at_call 89;((refine (refTake_at B g _ r r1 8 _ (some b) (by omega) rfl h HT.out).mono ?_);rintro e w1 ⟨v1,rfl,hE,hb⟩;obtain⟨v2,_,_,_,_,hc2,_,hf2⟩:=hE.1.parts;rw [HE.out] at hc2;replace hb:Bytes B w1 v1 b:=hb;have hR3:RdEnd 87 B g w (w1.setCell ⟨g,1,none⟩ (.int .i64 3)) { r1 with e:=3 }:=⟨hE.1.setE 3,zO hE.2 (only_set _ _ _ _)⟩;have HR3:=zh hR3;clear hR3))
    | (go_at_call 88;((refine (refNumber_any B _ b _ hb hbl').mono ?_);rintro e w2 ⟨rfl,rfl⟩;rw [← HZ.out])))
   all_goals
    go_ret
    rw [HN.out]
    exact⟨rfl,HR3.out⟩
  ·have hnum:r.num=(r1,Z):=by unfold RS.num;rw [ht];simp only;rw [if_neg hg,hZ];unfold refN;rw [if_neg hg]
   have hZ1:0≤Z:=by rw [hZ];unfold refN;rw [if_neg hg];omega
   have t0:decide (Z<0)=false:=by simp;omega
   have HN:=zh hnum
   clear hnum ht hZ hg hbl he he1 hZ1
   go_enter Tryz.func53,Tryz.ntmps53
   go_wp2_with (first
    | (go_at_call 89;((refine (refTake_at B g _ r r1 8 _ (some b) (by omega) rfl h HT.out).mono ?_);rintro e w1 ⟨v1,rfl,hE,hb⟩;obtain⟨v2,_,_,_,_,hc2,_,hf2⟩:=hE.1.parts;rw [HE.out] at hc2;replace hb:Bytes B w1 v1 b:=hb))
    | (go_at_call 88;((refine (refNumber_any B _ b _ hb hbl').mono ?_);rintro e w2 ⟨rfl,rfl⟩;rw [← HZ.out])))
   all_goals
    go_ret
    rw [HN.out]
    exact⟨rfl,hE⟩
end
section
open Go.RowKit PackP
set_option maxRecDepth 100000 in
set_option maxHeartbeats 1000000 in
theorem refRText_any (B g:Nat) (w:World) (r:RS) (h:RdAt 87 B g w r) :
  Calls Tryz.prog 55 #[.pointer (some ⟨g,0,none⟩)] w fun e w'=>e = .returned (.string (strB r.text.2))∧RdEnd 87 B g w w' r.text.1:=by
 rcases ht:r.take 4 with ⟨r1,_ | b⟩
 ·have hnum:r.text=(r1,[]):=by unfold RS.text;rw [ht]
  have he:=take_none_e ht
  obtain⟨E,hEe⟩:∃ E,E=r1.e:=⟨_,rfl⟩
  have t0:(E == 0)=false:=by rw [beq_eq_false_iff_ne,hEe];exact he
  have HE:=zh hEe
  have HN:=zh hnum
  have HT:=zh ht
  have hl0:(([]:List UInt8)).length≤8:=by decide
  clear hnum ht he hEe
  go_enter Tryz.func55,Tryz.ntmps55
  go_wp2_with (first
   | (go_at_call 89;((refine (refTake_at B g _ r r1 4 _ none (by omega) rfl h HT.out).mono ?_);rintro e w1 ⟨v1,rfl,hE,hb⟩;obtain⟨v2,_,_,_,_,hc2,_,_⟩:=hE.1.parts;rw [← HE.out] at hc2;replace hb:Bytes B w1 v1 []:=hb))
   | (go_at_call 88;((refine (refNumber_any B _ [] _ hb hl0).mono ?_);rintro e w2 ⟨rfl,rfl⟩)))
  all_goals
   go_ret
   rw [HN.out]
   exact⟨rfl,hE⟩
 ·obtain⟨he,he1,hbl,_,_,_⟩:=take_some_e ht
  have hbl':b.length≤8:=by omega
  obtain⟨N,hN⟩:∃ N,N=numOf b:=⟨_,rfl⟩
  have hNl:N<2^32:=by
   have:=numOf_lt b
   rw [hbl] at this;omega
  have hZ:refN b=(N:Int):=by unfold refN;rw [if_neg (by omega),hN]
  have HT:=zh ht
  have HZ:=zh hZ
  have HE:=zh he1
  by_cases hg:4096<N
  ·have hnum:r.text=({ r1 with e:=4 },[]):=by unfold RS.text;rw [ht];simp only;rw [if_pos (by omega)]
   have HN:=zh hnum
   clear hnum ht hZ hbl he he1 hN
   go_enter Tryz.func55,Tryz.ntmps55
   go_wp2_with (first
    | (go_at_call 89;((refine (refTake_at B g _ r r1 4 _ (some b) (by omega) rfl h HT.out).mono ?_);rintro e w1 ⟨v1,rfl,hE,hb⟩;obtain⟨v2,_,_,_,_,hc2,_,hf2⟩:=hE.1.parts;rw [HE.out] at hc2;replace hb:Bytes B w1 v1 b:=hb;have hR3:RdEnd 87 B g w (w1.setCell ⟨g,1,none⟩ (.int .i64 4)) { r1 with e:=4 }:=⟨hE.1.setE 4,zO hE.2 (only_set _ _ _ _)⟩;have HR3:=zh hR3;clear hR3))
    | (go_at_call 88;((refine (refNumber_any B _ b _ hb hbl').mono ?_);rintro e w2 ⟨rfl,rfl⟩;rw [HZ.out])))
   all_goals
    go_ret
    rw [HN.out]
    exact⟨rfl,HR3.out⟩
  ·rcases ht2:r1.take N with ⟨r2,s⟩
   have hnum:r.text=(r2,s.getD []):=by unfold RS.text;rw [ht];simp only;rw [if_neg (by omega),← hN,ht2];cases s <;> rfl
   have hle:N≤4096:=by omega
   have HN:=zh hnum
   have HK:=zh ht2
   clear hnum ht hZ hg hbl he he1 ht2 hN
   go_enter Tryz.func55,Tryz.ntmps55
   go_wp2_with (first
    | (go_at_call 88;((refine (refNumber_any B _ b _ hb hbl').mono ?_);rintro e w2 ⟨rfl,rfl⟩;rw [HZ.out];have hR1:=hE.1))
    | (go_at_call 89;((refine (refTake_at B g _ r1 r2 N _ s (by omega) rfl hR1 HK.out).mono ?_);rintro e w3 ⟨v3,rfl,hE3,hb3⟩;have kc:=run_bytes_string (P:=Tryz.prog) Tryz.underlying23 Tryz.underlying5 Tryz.underlying9 hb3))
    | (go_at_call 89;((refine (refTake_at B g _ r r1 4 _ (some b) (by omega) rfl h HT.out).mono ?_);rintro e w1 ⟨v1,rfl,hE,hb⟩;obtain⟨v2,_,_,_,_,hc2,_,hf2⟩:=hE.1.parts;rw [HE.out] at hc2;replace hb:Bytes B w1 v1 b:=hb)))
   all_goals
    go_ret
    rw [HN.out]
    exact⟨rfl,hE3.1,zO hE.2 hE3.2⟩
set_option maxRecDepth 100000 in
set_option maxHeartbeats 1000000 in
theorem refRFail_any (B g:Nat) (w:World) (r:RS) (bad:Bool) (h:RdAt 87 B g w r) :
  Calls Tryz.prog 54 #[.pointer (some ⟨g,0,none⟩),.bool bad] w fun e w'=>e = .returned (.tuple #[])∧RdEnd 87 B g w w' (r.fail bad 3):=by
 have H:=zh h
 obtain⟨v,_,_,_,_,hc1,_,hf1⟩:=h.parts
 obtain⟨E,hE⟩:∃ E,E=r.e:=⟨_,rfl⟩
 rw [← hE] at hc1
 by_cases h0:E=0
 ·cases bad with
  | false =>
   have hr:r.fail false 3=r:=by simp [RS.fail]
   have HR:=zh hr
   subst h0
   clear hr hE h
   go_enter Tryz.func54,Tryz.ntmps54
   go_wp2
   go_end0
   exact⟨rfl,by rw [HR.out];exact⟨H.out,only_refl _ _⟩⟩
  | true =>
   have hr:r.fail true 3={ r with e:=3 }:=by simp [RS.fail,← hE,h0]
   have HR:=zh hr
   subst h0
   clear hr hE h
   go_enter Tryz.func54,Tryz.ntmps54
   go_wp2
   go_end0
   exact⟨rfl,by rw [HR.out];exact⟨H.out.setE 3,only_set _ _ _ _⟩⟩
 ·have hr:r.fail bad 3=r:=by simp [RS.fail,← hE,h0]
  have HR:=zh hr
  have t0:(E == 0)=false:=by rw [beq_eq_false_iff_ne];exact h0
  clear hr hE h h0
  go_enter Tryz.func54,Tryz.ntmps54
  go_wp2
  go_end0
  exact⟨rfl,by rw [HR.out];exact⟨H.out,only_refl _ _⟩⟩
set_option maxRecDepth 100000 in
set_option maxHeartbeats 1000000 in
theorem refRDone_any (B g:Nat) (w:World) (r:RS) (h:RdAt 87 B g w r) :
  Calls Tryz.prog 56 #[.pointer (some ⟨g,0,none⟩)] w fun e w'=>e = .returned (.int .i64 r.doneE)∧w=w':=by
 obtain⟨v,_,hv,_,hc0,hc1,_,hf1⟩:=h.parts
 obtain⟨_,a,cap,rfl,hnc,hcap,_⟩:=hv
 unfold maxLen at hcap
 have hd:r.doneE=if r.e=0∧0<r.b.length then 3 else r.e:=rfl
 obtain⟨L,hL⟩:∃ L,L=r.b.length:=⟨_,rfl⟩
 obtain⟨E,hE⟩:∃ E,E=r.e:=⟨_,rfl⟩
 rw [← hL,← hE] at hd
 rw [← hL] at hc0 hnc
 rw [← hE] at hc1
 have HD:=zh hd
 clear hd hL hE h
 by_cases h0:E=0
 ·subst h0
  by_cases hl:0<L
  ·have t0:decide (0<(L:Int))=true:=by simp;omega
   go_enter Tryz.func56,Tryz.ntmps56
   go_wp2
   all_goals
    go_ret
    exact⟨ret_int (by rw [HD.out];simp [hl]),rfl⟩
  ·have hl':L=0:=by omega
   subst hl'
   go_enter Tryz.func56,Tryz.ntmps56
   go_wp2
   all_goals
    go_ret
    exact⟨ret_int (by rw [HD.out];rfl),rfl⟩
 ·have t0:(E == 0)=false:=by rw [beq_eq_false_iff_ne];exact h0
  have H0:=zh h0
  clear h0
  go_enter Tryz.func56,Tryz.ntmps56
  go_wp2
  all_goals
   go_ret
   exact⟨ret_int (by rw [HD.out,if_neg (fun hh=>H0.out hh.1)]),rfl⟩
set_option maxRecDepth 100000 in
set_option maxHeartbeats 1000000 in
theorem refRCount_any (B g:Nat) (w:World) (r:RS) (most:Int) (h:RdAt 87 B g w r) :
  Calls Tryz.prog 52 #[.pointer (some ⟨g,0,none⟩),.int .i64 most] w fun e w'=>e = .returned (.int .i64 (r.count most).2)∧RdEnd 87 B g w w' (r.count most).1:=by
 rcases hnum:r.num with ⟨r1,n⟩
 have hc:r.count most=if r1.e=0 then (if most<n then ({ r1 with e:=4 },0) else (r1,n)) else (r1,0):=by unfold RS.count;rw [hnum]
 have hb:=refRNum_any B g w r h
 rw [hnum] at hb
 have HC:=zh hc
 obtain⟨E,hE⟩:∃ E,E=r1.e:=⟨_,rfl⟩
 have HE:=zh hE
 clear hc hnum hE
 by_cases h0:E=0
 ·have H0:=zh h0
  clear h0
  by_cases hm:most<n
  ·go_enter Tryz.func52,Tryz.ntmps52
   go_wp2_with (go_at_call 53;((with_reducible refine hb.mono ?_);rintro e w1 ⟨rfl,hE1⟩;obtain⟨v2,_,_,_,_,hc2,_,hf2⟩:=hE1.1.parts;rw [← HE.out,H0.out] at hc2;have hR3:RdEnd 87 B g w (w1.setCell ⟨g,1,none⟩ (.int .i64 4)) { r1 with e:=4 }:=⟨hE1.1.setE 4,zO hE1.2 (only_set _ _ _ _)⟩;have HR3:=zh hR3;clear hR3))
   go_ret
   rw [HC.out,if_pos (by rw [← HE.out];exact H0.out),if_pos hm]
   exact⟨rfl,HR3.out⟩
  ·have hle:n≤most:=by omega
   go_enter Tryz.func52,Tryz.ntmps52
   go_wp2_with (go_at_call 53;((with_reducible refine hb.mono ?_);rintro e w1 ⟨rfl,hE1⟩;obtain⟨v2,_,_,_,_,hc2,_,hf2⟩:=hE1.1.parts;rw [← HE.out,H0.out] at hc2))
   go_ret
   rw [HC.out,if_pos (by rw [← HE.out];exact H0.out),if_neg (by omega)]
   exact⟨rfl,hE1⟩
 ·have t0:(E == 0)=false:=by rw [beq_eq_false_iff_ne];exact h0
  have H0:=zh h0
  clear h0
  go_enter Tryz.func52,Tryz.ntmps52
  go_wp2_with (go_at_call 53;((with_reducible refine hb.mono ?_);rintro e w1 ⟨rfl,hE1⟩;obtain⟨v2,_,_,_,_,hc2,_,hf2⟩:=hE1.1.parts;rw [← HE.out] at hc2))
  go_ret
  rw [HC.out,if_neg (by rw [← HE.out];exact H0.out)]
  exact⟨rfl,hE1⟩
end
end Go.Proofs.YtaijompnohkmaaaGreatDoor
