/- Layer 5 (wal), as plain functions: what the code does, step by step. -/
import Derived.Test.YtaijompnohkmaaaGreatDoorOC
import Derived.Deep.RegionHeld3
import Derived.Laws.CopyOwn
import Derived.Test.YtaijompnohkmaaaGreatDoorProg
import Derived.KernelRfl
import Derived.Lib.Hide
import Derived.Lib.SlBytesConst
import Derived.Deep.QuietTactic
import Derived.BigQuiet
import Derived.Deep.CutRange
import Derived.WalkKit
import Derived.ChangeKeysEq
import Derived.WalkSpells
import Derived.WalkLawsBesides
set_option linter.unusedSimpArgs false
set_option linter.unusedVariables false
namespace Go.Proofs.YtaijompnohkmaaaGreatDoor
section
namespace WalP
open PackP
inductive Deed where
 | put (at_:Int) (s:List UInt8)
 | flush
def deed (d:DiskP):Deed→DiskP×Int
 | .put a s=>putP d a s
 | .flush=>flushP d
def run:DiskP→List Deed→DiskP×Int
 | d,[]=>(d,0)
 | d,x :: xs=>if (deed d x).2=0 then run (deed d x).1 xs else deed d x
theorem run_append (xs ys:List Deed):∀ d,run d (xs++ys)=if (run d xs).2=0 then run (run d xs).1 ys else run d xs:=by
 induction xs with
 | nil=>intro d;simp [run]
 | cons x xs ih =>
  intro d
  rw [List.cons_append]
  simp only [run]
  by_cases h:(deed d x).2=0
  ·simp only [h,if_true];exact ih _
  ·simp only [h,if_false]
theorem run_one (d:DiskP) (x:Deed):run d [x]=deed d x:=by
 simp only [run]
 by_cases h:(deed d x).2=0
 ·rw [if_pos h,← h]
 ·rw [if_neg h]
def takes (n:Nat):Nat:=if n<1∨6000<n then 0 else 1+(n+63) / 64
def takesZ (n:Int):Int:=if n<1∨6000<n then 0 else 1+(n+63) / 64
theorem takesZ_nat (n:Nat):takesZ (n:Int)=(takes n:Int):=by
 unfold takesZ takes
 by_cases h:n<1∨6000<n
 ·rw [if_pos (by omega),if_pos h];rfl
 ·rw [if_neg (by omega),if_neg h];omega
theorem takes_le (n:Nat):takes n≤95:=by unfold takes;split <;> omega
def half (d:DiskP):Nat:=d.secs.length / 2
structure LogP where
 half:Int
 gen:Int
 used:Int
 count:Int
def log0:LogP:=⟨0,0,0,0⟩
def rightL (d:DiskP) (l:LogP):Bool :=
 rightB d&&(decide (l.half=0) || decide (l.half=1))&&decide (1≤l.gen)&&decide (l.gen≤1099511627776)&&decide (2≤l.used)&&decide (l.used≤half d)&&decide (1≤l.count)&&decide (l.count≤l.used)
def roomP (d:DiskP) (l:LogP):Int:=if rightL d l then half d-l.used else 0
def pad64 (b:List UInt8):List UInt8:=b.take 64++List.replicate (64-b.length) 0
theorem length_pad64 (b:List UInt8):(pad64 b).length=64:=by simp [pad64];omega
def markB (gen k len sum:Int):List UInt8:=[87,76,79,71]++(numB gen++(numB k++(numB len++numB sum)))
def markS (gen k len sum:Int):List UInt8:=pad64 (markB gen k len sum)
theorem length_markS (gen k len sum:Int):(markS gen k len sum).length=64:=length_pad64 _
def markOf (gen:Int) (k:Nat) (b:List UInt8):List UInt8:=markS gen k b.length (SumP.toI (SumP.sum b))
def bytesD (at_:Int) (b:List UInt8):List Deed:=(List.range ((b.length+63) / 64)).map fun i:Nat=>.put (at_+1+i) (pad64 (b.drop (64*i)))
def recD (at_ gen:Int) (k:Nat) (b:List UInt8):List Deed:=bytesD at_ b++if 0<k then [.put at_ (markOf gen k b)] else []
def recsD (gen:Int):Int→Nat→List (List UInt8)→List Deed
 | _,_,[]=>[]
 | at_,k,b :: bs=>recD at_ gen k b++recsD gen (at_+takes b.length) (k+1) bs
def zerosD (first:Int) (n:Nat):List Deed:=(List.range n).map fun i:Nat=>.put (first+i) zeroS
def layD (size:Nat) (which gen:Int) (list:List (List UInt8)):List Deed :=
 zerosD (which*size) size++([.flush]++(recsD gen (which*size) 0 list++[.flush,.put (which*size) (markOf gen 0 (list.headD [])),.flush]))
def totalN:List (List UInt8)→Option Nat
 | []=>some 0
 | b :: bs=>if takes b.length=0 then none else (totalN bs).map (takes b.length+·)
def total (l:List (List UInt8)):Option Nat:=if l=[] then none else totalN l
def formatP (d:DiskP) (l:List (List UInt8)):DiskP×LogP×Int :=
 match total l with
 | none=>(d,log0,1)
 | some n =>
  if rightB d then
   if half d<n then (d,log0,8)
   else
    let r:=run d (.put (half d) zeroS :: layD (half d) 0 1 l)
    if r.2=0 then (r.1,⟨0,1,n,l.length⟩,0) else (r.1,log0,r.2)
  else (d,log0,1)
def appendD (d:DiskP) (l:LogP) (b:List UInt8):List Deed :=
 bytesD (l.half*half d+l.used) b++[.flush,.put (l.half*half d+l.used) (markS l.gen l.count b.length (SumP.toI (SumP.sum b))),.flush]
def appendP (d:DiskP) (l:LogP) (b:List UInt8):DiskP×LogP×Int :=
 if takes b.length=0∨rightL d l=false then (d,l,1)
 else if roomP d l<takes b.length then (d,l,8)
 else
  let r:=run d (appendD d l b)
  if r.2=0 then (r.1,{ l with used:=l.used+takes b.length,count:=l.count+1 },0) else (r.1,l,r.2)
def compactP (d:DiskP) (l:LogP) (list:List (List UInt8)):DiskP×LogP×Int :=
 match total list with
 | none=>(d,l,1)
 | some n =>
  if rightL d l then
   if half d<n then (d,l,8)
   else if l.gen=1099511627776 then (d,l,15)
   else
    let r:=run d (layD (half d) (1-l.half) (l.gen+1) list)
    if r.2=0 then (r.1,⟨1-l.half,l.gen+1,n,list.length⟩,0) else (r.1,l,r.2)
  else (d,l,1)
structure MarkP where
 gen:Int
 number:Int
 length:Int
 sum:Int
def nums4 (r:RS):MarkP×RS :=
 let a:=r.num
 let b:=a.1.num
 let c:=b.1.num
 let d:=c.1.num
 (⟨a.2,b.2,c.2,d.2⟩,d.1)
def readMark (s:List UInt8):MarkP×Bool :=
 let x:=nums4 ⟨(s.drop 4).take 32,0⟩
 let m:MarkP:={ x.1 with sum:=x.1.sum%4294967296 }
 (m,decide (x.2.e=0)&&decide (s=markS m.gen m.number m.length m.sum)&&decide (1≤m.gen)&&decide (m.gen≤1099511627776)&&decide (0<takesZ m.length))
def viewP (d:DiskP) (which:Int):List (List UInt8):=(List.range (half d)).map fun i:Nat=>(readP d (which*half d+i)).1
def recsGo (l:List (List UInt8)):Nat→List (List UInt8)→Nat→Int→List (List UInt8)×Nat×Int×Int
 | 0,list,used,gen=>if list=[] then ([],0,0,6) else (list,used,gen,0)
 | f+1,list,used,gen =>
  if used<l.length then
   let x:=readMark (l.getD used [])
   let gen':=if list=[] then x.1.gen else gen
   let n:=(takesZ x.1.length).toNat
   if x.2=false∨x.1.gen≠gen'∨x.1.number≠list.length∨l.length-used<n then (if list=[] then ([],0,0,6) else (list,used,gen',0))
   else
    let b:=((l.drop (used+1)).take (n-1)).flatten.take x.1.length.toNat
    if SumP.toI (SumP.sum b)≠x.1.sum then ([],0,gen',10)
    else recsGo l f (list++[b]) (used+n) gen'
  else (if list=[] then ([],0,0,6) else (list,used,gen,0))
def recordsP (l:List (List UInt8)):List (List UInt8)×Nat×Int×Int:=recsGo l (l.length+1) [] 0 0
def openP (d:DiskP):DiskP×LogP×List (List UInt8)×Int :=
 if rightB d=false then (d,log0,[],1)
 else if d.down then (d,log0,[],9)
 else
  let a:=recordsP (viewP d 0)
  let b:=recordsP (viewP d 1)
  let w:Int:=if a.2.2.1<b.2.2.1 then 1 else 0
  let x:=if a.2.2.1<b.2.2.1 then b else a
  if x.2.2.2≠0 then (d,log0,[],x.2.2.2)
  else
   let c:=compactP d ⟨w,x.2.2.1,x.2.1,x.1.length⟩ x.1
   if c.2.2≠0 then (c.1,log0,[],c.2.2) else (c.1,c.2.1,x.1,0)
end WalP
end
section
namespace WalP
def posN (l:List (List UInt8)):Nat:=(l.map fun b=>takes b.length).sum
theorem posN_cons (b:List UInt8) (l:List (List UInt8)):posN (b :: l)=takes b.length+posN l:=by simp [posN]
theorem posN_append (l m:List (List UInt8)):posN (l++m)=posN l+posN m:=by simp [posN]
theorem posN_le:∀ l:List (List UInt8),posN l≤95*l.length
 | []=>by simp [posN]
 | b :: l=>by have:=posN_le l;have:=takes_le b.length;rw [posN_cons,List.length_cons];omega
theorem recsD_append (gen:Int):∀ (l m:List (List UInt8)) (at_:Int) (k:Nat),recsD gen at_ k (l++m)=recsD gen at_ k l++recsD gen (at_+posN l) (k+l.length) m
 | [],m,at_,k=>by simp [recsD,posN]
 | b :: l,m,at_,k=>by
  rw [List.cons_append]
  simp only [recsD]
  rw [recsD_append gen l m,posN_cons,List.append_assoc]
  congr 3
  ·rw [Int.natCast_add,Int.add_assoc]
  ·rw [List.length_cons];omega
def layA (F:Int) (H:Nat) (gen:Int) (list:List (List UInt8)) (k:Nat):List Deed:=zerosD F H++([.flush]++recsD gen F 0 (list.take k))
theorem layD_eq (H:Nat) (which gen:Int) (list:List (List UInt8)):layD H which gen list=layA (which*H) H gen list list.length++[.flush,.put (which*H) (markOf gen 0 (list.headD [])),.flush]:=by
 unfold layD layA
 rw [List.take_length]
 simp only [List.append_assoc]
theorem layA_succ (F:Int) (H:Nat) (gen:Int) (list:List (List UInt8)) (k:Nat) (hk:k<list.length):layA F H gen list (k+1)=layA F H gen list k++recD (F+posN (list.take k)) gen k list[k]:=by
 unfold layA
 have e:list.take (k+1)=list.take k++[list[k]]:=by rw [List.take_add_one,List.getElem?_eq_getElem hk];rfl
 rw [e,recsD_append]
 have e2:0+(list.take k).length=k:=by rw [List.length_take];omega
 rw [e2]
 simp only [recsD,List.append_nil,List.append_assoc]
theorem layA_zero (F:Int) (H:Nat) (gen:Int) (list:List (List UInt8)):layA F H gen list 0=zerosD F H++[.flush]:=by simp [layA,recsD]
theorem layA_pre (H:Nat) (which gen:Int) (list:List (List UInt8)) (k:Nat):∃ r,layD H which gen list=layA (which*H) H gen list k++r:=by
 rw [layD_eq]
 unfold layA
 rw [List.take_length]
 refine⟨recsD gen (which*H+posN (list.take k)) (0+(list.take k).length) (list.drop k)++[.flush,.put (which*H) (markOf gen 0 (list.headD [])),.flush],?_⟩
 have e:=recsD_append gen (list.take k) (list.drop k) (which*H) 0
 rw [List.take_append_drop] at e
 rw [e]
 simp only [List.append_assoc]
theorem zerosD_succ (F:Int) (H k:Nat) (hk:k<H):(zerosD F H).take (k+1)=(zerosD F H).take k++[.put (F+k) zeroS]:=by
 unfold zerosD
 rw [List.take_add_one,List.getElem?_map,List.getElem?_range hk]
 rfl
theorem zerosD_all (F:Int) (H k:Nat) (hk:H≤k):(zerosD F H).take k=zerosD F H:=List.take_of_length_le (by unfold zerosD;simpa using hk)
theorem run_split {d d':DiskP} {xs ys zs r:List Deed} (hz:zs=xs++(ys++r)) (h:run d xs=(d',0)) (hb:(run d' ys).2≠0):run d zs=run d' ys:=by
 have h1:run d (xs++ys)=run d' ys:=by rw [WalP.run_append,h];simp
 rw [hz,← List.append_assoc,WalP.run_append,if_neg (by rw [h1];exact hb),h1]
theorem run_good2 {d d':DiskP} {xs ys:List Deed} (h:run d xs=(d',0)):run d (xs++ys)=run d' ys:=by rw [WalP.run_append,h];simp
theorem run_ok {d:DiskP} {xs:List Deed} (h:(run d xs).2=0):run d xs=((run d xs).1,0):=by rw [← h]
end WalP
end
section
namespace KvP
open PackP WalP
structure StoreP where
 log:LogP
 pairs:List PairP
def store0:StoreP:=⟨log0,[]⟩
def rightS (d:DiskP) (s:StoreP):Bool:=rightL d s.log&&pairsB s.pairs
def formatK (d:DiskP):DiskP×StoreP×Int:=((formatP d (snapP [])).1,⟨(formatP d (snapP [])).2.1,[]⟩,(formatP d (snapP [])).2.2)
def playedP:List (List UInt8)→List PairP→List PairP×Int
 | [],l=>(l,0)
 | b :: bs,l=>if (decodeP b).2=0 then (if pairsB (doP l (decodeP b).1) then playedP bs (doP l (decodeP b).1) else ([],3)) else ([],3)
def openK (d:DiskP):DiskP×StoreP×Int :=
 let x:=openP d
 if x.2.2.2=0 then (if (playedP x.2.2.1 []).2=0 then (x.1,⟨x.2.1,(playedP x.2.2.1 []).1⟩,0) else (x.1,store0,3)) else (x.1,store0,x.2.2.2)
def commitK (d:DiskP) (s:StoreP) (l:List ChangeP):DiskP×StoreP×Int :=
 if changesB l&&rightS d s then
  (if (encodeP l).2=0 then
   (if pairsB (doP s.pairs l) then
    let x:=appendP d s.log (encodeP l).1
    let y:=if x.2.2=8 then compactP d s.log (snapP (doP s.pairs l)) else x
    if y.2.2=0 then (y.1,⟨y.2.1,doP s.pairs l⟩,0) else (y.1,s,y.2.2)
   else (d,s,8))
  else (d,s,(encodeP l).2))
 else (d,s,1)
theorem played_two (l:List PairP):∀ (a b:List (List UInt8)) (x:List PairP),playedP a x=(l,0)→playedP (a++b) x=playedP b l:=by
 intro a
 induction a with
 | nil =>
  intro b x h
  cases h
  rfl
 | cons c a ih =>
  intro b x h
  rw [List.cons_append]
  rw [playedP] at h ⊢
  by_cases h1:(decodeP c).2=0
  ·rw [if_pos h1] at h ⊢
   by_cases h2:pairsB (doP x (decodeP c).1)=true
   ·rw [if_pos h2] at h ⊢
    exact ih b _ h
   ·rw [if_neg h2] at h
    cases h
  ·rw [if_neg h1] at h
   cases h
theorem played_snoc {a:List (List UInt8)} {x l:List PairP} {c:List ChangeP} (h:playedP a x=(l,0)) (hc:changesB c=true) (hp:pairsB (doP l c)=true):playedP (a++[bytesP c]) x=(doP l c,0):=by
 rw [played_two l a [bytesP c] x h,playedP,decode_bytes hc]
 simp only [if_true]
 rw [if_pos hp]
 rfl
theorem pairsB_parts {l:List PairP} (h:pairsB l=true):l.length≤400∧(∀ p∈l,mayP p.key p.val=true)∧Rising l:=by
 unfold pairsB at h
 simp only [Bool.and_eq_true,decide_eq_true_eq,List.all_eq_true] at h
 exact⟨h.1.1,h.1.2,h.2⟩
theorem pairsB_of {l:List PairP} (h1:l.length≤400) (h2:∀ p∈l,mayP p.key p.val=true) (h3:Rising l):pairsB l=true:=by
 unfold pairsB
 simp only [Bool.and_eq_true,decide_eq_true_eq,List.all_eq_true]
 exact⟨⟨h1,h2⟩,h3⟩
end KvP
end
section
namespace KvP
theorem rising_step {l:List PairP} (h:∀ i (hi:i+1<l.length),l[i].key<l[i+1].key):∀ (d i:Nat) (hi:i+d+1<l.length),l[i].key<l[i+d+1].key
 | 0,i,hi=>h i hi
 | d+1,i,hi=>lt_trans3 (rising_step h d i (by omega)) (h (i+d+1) (by omega))
theorem rising_iff {l:List PairP}:Rising l↔∀ i (hi:i+1<l.length),l[i].key<l[i+1].key:=by
 constructor
 ·intro h i hi
  exact (List.pairwise_iff_getElem.1 h) i (i+1) (by omega) hi (by omega)
 ·intro h
  refine List.pairwise_iff_getElem.2 (fun i j hi hj hij=>?_)
  have:=rising_step h (j-i-1) i (by omega)
  have e:i+(j-i-1)+1=j:=by omega
  simpa only [e] using this
def goodAt (l:List PairP) (i:Nat) (p:PairP):Bool:=decide (i<400)&&mayP p.key p.val&&(decide (i=0) || match l[i-1]? with | some q=>decide (q.key<p.key) | none=>true)
theorem pairsB_iff {l:List PairP}:pairsB l=true↔∀ i (hi:i<l.length),goodAt l i l[i]=true:=by
 constructor
 ·intro h i hi
  obtain⟨h1,h2,h3⟩:=pairsB_parts h
  unfold goodAt
  rw [decide_eq_true (show i<400 by omega),h2 _ (List.getElem_mem hi)]
  simp only [Bool.true_and]
  by_cases h0:i=0
  ·simp [h0]
  ·rw [List.getElem?_eq_getElem (show i-1<l.length by omega)]
   simp only
   have:=(rising_iff.1 h3) (i-1) (by omega)
   have e:i-1+1=i:=by omega
   simp only [e] at this
   rw [decide_eq_true this]
   simp
 ·intro h
  refine pairsB_of ?_ (fun p hp=>?_) (rising_iff.2 (fun i hi=>?_))
  ·by_cases h0:l.length≤400
   ·exact h0
   ·have:=h 400 (by omega)
    unfold goodAt at this
    simp at this
  ·obtain⟨i,hi,rfl⟩:=List.getElem_of_mem hp
   have:=h i hi
   unfold goodAt at this
   simp only [Bool.and_eq_true] at this
   exact this.1.2
  ·have:=h (i+1) hi
   unfold goodAt at this
   simp only [Bool.and_eq_true,Nat.add_sub_cancel,List.getElem?_eq_getElem (show i<l.length by omega),Bool.or_eq_true,decide_eq_true_eq] at this
   rcases this.2 with h2 | h2
   ·omega
   ·exact h2
end KvP
end
section
open Go.RowKit
section
variable {P:Program} {ops:Array Oper} {l:List Oper} {Q:Exit→Act→World→Prop} {md:Region.Mode} {S:World→Prop} {w:World} {L:Act→World→Prop} {i:Nat} {r:List (Bool×Nat)} {o:Oper} {a:Act}
def nth:List Oper→Nat→Option Oper
 | [],_=>none
 | o :: _,0=>some o
 | _ :: l,n+1=>nth l n
theorem nth_eq:∀ (l:List Oper) (i:Nat),nth l i=l.toArray[i]?
 | [],i=>by simp [nth]
 | o :: l,0=>by simp [nth]
 | o :: l,i+1=>by
  have:=nth_eq l i
  simp only [nth,this]
  simp
def heldI (P:Program) (l:List Oper) (Q:Exit→Act→World→Prop) (S:World→Prop) (L:Act→World→Prop):List (Bool×Nat)→Act→World→Prop
 | [],a,w=>L a w
 | (false,i) :: r,a,w=>∃ o v,nth l i=some o∧YieldsIf P l.toArray S o v a∧heldI P l Q S L r (a.put o.dst v) w
 | (true,i) :: r,a,w=>∃ o,nth l i=some o∧∀ K':Act→World→Prop,(∀ a' w',S w'→heldI P l Q S L r a' w'→K' a' w')→if Region.wanted o (yielded l.toArray a.tmps)=true then Oper.wp P o a w K' Q else K' (a.put o.dst undef) w
theorem zN (h:L a w):heldI P l Q S L [] a w:=h
theorem zT (ho:nth l i=some o) (v:Value) (hw:Region.wanted o (yielded l.toArray a.tmps)=true) (h:∀ w,S w→(execOp a.eval o).run P w = .ok (.value v) w)
  (k:heldI P l Q S L r (a.put o.dst v) w):heldI P l Q S L ((false,i) :: r) a w:=⟨o,v,ho,.inl ⟨hw,h⟩,k⟩
theorem zS (ho:nth l i=some o) (hw:Region.wanted o (yielded l.toArray a.tmps)=false)
  (k:heldI P l Q S L r (a.put o.dst undef) w):heldI P l Q S L ((false,i) :: r) a w:=⟨o,undef,ho,.inr ⟨hw,rfl⟩,k⟩
theorem run_load_op (x:Operand) (t:TypeId) (ho:o.op = .load t x) {ad:Addr} {v:Value} (hx:a.eval x = .pointer (some ad)) (hl:(loadVar t ad).run P w = .ok v w):(execOp a.eval o).run P w = .ok (.value v) w:=by
 unfold execOp
 simp only [ho,hx,Instr.loadAt,Instr.sureAddr,Sem.run_bind,Sem.run_pure,Result.andThen_ok,hl]
theorem heldI_load (ho:nth l i=some o) (x:Operand) (t:TypeId) (hw:Region.wanted o (yielded l.toArray a.tmps)=true) (hop:o.op = .load t x) {ad:Addr} {v:Value} (hx:a.eval x = .pointer (some ad))
  (hl:∀ w,S w→(loadVar t ad).run P w = .ok v w) (k:heldI P l Q S L r (a.put o.dst v) w):heldI P l Q S L ((false,i) :: r) a w :=
 zT ho v hw (fun w hS=>run_load_op x t hop hx (hl w hS)) k
theorem heldI_pass (ho:nth l i=some o) (hw:Region.wanted o (yielded l.toArray a.tmps)=false) (hS:S w)
  (k:heldI P l Q S L r (a.put o.dst undef) w):heldI P l Q S L ((true,i) :: r) a w:=⟨o,ho,fun K' hK=>by
 rw [if_neg (by rw [hw];simp)]
 exact hK _ _ hS k⟩
theorem zA (ho:nth l i=some o) (hw:Region.wanted o (yielded l.toArray a.tmps)=true)
  (h:∀ K':Act→World→Prop,Shut (∀ a' w',S w'→heldI P l Q S L r a' w'→K' a' w')→Oper.wp P o a w K' Q):heldI P l Q S L ((true,i) :: r) a w:=⟨o,ho,fun K' hK=>by
 rw [if_pos hw]
 exact h K' hK⟩
def checkI (md:Region.Mode) (ops:Array Oper):List (Bool×Nat)→Array Bool→Option (Array Bool)
 | [],listed=>some listed
 | (false,i) :: r,listed=>if (Region.ready md ops listed).contains i&&Region.free md ops listed i then checkI md ops r (listed.setIfInBounds i true) else none
 | (true,i) :: r,listed=>if Region.ready md ops listed=[i] then checkI md ops r (listed.setIfInBounds i true) else none
theorem wpAnyH_I {fuel:Nat} (hs:Region.noSelect l.toArray=true) (hQ:∀ c d v a w,Q (.panic c) (Act.put a d v) w→Q (.panic c) a w) {listed':Array Bool} (hL:∀ a w,S w→L a w→wpAnyH P md l.toArray Q S fuel listed' a w)
  (is:List (Bool×Nat)):∀ (listed:Array Bool) (a:Act) (w:World),checkI md l.toArray is listed=some listed'→S w →
  heldI P l Q S L is a w→wpAnyH P md l.toArray Q S (is.length+fuel) listed a w:=by
 induction is with
 | nil =>
  intro listed a w hB hS h
  simp only [checkI,Option.some.injEq] at hB
  subst hB
  simpa using hL a w hS h
 | cons x is ih =>
  intro listed a w hB hS h
  have e:(x :: is).length+fuel=(is.length+fuel)+1:=by simp;omega
  rw [e]
  obtain⟨b,i⟩:=x
  cases b with
  | false =>
   obtain⟨o,v,h0,hy,hk⟩:=h
   rw [nth_eq] at h0
   simp only [checkI] at hB
   split at hB
   ·rename_i hc
    simp only [Bool.and_eq_true] at hc
    exact wpAnyH_take h0 hs hc.2 hc.1 (fun c a w=>hQ c _ _ a w) hy hS (ih _ _ _ hB hS hk)
   ·cases hB
  | true =>
   obtain⟨o,h0,h⟩:=h
   rw [nth_eq] at h0
   simp only [checkI] at hB
   split at hB
   ·rename_i hr
    refine wpAnyH_ready (fuel:=is.length+fuel) hr (by simp) (.cons h0 (fun K' hK=>h K' fun a' w' hS' hr'=>?_) .nil)
    exact hK.out a' w' hS' fun _=>ih _ a' w' hB hS' hr'
   ·cases hB
theorem wpAnyH_end {fuel:Nat} {listed:Array Bool} (is:List (Bool×Nat)) (hB:(Region.noSelect l.toArray&&decide (is.length≤fuel)&&(checkI md l.toArray is listed).any fun x=>(Region.ready md l.toArray x).isEmpty)=true) (hS:S w)
  (h:heldI P l (NoPanic Q) S (fun a w=>Q .normal a w) is a w):wpAnyH P md l.toArray (NoPanic Q) S fuel listed a w:=by
 simp only [Bool.and_eq_true,decide_eq_true_eq,Option.any_eq_true] at hB
 obtain⟨⟨h1,h2⟩,x,hx,h3⟩:=hB
 have:=wpAnyH_I (P:=P) (l:=l) (Q:=NoPanic Q) (md:=md) (S:=S) (fuel:=fuel-is.length) h1 (fun _ _ _ _ _ h=>h) (listed':=x)
  (L:=fun a w=>Q .normal a w) (fun a w _ hq=>wpAnyH_done (by simpa [List.isEmpty_iff] using h3) (NoPanic.normal hq) _) is listed a w hx hS h
 rwa [show is.length+(fuel-is.length)=fuel by omega] at this
theorem wpAnyH_part {fuel:Nat} {listed:Array Bool} (is:List (Bool×Nat)) (hB:(Region.noSelect l.toArray&&decide (is.length≤fuel)&&(checkI md l.toArray is listed).isSome)=true) (hS:S w)
  (h:heldI P l (NoPanic Q) S (fun a w=>wpAnyH P md l.toArray (NoPanic Q) S (fuel-is.length) ((checkI md l.toArray is listed).getD #[]) a w) is a w):wpAnyH P md l.toArray (NoPanic Q) S fuel listed a w:=by
 simp only [Bool.and_eq_true,decide_eq_true_eq,Option.isSome_iff_exists] at hB
 obtain⟨⟨h1,h2⟩,x,hx⟩:=hB
 rw [hx] at h
 have:=wpAnyH_I (P:=P) (l:=l) (Q:=NoPanic Q) (md:=md) (S:=S) (fuel:=fuel-is.length) h1 (fun _ _ _ _ _ h=>h) (listed':=x)
  (L:=fun a w=>wpAnyH P md l.toArray (NoPanic Q) S (fuel-is.length) x a w) (fun a w _ hq=>hq) is listed a w hx hS h
 rwa [show is.length+(fuel-is.length)=fuel by omega] at this
theorem wp_region_start {id:Nat} (S:World→Prop) (hm:P.follows .mixedOrders=true) (hS:S w.drew)
  (h:wpAnyH P .any l.toArray (NoPanic Q) S l.length (Array.replicate l.length false) a w.drew):(Code.region id l.toArray true).wp P Q a w :=
 wp_region_noPanic (wp_region_held_drew (S:=S) hm hS fun _=>by simpa using h)
theorem zI {id:Nat} (is:List (Bool×Nat)) (S:World→Prop) (hm:P.follows .mixedOrders=true) (hB:(Region.noSelect l.toArray&&decide (is.length≤l.length)&&(checkI .any l.toArray is (Array.replicate l.length false)).any fun x=>(Region.ready .any l.toArray x).isEmpty)=true)
  (hS:S w.drew) (h:heldI P l (NoPanic Q) S (fun a w=>Q .normal a w) is a w.drew):(Code.region id l.toArray true).wp P Q a w :=
 wp_region_start S hm hS (wpAnyH_end is hB hS h)
theorem zR {fuel:Nat} {listed:Array Bool} {rs:List Nat} (ho:nth l i=some o) (hw:Region.wanted o (yielded l.toArray a.tmps)=true)
  (h:∀ K':Act→World→Prop,Shut (∀ a w,S w→wpAnyH P md l.toArray Q S fuel (listed.setIfInBounds i true) a w→K' a w)→Oper.wp P o a w K' Q)
  (hs:AllReadyH P md l.toArray Q S fuel listed a w rs):AllReadyH P md l.toArray Q S fuel listed a w (i :: rs):=by
 rw [nth_eq] at ho
 refine .cons ho (fun K' hK=>?_) hs
 rw [if_pos hw]
 exact h K' fun a w hS hr=>hK.out a w hS fun _=>hr
theorem wp_region_P {id:Nat} (is:List (Bool×Nat)) (S:World→Prop) (hm:P.follows .mixedOrders=true) (hB:(Region.noSelect l.toArray&&decide (is.length=l.length)&&(checkI .any l.toArray is (Array.replicate l.length false)).any fun x=>(Region.ready .any l.toArray x).isEmpty)=true)
  (hQ:∀ c d v a w,Q (.panic c) (Act.put a d v) w→Q (.panic c) a w)
  (hS:S w.drew) (h:heldI P l Q S (fun a w=>Q .normal a w) is a w.drew):(Code.region id l.toArray true).wp P Q a w:=by
 simp only [Bool.and_eq_true,decide_eq_true_eq,Option.any_eq_true] at hB
 obtain⟨⟨h1,h2⟩,x,hx,h3⟩:=hB
 refine wp_region_held_drew (S:=S) hm hS fun _=>?_
 have:=wpAnyH_I (P:=P) (l:=l) (Q:=Q) (md:=.any) (S:=S) (fuel:=0) h1 hQ (listed':=x)
  (L:=fun a w=>Q .normal a w) (fun a w _ hq=>wpAnyH_done (by simpa [List.isEmpty_iff] using h3) hq _) is (Array.replicate l.length false) a w.drew hx hS h
 rw [h2] at this
 simpa using this
theorem op_copy {K:Act→World→Prop} (hgd:o.guard=none) (d s:Operand) (dT sT:TypeId)
  (ho:o.op = .call { callee:=.builtin .copy,args:=#[d,s],argTypes:=#[dT,sT] }) (elem:TypeId) (hu:P.underlying dT=some (.slice elem)) (hsz:(P.info? elem).map (·.size)=some 1)
  (dp sp:Option Addr) (dLen dCap sLen sCap:Nat) (hd:a.eval d = .slice dp dLen dCap) (hs:a.eval s = .slice sp sLen sCap)
  (g off:Nat) (cur:List Value) (t:TypeId) (hg:w.heap[g]?=some (.cells cur.toArray t (0,0))) (cs:List Value) (hn:cs.length=Nat.min sLen dLen)
  (hpos:0<cs.length→dp=some ⟨g,off,none⟩∧∃ ad,sp=some ad∧∀ j v,cs[j]?=some v→w.cell? (ad.add j)=some v)
  (hfit:off+cs.length≤cur.length) (h1:∀ v∈cs,v.oneCell'=true)
  (h:∀ w',w'.heap[g]?=some (.cells (splice cur off cs).toArray t (0,0))→Below g w w'→w'.heap.size=w.heap.size→(∀ k,k≠g→w'.heap[k]?=w.heap[k]?)→K (a.put o.dst (goInt cs.length)) w'):Oper.wp P o a w K Q:=by
 by_cases h0:cs.length=0
 ·obtain rfl:cs=[]:=List.eq_nil_of_length_eq_zero h0
  have hrun:=run_copy_none (P:=P) w dT sT o.type elem dp sp dLen dCap sLen sCap hu hsz (by simpa using hn.symm)
  unfold Oper.wp
  simp [execOp,ho,resolve,invoke,builtin,hd,hs,hrun,Result.andThen]
  exact h w (by simpa [splice] using hg) (Below.refl _ _) rfl (fun _ _=>rfl)
 ·obtain⟨rfl,ad,rfl,hsrc⟩:=hpos (by omega)
  have hrun:=run_copy_row (P:=P) w dT sT o.type elem g off dLen dCap ad sLen sCap cur.toArray t cs hu hsz hg hn hsrc (by simpa using hfit) h1
  unfold Oper.wp
  simp [execOp,ho,resolve,invoke,builtin,hd,hs,hrun,Result.andThen]
  exact h _ (by simpa [splice] using setRow_heap w g _ _ t _ hg) (below_setRow (Below.refl _ _) (Nat.le_refl _) _) (by simp [World.setRow]) (fun k hk=>setRow_other w g k _ hk)
theorem wpAnyH_endQ {fuel:Nat} {listed:Array Bool} (is:List (Bool×Nat)) (hB:(Region.noSelect l.toArray&&decide (is.length≤fuel)&&(checkI md l.toArray is listed).any fun x=>(Region.ready md l.toArray x).isEmpty)=true) (hQ:∀ c d v a w,Q (.panic c) (Act.put a d v) w→Q (.panic c) a w) (hS:S w)
  (h:heldI P l Q S (fun a w=>Q .normal a w) is a w):wpAnyH P md l.toArray Q S fuel listed a w:=by
 simp only [Bool.and_eq_true,decide_eq_true_eq,Option.any_eq_true] at hB
 obtain⟨⟨h1,h2⟩,x,hx,h3⟩:=hB
 have:=wpAnyH_I (P:=P) (l:=l) (Q:=Q) (md:=md) (S:=S) (fuel:=fuel-is.length) h1 hQ (listed':=x)
  (L:=fun a w=>Q .normal a w) (fun a w _ hq=>wpAnyH_done (by simpa [List.isEmpty_iff] using h3) hq _) is listed a w hx hS h
 rwa [show is.length+(fuel-is.length)=fuel by omega] at this
theorem wpAnyH_partQ {fuel:Nat} {listed:Array Bool} (is:List (Bool×Nat)) (hB:(Region.noSelect l.toArray&&decide (is.length≤fuel)&&(checkI md l.toArray is listed).isSome)=true) (hQ:∀ c d v a w,Q (.panic c) (Act.put a d v) w→Q (.panic c) a w) (hS:S w)
  (h:heldI P l Q S (fun a w=>wpAnyH P md l.toArray Q S (fuel-is.length) ((checkI md l.toArray is listed).getD #[]) a w) is a w):wpAnyH P md l.toArray Q S fuel listed a w:=by
 simp only [Bool.and_eq_true,decide_eq_true_eq,Option.isSome_iff_exists] at hB
 obtain⟨⟨h1,h2⟩,x,hx⟩:=hB
 rw [hx] at h
 have:=wpAnyH_I (P:=P) (l:=l) (Q:=Q) (md:=md) (S:=S) (fuel:=fuel-is.length) h1 hQ (listed':=x)
  (L:=fun a w=>wpAnyH P md l.toArray Q S (fuel-is.length) x a w) (fun a w _ hq=>hq) is listed a w hx hS h
 rwa [show is.length+(fuel-is.length)=fuel by omega] at this
theorem wp_region_startQ {id:Nat} (S:World→Prop) (hm:P.follows .mixedOrders=true) (hS:S w.drew)
  (h:wpAnyH P .any l.toArray Q S l.length (Array.replicate l.length false) a w.drew):(Code.region id l.toArray true).wp P Q a w :=
 wp_region_held_drew (S:=S) hm hS fun _=>by simpa using h
theorem op_load {K:Act→World→Prop} (x:Operand) (t:TypeId) (ho:o.op = .load t x) {ad:Addr} {v:Value} (hx:a.eval x = .pointer (some ad)) (hl:(loadVar t ad).run P w = .ok v w) (h:K (a.put o.dst v) w):Oper.wp P o a w K Q:=by
 unfold Oper.wp
 rw [run_load_op x t ho hx hl]
 exact h
end
end
section
open Go.RowKit SumP
def TabAt (w:World):Prop:=∀ x:BitVec 32,x.toNat<16→w.cell? ⟨1,x.toNat,none⟩=some (.int .u32 (toI (tab x)))
theorem TabAt.below {B:Nat} {w w':World} (h:TabAt w) (hb:Below B w w') (hB:1<B):TabAt w' :=
 fun x hx=>(hb.cell (p:=⟨1,x.toNat,none⟩) hB).trans (h x hx)
set_option maxHeartbeats 400000 in
theorem half_raw (s v q t:Int) (w:World) (h0:0≤s) (h1:s<4294967296) (hq:bits .and .u32 s 15=q) (hq0:0≤q) (hq1:q<16)
  (ht:w.cell? ⟨1,q.toNat,none⟩=some (.int .u32 t)) (hv:bits .xor .u32 (s / 16) t=v) :
  Calls Tryz.prog 172 #[.int .u32 s] w fun e w'=>e = .returned (.int .u32 v)∧w=w':=by
 go_enter Tryz.func172,Tryz.ntmps172
 go_wp2
 go_ret
 exact⟨rfl,rfl⟩
theorem half_any (x:BitVec 32) (w:World) (ht:TabAt w) :
  Calls Tryz.prog 172 #[.int .u32 (toI x)] w fun e w'=>e = .returned (.int .u32 (toI (half x)))∧w=w':=by
 have hx:=toI_hi x
 have h15:=and15_lt x
 refine half_raw (toI x) _ (toI (x &&& 15#32)) (toI (tab (x &&& 15#32))) w (toI_lo x) hx ?_ (toI_lo _) (by unfold toI;omega) ?_ ?_
 ·exact bits_and x 15#32
 ·exact ht (x &&& 15#32) h15
 ·rw [shr4,bits_xor];rfl
theorem more_snoc (s:BitVec 32) (l:List UInt8) (b:UInt8):(l++[b]).foldl step1 s=half (half (l.foldl step1 s ^^^ byte b)):=by
 rw [List.foldl_append];rfl
theorem u32_u8 (b:UInt8):(b.toNat:Int)%4294967296=toI (byte b):=by
 have:=b.toNat_lt;unfold toI;rw [byte_toNat];omega
set_option maxHeartbeats 400000 in
theorem more_any (s:BitVec 32) (v:Value) (bs:List UInt8) (w:World) (B:Nat) (ht:TabAt w) (hr:Bytes B w v bs) :
  Calls Tryz.prog 152 #[.int .u32 (toI s),v] w fun e w'=>e = .returned (.int .u32 (toI (more s bs)))∧w=w':=by
 obtain⟨_,a,cap,rfl,hnc,hcap,hcells⟩:=hr
 unfold maxLen at hcap
 obtain⟨S0,hS0⟩:∃ S0,S0 = ~~~ s:=⟨_,rfl⟩
 have hn0:=not_eq s
 rw [← hS0] at hn0
 have HM:Hid (more s bs = ~~~ (bs.foldl step1 S0)):=by rw [hS0];exact rfl
 clear hS0
 have sgn:IntKind.u32.signed=false:=rfl
 go_enter Tryz.func152,Tryz.ntmps152
 go_wp2
 clear hn0
 go_loop [5,12] (fun t i=>∃ k:Nat,k≤bs.length∧i = .int .i64 k∧t = .int .u32 (toI ((bs.take k).foldl step1 S0))) (fun _ i=>bs.length-(intOf i).toNat)
 case atStart=>exact⟨0,Nat.zero_le _,rfl,rfl⟩
 case round =>
  obtain⟨k,hk,rfl,rfl⟩:=hrel
  by_cases hlt:k<bs.length
  ·obtain⟨b,off,rfl,hB,hc⟩:=hcells (by omega)
   have hcell:=hc k _ (u8s_at hlt)
   obtain⟨S,hS⟩:∃ S,S=(bs.take k).foldl step1 S0:=⟨_,rfl⟩
   obtain⟨X,hX⟩:∃ X,X=S ^^^ byte bs[k]:=⟨_,rfl⟩
   have hx:=bits_xor S (byte bs[k])
   rw [← hX] at hx
   have hz:=u32_u8 bs[k]
   have HS:Hid ((bs.take (k+1)).foldl step1 S0=half (half X)):=by
    rw [hX,hS,← more_snoc,← List.take_succ_eq_append_getElem hlt];exact rfl
   rw [← hS]
   clear hS hc hcells hX
   go_wp2_with (go_at_call 172;((with_reducible refine (half_any _ _ ht).mono ?_);rintro e w' ⟨rfl,rfl⟩))
   all_goals
    go_round
    case rel=>exact⟨k+1,by omega,by go_num,by rw [HS.out]⟩
    case measure=>simp [intOf];omega
  ·have hke:k=bs.length:=by omega
   subst hke
   rw [List.take_length]
   have hn1:=not_eq (bs.foldl step1 S0)
   go_wp2
   go_ret
   exact⟨ret_int (by rw [HM.out]),rfl⟩
theorem toI_0:toI 0#32=0:=by decide
theorem more0_any (v:Value) (bs:List UInt8) (w:World) (B:Nat) (ht:TabAt w) (hr:Bytes B w v bs) :
  Calls Tryz.prog 152 #[.int .u32 0,v] w fun e w'=>e = .returned (.int .u32 (toI (more 0#32 bs)))∧w=w':=by
 have h:=more_any 0#32 v bs w B ht hr
 rwa [toI_0] at h
set_option maxHeartbeats 400000 in
theorem sum_any (v:Value) (bs:List UInt8) (w:World) (B:Nat) (ht:TabAt w) (hr:Bytes B w v bs) :
  Calls Tryz.prog 133 #[v] w fun e w'=>e = .returned (.int .u32 (toI (sum bs)))∧w=w':=by
 go_enter Tryz.func133,Tryz.ntmps133
 go_wp2_with (go_at_call 152;((with_reducible refine (more0_any _ bs _ B ht hr).mono ?_);rintro e w' ⟨rfl,rfl⟩))
 go_ret
 exact⟨rfl,rfl⟩
theorem bit_snoc (k:Nat) (s:BitVec 32):bitN (k+1) s=bit (bitN k s):=by
 rw [← bitN_add k 1];rfl
theorem low_bit (s:BitVec 32):bits .and .u32 (toI s) 1=(if s.getLsbD 0=true then 1 else 0):=by
 have h:(1:Int)=toI 1#32:=by decide
 have e:(s &&& 1#32).toNat=s.toNat%2:=by rw [BitVec.toNat_and];exact Nat.and_one_is_mod _
 have e2:s.getLsbD 0=decide (s.toNat%2=1):=by rw [← BitVec.testBit_toNat,Nat.testBit_zero]
 conv=>lhs;rw [h]
 rw [bits_and,e2];unfold toI;rw [e]
 by_cases h1:s.toNat%2=1
 ·simp [h1]
 ·simp [h1];omega
set_option maxHeartbeats 1000000 in
theorem refMore_any (s:BitVec 32) (v:Value) (bs:List UInt8) (w:World) (B:Nat) (hr:Bytes B w v bs) :
  Calls Tryz.prog 155 #[.int .u32 (toI s),v] w fun e w'=>e = .returned (.int .u32 (toI (more s bs)))∧w=w':=by
 obtain⟨_,a,cap,rfl,hnc,hcap,hcells⟩:=hr
 unfold maxLen at hcap
 obtain⟨S0,hS0⟩:∃ S0,S0 = ~~~ s:=⟨_,rfl⟩
 have hn0:=not_eq s
 rw [← hS0] at hn0
 have HM:Hid (more s bs = ~~~ (bs.foldl step1 S0)):=by rw [hS0];exact rfl
 clear hS0
 have sgn:IntKind.u32.signed=false:=rfl
 go_enter Tryz.func155,Tryz.ntmps155
 go_wp2
 clear hn0
 go_loop [5,6] (fun t i=>∃ k:Nat,k≤bs.length∧i = .int .i64 k∧t = .int .u32 (toI ((bs.take k).foldl step1 S0))) (fun _ i=>bs.length-(intOf i).toNat)
 case atStart=>exact⟨0,Nat.zero_le _,rfl,rfl⟩
 case round =>
  obtain⟨k,hk,rfl,rfl⟩:=hrel
  by_cases hlt:k<bs.length
  ·obtain⟨b,off,rfl,hB,hc⟩:=hcells (by omega)
   have hcell:=hc k _ (u8s_at hlt)
   obtain⟨S,hS⟩:∃ S,S=(bs.take k).foldl step1 S0:=⟨_,rfl⟩
   obtain⟨X,hX⟩:∃ X,X=S ^^^ byte bs[k]:=⟨_,rfl⟩
   have hx:=bits_xor S (byte bs[k])
   rw [← hX] at hx
   have hz:=u32_u8 bs[k]
   have HS:Hid ((bs.take (k+1)).foldl step1 S0=bitN 8 X):=by
    rw [hX,hS,List.take_succ_eq_append_getElem hlt,List.foldl_append,List.foldl_cons,List.foldl_nil,step1_eq];exact rfl
   rw [← hS]
   clear hS hc hcells hX
   go_wp2
   clear hx hz hcell
   go_loop [5,7] (fun t i=>∃ j:Nat,j≤8∧i = .int .i64 j∧t = .int .u32 (toI (bitN j X))) (fun _ i=>8-(intOf i).toNat)
   case atStart=>exact⟨0,Nat.zero_le _,rfl,rfl⟩
   case round =>
    obtain⟨j,hj,rfl,rfl⟩:=hrel
    by_cases hjl:j<8
    ·obtain⟨Y,hY⟩:∃ Y,Y=bitN j X:=⟨_,rfl⟩
     have HY:Hid (bitN (j+1) X=bit Y):=by rw [hY,bit_snoc];exact rfl
     rw [← hY]
     clear hY
     have hl:=low_bit Y
     have hs:=shr1 Y
     have hlo:=toI_lo Y
     obtain⟨Z,hZ⟩:∃ Z,Z=(Y >>> 1) ^^^ 0xedb88320#32:=⟨_,rfl⟩
     have hp:=bits_xor (Y >>> 1) 0xedb88320#32
     rw [show toI 0xedb88320#32=3988292384 by decide,← hZ] at hp
     obtain⟨V,hV⟩:∃ V,V=Y >>> 1:=⟨_,rfl⟩
     rw [← hV] at hp hs
     have HB:Hid (bit Y=if Y.getLsbD 0=true then Z else V):=by
      unfold bit;rw [hZ,hV];cases Y.getLsbD 0 <;> simp <;> exact trivial
     clear hZ hV
     cases hg:Y.getLsbD 0 with
     | true =>
      rw [hg,if_pos rfl] at hl
      have HB':Hid (bit Y=Z):=by rw [HB.out,hg,if_pos rfl];exact rfl
      clear HB hg
      go_wp2
      all_goals
       go_round
       case rel=>exact⟨j+1,by omega,by go_num,by rw [HY.out,HB'.out]⟩
       case measure=>simp [intOf];omega
     | false =>
      rw [hg,if_neg (by decide)] at hl
      have HB':Hid (bit Y=V):=by rw [HB.out,hg,if_neg (by decide)];exact rfl
      clear HB hg
      go_wp2
      all_goals
       go_round
       case rel=>exact⟨j+1,by omega,by go_num,by rw [HY.out,HB'.out]⟩
       case measure=>simp [intOf];omega
    ·have hje:j=8:=by omega
     subst hje
     go_wp2
     all_goals
      go_round
      case rel=>exact⟨k+1,by omega,by go_num,by rw [HS.out]⟩
      case measure=>simp [intOf];omega
  ·have hke:k=bs.length:=by omega
   subst hke
   rw [List.take_length]
   have hn1:=not_eq (bs.foldl step1 S0)
   go_wp2
   go_ret
   exact⟨ret_int (by rw [HM.out]),rfl⟩
theorem refMore0_any (v:Value) (bs:List UInt8) (w:World) (B:Nat) (hr:Bytes B w v bs) :
  Calls Tryz.prog 155 #[.int .u32 0,v] w fun e w'=>e = .returned (.int .u32 (toI (more 0#32 bs)))∧w=w':=by
 have h:=refMore_any 0#32 v bs w B hr
 rwa [toI_0] at h
theorem refSum_any (v:Value) (bs:List UInt8) (w:World) (B:Nat) (hr:Bytes B w v bs) :
  Calls Tryz.prog 138 #[v] w fun e w'=>e = .returned (.int .u32 (toI (sum bs)))∧w=w':=by
 go_enter Tryz.func138,Tryz.ntmps138
 go_wp2_with (go_at_call 155;((with_reducible refine (refMore0_any _ bs _ B hr).mono ?_);rintro e w' ⟨rfl,rfl⟩))
 go_ret
 exact⟨rfl,rfl⟩
end
section
open Go.RowKit WalP
set_option maxRecDepth 100000 in
theorem takes_any (n:Int) (w:World):Calls Tryz.prog 104 #[.int .i64 n] w fun e w'=>e = .returned (.int .i64 (takesZ n))∧w=w':=by
 by_cases h1:n<1
 ·have hf:takesZ n=0:=by unfold takesZ;rw [if_pos (.inl h1)]
  have t0:decide (n<1)=true:=by simp;omega
  rw [hf]
  clear hf h1
  go_enter Tryz.func104,Tryz.ntmps104
  go_wp2
  go_ret
  exact⟨rfl,rfl⟩
 ·have t0:decide (n<1)=false:=by simp;omega
  by_cases h2:6000<n
  ·have hf:takesZ n=0:=by unfold takesZ;rw [if_pos (.inr h2)]
   have t1:decide (6000<n)=true:=by simp;omega
   rw [hf]
   clear hf h1 h2
   go_enter Tryz.func104,Tryz.ntmps104
   go_wp2
   go_ret
   exact⟨rfl,rfl⟩
  ·have t1:decide (6000<n)=false:=by simp;omega
   have hf:takesZ n=1+(n+63) / 64:=by unfold takesZ;rw [if_neg (by omega)]
   have HF:=zh hf
   clear hf
   go_enter Tryz.func104,Tryz.ntmps104
   go_wp2
   go_ret
   refine⟨ret_int ?_,rfl⟩
   rw [HF.out]
   omega
set_option maxRecDepth 100000 in
theorem walHalf_any {B:Nat} (v:Value) (d:DiskP) (w:World) (h:DiskV B w v d) :
  Calls Tryz.prog 96 #[v] w fun e w'=>e = .returned (.int .i64 (half d:Nat))∧Below w.heap.size w w':=by
 obtain⟨a1,n1,a2,n2,rfl,hs,hl⟩:=h.parts
 have hcs:=hs.2
 obtain⟨_,_,_,hv,hnc,hcap1,_⟩:=hcs
 cases hv
 unfold maxLen at hcap1
 have hb:Below w.heap.size w (w.alloc (.cells #[.slice a1 d.secs.length n1,.slice a2 d.loose.length n2,.int .i64 d.fuse,.bool d.down] 38)):=Below.alloc (Below.refl _ _) (Nat.le_refl _) _
 obtain⟨L,hL⟩:∃ L,L=d.secs.length:=⟨_,rfl⟩
 have hh:half d=L / 2:=by unfold half;rw [hL]
 rw [hh]
 rw [← hL] at hb hnc ⊢
 have HL:=zh hL
 clear hL hh hs hl h
 go_enter Tryz.func96,Tryz.ntmps96
 go_wp2
 go_ret
 exact⟨ret_int (by omega),hb⟩
def logV (l:LogP):Value:=.agg #[.int .i64 l.half,.int .i64 l.gen,.int .i64 l.used,.int .i64 l.count]
end
section
open Go.RowKit
theorem andNot1 (x:BitVec 64):x &&& ~~~1#64=(x >>> 1) <<< 1:=by
 apply BitVec.eq_of_getLsbD_eq
 intro i hi
 simp only [BitVec.getLsbD_and,BitVec.getLsbD_not,BitVec.getLsbD_shiftLeft,BitVec.getLsbD_ushiftRight,BitVec.getLsbD_one,hi,decide_true,Bool.true_and]
 by_cases h0:i=0
 ·subst h0;simp
 ·have e:1+(i-1)=i:=by omega
  simp [h0,e]
theorem half_bit (h:Int) (h0:-9223372036854775808≤h) (h1:h≤9223372036854775807):(bits .andNot .i64 h 1 == 0)=(decide (h=0) || decide (h=1)):=by
 have e1:BitVec.ofInt 64 1=1#64:=by decide
 simp only [bits,IntKind.bits,e1,andNot1]
 have ex:(BitVec.ofInt 64 h).toNat=(h%18446744073709551616).toNat:=by simp [BitVec.toNat_ofInt]
 have e2:(((BitVec.ofInt 64 h) >>> 1) <<< 1).toNat=(h%18446744073709551616).toNat / 2*2:=by
  rw [BitVec.toNat_shiftLeft,BitVec.toNat_ushiftRight,ex,Nat.shiftRight_eq_div_pow,Nat.shiftLeft_eq]
  omega
 have e3:∀ x:Nat,x=(((BitVec.ofInt 64 h) >>> 1) <<< 1).toNat→(IntKind.i64.wrap (x:Int) == 0)=(decide (h=0) || decide (h=1)):=by
  intro x hx
  rw [e2] at hx
  subst hx
  simp only [IntKind.wrap,IntKind.bits,IntKind.signed]
  rw [Bool.eq_iff_iff]
  simp
  omega
 exact e3 _ (congrArg BitVec.toNat (andNot1 (BitVec.ofInt 64 h)))
end
section
open Go.RowKit WalP
def boxes (w:World) (A:Array Value) (l:LogP):World:=(w.alloc (.cells A 38)).alloc (.cells #[.int .i64 l.half,.int .i64 l.gen,.int .i64 l.used,.int .i64 l.count] 41)
theorem boxes_below (w:World) (A:Array Value) (l:LogP):Below w.heap.size w (boxes w A l):=Below.alloc (Below.alloc (Below.refl _ _) (Nat.le_refl _) _) (by simp) _
theorem boxes_cells {w w':World} {A:Array Value} {l:LogP} (hb:Below (boxes w A l).heap.size (boxes w A l) w'):w'.heap[w.heap.size]?=some (.cells A 38 (0,0)) ∧
  w'.heap[w.heap.size+1]?=some (.cells #[.int .i64 l.half,.int .i64 l.gen,.int .i64 l.used,.int .i64 l.count] 41 (0,0)):=by
 have e:(boxes w A l).heap.size=w.heap.size+2:=by simp [boxes]
 exact⟨(hb.block _ (by omega)).trans (heap_alloc2_old w _ _),(hb.block _ (by omega)).trans (heap_alloc2_new w _ _)⟩
set_option maxRecDepth 100000 in
set_option maxHeartbeats 1000000 in
theorem walRight_any {B:Nat} (v:Value) (d:DiskP) (l:LogP) (w:World) (h:DiskV B w v d) (hl0:-9223372036854775808≤l.half∧l.half≤9223372036854775807) :
  Calls Tryz.prog 67 #[v,logV l] w fun e w'=>e = .returned (.bool (rightL d l))∧Below w.heap.size w w':=by
 obtain⟨a1,n1,a2,n2,rfl,hs,hl⟩:=h.tight.parts
 have hbit:=half_bit l.half hl0.1 hl0.2
 obtain⟨w2,hw2⟩:∃ w2,w2=boxes w #[.slice a1 d.secs.length n1,.slice a2 d.loose.length n2,.int .i64 d.fuse,.bool d.down] l:=⟨_,rfl⟩
 have hdv:DiskV w.heap.size w (.agg #[.slice a1 d.secs.length n1,.slice a2 d.loose.length n2,.int .i64 d.fuse,.bool d.down]) d:=⟨_,_,rfl,hs,hl⟩
 have hb2:Below w.heap.size w w2:=by rw [hw2];exact boxes_below w _ l
 have hD:∀ w',Below w2.heap.size w2 w'→DiskV w2.heap.size w' (.agg #[.slice a1 d.secs.length n1,.slice a2 d.loose.length n2,.int .i64 d.fuse,.bool d.down]) d:=fun w' hb=>(hdv.below hb2).tight.below hb
 have hC:∀ w',Below w2.heap.size w2 w'→_:=fun w' hb=>boxes_cells (w:=w) (w':=w') (l:=l) (by rw [← hw2];exact hb)
 have hA0:∀ w',Below w2.heap.size w2 w'→_:=fun w' hb=>cR w' _ 0 _ _ _ (hC w' hb).1
 have hA1:∀ w',Below w2.heap.size w2 w'→_:=fun w' hb=>cR w' _ 1 _ _ _ (hC w' hb).1
 have hA2:∀ w',Below w2.heap.size w2 w'→_:=fun w' hb=>cR w' _ 2 _ _ _ (hC w' hb).1
 have hA3:∀ w',Below w2.heap.size w2 w'→_:=fun w' hb=>cR w' _ 3 _ _ _ (hC w' hb).1
 have hB0:∀ w',Below w2.heap.size w2 w'→_:=fun w' hb=>cR w' _ 0 _ _ _ (hC w' hb).2
 have hB1:∀ w',Below w2.heap.size w2 w'→_:=fun w' hb=>cR w' _ 1 _ _ _ (hC w' hb).2
 have hB2:∀ w',Below w2.heap.size w2 w'→_:=fun w' hb=>cR w' _ 2 _ _ _ (hC w' hb).2
 have hB3:∀ w',Below w2.heap.size w2 w'→_:=fun w' hb=>cR w' _ 3 _ _ _ (hC w' hb).2
 have hF:∀ w',Below w2.heap.size w2 w'→Below w.heap.size w w':=fun w' hb=>hb2.trans (hb.mono hb2.size)
 have HD:=zh hD
 have HF:=zh hF
 obtain⟨R,hR⟩:∃ R,R=rightB d:=⟨_,rfl⟩
 have kR:∀ w',Below w2.heap.size w2 w'→Calls Tryz.prog 90 #[.agg #[.slice a1 d.secs.length n1,.slice a2 d.loose.length n2,.int .i64 d.fuse,.bool d.down]] w' fun e w''=>e = .returned (.bool R)∧Below w2.heap.size w2 w'' :=
  fun w' hb=>(right_any _ d w' (hD w' hb)).mono fun e w'' hx=>⟨by rw [hR];exact hx.1,hb.trans (hx.2.mono hb.size)⟩
 have kH:∀ w',Below w2.heap.size w2 w'→Calls Tryz.prog 96 #[.agg #[.slice a1 d.secs.length n1,.slice a2 d.loose.length n2,.int .i64 d.fuse,.bool d.down]] w' fun e w''=>e = .returned (.int .i64 (half d:Nat))∧Below w2.heap.size w2 w'' :=
  fun w' hb=>(walHalf_any _ d w' (hD w' hb)).mono fun e w'' hx=>⟨hx.1,hb.trans (hx.2.mono hb.size)⟩
 have KR:=zh kR
 have KH:=zh kH
 have HB:=zh hbit
 have h00:Below w2.heap.size w2 w2.drew:=zD (Below.refl _ _) 1
 unfold boxes at hw2
 have HW:=zh hw2
 clear hC hD hF kR kH hbit hdv hb2 hs hl h hl0 hw2
 unfold logV
 have hr:rightL d l=(R&&(bits BinOp.andNot IntKind.i64 l.half 1 == 0)&&decide (1≤l.gen)&&decide (l.gen≤1099511627776)&&decide (2≤l.used)&&decide (l.used≤(half d:Nat))&&decide (1≤l.count)&&decide (l.count≤l.used)):=by rw [HB.out,hR];rfl
 obtain⟨c1,h1⟩:∃ c,(bits BinOp.andNot IntKind.i64 l.half 1 == 0)=c:=⟨_,rfl⟩
 obtain⟨c2,h2⟩:∃ c,decide (1≤l.gen)=c:=⟨_,rfl⟩
 obtain⟨c3,h3⟩:∃ c,decide (l.gen≤1099511627776)=c:=⟨_,rfl⟩
 obtain⟨c4,h4⟩:∃ c,decide (2≤l.used)=c:=⟨_,rfl⟩
 obtain⟨c5,h5⟩:∃ c,decide (l.used≤(half d:Nat))=c:=⟨_,rfl⟩
 obtain⟨c6,h6⟩:∃ c,decide (1≤l.count)=c:=⟨_,rfl⟩
 obtain⟨c7,h7⟩:∃ c,decide (l.count≤l.used)=c:=⟨_,rfl⟩
 rw [h1,h2,h3,h4,h5,h6,h7] at hr
 rw [hr]
 clear hr hR HB
 cases R with
 | false =>
  go_enter Tryz.func67,Tryz.ntmps67
  go_wp2_with fail
  rw [← HW.out]
  refine zI [(false,0),(true,1),(false,2),(false,3),(false,4),(false,5),(false,6),(false,7),(false,8),(false,9),(false,10),(false,11),(false,12),(false,13),(false,14),(false,15),(false,16),(false,17),(false,18),(false,19),(false,20),(false,21),(false,22),(false,23),(false,24),(false,25),(false,26),(true,27),(false,28),(false,29),(false,30),(false,31),(false,32),(false,33),(false,34),(false,35),(false,36),(false,37),(false,38),(false,39),(false,40),(false,41),(false,42)] (fun w'=>Below w2.heap.size w2 w') (by kernel_rfl) (by kernel_rfl) h00 ?_
  repeat (first | (refine zS rfl rfl ?_;simp only [Act.put,zq1,zq2,zq3]) | (refine zT rfl ?_ rfl (fun w' hw'=>?_) ?_;rotate_left;(go_simp;first | done | with_reducible rfl);(try simp only [Act.put,zq1,zq2,zq3])))
  refine zA rfl rfl fun K hK=>?_
  go_simp
  refine (KR.out _ ‹_›).mono ?_
  rintro e w5 ⟨rfl,hb5⟩
  refine hK.out _ _ hb5 ?_
  clear hK K h00
  repeat (first | (refine zS rfl rfl ?_;simp only [Act.put,zq1,zq2,zq3]) | (refine zT rfl ?_ rfl (fun w' hw'=>?_) ?_;rotate_left;(go_simp;first | done | with_reducible rfl);(try simp only [Act.put,zq1,zq2,zq3])))
  refine heldI_pass rfl rfl hb5 ?_
  simp only [Act.put,zq1,zq2,zq3]
  repeat (first | (refine zS rfl rfl ?_;simp only [Act.put,zq1,zq2,zq3]) | (refine zT rfl ?_ rfl (fun w' hw'=>?_) ?_;rotate_left;(go_simp;first | done | with_reducible rfl);(try simp only [Act.put,zq1,zq2,zq3])))
  refine zN ?_
  go_wp2_with fail
  go_ret
  exact⟨rfl,HF.out _ hb5⟩
 | true =>
  cases c1 with
  | false =>
   go_enter Tryz.func67,Tryz.ntmps67
   go_wp2_with fail
   rw [← HW.out]
   refine zI [(false,0),(true,1),(false,2),(false,3),(false,4),(false,5),(false,6),(false,7),(false,8),(false,9),(false,10),(false,11),(false,12),(false,13),(false,14),(false,15),(false,16),(false,17),(false,18),(false,19),(false,20),(false,21),(false,22),(false,23),(false,24),(false,25),(false,26),(true,27),(false,28),(false,29),(false,30),(false,31),(false,32),(false,33),(false,34),(false,35),(false,36),(false,37),(false,38),(false,39),(false,40),(false,41),(false,42)] (fun w'=>Below w2.heap.size w2 w') (by kernel_rfl) (by kernel_rfl) h00 ?_
   repeat (first | (refine zS rfl rfl ?_;simp only [Act.put,zq1,zq2,zq3]) | (refine zT rfl ?_ rfl (fun w' hw'=>?_) ?_;rotate_left;(go_simp;first | done | with_reducible rfl);(try simp only [Act.put,zq1,zq2,zq3])))
   refine zA rfl rfl fun K hK=>?_
   go_simp
   refine (KR.out _ ‹_›).mono ?_
   rintro e w5 ⟨rfl,hb5⟩
   refine hK.out _ _ hb5 ?_
   clear hK K h00
   repeat (first | (refine zS rfl rfl ?_;simp only [Act.put,zq1,zq2,zq3]) | (refine zT rfl ?_ rfl (fun w' hw'=>?_) ?_;rotate_left;(go_simp;first | done | with_reducible rfl);(try simp only [Act.put,zq1,zq2,zq3])))
   refine heldI_pass rfl rfl hb5 ?_
   simp only [Act.put,zq1,zq2,zq3]
   repeat (first | (refine zS rfl rfl ?_;simp only [Act.put,zq1,zq2,zq3]) | (refine zT rfl ?_ rfl (fun w' hw'=>?_) ?_;rotate_left;(go_simp;first | done | with_reducible rfl);(try simp only [Act.put,zq1,zq2,zq3])))
   refine zN ?_
   go_wp2_with fail
   go_ret
   exact⟨rfl,HF.out _ hb5⟩
  | true =>
   cases c2 with
   | false =>
    go_enter Tryz.func67,Tryz.ntmps67
    go_wp2_with fail
    rw [← HW.out]
    refine zI [(false,0),(true,1),(false,2),(false,3),(false,4),(false,5),(false,6),(false,7),(false,8),(false,9),(false,10),(false,11),(false,12),(false,13),(false,14),(false,15),(false,16),(false,17),(false,18),(false,19),(false,20),(false,21),(false,22),(false,23),(false,24),(false,25),(false,26),(true,27),(false,28),(false,29),(false,30),(false,31),(false,32),(false,33),(false,34),(false,35),(false,36),(false,37),(false,38),(false,39),(false,40),(false,41),(false,42)] (fun w'=>Below w2.heap.size w2 w') (by kernel_rfl) (by kernel_rfl) h00 ?_
    repeat (first | (refine zS rfl rfl ?_;simp only [Act.put,zq1,zq2,zq3]) | (refine zT rfl ?_ rfl (fun w' hw'=>?_) ?_;rotate_left;(go_simp;first | done | with_reducible rfl);(try simp only [Act.put,zq1,zq2,zq3])))
    refine zA rfl rfl fun K hK=>?_
    go_simp
    refine (KR.out _ ‹_›).mono ?_
    rintro e w5 ⟨rfl,hb5⟩
    refine hK.out _ _ hb5 ?_
    clear hK K h00
    repeat (first | (refine zS rfl rfl ?_;simp only [Act.put,zq1,zq2,zq3]) | (refine zT rfl ?_ rfl (fun w' hw'=>?_) ?_;rotate_left;(go_simp;first | done | with_reducible rfl);(try simp only [Act.put,zq1,zq2,zq3])))
    refine heldI_pass rfl rfl hb5 ?_
    simp only [Act.put,zq1,zq2,zq3]
    repeat (first | (refine zS rfl rfl ?_;simp only [Act.put,zq1,zq2,zq3]) | (refine zT rfl ?_ rfl (fun w' hw'=>?_) ?_;rotate_left;(go_simp;first | done | with_reducible rfl);(try simp only [Act.put,zq1,zq2,zq3])))
    refine zN ?_
    go_wp2_with fail
    go_ret
    exact⟨rfl,HF.out _ hb5⟩
   | true =>
    cases c3 with
    | false =>
     go_enter Tryz.func67,Tryz.ntmps67
     go_wp2_with fail
     rw [← HW.out]
     refine zI [(false,0),(true,1),(false,2),(false,3),(false,4),(false,5),(false,6),(false,7),(false,8),(false,9),(false,10),(false,11),(false,12),(false,13),(false,14),(false,15),(false,16),(false,17),(false,18),(false,19),(false,20),(false,21),(false,22),(false,23),(false,24),(false,25),(false,26),(true,27),(false,28),(false,29),(false,30),(false,31),(false,32),(false,33),(false,34),(false,35),(false,36),(false,37),(false,38),(false,39),(false,40),(false,41),(false,42)] (fun w'=>Below w2.heap.size w2 w') (by kernel_rfl) (by kernel_rfl) h00 ?_
     repeat (first | (refine zS rfl rfl ?_;simp only [Act.put,zq1,zq2,zq3]) | (refine zT rfl ?_ rfl (fun w' hw'=>?_) ?_;rotate_left;(go_simp;first | done | with_reducible rfl);(try simp only [Act.put,zq1,zq2,zq3])))
     refine zA rfl rfl fun K hK=>?_
     go_simp
     refine (KR.out _ ‹_›).mono ?_
     rintro e w5 ⟨rfl,hb5⟩
     refine hK.out _ _ hb5 ?_
     clear hK K h00
     repeat (first | (refine zS rfl rfl ?_;simp only [Act.put,zq1,zq2,zq3]) | (refine zT rfl ?_ rfl (fun w' hw'=>?_) ?_;rotate_left;(go_simp;first | done | with_reducible rfl);(try simp only [Act.put,zq1,zq2,zq3])))
     refine heldI_pass rfl rfl hb5 ?_
     simp only [Act.put,zq1,zq2,zq3]
     repeat (first | (refine zS rfl rfl ?_;simp only [Act.put,zq1,zq2,zq3]) | (refine zT rfl ?_ rfl (fun w' hw'=>?_) ?_;rotate_left;(go_simp;first | done | with_reducible rfl);(try simp only [Act.put,zq1,zq2,zq3])))
     refine zN ?_
     go_wp2_with fail
     go_ret
     exact⟨rfl,HF.out _ hb5⟩
    | true =>
     cases c4 with
     | false =>
      go_enter Tryz.func67,Tryz.ntmps67
      go_wp2_with fail
      rw [← HW.out]
      refine zI [(false,0),(true,1),(false,2),(false,3),(false,4),(false,5),(false,6),(false,7),(false,8),(false,9),(false,10),(false,11),(false,12),(false,13),(false,14),(false,15),(false,16),(false,17),(false,18),(false,19),(false,20),(false,21),(false,22),(false,23),(false,24),(false,25),(false,26),(true,27),(false,28),(false,29),(false,30),(false,31),(false,32),(false,33),(false,34),(false,35),(false,36),(false,37),(false,38),(false,39),(false,40),(false,41),(false,42)] (fun w'=>Below w2.heap.size w2 w') (by kernel_rfl) (by kernel_rfl) h00 ?_
      repeat (first | (refine zS rfl rfl ?_;simp only [Act.put,zq1,zq2,zq3]) | (refine zT rfl ?_ rfl (fun w' hw'=>?_) ?_;rotate_left;(go_simp;first | done | with_reducible rfl);(try simp only [Act.put,zq1,zq2,zq3])))
      refine zA rfl rfl fun K hK=>?_
      go_simp
      refine (KR.out _ ‹_›).mono ?_
      rintro e w5 ⟨rfl,hb5⟩
      refine hK.out _ _ hb5 ?_
      clear hK K h00
      repeat (first | (refine zS rfl rfl ?_;simp only [Act.put,zq1,zq2,zq3]) | (refine zT rfl ?_ rfl (fun w' hw'=>?_) ?_;rotate_left;(go_simp;first | done | with_reducible rfl);(try simp only [Act.put,zq1,zq2,zq3])))
      refine heldI_pass rfl rfl hb5 ?_
      simp only [Act.put,zq1,zq2,zq3]
      repeat (first | (refine zS rfl rfl ?_;simp only [Act.put,zq1,zq2,zq3]) | (refine zT rfl ?_ rfl (fun w' hw'=>?_) ?_;rotate_left;(go_simp;first | done | with_reducible rfl);(try simp only [Act.put,zq1,zq2,zq3])))
      refine zN ?_
      go_wp2_with fail
      go_ret
      exact⟨rfl,HF.out _ hb5⟩
     | true =>
      cases c5 with
      | false =>
       go_enter Tryz.func67,Tryz.ntmps67
       go_wp2_with fail
       rw [← HW.out]
       refine zI [(false,0),(true,1),(false,2),(false,3),(false,4),(false,5),(false,6),(false,7),(false,8),(false,9),(false,10),(false,11),(false,12),(false,13),(false,14),(false,15),(false,16),(false,17),(false,18),(false,19),(false,20),(false,21),(false,22),(false,23),(false,24),(false,25),(false,26),(true,27),(false,28),(false,29),(false,30),(false,31),(false,32),(false,33),(false,34),(false,35),(false,36),(false,37),(false,38),(false,39),(false,40),(false,41),(false,42)] (fun w'=>Below w2.heap.size w2 w') (by kernel_rfl) (by kernel_rfl) h00 ?_
       repeat (first | (refine zS rfl rfl ?_;simp only [Act.put,zq1,zq2,zq3]) | (refine zT rfl ?_ rfl (fun w' hw'=>?_) ?_;rotate_left;(go_simp;first | done | with_reducible rfl);(try simp only [Act.put,zq1,zq2,zq3])))
       refine zA rfl rfl fun K hK=>?_
       go_simp
       refine (KR.out _ ‹_›).mono ?_
       rintro e w5 ⟨rfl,hb5⟩
       refine hK.out _ _ hb5 ?_
       clear hK K h00
       repeat (first | (refine zS rfl rfl ?_;simp only [Act.put,zq1,zq2,zq3]) | (refine zT rfl ?_ rfl (fun w' hw'=>?_) ?_;rotate_left;(go_simp;first | done | with_reducible rfl);(try simp only [Act.put,zq1,zq2,zq3])))
       refine zA rfl rfl fun K hK=>?_
       go_simp
       refine (KH.out _ ‹_›).mono ?_
       rintro e w6 ⟨rfl,hb6⟩
       refine hK.out _ _ hb6 ?_
       clear hK K hb5
       repeat (first | (refine zS rfl rfl ?_;simp only [Act.put,zq1,zq2,zq3]) | (refine zT rfl ?_ rfl (fun w' hw'=>?_) ?_;rotate_left;(go_simp;first | done | with_reducible rfl);(try simp only [Act.put,zq1,zq2,zq3])))
       refine zN ?_
       go_wp2_with fail
       go_ret
       exact⟨rfl,HF.out _ hb6⟩
      | true =>
       cases c6 with
       | false =>
        go_enter Tryz.func67,Tryz.ntmps67
        go_wp2_with fail
        rw [← HW.out]
        refine zI [(false,0),(true,1),(false,2),(false,3),(false,4),(false,5),(false,6),(false,7),(false,8),(false,9),(false,10),(false,11),(false,12),(false,13),(false,14),(false,15),(false,16),(false,17),(false,18),(false,19),(false,20),(false,21),(false,22),(false,23),(false,24),(false,25),(false,26),(true,27),(false,28),(false,29),(false,30),(false,31),(false,32),(false,33),(false,34),(false,35),(false,36),(false,37),(false,38),(false,39),(false,40),(false,41),(false,42)] (fun w'=>Below w2.heap.size w2 w') (by kernel_rfl) (by kernel_rfl) h00 ?_
        repeat (first | (refine zS rfl rfl ?_;simp only [Act.put,zq1,zq2,zq3]) | (refine zT rfl ?_ rfl (fun w' hw'=>?_) ?_;rotate_left;(go_simp;first | done | with_reducible rfl);(try simp only [Act.put,zq1,zq2,zq3])))
        refine zA rfl rfl fun K hK=>?_
        go_simp
        refine (KR.out _ ‹_›).mono ?_
        rintro e w5 ⟨rfl,hb5⟩
        refine hK.out _ _ hb5 ?_
        clear hK K h00
        repeat (first | (refine zS rfl rfl ?_;simp only [Act.put,zq1,zq2,zq3]) | (refine zT rfl ?_ rfl (fun w' hw'=>?_) ?_;rotate_left;(go_simp;first | done | with_reducible rfl);(try simp only [Act.put,zq1,zq2,zq3])))
        refine zA rfl rfl fun K hK=>?_
        go_simp
        refine (KH.out _ ‹_›).mono ?_
        rintro e w6 ⟨rfl,hb6⟩
        refine hK.out _ _ hb6 ?_
        clear hK K hb5
        repeat (first | (refine zS rfl rfl ?_;simp only [Act.put,zq1,zq2,zq3]) | (refine zT rfl ?_ rfl (fun w' hw'=>?_) ?_;rotate_left;(go_simp;first | done | with_reducible rfl);(try simp only [Act.put,zq1,zq2,zq3])))
        refine zN ?_
        go_wp2_with fail
        go_ret
        exact⟨rfl,HF.out _ hb6⟩
       | true =>
        cases c7 with
        | false =>
         go_enter Tryz.func67,Tryz.ntmps67
         go_wp2_with fail
         rw [← HW.out]
         refine zI [(false,0),(true,1),(false,2),(false,3),(false,4),(false,5),(false,6),(false,7),(false,8),(false,9),(false,10),(false,11),(false,12),(false,13),(false,14),(false,15),(false,16),(false,17),(false,18),(false,19),(false,20),(false,21),(false,22),(false,23),(false,24),(false,25),(false,26),(true,27),(false,28),(false,29),(false,30),(false,31),(false,32),(false,33),(false,34),(false,35),(false,36),(false,37),(false,38),(false,39),(false,40),(false,41),(false,42)] (fun w'=>Below w2.heap.size w2 w') (by kernel_rfl) (by kernel_rfl) h00 ?_
         repeat (first | (refine zS rfl rfl ?_;simp only [Act.put,zq1,zq2,zq3]) | (refine zT rfl ?_ rfl (fun w' hw'=>?_) ?_;rotate_left;(go_simp;first | done | with_reducible rfl);(try simp only [Act.put,zq1,zq2,zq3])))
         refine zA rfl rfl fun K hK=>?_
         go_simp
         refine (KR.out _ ‹_›).mono ?_
         rintro e w5 ⟨rfl,hb5⟩
         refine hK.out _ _ hb5 ?_
         clear hK K h00
         repeat (first | (refine zS rfl rfl ?_;simp only [Act.put,zq1,zq2,zq3]) | (refine zT rfl ?_ rfl (fun w' hw'=>?_) ?_;rotate_left;(go_simp;first | done | with_reducible rfl);(try simp only [Act.put,zq1,zq2,zq3])))
         refine zA rfl rfl fun K hK=>?_
         go_simp
         refine (KH.out _ ‹_›).mono ?_
         rintro e w6 ⟨rfl,hb6⟩
         refine hK.out _ _ hb6 ?_
         clear hK K hb5
         repeat (first | (refine zS rfl rfl ?_;simp only [Act.put,zq1,zq2,zq3]) | (refine zT rfl ?_ rfl (fun w' hw'=>?_) ?_;rotate_left;(go_simp;first | done | with_reducible rfl);(try simp only [Act.put,zq1,zq2,zq3])))
         refine zN ?_
         go_wp2_with fail
         go_ret
         exact⟨rfl,HF.out _ hb6⟩
        | true =>
         go_enter Tryz.func67,Tryz.ntmps67
         go_wp2_with fail
         rw [← HW.out]
         refine zI [(false,0),(true,1),(false,2),(false,3),(false,4),(false,5),(false,6),(false,7),(false,8),(false,9),(false,10),(false,11),(false,12),(false,13),(false,14),(false,15),(false,16),(false,17),(false,18),(false,19),(false,20),(false,21),(false,22),(false,23),(false,24),(false,25),(false,26),(true,27),(false,28),(false,29),(false,30),(false,31),(false,32),(false,33),(false,34),(false,35),(false,36),(false,37),(false,38),(false,39),(false,40),(false,41),(false,42)] (fun w'=>Below w2.heap.size w2 w') (by kernel_rfl) (by kernel_rfl) h00 ?_
         repeat (first | (refine zS rfl rfl ?_;simp only [Act.put,zq1,zq2,zq3]) | (refine zT rfl ?_ rfl (fun w' hw'=>?_) ?_;rotate_left;(go_simp;first | done | with_reducible rfl);(try simp only [Act.put,zq1,zq2,zq3])))
         refine zA rfl rfl fun K hK=>?_
         go_simp
         refine (KR.out _ ‹_›).mono ?_
         rintro e w5 ⟨rfl,hb5⟩
         refine hK.out _ _ hb5 ?_
         clear hK K h00
         repeat (first | (refine zS rfl rfl ?_;simp only [Act.put,zq1,zq2,zq3]) | (refine zT rfl ?_ rfl (fun w' hw'=>?_) ?_;rotate_left;(go_simp;first | done | with_reducible rfl);(try simp only [Act.put,zq1,zq2,zq3])))
         refine zA rfl rfl fun K hK=>?_
         go_simp
         refine (KH.out _ ‹_›).mono ?_
         rintro e w6 ⟨rfl,hb6⟩
         refine hK.out _ _ hb6 ?_
         clear hK K hb5
         repeat (first | (refine zS rfl rfl ?_;simp only [Act.put,zq1,zq2,zq3]) | (refine zT rfl ?_ rfl (fun w' hw'=>?_) ?_;rotate_left;(go_simp;first | done | with_reducible rfl);(try simp only [Act.put,zq1,zq2,zq3])))
         refine zN ?_
         go_wp2_with fail
         go_ret
         exact⟨rfl,HF.out _ hb6⟩
end
section
open Go.RowKit
theorem run_part_u8 (xs:Array Value) (off:Nat) {v:Value} (hx:xs[off]?=some v) (w:World):(part 5 xs off).run Tryz.prog w = .ok v w:=by
 simp [part,isAgg,run_underlying Tryz.underlying5,hx]
theorem run_equalIn_u8 (d:Nat) (a b:UInt8) (w:World):(Op.equalIn (d+1) 5 (u8 a) (u8 b)).run Tryz.prog w = .ok (decide (a=b)) w:=by
 simp [Op.equalIn,run_underlying Tryz.underlying5,u8]
 by_cases h:a=b
 ·simp [h]
 ·have:¬ ((a.toNat:Int)=(b.toNat:Int)):=fun e=>h (UInt8.toNat_inj.1 (Int.ofNat_inj.1 e))
  simp [h,this]
theorem eqItems_u8 (d:Nat) (x y:List UInt8) (w:World):∀ (is:List Nat),(∀ i∈is,i<x.length∧i<y.length) →
  (Op.eqItems (d+1) 5 1 (u8s x).toArray (u8s y).toArray is).run Tryz.prog w = .ok (decide (∀ i∈is,x[i]?=y[i]?)) w
 | [],_=>by simp [Op.eqItems]
 | i :: is,h=>by
  obtain⟨h1,h2⟩:=h i (List.mem_cons_self ..)
  have e1:(u8s x).toArray[i*1]?=some (u8 x[i]):=by simp [u8s,h1]
  have e2:(u8s y).toArray[i*1]?=some (u8 y[i]):=by simp [u8s,h2]
  have ih:=eqItems_u8 d x y w is (fun j hj=>h j (List.mem_cons_of_mem _ hj))
  unfold Op.eqItems
  simp only [Sem.run_bind,run_part_u8 _ _ e1,run_part_u8 _ _ e2,Result.andThen_ok,run_equalIn_u8]
  by_cases he:x[i]=y[i]
  ·simp [he,ih,List.getElem?_eq_getElem h1,List.getElem?_eq_getElem h2]
  ·simp [he,List.getElem?_eq_getElem h1,List.getElem?_eq_getElem h2]
set_option maxRecDepth 100000 in
theorem equal44_in (d:Nat) {x y:List UInt8} (hx:x.length=64) (hy:y.length=64) (w:World):(Op.equalIn (d+2) 94 (.agg (u8s x).toArray) (.agg (u8s y).toArray)).run Tryz.prog w = .ok (decide (x=y)) w:=by
 obtain⟨i,hi,hs⟩:=Option.map_eq_some_iff.1 (show (Tryz.prog.info? 5).map (fun i=>i.size)=some 1 by kernel_rfl)
 rw [run_equalIn_array (w:=w) (d+1) _ _ Tryz.underlying94 hi,show Tryz.prog.cellsOf 5=1 by kernel_rfl,eqItems_u8 d x y w _ (fun i hi=>by rw [List.mem_range] at hi;omega)]
 congr 1
 by_cases h:x=y
 ·simp [h]
 ·have:¬ ∀ i∈List.range 64,x[i]?=y[i]?:=fun hh=>h (List.ext_getElem? fun i=>by
   by_cases hi:i<64
   ·exact hh i (List.mem_range.2 hi)
   ·rw [List.getElem?_eq_none (by omega),List.getElem?_eq_none (by omega)])
  simp only [h,decide_false]
  exact decide_eq_false this
theorem eqFields_two (d : Nat) (P : Program) (xs ys : Array Value) (f1 f2 : Field) (w : World) (a1 b1 a2 b2 : Value) (r1 r2 : Bool) (h1 : f1.name ≠ "_") (h2 : f2.name ≠ "_")
  (p1:(part f1.type xs f1.offset).run P w = .ok a1 w) (p2:(part f1.type ys f1.offset).run P w = .ok b1 w) (p3:(part f2.type xs f2.offset).run P w = .ok a2 w) (p4:(part f2.type ys f2.offset).run P w = .ok b2 w)
  (q1:(Op.equalIn d f1.type a1 b1).run P w = .ok r1 w) (q2:(Op.equalIn d f2.type a2 b2).run P w = .ok r2 w):(Op.eqFields d xs ys [f1,f2]).run P w = .ok (r1&&r2) w:=by
 simp only [Op.eqFields,if_pos h1,if_pos h2,Sem.run_bind,p1,p2,p3,p4,q1,q2,Result.andThen_ok]
 cases r1 <;> cases r2 <;> simp [p3,p4,q2]
theorem equal44 {x y:List UInt8} (hx:x.length=64) (hy:y.length=64) (w:World):(Op.equalIn 10000 94 (.agg (u8s x).toArray) (.agg (u8s y).toArray)).run Tryz.prog w = .ok (decide (x=y)) w:=equal44_in 9998 hx hy w
end
section
open Go.RowKit WalP PackP
def markV (gen k len sum:Int):Value:=.agg #[.int .i64 gen,.int .i64 k,.int .i64 len,.int .u32 sum]
set_option maxRecDepth 100000 in
set_option maxHeartbeats 1000000 in
theorem of_any {B:Nat} (gen k:Int) (v:Value) (bs:List UInt8) (w:World) (ht:TabAt w) (hT:1<w.heap.size) (hv:Bytes B w v bs) :
  Calls Tryz.prog 109 #[.int .i64 gen,.int .i64 k,v] w fun e w'=>e = .returned (markV gen k bs.length (SumP.toI (SumP.sum bs)))∧Below w.heap.size w w':=by
 have hv:=hv.tight
 have hb:=Below.alloc (Below.refl w.heap.size w) (Nat.le_refl _) (.cells #[.int .i64 0,.int .i64 0,.int .i64 0,.int .u32 0] 145)
 have k1:=sum_any v bs _ _ (ht.below hb hT) (hv.below hb)
 have hb:=Below.alloc (Below.refl w.heap.size w) (Nat.le_refl _) (.cells #[.int .i64 gen,.int .i64 k,.int .i64 bs.length,.int .u32 (SumP.toI (SumP.sum bs))] 145)
 obtain⟨_,a,cap,rfl,_,hcap,_⟩:=hv
 unfold maxLen at hcap
 go_enter Tryz.func109,Tryz.ntmps109
 go_wp2_with fail
 refine k1.mono ?_
 rintro e w' ⟨rfl,rfl⟩
 go_wp2_with fail
 unfold markV
 exact bodyPost_ret (v:=.agg #[.int .i64 gen,.int .i64 k,.int .i64 bs.length,.int .u32 (SumP.toI (SumP.sum bs))]) (by simp [results,Tryz.results109,go_sem]) rfl ⟨rfl,hb⟩
theorem numsB4 (gen k len sum:Int):[(87:UInt8),76,79,71]++numsB [gen,k,len,sum]=markB gen k len sum:=by simp [numsB,markB]
theorem length_markB (gen k len sum:Int):(markB gen k len sum).length=36:=by simp [markB,numB,length_be]
theorem splice_pad (m:List UInt8) (hm:m.length≤64):splice (u8s zeroS) 0 (u8s m)=u8s (pad64 m):=by
 have e:u8s zeroS=List.replicate 64 (.int .u8 0):=by simp [u8s,zeroS,u8]
 have e2:u8s (List.replicate (64-m.length) 0)=List.replicate (64-m.length) (.int .u8 0):=by rw [u8s,List.map_replicate];rfl
 unfold splice pad64
 rw [e,u8s_append,e2,List.take_of_length_le hm,List.drop_replicate,zL,Nat.zero_add]
 rfl
theorem info_u8s:(Tryz.prog.info? 5).map (·.size)=some 1:=by kernel_rfl
theorem row_of_heap {B g:Nat} {w:World} {C:Array Value} {e:TypeId} {fz:Nat×Nat} {sz n cap:Nat} {cs:List Value} (hg:w.heap[g]?=some (.cells C e fz)) (hB:g<B) (hl:cs.length=n*sz) (hnc:n≤cap) (hcap:cap≤maxLen)
  (hC:∀ (k:Nat) (u:Value),cs[k]?=some u→C[k]?=some u):Row B w (.slice (some ⟨g,0,none⟩) n cap) sz n cs :=
 ⟨hl,_,cap,rfl,hnc,hcap,fun _=>⟨g,0,rfl,hB,fun k u hk=>by rw [cR w g (0+k) _ _ _ hg,Nat.zero_add];exact hC k u hk⟩⟩
theorem addp (b off k:Nat):(⟨b,off,none⟩:Addr).add k=⟨b,off+k,none⟩:=by unfold Addr.add;split <;> simp_all
theorem nums_mark (gen k len sum:Int) (gA gB:Nat) (w:World) {fz:Nat×Nat} (hA:w.heap[gA]?=some (.cells #[.int .u8 87,.int .u8 76,.int .u8 79,.int .u8 71] 5 fz)) (hB:w.heap[gB]?=some (.cells #[.int .i64 gen,.int .i64 k,.int .i64 len,.int .i64 sum] 3 (0,0))) :
  Calls Tryz.prog 81 #[.slice (some ⟨gA,0,none⟩) 4 4,.slice (some ⟨gB,0,none⟩) 4 4] w fun e w'=>(∃ ad cap,e = .returned (.slice (some ad) 36 cap)∧∀ j v,(u8s (markB gen k len sum))[j]?=some v→w'.cell? (ad.add j)=some v)∧Below w.heap.size w w':=by
 have h1:Bytes w.heap.size w (.slice (some ⟨gA,0,none⟩) 4 4) [87,76,79,71]:=row_of_heap (sz:=1) (n:=4) hA (zB hA) rfl (Nat.le_refl _) (by decide) (fun k u hk=>by simpa [u8s,u8] using hk)
 have h2:Ints w.heap.size w (.slice (some ⟨gB,0,none⟩) 4 4) [gen,k,len,sum]:=row_of_heap (sz:=1) (n:=4) hB (zB hB) rfl (Nat.le_refl _) (by decide) (fun k u hk=>by simpa using hk)
 refine (num_any _ _ _ _ w h1 h2 (by simp)).mono ?_
 rintro e w' ⟨v',rfl,ho,hb⟩
 rw [numsB4] at ho
 obtain⟨_,a,cap,rfl,_,_,hc⟩:=ho.bytes
 rw [length_markB] at hc ⊢
 obtain⟨b,off,rfl,_,hc⟩:=hc (by omega)
 exact⟨⟨_,cap,rfl,fun j v hj=>by rw [addp];exact hc j v hj⟩,hb⟩
theorem conv_mark {w:World} {g:Nat} {C:Array Value} {e:TypeId} (hg:w.heap[g]?=some (.cells C e (0,0))) (l c:Nat) :
  ∃ w',(convert 23 23 (.slice (some ⟨g,0,none⟩) l c)).run Tryz.prog w = .ok (.slice (some ⟨g,0,none⟩) l c) w'∧w'.heap[g]?=some (.cells C e (C.size,C.size+1))∧Below g w w'∧w'.heap.size=w.heap.size∧∀ k,k≠g→w'.heap[k]?=w.heap[k]?:=by
 have hsh:w.shape? g=some (e,C.size):=by unfold World.shape?;rw [hg]
 have ho:∀ k,k≠g→(w.freeze ⟨g,C.size,none⟩ 1).heap[k]?=w.heap[k]?:=fun k hk=>by
  unfold World.freeze
  rw [if_neg (by decide)]
  simp only [Array.getElem?_modify]
  rw [if_neg (fun h=>hk h.symm)]
 refine⟨w.freeze ⟨g,C.size,none⟩ 1,by simp [convert,run_underlying Tryz.underlying23,run_underlying Tryz.underlying5,markStringish,hsh],?_,⟨rfl,rfl,rfl,by simp [World.freeze],fun k hk=>ho k (by omega)⟩,by simp [World.freeze],ho⟩
 unfold World.freeze
 rw [if_neg (by decide)]
 simp only [Array.getElem?_modify,hg]
 rfl
set_option maxRecDepth 100000 in
set_option maxHeartbeats 2000000 in
theorem sector_any (gen k len sum:Int) (w:World) (hs0:0≤sum) (hs1:sum<2^32) :
  Calls Tryz.prog 110 #[markV gen k len sum] w fun e w'=>e = .returned (.agg (u8s (markS gen k len sum)).toArray)∧Below w.heap.size w w':=by
 obtain⟨z,hz,hzr⟩:=zero44
 obtain⟨w1,hw1⟩:∃ w1,w1=w.alloc (.cells #[.int .i64 gen,.int .i64 k,.int .i64 len,.int .u32 sum] 145):=⟨_,rfl⟩
 obtain⟨w2,hw2⟩:∃ w2,w2=w1.alloc (.cells z.cells 94):=⟨_,rfl⟩
 have hs1:w1.heap.size=w.heap.size+1:=by rw [hw1];simp
 have hb1:Below w.heap.size w w1:=by rw [hw1];exact Below.alloc (Below.refl _ _) (Nat.le_refl _) _
 have hb2:Below w1.heap.size w1 w2:=by rw [hw2];exact Below.alloc (Below.refl _ _) (Nat.le_refl _) _
 have G1:w2.heap[w.heap.size]?=some (.cells #[.int .i64 gen,.int .i64 k,.int .i64 len,.int .u32 sum] 145 (0,0)):=(hb2.block _ (by omega)).trans (by rw [hw1];exact heap_alloc_new w _)
 have G2:w2.heap[w1.heap.size]?=some (.cells (u8s zeroS).toArray 94 (0,0)):=by rw [hw2,← hz];exact heap_alloc_new w1 _
 rw [hs1] at G2
 have hB:Below w.heap.size w w2:=hb1.trans (hb2.mono hb1.size)
 have HW1:=zh hw1
 have HW2:=zh hw2
 have HZ:=zh hzr
 clear hw1 hw2 hb1 hb2 hz hzr
 unfold markV
 go_enter Tryz.func110,Tryz.ntmps110
 go_wp2_with (refine wp_alloc_to (w':=w2) 94 rfl rfl (HZ.out _) ?_ ?_;(rw [← HW1.out];exact HW2.out);refine Halt.in ?_)
 refine Halt.out ?_
 clear HW1 HW2 HZ
 go_upto_region 1 with (fail)
 go_cut [] from 3 to 17 (fun wx=>Below w.heap.size w wx∧wx.heap[w.heap.size+1]?=some (.cells (u8s (markS gen k len sum)).toArray 94 (0,0)))
 case first =>
  have hG1:∀ w',Below (w.heap.size+1) w2 w'→w'.heap[w.heap.size]?=_:=fun w' hb=>(hb.block _ (by omega)).trans G1
  have hA0:∀ w',Below (w.heap.size+1) w2 w'→_:=fun w' hb=>cR w' _ 0 _ _ _ (hG1 w' hb)
  have hA1:∀ w',Below (w.heap.size+1) w2 w'→_:=fun w' hb=>cR w' _ 1 _ _ _ (hG1 w' hb)
  have hA2:∀ w',Below (w.heap.size+1) w2 w'→_:=fun w' hb=>cR w' _ 2 _ _ _ (hG1 w' hb)
  have hA3:∀ w',Below (w.heap.size+1) w2 w'→_:=fun w' hb=>cR w' _ 3 _ _ _ (hG1 w' hb)
  have hle:w.heap.size+1≤w2.heap.size:=Nat.le_of_lt (zB G2)
  have hws:IntKind.i64.wrap sum=sum:=by
   simp only [IntKind.wrap,IntKind.bits,IntKind.signed]
   simp
   omega
  have h00:Below w2.heap.size w2 w2.drew:=zD (Below.refl _ _) 1
  have HGG:=zh G1
  clear hG1 G1
  refine wp_region_start (fun w'=>Below (w.heap.size+1) w2 w') (by kernel_rfl) (h00.mono hle) ?_
  refine wpAnyH_part [(false,0),(false,3),(false,4),(false,5),(false,6),(false,7),(false,8),(false,9),(false,10),(false,11)] (by kernel_rfl) (h00.mono hle) ?_
  repeat (first | (refine zS rfl rfl ?_;simp only [Act.put,zq1,zq2,zq3]) | (refine zT rfl ?_ rfl (fun w' hw'=>?_) ?_;rotate_left;(go_simp;first | done | with_reducible rfl);(try simp only [Act.put,zq1,zq2,zq3])))
  refine zN ?_
  refine wpAnyH_ready (rs:=[1,12]) (by kernel_rfl) (by simp) ?_
  refine zR rfl rfl (fun K hK=>?_) (zR rfl rfl (fun K hK=>?_) AllReadyH.nil)
  ·go_simp
   have hS3:Below w2.heap.size w2 (w2.alloc (.cells #[.int .u8 87,.int .u8 76,.int .u8 79,.int .u8 71] 5)).drew:=((Below.refl _ _).alloc (Nat.le_refl _) _).drew
   refine hK.out _ _ (hS3.mono hle) ?_
   clear hK K
   have hA3:(w2.alloc (.cells #[.int .u8 87,.int .u8 76,.int .u8 79,.int .u8 71] 5)).drew.heap[w2.heap.size]?=some (.cells #[.int .u8 87,.int .u8 76,.int .u8 79,.int .u8 71] 5 (0,0)):=heap_alloc_new w2 _
   obtain⟨w3,hww3⟩:∃ x,x=(w2.alloc (.cells #[.int .u8 87,.int .u8 76,.int .u8 79,.int .u8 71] 5)).drew:=⟨_,rfl⟩
   rw [← hww3] at hS3 hA3 ⊢
   clear hww3
   have hgA:w2.heap.size≤w2.heap.size:=Nat.le_refl _
   refine wpAnyH_ready (rs:=[2,12]) (by kernel_rfl) (by simp) ?_
   refine zR rfl rfl (fun K hK=>?_) (zR rfl rfl (fun K hK=>?_) AllReadyH.nil)
   ·obtain⟨w4,hcv,hA4,hb4,hs4,ho4⟩:=conv_mark hA3 4 4
    have hS4:Below w2.heap.size w2 w4:=hS3.trans (hb4.mono hgA)
    clear hs4 ho4
    go_simp
    refine hK.out _ _ (hS4.mono hle) ?_
    clear hK K hcv
    refine wpAnyH_end [(true,12),(true,13),(true,14)] (by kernel_rfl) (hS4.mono hle) ?_
    refine zA rfl rfl fun K hK=>?_
    go_simp
    have hS5:Below w2.heap.size w2 (w4.alloc (.cells #[.int .i64 gen,.int .i64 k,.int .i64 len,.int .i64 sum] 3)):=hS4.alloc hS4.size _
    refine hK.out _ _ (hS5.mono hle) ?_
    clear hK K
    have hB5:(w4.alloc (.cells #[.int .i64 gen,.int .i64 k,.int .i64 len,.int .i64 sum] 3)).heap[w4.heap.size]?=some (.cells #[.int .i64 gen,.int .i64 k,.int .i64 len,.int .i64 sum] 3 (0,0)):=heap_alloc_new w4 _
    have hA5:=((Below.alloc (Below.refl w4.heap.size w4) (Nat.le_refl _) (.cells #[.int .i64 gen,.int .i64 k,.int .i64 len,.int .i64 sum] 3)).block _ (zB hA4)).trans hA4
    obtain⟨w5,hww5⟩:∃ x,x=(w4.alloc (.cells #[.int .i64 gen,.int .i64 k,.int .i64 len,.int .i64 sum] 3)):=⟨_,rfl⟩
    rw [← hww5] at hS5 hB5 hA5 ⊢
    clear hww5
    have k1:=nums_mark gen k len sum _ _ w5 hA5 hB5
    refine zA rfl rfl fun K hK=>?_
    go_simp
    refine k1.mono ?_
    rintro e w8 ⟨⟨ad,cap,rfl,hcs⟩,hb8⟩
    have hS8:=hS5.trans (hb8.mono hS5.size)
    refine hK.out _ _ (hS8.mono hle) ?_
    clear hK K
    have hG8:=(hS8.block _ (zB G2)).trans G2
    refine zA rfl rfl fun K hK=>?_
    refine op_copy rfl (.tmp 3) (.tmp 16) 23 23 rfl 5 Tryz.underlying23 info_u8s _ _ 64 64 36 cap rfl rfl (w.heap.size+1) 0 (u8s zeroS) _ hG8 (u8s (markB gen k len sum)) (by rw [zL,length_markB];rfl) (fun _=>⟨rfl,ad,rfl,hcs⟩) (by rw [zL,zL,length_markB];decide) (oneCell_u8s _) ?_
    intro w9 hG9 hb9 hs9 ho9
    rw [splice_pad _ (by rw [length_markB];omega)] at hG9
    have hB9:Below w.heap.size w w9:=(hB.trans (hS8.mono hB.size)).trans (hb9.mono (by omega))
    refine hK.out _ _ ((hS8.mono hle).trans hb9) ?_
    clear hK K hS8 hb8 k1 hb9
    refine zN ?_
    go_wp2_with fail
    go_meet
    case rel=>exact⟨hB9,hG9⟩
   ·go_simp
    have hS4:Below w2.heap.size w2 (w3.alloc (.cells #[.int .i64 gen,.int .i64 k,.int .i64 len,.int .i64 sum] 3)):=hS3.alloc hS3.size _
    refine hK.out _ _ (hS4.mono hle) ?_
    clear hK K
    have hB4:(w3.alloc (.cells #[.int .i64 gen,.int .i64 k,.int .i64 len,.int .i64 sum] 3)).heap[w3.heap.size]?=some (.cells #[.int .i64 gen,.int .i64 k,.int .i64 len,.int .i64 sum] 3 (0,0)):=heap_alloc_new w3 _
    have hA4:=((Below.alloc (Below.refl w3.heap.size w3) (Nat.le_refl _) (.cells #[.int .i64 gen,.int .i64 k,.int .i64 len,.int .i64 sum] 3)).block _ (zB hA3)).trans hA3
    obtain⟨w4,hww4⟩:∃ x,x=(w3.alloc (.cells #[.int .i64 gen,.int .i64 k,.int .i64 len,.int .i64 sum] 3)):=⟨_,rfl⟩
    rw [← hww4] at hS4 hB4 hA4 ⊢
    clear hww4
    have hne:w3.heap.size≠w2.heap.size:=by have:=zB hA3;omega
    refine wpAnyH_end [(true,2),(true,13),(true,14)] (by kernel_rfl) (hS4.mono hle) ?_
    refine zA rfl rfl fun K hK=>?_
    obtain⟨w5,hcv,hA5,hb5,hs5,ho5⟩:=conv_mark hA4 4 4
    have hS5:Below w2.heap.size w2 w5:=hS4.trans (hb5.mono hgA)
    have hB5:=(ho5 _ hne).trans hB4
    clear hs5 ho5
    go_simp
    refine hK.out _ _ (hS5.mono hle) ?_
    clear hK K hcv
    have k1:=nums_mark gen k len sum _ _ w5 hA5 hB5
    refine zA rfl rfl fun K hK=>?_
    go_simp
    refine k1.mono ?_
    rintro e w8 ⟨⟨ad,cap,rfl,hcs⟩,hb8⟩
    have hS8:=hS5.trans (hb8.mono hS5.size)
    refine hK.out _ _ (hS8.mono hle) ?_
    clear hK K
    have hG8:=(hS8.block _ (zB G2)).trans G2
    refine zA rfl rfl fun K hK=>?_
    refine op_copy rfl (.tmp 3) (.tmp 16) 23 23 rfl 5 Tryz.underlying23 info_u8s _ _ 64 64 36 cap rfl rfl (w.heap.size+1) 0 (u8s zeroS) _ hG8 (u8s (markB gen k len sum)) (by rw [zL,length_markB];rfl) (fun _=>⟨rfl,ad,rfl,hcs⟩) (by rw [zL,zL,length_markB];decide) (oneCell_u8s _) ?_
    intro w9 hG9 hb9 hs9 ho9
    rw [splice_pad _ (by rw [length_markB];omega)] at hG9
    have hB9:Below w.heap.size w w9:=(hB.trans (hS8.mono hB.size)).trans (hb9.mono (by omega))
    refine hK.out _ _ ((hS8.mono hle).trans hb9) ?_
    clear hK K hS8 hb8 k1 hb9
    refine zN ?_
    go_wp2_with fail
    go_meet
    case rel=>exact⟨hB9,hG9⟩
  ·go_simp
   have hS3:Below w2.heap.size w2 (w2.alloc (.cells #[.int .i64 gen,.int .i64 k,.int .i64 len,.int .i64 sum] 3)).drew:=((Below.refl _ _).alloc (Nat.le_refl _) _).drew
   refine hK.out _ _ (hS3.mono hle) ?_
   clear hK K
   have hB3:(w2.alloc (.cells #[.int .i64 gen,.int .i64 k,.int .i64 len,.int .i64 sum] 3)).drew.heap[w2.heap.size]?=some (.cells #[.int .i64 gen,.int .i64 k,.int .i64 len,.int .i64 sum] 3 (0,0)):=heap_alloc_new w2 _
   obtain⟨w3,hww3⟩:∃ x,x=(w2.alloc (.cells #[.int .i64 gen,.int .i64 k,.int .i64 len,.int .i64 sum] 3)).drew:=⟨_,rfl⟩
   rw [← hww3] at hS3 hB3 ⊢
   clear hww3
   refine wpAnyH_end [(true,1),(true,2),(true,13),(true,14)] (by kernel_rfl) (hS3.mono hle) ?_
   refine zA rfl rfl fun K hK=>?_
   go_simp
   have hS4:Below w2.heap.size w2 (w3.alloc (.cells #[.int .u8 87,.int .u8 76,.int .u8 79,.int .u8 71] 5)):=hS3.alloc hS3.size _
   refine hK.out _ _ (hS4.mono hle) ?_
   clear hK K
   have hA4:(w3.alloc (.cells #[.int .u8 87,.int .u8 76,.int .u8 79,.int .u8 71] 5)).heap[w3.heap.size]?=some (.cells #[.int .u8 87,.int .u8 76,.int .u8 79,.int .u8 71] 5 (0,0)):=heap_alloc_new w3 _
   have hB4:=((Below.alloc (Below.refl w3.heap.size w3) (Nat.le_refl _) (.cells #[.int .u8 87,.int .u8 76,.int .u8 79,.int .u8 71] 5)).block _ (zB hB3)).trans hB3
   obtain⟨w4,hww4⟩:∃ x,x=(w3.alloc (.cells #[.int .u8 87,.int .u8 76,.int .u8 79,.int .u8 71] 5)):=⟨_,rfl⟩
   rw [← hww4] at hS4 hA4 hB4 ⊢
   clear hww4
   have hgA:w2.heap.size≤w3.heap.size:=by have:=zB hB3;omega
   have hne:w2.heap.size≠w3.heap.size:=by have:=zB hB3;omega
   refine zA rfl rfl fun K hK=>?_
   obtain⟨w5,hcv,hA5,hb5,hs5,ho5⟩:=conv_mark hA4 4 4
   have hS5:Below w2.heap.size w2 w5:=hS4.trans (hb5.mono hgA)
   have hB5:=(ho5 _ hne).trans hB4
   clear hs5 ho5
   go_simp
   refine hK.out _ _ (hS5.mono hle) ?_
   clear hK K hcv
   have k1:=nums_mark gen k len sum _ _ w5 hA5 hB5
   refine zA rfl rfl fun K hK=>?_
   go_simp
   refine k1.mono ?_
   rintro e w8 ⟨⟨ad,cap,rfl,hcs⟩,hb8⟩
   have hS8:=hS5.trans (hb8.mono hS5.size)
   refine hK.out _ _ (hS8.mono hle) ?_
   clear hK K
   have hG8:=(hS8.block _ (zB G2)).trans G2
   refine zA rfl rfl fun K hK=>?_
   refine op_copy rfl (.tmp 3) (.tmp 16) 23 23 rfl 5 Tryz.underlying23 info_u8s _ _ 64 64 36 cap rfl rfl (w.heap.size+1) 0 (u8s zeroS) _ hG8 (u8s (markB gen k len sum)) (by rw [zL,length_markB];rfl) (fun _=>⟨rfl,ad,rfl,hcs⟩) (by rw [zL,zL,length_markB];decide) (oneCell_u8s _) ?_
   intro w9 hG9 hb9 hs9 ho9
   rw [splice_pad _ (by rw [length_markB];omega)] at hG9
   have hB9:Below w.heap.size w w9:=(hB.trans (hS8.mono hB.size)).trans (hb9.mono (by omega))
   refine hK.out _ _ ((hS8.mono hle).trans hb9) ?_
   clear hK K hS8 hb8 k1 hb9
   refine zN ?_
   go_wp2_with fail
   go_meet
   case rel=>exact⟨hB9,hG9⟩
 case rest =>
  obtain⟨hb,hrow⟩:=hcut
  obtain⟨X,hX⟩:∃ X,X=(u8s (markS gen k len sum)).toArray:=⟨_,rfl⟩
  rw [← hX] at hrow
  have HX:=zh hX
  have hXs:X.size=64:=by rw [hX];simp [zL,length_markS]
  have hX1:∀ v∈X.toList,v.oneCell'=true:=by rw [hX];exact oneCell_u8s _
  obtain⟨i44,hi44,hs44⟩:=info44
  have hld:=run_load_big (P:=Tryz.prog) (t:=94) Tryz.underlying94 (.inl ⟨_,_,rfl⟩) hi44 (w:=wc) (b:=w.heap.size+1) (off:=0) (cs:=X.toList) hs44 (by simpa using hXs)
   (fun j u hj=>by rw [cR wc _ (0+j) _ _ _ hrow];simpa using hj)
  simp only [Array.toArray_toList] at hld
  obtain⟨w9,hst,hrow9,hb9,_,_,_⟩:=store64 hrow hXs X hXs hX1
  have hbb:=hb.trans (hb9.mono (Nat.le_succ _))
  have HS:=zh (show (Tryz.prog.info? 94).map (·.size)=some X.size by rw [hi44,hXs];simp [hs44])
  have HROW:=zh hrow9
  clear hX hXs hX1 hi44 hs44 hrow9 hb9 hrow
  go_wp2_with (refine wp_load_at (.tmp 2) 94 rfl rfl rfl hld ?_;refine Halt.in ?_)
  refine Halt.out ?_
  clear hld
  go_wp2_with (refine wp_store_at (.tmp 2) (.tmp 18) 94 rfl rfl rfl rfl hst ?_;refine Halt.in ?_)
  refine Halt.out ?_
  clear hst
  go_wp2_with fail
  exact bodyPost_ret (results_cell_row rfl _ _ (w.heap.size+1) _ _ _ _ rfl HROW.out Tryz.underlying94 rfl HS.out) rfl ⟨by rw [HX.out],hbb⟩
end
section
open Go.RowKit WalP PackP
def HandAt (g:Nat) (w:World) (d:DiskP):Prop:=∃ A,w.heap[g]?=some (.cells A 174 (0,0))∧DiskV w.heap.size w (.agg A) d∧DSl (·≠g) (.agg A)
def hEnd (e:Int):Ending:=if e=0 then .returned (.tuple #[]) else .panicked [{ v:=.iface 26 (.int .i64 e),recovered:=false }]
theorem hEnd0 {e:Int} (h:e=0):hEnd e = .returned (.tuple #[]):=by unfold hEnd;rw [if_pos h]
theorem hEnd1 {e:Int} (h:e≠0):hEnd e = .panicked [{ v:=.iface 26 (.int .i64 e),recovered:=false }]:=by unfold hEnd;rw [if_neg h]
theorem DiskV.only {B g:Nat} {w w':World} {v:Value} {d:DiskP} (h:DiskV B w v d) (hB:B≤w.heap.size) (hs:DSl (·≠g) v) (ho:w.grownBy w' (some g)):DiskV B w' v d:=by
 have one:∀ {sz n:Nat} {cs:List Value} {u:Value},Row B w u sz n cs→Sl (·≠g) u→Row B w' u sz n cs:=fun {sz n cs u} h hs=>by
  obtain⟨hl,a,cap,rfl,h1,h2,h3⟩:=h
  refine⟨hl,a,cap,rfl,h1,h2,fun hp=>?_⟩
  obtain⟨b,off,rfl,hb,hc⟩:=h3 hp
  have:=hs _ _ _ rfl hp
  refine⟨b,off,rfl,hb,fun k u' hk=>?_⟩
  have e:w'.cell? ⟨b,off+k,none⟩=w.cell? ⟨b,off+k,none⟩:=by unfold World.cell?;rw [ho.block b (by omega) (fun h=>this (Option.some.inj h))]
  exact e.trans (hc k u' hk)
 obtain⟨sv,lv,rfl,h1,h2⟩:=h
 obtain⟨q1,q2⟩:=hs _ _ _ _ rfl
 exact⟨sv,lv,rfl,⟨h1.1,one h1.2 q1⟩,⟨h2.1,one h2.2 q2⟩⟩
theorem HandAt.below {g:Nat} {w w':World} {d:DiskP} (h:HandAt g w d) (hb:Below w.heap.size w w'):HandAt g w' d:=by
 obtain⟨A,h1,h2,h3⟩:=h
 exact⟨A,(hb.block _ (zB h1)).trans h1,(h2.below hb).tight,h3⟩
theorem only_of_below {g:Nat} {w w':World} (hb:Below w.heap.size w w'):w.grownBy w' (some g):=⟨hb.os,hb.tape,hb.output,hb.size,fun k hk _=>hb.block k hk⟩
theorem put4_diskV {B g:Nat} {w:World} {v:Value} {d:DiskP} (h:DiskV B w v d) (hs:DSl (·≠g) v) (a b c e:Value):DiskV B (put4 w g a b c e) v d :=
 (((h.setFar (p:=⟨g,0,none⟩) hs a).setFar (p:=⟨g,1,none⟩) hs b).setFar (p:=⟨g,2,none⟩) hs c).setFar (p:=⟨g,3,none⟩) hs e
theorem put4_only {g:Nat} (w:World) (a b c d:Value):w.grownBy (put4 w g a b c d) (some g):=by
 have:=put4_below (Below.refl g w) (Nat.le_refl _) a b c d
 refine⟨this.os,this.tape,this.output,this.size,fun k _ hk2=>?_⟩
 have hk2:g≠k:=fun h=>hk2 (by rw [h])
 unfold put4
 rw [setFar hk2,setFar hk2,setFar hk2,setFar hk2]
set_option maxRecDepth 100000 in
set_option maxHeartbeats 1000000 in
theorem must_any {B g:Nat} (v:Value) (d0 d:DiskP) (e:Int) (w:World) (hh:HandAt g w d0) (hd:DiskV B w v d) (hs:DSl (·≠g) v) :
  Calls Tryz.prog 141 #[.pointer (some ⟨g,0,none⟩),v,.int .i64 e] w fun x w'=>x=hEnd e∧HandAt g w' d∧w.grownBy w' (some g):=by
 have hd:=hd.tight
 obtain⟨A,hg,hd0,hs0⟩:=hh
 obtain⟨p1,q1,p2,q2,hA,_,_⟩:=hd0.parts
 cases hA
 obtain⟨x1,y1,x2,y2,rfl,_,_⟩:=hd.parts
 obtain⟨w1,hw1⟩:∃ w1,w1=w.alloc (.cells #[.slice x1 d.secs.length y1,.slice x2 d.loose.length y2,.int .i64 d.fuse,.bool d.down] 38):=⟨_,rfl⟩
 have hb1:Below w.heap.size w w1:=by rw [hw1];exact Below.alloc (Below.refl _ _) (Nat.le_refl _) _
 have hG1:=(hb1.block _ (zB hg)).trans hg
 have C0:=cR w1 _ 0 _ _ _ hG1
 have C1:=cR w1 _ 1 _ _ _ hG1
 have C2:=cR w1 _ 2 _ _ _ hG1
 have C3:=cR w1 _ 3 _ _ _ hG1
 have Z:=zF hG1
 have hX:w1.heap[w.heap.size]?=some (.cells #[.slice x1 d.secs.length y1,.slice x2 d.loose.length y2,.int .i64 d.fuse,.bool d.down] 38 (0,0)):=by rw [hw1];exact heap_alloc_new w _
 have D0:=cR w1 _ 0 _ _ _ hX
 have D1:=cR w1 _ 1 _ _ _ hX
 have D2:=cR w1 _ 2 _ _ _ hX
 have D3:=cR w1 _ 3 _ _ _ hX
 have hfin:HandAt g (put4 w1 g (.slice x1 d.secs.length y1) (.slice x2 d.loose.length y2) (.int .i64 d.fuse) (.bool d.down)) d :=
  ⟨_,put4_heap hG1 _ _ _ _,by
   have h1:=put4_diskV ((hd.below hb1).tight) hs (.slice x1 d.secs.length y1) (.slice x2 d.loose.length y2) (.int .i64 d.fuse) (.bool d.down)
   simpa [put4,World.setCell] using h1,hs⟩
 have hfr:w.grownBy (put4 w1 g (.slice x1 d.secs.length y1) (.slice x2 d.loose.length y2) (.int .i64 d.fuse) (.bool d.down)) (some g):=zO (only_of_below hb1) (put4_only _ _ _ _ _)
 have HFIN:=zh hfin
 have HFR:=zh hfr
 have HW1:=zh hw1
 clear hfin hfr hG1 hX hb1 hg hd hd0 hw1
 by_cases he:e=0
 ·subst he
  rw [hEnd0 rfl]
  go_enter Tryz.func141,Tryz.ntmps141
  go_upto_region 1 with (fail)
  rw [← HW1.out]
  go_wp2_with fail
  go_end0
  exact⟨rfl,HFIN.out,HFR.out⟩
 ·rw [hEnd1 he]
  have hne:(e != 0)=true:=by rw [bne_iff_ne];exact he
  clear he
  go_enter Tryz.func141,Tryz.ntmps141
  go_upto_region 1 with (fail)
  rw [← HW1.out]
  go_wp2_with fail
  exact⟨rfl,rfl,HFIN.out,HFR.out⟩
theorem HandAt.parts {g:Nat} {w:World} {d:DiskP} (h:HandAt g w d):∃ p1 q1 p2 q2,w.heap[g]?=some (.cells #[.slice p1 d.secs.length q1,.slice p2 d.loose.length q2,.int .i64 d.fuse,.bool d.down] 174 (0,0))∧DiskV w.heap.size w (.agg #[.slice p1 d.secs.length q1,.slice p2 d.loose.length q2,.int .i64 d.fuse,.bool d.down]) d∧DSl (·≠g) (.agg #[.slice p1 d.secs.length q1,.slice p2 d.loose.length q2,.int .i64 d.fuse,.bool d.down]):=by
 obtain⟨A,hg,hd,hs⟩:=h
 obtain⟨p1,q1,p2,q2,hA,_,_⟩:=hd.parts
 cases hA
 exact⟨p1,q1,p2,q2,hg,hd,hs⟩
set_option maxRecDepth 100000 in
set_option maxHeartbeats 2000000 in
theorem hput_any {g:Nat} (d:DiskP) (at_:Int) (s:List UInt8) (w:World) (hh:HandAt g w d) (h64:s.length=64) :
  Calls Tryz.prog 99 #[.pointer (some ⟨g,0,none⟩),.int .i64 at_,.agg (u8s s).toArray] w fun x w'=>x=hEnd (deed d (.put at_ s)).2∧HandAt g w' (deed d (.put at_ s)).1∧w.grownBy w' (some g):=by
 obtain⟨X,hX⟩:∃ X,X=(u8s s).toArray:=⟨_,rfl⟩
 have hXs:X.size=64:=by rw [hX];simp [zL,h64]
 obtain⟨w1,hw1⟩:∃ w1,w1=w.alloc (.cells X 94):=⟨_,rfl⟩
 have hb1:Below w.heap.size w w1:=by rw [hw1];exact Below.alloc (Below.refl _ _) (Nat.le_refl _) _
 have hXr:w1.heap[w.heap.size]?=some (.cells X 94 (0,0)):=by rw [hw1];exact heap_alloc_new w _
 have hh1:=hh.below hb1
 obtain⟨p1,q1,p2,q2,hg,hd,hs⟩:=hh1.parts
 have C0:=cR w1 _ 0 _ _ _ hg
 have C1:=cR w1 _ 1 _ _ _ hg
 have C2:=cR w1 _ 2 _ _ _ hg
 have C3:=cR w1 _ 3 _ _ _ hg
 obtain⟨i44,hi44,hs44⟩:=info44
 have hld:=run_load_big (P:=Tryz.prog) (t:=94) Tryz.underlying94 (.inl ⟨_,_,rfl⟩) hi44 (w:=w1.drew) (b:=w.heap.size) (off:=0) (cs:=X.toList) hs44 (by simpa using hXs)
  (fun j u hj=>by
   show w1.cell? _=_
   rw [cR w1 _ (0+j) _ _ _ hXr];simpa using hj)
 simp only [Array.toArray_toList] at hld
 have k1:=put_any _ d at_ s w1.drew (show DiskV w1.heap.size w1.drew _ d from hd.below (zD (Below.refl _ _) 1)) h64 (·≠g) hs (fun b hb=>by show b≠g;have:w1.drew.heap.size=w1.heap.size:=rfl;have:=zB hg;omega)
 have k2:∀ (v:Value) (w2:World) (hb:Below w1.drew.heap.size w1.drew w2) (hd2:DiskV w2.heap.size w2 v (putP d at_ s).1) (hs2:DSl (·≠g) v),Calls Tryz.prog 141 #[.pointer (some ⟨g,0,none⟩),v,.int .i64 (putP d at_ s).2] w2 fun x w'=>x=hEnd (putP d at_ s).2∧HandAt g w' (putP d at_ s).1∧w.grownBy w' (some g):=fun v w2 hb hd2 hs2 =>
  (must_any v d (putP d at_ s).1 (putP d at_ s).2 w2 (hh1.below ((zD (Below.refl _ _) 1).trans hb)) hd2 hs2).mono fun x w' hx=>⟨hx.1,hx.2.1,zO (zO (only_of_below hb1) (only_of_below ((zD (Below.refl _ _) 1).trans hb))) hx.2.2⟩
 show Calls _ _ _ _ fun x w'=>x=hEnd (putP d at_ s).2∧HandAt g w' (putP d at_ s).1∧w.grownBy w' (some g)
 obtain⟨r,hr⟩:∃ r,r=putP d at_ s:=⟨_,rfl⟩
 rw [← hr] at k1
 simp only [← hr] at k2
 rw [← hX] at k1 ⊢
 rw [← hr]
 have K2:=zh k2
 have HW1:=zh hw1
 clear hr hX hXs hi44 hs44 k2 hXr hb1 hh hh1 hd hs hg hw1
 go_enter Tryz.func99,Tryz.ntmps99
 go_upto_region 1 with (fail)
 rw [← HW1.out]
 refine wp_region_startQ (fun _=>True) (by kernel_rfl) trivial ?_
 refine wpAnyH_partQ [(false,0),(false,1),(false,2),(false,3),(false,5)] (by kernel_rfl) (fun _ d _ _ _ h=>by cases d <;> exact h) trivial ?_
 repeat (first | (refine zS rfl rfl ?_;simp only [Act.put,zq1,zq2,zq3]) | (refine zT rfl ?_ rfl (fun w' hw'=>?_) ?_;rotate_left;(go_simp;first | done | with_reducible rfl);(try simp only [Act.put,zq1,zq2,zq3])))
 refine zN ?_
 refine wpAnyH_ready (rs:=[4,6]) (by kernel_rfl) (by simp) ?_
 refine zR rfl rfl (fun K hK=>?_) (zR rfl rfl (fun K hK=>?_) AllReadyH.nil)
 ·go_simp
  refine hK.out _ _ trivial ?_
  clear hK K
  refine wpAnyH_endQ [(true,6),(true,7),(false,8),(false,9),(true,10)] (by kernel_rfl) (fun _ d _ _ _ h=>by cases d <;> exact h) trivial ?_
  refine zA rfl rfl fun K hK=>?_
  refine op_load (.tmp 5) 94 rfl rfl hld ?_
  refine hK.out _ _ trivial ?_
  clear hK K hld C0 C1 C2 C3
  simp only [Act.put,zq1,zq2,zq3]
  refine zA rfl rfl fun K hK=>?_
  go_simp
  refine k1.mono ?_
  rintro e w2 ⟨⟨v',rfl,hd',hs'⟩,hb2⟩
  refine hK.out _ _ trivial ?_
  clear hK K k1
  repeat (first | (refine zS rfl rfl ?_;simp only [Act.put,zq1,zq2,zq3]) | (refine zT rfl ?_ rfl (fun w' hw'=>?_) ?_;rotate_left;(go_simp;first | done | with_reducible rfl);(try simp only [Act.put,zq1,zq2,zq3])))
  have k2:=K2.out v' w2 hb2 hd' hs'
  refine zA rfl rfl fun K hK=>?_
  go_simp
  refine k2.mono ?_
  rintro e w3 ⟨rfl,hh3,ho3⟩
  by_cases he:r.2=0
  ·have e0:=hEnd0 he
   rw [e0]
   refine hK.out _ _ trivial ?_
   have HE:=zh e0
   have HH:=zh hh3
   clear hK K k2 he e0 hh3
   refine zN ?_
   go_wp2_with fail
   go_end0
   exact⟨HE.out.symm,HH.out,ho3⟩
  ·have e0:=hEnd1 he
   rw [e0]
   exact⟨rfl,e0.symm,hh3,ho3⟩
 ·refine op_load (.tmp 5) 94 rfl rfl hld ?_
  refine hK.out _ _ trivial ?_
  clear hK K hld
  simp only [Act.put,zq1,zq2,zq3]
  refine wpAnyH_endQ [(true,4),(true,7),(false,8),(false,9),(true,10)] (by kernel_rfl) (fun _ d _ _ _ h=>by cases d <;> exact h) trivial ?_
  refine zA rfl rfl fun K hK=>?_
  go_simp
  refine hK.out _ _ trivial ?_
  clear hK K C0 C1 C2 C3
  refine zA rfl rfl fun K hK=>?_
  go_simp
  refine k1.mono ?_
  rintro e w2 ⟨⟨v',rfl,hd',hs'⟩,hb2⟩
  refine hK.out _ _ trivial ?_
  clear hK K k1
  repeat (first | (refine zS rfl rfl ?_;simp only [Act.put,zq1,zq2,zq3]) | (refine zT rfl ?_ rfl (fun w' hw'=>?_) ?_;rotate_left;(go_simp;first | done | with_reducible rfl);(try simp only [Act.put,zq1,zq2,zq3])))
  have k2:=K2.out v' w2 hb2 hd' hs'
  refine zA rfl rfl fun K hK=>?_
  go_simp
  refine k2.mono ?_
  rintro e w3 ⟨rfl,hh3,ho3⟩
  by_cases he:r.2=0
  ·have e0:=hEnd0 he
   rw [e0]
   refine hK.out _ _ trivial ?_
   have HE:=zh e0
   have HH:=zh hh3
   clear hK K k2 he e0 hh3
   refine zN ?_
   go_wp2_with fail
   go_end0
   exact⟨HE.out.symm,HH.out,ho3⟩
  ·have e0:=hEnd1 he
   rw [e0]
   exact⟨rfl,e0.symm,hh3,ho3⟩
set_option maxRecDepth 100000 in
set_option maxHeartbeats 2000000 in
theorem hflush_any {g:Nat} (d:DiskP) (w:World) (hh:HandAt g w d) :
  Calls Tryz.prog 108 #[.pointer (some ⟨g,0,none⟩)] w fun x w'=>x=hEnd (deed d .flush).2∧HandAt g w' (deed d .flush).1∧w.grownBy w' (some g):=by
 obtain⟨p1,q1,p2,q2,hg,hd,hs⟩:=hh.parts
 have C0:=cR w _ 0 _ _ _ hg
 have C1:=cR w _ 1 _ _ _ hg
 have C2:=cR w _ 2 _ _ _ hg
 have C3:=cR w _ 3 _ _ _ hg
 have k1:=flush_any _ d w hd (·≠g) hs (fun b hb=>by show b≠g;have:=zB hg;omega)
 have k2:∀ (v:Value) (w2:World) (hb:Below w.heap.size w w2) (hd2:DiskV w2.heap.size w2 v (flushP d).1) (hs2:DSl (·≠g) v),Calls Tryz.prog 141 #[.pointer (some ⟨g,0,none⟩),v,.int .i64 (flushP d).2] w2 fun x w'=>x=hEnd (flushP d).2∧HandAt g w' (flushP d).1∧w.grownBy w' (some g):=fun v w2 hb hd2 hs2 =>
  (must_any v d (flushP d).1 (flushP d).2 w2 (hh.below hb) hd2 hs2).mono fun x w' hx=>⟨hx.1,hx.2.1,zO (only_of_below hb) hx.2.2⟩
 show Calls _ _ _ _ fun x w'=>x=hEnd (flushP d).2∧HandAt g w' (flushP d).1∧w.grownBy w' (some g)
 obtain⟨r,hr⟩:∃ r,r=flushP d:=⟨_,rfl⟩
 rw [← hr] at k1
 simp only [← hr] at k2
 rw [← hr]
 have K2:=zh k2
 clear hr k2 hh hd hs hg
 go_enter Tryz.func108,Tryz.ntmps108
 go_wp2_with fail
 refine k1.mono ?_
 rintro e w2 ⟨⟨v',rfl,hd',hs'⟩,hb2⟩
 have k2:=K2.out v' w2 hb2 hd' hs'
 clear k1
 go_wp2_with fail
 refine k2.mono ?_
 rintro e w3 ⟨rfl,hh3,ho3⟩
 by_cases he:r.2=0
 ·have e0:=hEnd0 he
  rw [e0]
  have HE:=zh e0
  have HH:=zh hh3
  clear k2 he e0 hh3
  go_wp2_with fail
  go_end0
  exact⟨HE.out.symm,HH.out,ho3⟩
 ·have e0:=hEnd1 he
  rw [e0]
  exact⟨rfl,e0.symm,hh3,ho3⟩
end
end Go.Proofs.YtaijompnohkmaaaGreatDoor
