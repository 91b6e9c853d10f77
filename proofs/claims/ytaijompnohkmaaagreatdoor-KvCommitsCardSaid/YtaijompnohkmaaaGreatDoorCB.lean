/- Layer 6 (kv): pairs and changes in slices. -/
import Derived.Test.YtaijompnohkmaaaGreatDoorCA
import Derived.Lib.Strings
import Derived.Lib.Hide
import Derived.Test.YtaijompnohkmaaaGreatDoorProg
import Derived.KernelRfl
import Derived.Deep.QuietTactic
import Derived.BigQuiet
import Derived.Deep.RegionHeld3
import Derived.OwnWalk
set_option linter.unusedSimpArgs false
set_option linter.unusedVariables false
namespace Go.Proofs.YtaijompnohkmaaaGreatDoor
section
open Go.RowKit KvP
def str (s:List UInt8):Value:=.string ⟨s.toArray⟩
theorem str_of (s:ByteArray):Value.string s=str s.data.toList:=by
 unfold str
 congr 1
def pairCells (p:PairP):List Value:=[str p.key,str p.val]
def changeCells (c:ChangeP):List Value:=[str c.key,str c.val,.bool c.gone]
def PairsV (B:Nat) (w:World) (v:Value) (l:List PairP):Prop:=Row B w v 2 l.length (l.map pairCells).flatten
def ChangesV (B:Nat) (w:World) (v:Value) (l:List ChangeP):Prop:=Row B w v 3 l.length (l.map changeCells).flatten
theorem PairsV.below {B:Nat} {w w':World} {v:Value} {l:List PairP} (h:PairsV B w v l) (hb:Below B w w'):PairsV B w' v l:=Row.below h hb
theorem PairsV.tight {B:Nat} {w:World} {v:Value} {l:List PairP} (h:PairsV B w v l):PairsV w.heap.size w v l:=Row.tight h (by decide)
theorem ChangesV.below {B:Nat} {w w':World} {v:Value} {l:List ChangeP} (h:ChangesV B w v l) (hb:Below B w w'):ChangesV B w' v l:=Row.below h hb
theorem ChangesV.tight {B:Nat} {w:World} {v:Value} {l:List ChangeP} (h:ChangesV B w v l):ChangesV w.heap.size w v l:=Row.tight h (by decide)
theorem load_pair {B:Nat} {w:World} {a:Option Addr} {n c:Nat} {l:List PairP} (h:PairsV B w (.slice a n c) l) {k:Nat} (hk:k<l.length) :
  ∃ b off,a=some ⟨b,off,none⟩∧b<B∧∀ w',Below B w w'→w'.cell? ⟨b,off+k*2,none⟩=some (str l[k].key)∧w'.cell? ⟨b,off+k*2+1,none⟩=some (str l[k].val):=by
 obtain⟨hl,a0,cap,hv,hnc,hcap,hcells⟩:=h
 cases hv
 obtain⟨b,off,rfl,hBb,hc⟩:=hcells (by omega)
 have hlen:∀ c∈l.map pairCells,c.length=2:=fun c hc=>by obtain⟨p,_,rfl⟩:=List.mem_map.1 hc;rfl
 have hat:(l.map pairCells)[k]?=some (pairCells l[k]):=by rw [List.getElem?_map,List.getElem?_eq_getElem hk];rfl
 have one:∀ j (x:Value),j<2→(pairCells l[k])[j]?=some x→∀ w',Below B w w'→w'.cell? ⟨b,off+(k*2+j),none⟩=some x:=fun j x hj hx w' hw=>by
  have e:=flatten_get hlen k j _ hat hj
  rw [hx] at e
  exact (hw.cell (p:=⟨b,off+(k*2+j),none⟩) hBb).trans (hc (k*2+j) x e)
 exact⟨b,off,rfl,hBb,fun w' hw=>⟨by simpa using one 0 _ (by decide) rfl w' hw,by have:=one 1 _ (by decide) rfl w' hw;rwa [← Nat.add_assoc] at this⟩⟩
theorem load_change {B:Nat} {w:World} {a:Option Addr} {n c:Nat} {l:List ChangeP} (h:ChangesV B w (.slice a n c) l) {k:Nat} (hk:k<l.length) :
  ∃ b off,a=some ⟨b,off,none⟩∧b<B∧∀ w',Below B w w'→w'.cell? ⟨b,off+k*3,none⟩=some (str l[k].key)∧w'.cell? ⟨b,off+k*3+1,none⟩=some (str l[k].val)∧w'.cell? ⟨b,off+k*3+2,none⟩=some (.bool l[k].gone):=by
 obtain⟨hl,a0,cap,hv,hnc,hcap,hcells⟩:=h
 cases hv
 obtain⟨b,off,rfl,hBb,hc⟩:=hcells (by omega)
 have hlen:∀ c∈l.map changeCells,c.length=3:=fun c hc=>by obtain⟨p,_,rfl⟩:=List.mem_map.1 hc;rfl
 have hat:(l.map changeCells)[k]?=some (changeCells l[k]):=by rw [List.getElem?_map,List.getElem?_eq_getElem hk];rfl
 have one:∀ j (x:Value),j<3→(changeCells l[k])[j]?=some x→∀ w',Below B w w'→w'.cell? ⟨b,off+(k*3+j),none⟩=some x:=fun j x hj hx w' hw=>by
  have e:=flatten_get hlen k j _ hat hj
  rw [hx] at e
  exact (hw.cell (p:=⟨b,off+(k*3+j),none⟩) hBb).trans (hc (k*3+j) x e)
 exact⟨b,off,rfl,hBb,fun w' hw=>⟨by simpa using one 0 _ (by decide) rfl w' hw,by have:=one 1 _ (by decide) rfl w' hw;rwa [← Nat.add_assoc] at this,by have:=one 2 _ (by decide) rfl w' hw;rwa [← Nat.add_assoc] at this⟩⟩
end
section
open Go.RowKit KvP
theorem str_list (s:List UInt8):(ByteArray.mk s.toArray).toList=s:=by rw [Lib.toList_data]
theorem str_size (s:List UInt8):(ByteArray.mk s.toArray).size=s.length:=by simp [ByteArray.size]
set_option maxRecDepth 100000 in
set_option maxHeartbeats 1000000 in
theorem may_any (k v:List UInt8) (w:World):Calls Tryz.prog 80 #[str k,str v] w fun e w'=>e = .returned (.bool (mayP k v))∧w=w':=by
 unfold str
 obtain⟨a,ha⟩:∃ a,a=ByteArray.mk k.toArray:=⟨_,rfl⟩
 obtain⟨b,hb⟩:∃ b,b=ByteArray.mk v.toArray:=⟨_,rfl⟩
 have a1:a.toList=k:=by rw [ha,str_list]
 have a2:a.size=k.length:=by rw [ha,str_size]
 have b2:b.size=v.length:=by rw [hb,str_size]
 rw [← ha,← hb]
 have HA1:=zh a1
 have HA2:=zh a2
 have HB2:=zh b2
 clear ha hb a1 a2 b2
 by_cases h0:k=[]
 ·have q0:a.toList.isEmpty=true:=by rw [HA1.out,h0];rfl
  have hm:mayP k v=false:=by rw [h0];rfl
  rw [hm]
  clear h0 hm
  go_enter Tryz.func80,Tryz.ntmps80
  go_wp2_with fail
  go_ret
  exact⟨rfl,rfl⟩
 ·have q0:a.toList.isEmpty=false:=by rw [HA1.out];cases k <;> simp_all
  have h1:1≤k.length:=List.length_pos_iff.2 h0
  by_cases h2:k.length≤64
  ·have q1:decide ((a.size:Int)≤64)=true:=by rw [HA2.out];simp;omega
   have hm:mayP k v=decide ((b.size:Int)≤4096):=by
    rw [HB2.out]
    unfold mayP
    rw [decide_eq_true h1,decide_eq_true h2]
    simp only [Bool.true_and]
    by_cases h:v.length≤4096
    ·rw [decide_eq_true h,decide_eq_true (by omega)]
    ·rw [decide_eq_false h,decide_eq_false (by omega)]
   rw [hm]
   clear h0 hm h1 h2
   go_enter Tryz.func80,Tryz.ntmps80
   go_wp2_with fail
   go_ret
   exact⟨by simp,rfl⟩
  ·have q1:decide ((a.size:Int)≤64)=false:=by rw [HA2.out];simp;omega
   have hm:mayP k v=false:=by
    unfold mayP
    rw [decide_eq_false h2]
    simp
   rw [hm]
   clear h0 hm h1 h2
   go_enter Tryz.func80,Tryz.ntmps80
   go_wp2_with fail
   go_ret
   exact⟨rfl,rfl⟩
set_option maxRecDepth 100000 in
set_option maxHeartbeats 1000000 in
theorem refmay_any (k v:List UInt8) (w:World):Calls Tryz.prog 71 #[str k,str v] w fun e w'=>e = .returned (.bool (mayP k v))∧w=w':=by
 unfold str
 obtain⟨a,ha⟩:∃ a,a=ByteArray.mk k.toArray:=⟨_,rfl⟩
 obtain⟨b,hb⟩:∃ b,b=ByteArray.mk v.toArray:=⟨_,rfl⟩
 have a2:a.size=k.length:=by rw [ha,str_size]
 have b2:b.size=v.length:=by rw [hb,str_size]
 rw [← ha,← hb]
 have HA2:=zh a2
 have HB2:=zh b2
 clear ha hb a2 b2
 by_cases h0:1≤k.length
 ·have q0:decide ((1:Int)≤(a.size:Int))=true:=by rw [HA2.out];simp;omega
  by_cases h2:k.length≤64
  ·have q1:decide ((a.size:Int)≤64)=true:=by rw [HA2.out];simp;omega
   have hm:mayP k v=decide ((b.size:Int)≤4096):=by
    rw [HB2.out]
    unfold mayP
    rw [decide_eq_true h0,decide_eq_true h2]
    simp only [Bool.true_and]
    by_cases h:v.length≤4096
    ·rw [decide_eq_true h,decide_eq_true (by omega)]
    ·rw [decide_eq_false h,decide_eq_false (by omega)]
   rw [hm]
   clear h0 hm h2
   go_enter Tryz.func71,Tryz.ntmps71
   go_wp2_with fail
   go_ret
   exact⟨by simp,rfl⟩
  ·have q1:decide ((a.size:Int)≤64)=false:=by rw [HA2.out];simp;omega
   have hm:mayP k v=false:=by
    unfold mayP
    rw [decide_eq_false h2]
    simp
   rw [hm]
   clear h0 hm h2
   go_enter Tryz.func71,Tryz.ntmps71
   go_wp2_with fail
   go_ret
   exact⟨by simp,rfl⟩
 ·have q0:decide ((1:Int)≤(a.size:Int))=false:=by rw [HA2.out];simp;omega
  have hm:mayP k v=false:=by
   unfold mayP
   rw [decide_eq_false h0]
   rfl
  rw [hm]
  clear h0 hm
  go_enter Tryz.func71,Tryz.ntmps71
  go_wp2_with fail
  go_ret
  exact⟨by simp,rfl⟩
end
section
namespace KvP
open PackP
theorem length_numB8 (z:Int):(numB z).length=8:=length_be _ _
theorem num_back (z:Int) (rest:List UInt8):(RS.mk (numB z++rest) 0).num=(RS.mk rest 0,(clamp z:Int)):=by
 have hc:=clamp_le z
 have hl:=length_numB8 z
 have ht:(RS.mk (numB z++rest) 0).take 8=(RS.mk rest 0,some (numB z)):=by
  unfold RS.take
  rw [if_pos rfl,if_neg (by simp [hl])]
  simp [← hl]
 have hn:numOf (numB z)=clamp z:=numOf_be 8 _ (by omega)
 unfold RS.num
 rw [ht]
 simp only
 rw [hn,if_neg (by omega)]
theorem text_back (s rest:List UInt8):(RS.mk (textB s++rest) 0).text=(RS.mk rest 0,cutT s):=by
 have hc:=cutT_len s
 have hl:=length_be 4 (cutT s).length
 have ht:(RS.mk (textB s++rest) 0).take 4=(RS.mk (cutT s++rest) 0,some (be 4 (cutT s).length)):=by
  unfold RS.take textB
  rw [if_pos rfl,if_neg (by simp [hl])]
  have h4:∀ x y:List UInt8,x.length=4→(x++y).take 4=x∧(x++y).drop 4=y:=by
   intro x y h;rw [← h];simp
  rw [List.append_assoc,(h4 _ _ hl).1,(h4 _ _ hl).2]
 have ht2:(RS.mk (cutT s++rest) 0).take (cutT s).length=(RS.mk rest 0,some (cutT s)):=by
  unfold RS.take
  rw [if_pos rfl,if_neg (by simp)]
  simp
 have hn:numOf (be 4 (cutT s).length)=(cutT s).length:=numOf_be 4 _ (by omega)
 unfold RS.text
 rw [ht]
 simp only
 rw [hn,if_neg (by omega),ht2]
theorem numB_nat {n:Nat} (h:n≤4611686018427387904):clamp (n:Int)=n:=by
 unfold clamp
 split
 ·omega
 ·split <;> omega
end KvP
end
section
namespace KvP
open PackP
def decodeP (b:List UInt8):List ChangeP×Int :=
 let x:=(RS.mk b 0).count 400
 let y:=decN x.2.toNat x.1
 let e:=if y.1.doneE=0∧changesB y.2=false then 3 else y.1.doneE
 if e=0 then (y.2,0) else ([],e)
theorem okC_parts {c:ChangeP} (h:okC c=true):1≤c.key.length∧c.key.length≤64∧c.val.length≤4096∧(c.gone=true→c.val=[]):=by
 unfold okC mayP at h
 simp only [Bool.and_eq_true,decide_eq_true_eq,Bool.not_eq_true',Bool.and_eq_false_iff,decide_eq_false_iff_not,Classical.not_not] at h
 exact⟨h.1.1.1,h.1.1.2,h.1.2,fun hg=>by
  rcases h.2 with h2 | h2
  ·rw [hg] at h2;cases h2
  ·exact h2⟩
theorem cutT_small {s:List UInt8} (h:s.length≤4096):cutT s=s:=List.take_of_length_le h
theorem dec1_back {c:ChangeP} (h:okC c=true) (rest:List UInt8):dec1 ⟨changeB c++rest,0⟩=(⟨rest,0⟩,c):=by
 obtain⟨h1,h2,h3,h4⟩:=okC_parts h
 obtain⟨key,val,gone⟩:=c
 simp only at h1 h2 h3 h4
 unfold dec1 changeB
 cases gone with
 | true =>
  obtain rfl:=h4 rfl
  simp only [if_true,List.append_assoc,num_back,show clamp 1=1 from rfl,RS.fail,text_back]
  simp [text_back,cutT_small (show key.length≤4096 by omega)]
 | false =>
  simp only [List.append_assoc,num_back,show clamp 0=0 from rfl,RS.fail,text_back]
  simp [num_back,text_back,show clamp 0=0 from rfl,cutT_small (show key.length≤4096 by omega),cutT_small h3]
theorem decN_back:∀ (l:List ChangeP),(∀ c∈l,okC c=true)→∀ rest,decN l.length ⟨(l.map changeB).flatten++rest,0⟩=(⟨rest,0⟩,l)
 | [],_,rest=>rfl
 | c :: l,h,rest=>by
  rw [List.length_cons,decN,List.map_cons,List.flatten_cons,List.append_assoc,dec1_back (h c (List.mem_cons_self ..))]
  simp only
  rw [decN_back l (fun x hx=>h x (List.mem_cons_of_mem _ hx)) rest]
theorem changesB_parts {l:List ChangeP} (h:changesB l=true):l.length≤400∧∀ c∈l,okC c=true:=by
 unfold changesB at h
 simp only [Bool.and_eq_true,decide_eq_true_eq,List.all_eq_true] at h
 exact h
theorem decode_bytes {l:List ChangeP} (h:changesB l=true):decodeP (bytesP l)=(l,0):=by
 obtain⟨h1,h2⟩:=changesB_parts h
 have hc:(RS.mk (bytesP l) 0).count 400=(⟨(l.map changeB).flatten,0⟩,(l.length:Int)):=by
  unfold RS.count bytesP
  rw [num_back]
  simp only [if_true]
  rw [numB_nat (by omega),if_neg (by omega)]
 unfold decodeP
 rw [hc]
 simp only [Int.toNat_natCast]
 have:=decN_back l h2 []
 rw [List.append_nil] at this
 rw [this]
 simp [RS.doneE,h]
end KvP
end
section
namespace KvP
open PackP
def chg (p:PairP):ChangeP:=⟨p.key,p.val,false⟩
def snapF:List PairP→List ChangeP→List (List ChangeP)
 | [],c=>[c]
 | p :: l,c=>if 6000<(bytesP (c++[chg p])).length then c :: snapF l [chg p] else snapF l (c++[chg p])
def snapP (l:List PairP):List (List UInt8):=(snapF l []).map bytesP
theorem length_textS {s:List UInt8} (h:s.length≤4096):(textB s).length=4+s.length:=by
 unfold textB
 rw [cutT_small h,List.length_append,length_be]
theorem length_chg {p:PairP} (h:mayP p.key p.val=true):(changeB (chg p)).length=16+p.key.length+p.val.length:=by
 unfold mayP at h
 simp only [Bool.and_eq_true,decide_eq_true_eq] at h
 unfold changeB chg
 simp only [Bool.false_eq_true,if_false,List.length_append,length_numB8]
 rw [length_textS (by omega),length_textS h.2]
 omega
theorem bytes_snoc (c:List ChangeP) (x:ChangeP):(bytesP (c++[x])).length=(bytesP c).length+(changeB x).length:=by
 unfold bytesP
 simp [length_numB8]
 omega
theorem bytes_nil:(bytesP []).length=8:=by
 unfold bytesP
 simp [length_numB8]
theorem snapF_all (q:List ChangeP→Prop):∀ (l:List PairP) (c:List ChangeP),q c→(∀ p∈l,q [chg p])→(∀ p∈l,∀ c,q c→¬ 6000<(bytesP (c++[chg p])).length→q (c++[chg p]))→∀ x∈snapF l c,q x
 | [],c,h,_,_=>fun x hx=>by rw [List.mem_singleton.1 hx];exact h
 | p :: l,c,h,h1,h2=>fun x hx=>by
  rw [snapF] at hx
  split at hx
  ·rcases List.mem_cons.1 hx with rfl | hx
   ·exact h
   ·exact snapF_all q l _ (h1 p (List.mem_cons_self ..)) (fun p hp=>h1 p (List.mem_cons_of_mem _ hp)) (fun p hp=>h2 p (List.mem_cons_of_mem _ hp)) x hx
  ·rename_i hn
   exact snapF_all q l _ (h2 p (List.mem_cons_self ..) c h hn) (fun p hp=>h1 p (List.mem_cons_of_mem _ hp)) (fun p hp=>h2 p (List.mem_cons_of_mem _ hp)) x hx
theorem okC_chg {p:PairP} (h:mayP p.key p.val=true):okC (chg p)=true:=by
 unfold okC chg
 simp [h]
def ChunkOk (c:List ChangeP):Prop:=(∀ x∈c,okC x=true)∧(bytesP c).length≤6000∧17*c.length+8≤(bytesP c).length
theorem snap_ok {l:List PairP} (h:∀ p∈l,mayP p.key p.val=true):∀ x∈snapF l [],ChunkOk x:=by
 have hk:∀ p∈l,17≤(changeB (chg p)).length∧(changeB (chg p)).length≤16+64+4096:=fun p hp=>by
  rw [length_chg (h p hp)]
  have:=h p hp
  unfold mayP at this
  simp only [Bool.and_eq_true,decide_eq_true_eq] at this
  omega
 refine snapF_all ChunkOk l [] ⟨fun x hx=>absurd hx (List.not_mem_nil),by rw [bytes_nil];decide,by rw [bytes_nil];decide⟩ (fun p hp=>?_) (fun p hp c hc hn=>?_)
 ·have e:=bytes_snoc [] (chg p)
  rw [bytes_nil,List.nil_append] at e
  have:=hk p hp
  exact⟨fun x hx=>by rw [List.mem_singleton.1 hx];exact okC_chg (h p hp),by omega,by rw [List.length_singleton];omega⟩
 ·have e:=bytes_snoc c (chg p)
  have:=hk p hp
  have h3:=hc.2.2
  refine⟨fun x hx=>?_,by omega,by rw [List.length_append,List.length_singleton];omega⟩
  rcases List.mem_append.1 hx with hx | hx
  ·exact hc.1 x hx
  ·rw [List.mem_singleton.1 hx];exact okC_chg (h p hp)
theorem ChunkOk.changes {c:List ChangeP} (h:ChunkOk c):changesB c=true:=by
 unfold changesB
 have:=h.2.1
 have:=h.2.2
 simp only [Bool.and_eq_true,decide_eq_true_eq,List.all_eq_true]
 exact⟨by omega,h.1⟩
end KvP
end
section
open Go.RowKit
structure WriteP where
 at_:Int
 data:List UInt8
structure DiskP where
 secs:List (List UInt8)
 loose:List WriteP
 fuse:Int
 down:Bool
def wcells (x:WriteP):List Value:=.int .i64 x.at_ :: u8s x.data
def Secs (B:Nat) (w:World) (v:Value) (ss:List (List UInt8)):Prop:=(∀ s∈ss,s.length=64)∧Row B w v 64 ss.length (ss.map u8s).flatten
def Loose (B:Nat) (w:World) (v:Value) (ls:List WriteP):Prop:=(∀ x∈ls,x.data.length=64)∧Row B w v 65 ls.length (ls.map wcells).flatten
theorem Secs.below {B:Nat} {w w':World} {v:Value} {ss:List (List UInt8)} (h:Secs B w v ss) (hb:Below B w w'):Secs B w' v ss:=⟨h.1,h.2.below hb⟩
theorem Loose.below {B:Nat} {w w':World} {v:Value} {ls:List WriteP} (h:Loose B w v ls) (hb:Below B w w'):Loose B w' v ls:=⟨h.1,h.2.below hb⟩
theorem Secs.tight {B:Nat} {w:World} {v:Value} {ss:List (List UInt8)} (h:Secs B w v ss):Secs w.heap.size w v ss:=⟨h.1,h.2.tight (by decide)⟩
theorem Loose.tight {B:Nat} {w:World} {v:Value} {ls:List WriteP} (h:Loose B w v ls):Loose w.heap.size w v ls:=⟨h.1,h.2.tight (by decide)⟩
def DiskV (B:Nat) (w:World) (v:Value) (d:DiskP):Prop:=∃ sv lv,v = .agg #[sv,lv,.int .i64 d.fuse,.bool d.down]∧Secs B w sv d.secs∧Loose B w lv d.loose
theorem DiskV.below {B:Nat} {w w':World} {v:Value} {d:DiskP} (h:DiskV B w v d) (hb:Below B w w'):DiskV B w' v d:=by
 obtain⟨sv,lv,h1,h2,h3⟩:=h
 exact⟨sv,lv,h1,h2.below hb,h3.below hb⟩
theorem DiskV.tight {B:Nat} {w:World} {v:Value} {d:DiskP} (h:DiskV B w v d):DiskV w.heap.size w v d:=by
 obtain⟨sv,lv,h1,h2,h3⟩:=h
 exact⟨sv,lv,h1,h2.tight,h3.tight⟩
theorem run_load_big {P:Program} {t:TypeId} {i:TypeInfo} {d:TypeDesc} (hu:P.underlying t=some d) (hd:(∃ n e,d = .array n e)∨∃ fs,d = .struct fs) (hi:P.info? t=some i) {w:World} {b off n:Nat} {cs:List Value}
  (hsz:i.size=n) (hl:cs.length=n) (hc:∀ k u,cs[k]?=some u→w.cell? ⟨b,off+k,none⟩=some u) :
  (loadVar t ⟨b,off,none⟩).run P w = .ok (.agg cs.toArray) w:=by
 have h:=run_loadCells_list (P:=P) w ⟨b,off,none⟩ cs (fun j v hj=>by
  have:(⟨b,off,none⟩:Addr).add j=⟨b,off+j,none⟩:=by unfold Addr.add;split <;> simp_all
  rw [this];exact hc j v hj)
 rw [hl] at h
 rcases hd with ⟨n',e,rfl⟩ | ⟨fs,rfl⟩ <;> simp [loadVar,isAgg,run_underlying hu,sizeOf,typeInfo,hi,hsz,h]
theorem flat_at {α:Type} (f:α→List Value) (sz:Nat):∀ (xs:List α),(∀ x∈xs,(f x).length=sz)→∀ (k:Nat) (x:α),xs[k]?=some x→∀ (j:Nat) (u:Value),(f x)[j]?=some u→(xs.map f).flatten[k*sz+j]?=some u
 | [],_,k,x,h,_,_,_=>by simp at h
 | y :: ys,hs,0,x,h,j,u,hj=>by
  simp only [List.getElem?_cons_zero,Option.some.injEq] at h
  subst h
  rw [List.map_cons,List.flatten_cons,Nat.zero_mul,Nat.zero_add,List.getElem?_append_left (List.getElem?_eq_some_iff.1 hj).1]
  exact hj
 | y :: ys,hs,k+1,x,h,j,u,hj=>by
  have h0:=hs y (List.mem_cons_self ..)
  rw [List.map_cons,List.flatten_cons,List.getElem?_append_right (by rw [h0,Nat.succ_mul];omega),h0]
  have e:(k+1)*sz+j-sz=k*sz+j:=by rw [Nat.succ_mul];omega
  rw [e]
  exact flat_at f sz ys (fun x hx=>hs x (List.mem_cons_of_mem _ hx)) k x (by simpa using h) j u hj
theorem zL (s:List UInt8):(u8s s).length=s.length:=by simp [u8s]
theorem length_wcells (x:WriteP):(wcells x).length=x.data.length+1:=by simp [wcells,u8s]
end
section
open Go.RowKit
section
variable {P:Program} {ops:Array Oper} {rest:List Oper} {o:Oper} {a:Act} {w:World} {Q:Exit→Act→World→Prop}
theorem wp_load_at (x:Operand) (t:TypeId) (hgd:o.guard=none) (ho:o.op = .load t x) {ad:Addr} {v:Value} (hx:a.eval x = .pointer (some ad)) (hl:(loadVar t ad).run P w = .ok v w)
  (h:wpList P ops Q rest (a.put o.dst v) w):wpList P ops Q (o :: rest) a w:=by
 refine wpList_plain hgd fun K hK=>?_
 unfold Oper.wp execOp
 simp only [ho,hx,Instr.loadAt,Instr.sureAddr,Sem.run_bind,Sem.run_pure,Result.andThen_ok,hl]
 exact hK _ _ h
theorem wp_store_at (x y:Operand) (t:TypeId) (hgd:o.guard=none) (ho:o.op = .store t x y) {ad:Addr} {v:Value} {w':World} (hx:a.eval x = .pointer (some ad)) (hy:a.eval y=v) (hl:(storeVar t ad v).run P w = .ok () w')
  (h:wpList P ops Q rest (a.put o.dst undef) w'):wpList P ops Q (o :: rest) a w:=by
 refine wpList_plain hgd fun K hK=>?_
 unfold Oper.wp execOp
 simp only [ho,hx,hy,Instr.storeAt,Instr.sureAddr,Sem.run_bind,Sem.run_pure,Result.andThen_ok,hl]
 exact hK _ _ h
theorem wp_alloc_at (t:TypeId) (hgd:o.guard=none) (ho:o.op = .alloc t) {z:Value} (hz:(zeroValue t).run P w = .ok z w)
  (h:wpList P ops Q rest (a.put o.dst (.pointer (some ⟨w.heap.size,0,none⟩))) (w.alloc (.cells z.cells t))):wpList P ops Q (o :: rest) a w:=by
 refine wpList_plain hgd fun K hK=>?_
 unfold Oper.wp execOp
 have hr:(Instr.alloc t true (.tuple #[])).run P w = .ok (.pointer (some ⟨w.heap.size,0,none⟩)) (w.alloc (.cells z.cells t)):=by
  simp only [Instr.alloc,Sem.run_bind,hz,Result.andThen_ok]
  rfl
 simp only [ho,Sem.run_bind,Sem.run_pure,Result.andThen_ok,hr]
 exact hK _ _ h
theorem run_store_big {t:TypeId} {i:TypeInfo} (hi:P.info? t=some i) {w:World} {g off:Nat} {cur:Array Value} {e:TypeId} {cs:List Value} (hg:w.heap[g]?=some (.cells cur e (0,0)))
  (hsz:i.size=cs.length) (hfit:off+cs.length≤cur.size) (h1:∀ v∈cs,v.oneCell'=true) :
  (storeVar t ⟨g,off,none⟩ (.agg cs.toArray)).run P w = .ok () (w.setRow g (cur.toList.take off++cs++cur.toList.drop (off+cs.length)).toArray):=by
 have h:=run_storeCells_at P g off e cs 0 cur w hg (by simpa using hfit) h1
 simp only [Nat.add_zero] at h
 simp [storeVar,Value.cells,sizeOf,typeInfo,hi,hsz,h]
end
end
section
open Go.RowKit
theorem info_write:(Tryz.prog.info? 96).map (fun i=>(i.size,i.bytes))=some (65,72):=by kernel_rfl
theorem size_parts {P:Program} {e:TypeId} {size bytes:Nat} (h:(P.info? e).map (fun i=>(i.size,i.bytes))=some (size,bytes)):∃ i,P.info? e=some i∧i.size=size∧i.bytes=bytes:=by
 obtain⟨i,hi,hzz⟩:=Option.map_eq_some_iff.1 h
 simp only [Prod.mk.injEq] at hzz
 exact⟨i,hi,hzz.1,hzz.2⟩
def thereB (d:DiskP) (at_:Int):Bool:=decide (0≤at_)&&decide (at_<d.secs.length)
def fusedB (n:Int):Bool:=decide (-1≤n)&&decide (n≤1099511627776)
set_option maxRecDepth 100000 in
theorem fused_any (n:Int) (w:World):Calls Tryz.prog 128 #[.int .i64 n] w fun e w'=>e = .returned (.bool (fusedB n))∧w=w':=by
 by_cases h1:-1≤n
 ·have hf:fusedB n=decide (n≤1099511627776):=by simp [fusedB,h1]
  rw [hf]
  clear hf
  go_enter Tryz.func128,Tryz.ntmps128
  go_wp2
  go_ret
  exact⟨rfl,rfl⟩
 ·have hf:fusedB n=false:=by simp [fusedB,h1]
  rw [hf]
  have t0:decide (-1≤n)=false:=by simp;omega
  clear hf h1
  go_enter Tryz.func128,Tryz.ntmps128
  go_wp2
  go_ret
  exact⟨rfl,rfl⟩
set_option maxRecDepth 100000 in
theorem there_any {B:Nat} (v:Value) (d:DiskP) (at_:Int) (w:World) (h:DiskV B w v d) :
  Calls Tryz.prog 131 #[v,.int .i64 at_] w fun e w'=>e = .returned (.bool (thereB d at_))∧Below w.heap.size w w':=by
 obtain⟨sv,lv,rfl,⟨_,_,a,cap,rfl,hnc,hcap,_⟩,⟨_,_,a2,cap2,rfl,_⟩⟩:=h
 unfold maxLen at hcap
 have hb:Below w.heap.size w (w.alloc (.cells #[.slice a d.secs.length cap,.slice a2 d.loose.length cap2,.int .i64 d.fuse,.bool d.down] 38)):=Below.alloc (Below.refl _ _) (Nat.le_refl _) _
 by_cases h1:0≤at_
 ·have hf:thereB d at_=decide (at_<d.secs.length):=by simp [thereB,h1]
  rw [hf]
  clear hf
  go_enter Tryz.func131,Tryz.ntmps131
  go_wp2
  go_ret
  exact⟨rfl,hb⟩
 ·have hf:thereB d at_=false:=by simp [thereB,h1]
  rw [hf]
  have t0:decide (0≤at_)=false:=by simp;omega
  clear hf h1
  go_enter Tryz.func131,Tryz.ntmps131
  go_wp2
  go_ret
  exact⟨rfl,hb⟩
def DiskAt (B g:Nat) (w:World) (d:DiskP):Prop:=∃ sv lv,w.heap[g]?=some (.cells #[sv,lv,.int .i64 d.fuse,.bool d.down] 38 (0,0))∧Secs B w sv d.secs∧Loose B w lv d.loose
theorem DiskAt.below {B g B':Nat} {w w':World} {d:DiskP} (h:DiskAt B g w d) (hb:Below B' w w') (hg:g<B') (hB:B≤B'):DiskAt B g w' d:=by
 obtain⟨sv,lv,h1,h2,h3⟩:=h
 exact⟨sv,lv,(hb.block g hg).trans h1,h2.below (hb.mono hB),h3.below (hb.mono hB)⟩
set_option maxRecDepth 100000 in
theorem pred_any {B g:Nat} (A:Array Value) (at_:Int) (d:DiskP) (w:World) (h:DiskAt B g w d) (hA:A[0]?=some (.int .i64 at_)) :
  Calls Tryz.prog 130 #[.agg A,.pointer (some ⟨g,0,none⟩)] w fun e w'=>e = .returned (.bool (!thereB d at_))∧Below w.heap.size w w':=by
 obtain⟨sv,lv,h1,h2,h3⟩:=h
 have hg:g<w.heap.size:=zB h1
 have hb:Below w.heap.size w (w.alloc (.cells A 96)):=Below.alloc (Below.refl _ _) (Nat.le_refl _) _
 have c0:=cR w g 0 _ _ _ h1
 have c1:=cR w g 1 _ _ _ h1
 have c2:=cR w g 2 _ _ _ h1
 have c3:=cR w g 3 _ _ _ h1
 have hd:DiskV w.heap.size w (.agg #[sv,lv,.int .i64 d.fuse,.bool d.down]) d:=⟨sv,lv,rfl,h2.tight,h3.tight⟩
 have hd2:=hd.below hb
 have k1:=there_any _ d at_ _ hd2
 go_enter Tryz.func130,Tryz.ntmps130
 go_wp2_with fail
 refine k1.mono ?_
 rintro e w1 ⟨rfl,hb1⟩
 go_wp2_with fail
 go_ret
 exact⟨rfl,hb.trans (hb1.mono hb.size)⟩
def badAt (d:DiskP) (ls:List WriteP):Bool:=ls.any fun x=>!thereB d x.at_
theorem badAt_none (d:DiskP) (ls:List WriteP) (h:∀ k (hk:k<ls.length),thereB d ls[k].at_=true):badAt d ls=false:=by
 unfold badAt
 rw [List.any_eq_false]
 intro x hx
 obtain⟨k,hk,rfl⟩:=List.getElem_of_mem hx
 simp [h k hk]
theorem badAt_some (d:DiskP) (ls:List WriteP) (k:Nat) (hk:k<ls.length) (h:thereB d ls[k].at_=false):badAt d ls=true:=by
 unfold badAt
 rw [List.any_eq_true]
 exact⟨ls[k],List.getElem_mem hk,by simp [h]⟩
set_option maxRecDepth 100000 in
set_option maxHeartbeats 1000000 in
theorem index_any {B g:Nat} (v:Value) (ls:List WriteP) (d:DiskP) (w:World) (h:DiskAt B g w d) (hB:B≤g) (hl:Loose B w v ls) :
  Calls Tryz.prog 150 #[v,.func (.func 130) #[] #[.pointer (some ⟨g,0,none⟩)]] w fun e w'=>(∃ z:Int,e = .returned (.int .i64 z)∧(decide (0≤z))=badAt d ls)∧Below w.heap.size w w':=by
 obtain⟨hls,_,a,cap,rfl,hnc,hcap,hcells⟩:=hl
 unfold maxLen at hcap
 have hg:g<w.heap.size:=by obtain⟨_,_,h1,_⟩:=h;exact zB h1
 obtain⟨i0,hi,hsz,_⟩:=size_parts info_write
 go_enter Tryz.func150,Tryz.ntmps150
 go_wp2
 go_loopw [8] (fun i wr=>∃ k:Nat,k≤ls.length∧i = .int .i64 k∧(∀ j (hj:j<ls.length),j<k→thereB d ls[j].at_=true)∧Below w.heap.size w wr) (fun i _=>ls.length-(intOf i).toNat)
 case atStart=>exact⟨0,Nat.zero_le _,rfl,fun j _ h=>absurd h (Nat.not_lt_zero _),Below.refl _ _⟩
 case round =>
  obtain⟨k,hk,rfl,hpre,hb⟩:=hrel
  by_cases hlt:k<ls.length
  ·obtain⟨b,off,rfl,hBb,hc⟩:=hcells (by omega)
   have hBw:b<w.heap.size:=Nat.lt_trans (Nat.lt_of_lt_of_le hBb hB) hg
   have hat:=flat_at wcells 65 ls (fun x hx=>by rw [length_wcells,hls x hx]) k ls[k] (List.getElem?_eq_getElem hlt)
   have hld:=run_load_big (P:=Tryz.prog) (t:=96) Tryz.underlying96 (.inr ⟨_,rfl⟩) hi (w:=wr) (b:=b) (off:=off+k*65) (cs:=wcells ls[k]) hsz (by rw [length_wcells,hls _ (List.getElem_mem hlt)])
    (fun j u hj=>by rw [Nat.add_assoc];exact (hb.cell (p:=⟨b,off+(k*65+j),none⟩) hBw).trans (hc _ _ (hat j u hj)))
   have HP:=zh hpre
   have hA:(wcells ls[k]).toArray[0]?=some (.int .i64 ls[k].at_):=by simp [wcells]
   have hd:DiskAt B g wr d:=h.below hb hg (Nat.le_trans hB (Nat.le_of_lt hg))
   have k1:=pred_any _ _ d wr hd hA
   obtain⟨q,hq⟩:∃ q,q=thereB d ls[k].at_:=⟨_,rfl⟩
   rw [← hq] at k1
   have HQ:=zh hq
   clear hpre hc hat hcells hA hd hq
   obtain⟨A,hAe⟩:∃ A,A=(wcells ls[k]).toArray:=⟨_,rfl⟩
   rw [← hAe] at hld k1
   clear hAe
   cases q with
   | true =>
    go_wp2_with (refine wp_load_at (.tmp 14) 96 rfl rfl rfl hld ?_)
    refine k1.mono ?_
    rintro e w1 ⟨rfl,hb1⟩
    go_wp2_with fail
    go_roundw
    case rel =>
     refine⟨k+1,by omega,by go_num,fun j hj hjk=>?_,hb.trans (hb1.mono hb.size)⟩
     by_cases hjk2:j<k
     ·exact HP.out j hj hjk2
     ·obtain rfl:j=k:=by omega
      exact HQ.out.symm
    case measure=>simp [intOf];omega
   | false =>
    go_wp2_with (refine wp_load_at (.tmp 14) 96 rfl rfl rfl hld ?_)
    refine k1.mono ?_
    rintro e w1 ⟨rfl,hb1⟩
    go_wp2_with fail
    go_ret
    exact⟨⟨k,rfl,by rw [badAt_some d ls k hlt HQ.out.symm];simp⟩,hb.trans (hb1.mono hb.size)⟩
  ·have hke:k=ls.length:=by omega
   subst hke
   have HP:=zh hpre
   clear hpre hcells
   go_wp2_with fail
   go_ret
   exact⟨⟨-1,rfl,by rw [badAt_none d ls (fun j hj=>HP.out j hj hj)];decide⟩,hb⟩
end
section
open Go.RowKit
set_option maxRecDepth 100000 in
theorem contains_any {B g:Nat} (v:Value) (ls:List WriteP) (d:DiskP) (w:World) (h:DiskAt B g w d) (hB:B≤g) (hl:Loose B w v ls) :
  Calls Tryz.prog 129 #[v,.func (.func 130) #[] #[.pointer (some ⟨g,0,none⟩)]] w fun e w'=>e = .returned (.bool (badAt d ls))∧Below w.heap.size w w':=by
 have k1:=index_any v ls d w h hB hl
 obtain⟨q,hq⟩:∃ q,q=badAt d ls:=⟨_,rfl⟩
 rw [← hq] at k1 ⊢
 clear hq hl h
 go_enter Tryz.func129,Tryz.ntmps129
 go_wp2_with fail
 refine k1.mono ?_
 rintro e w1 ⟨⟨z,rfl,hz⟩,hb1⟩
 go_wp2_with fail
 go_ret
 exact⟨by rw [← hz];rfl,hb1⟩
def rightB (d:DiskP):Bool:=decide (d.secs.length≤4096)&&decide (d.loose.length≤100000)&&fusedB d.fuse&&!badAt d d.loose
set_option maxRecDepth 100000 in
theorem right_any {B:Nat} (v:Value) (d:DiskP) (w:World) (h:DiskV B w v d) :
  Calls Tryz.prog 90 #[v] w fun e w'=>e = .returned (.bool (rightB d))∧Below w.heap.size w w':=by
 have h:=h.tight
 obtain⟨sv,lv,rfl,hs,hl⟩:=h
 have hb:Below w.heap.size w (w.alloc (.cells #[sv,lv,.int .i64 d.fuse,.bool d.down] 38)):=Below.alloc (Below.refl _ _) (Nat.le_refl _) _
 have hg:(w.alloc (.cells #[sv,lv,.int .i64 d.fuse,.bool d.down] 38)).heap[w.heap.size]?=some (.cells #[sv,lv,.int .i64 d.fuse,.bool d.down] 38 (0,0)):=heap_alloc_new w _
 have hl':=hl.below hb
 have hda:DiskAt w.heap.size w.heap.size (w.alloc (.cells #[sv,lv,.int .i64 d.fuse,.bool d.down] 38)) d:=⟨sv,lv,hg,hs.below hb,hl'⟩
 obtain⟨_,_,a,cap,hsv,hnc,hcap,_⟩:=hs
 obtain⟨_,_,a2,cap2,hlv,hnc2,hcap2,_⟩:=hl
 unfold maxLen at hcap hcap2
 have k1:=fun w=>fused_any d.fuse w
 have k2:=fun (w':World) (hw:Below (w.heap.size+1) (w.alloc (.cells #[sv,lv,.int .i64 d.fuse,.bool d.down] 38)) w')=>contains_any lv d.loose d w' (hda.below hw (Nat.lt_succ_self _) (Nat.le_succ _)) (Nat.le_refl _) (hl'.below (hw.mono (Nat.le_succ _)))
 subst hsv hlv
 by_cases h1:d.secs.length≤4096
 ·by_cases h2:d.loose.length≤100000
  ·have e:rightB d=(fusedB d.fuse&&!badAt d d.loose):=by simp [rightB,h1,h2]
   rw [e]
   obtain⟨q,hq⟩:∃ q,q=fusedB d.fuse:=⟨_,rfl⟩
   obtain⟨r,hr⟩:∃ r,r=badAt d d.loose:=⟨_,rfl⟩
   simp only [← hq] at k1
   simp only [← hr] at k2
   rw [← hq,← hr]
   clear hq hr e hda hl'
   cases q with
   | true =>
    go_enter Tryz.func90,Tryz.ntmps90
    go_wp2_with fail
    refine (k1 _).mono ?_
    rintro e w1 ⟨rfl,rfl⟩
    go_wp2_with fail
    refine (k2 _ (Below.refl _ _)).mono ?_
    rintro e w1 ⟨rfl,hb1⟩
    go_wp2_with fail
    go_ret
    exact⟨rfl,hb.trans (hb1.mono hb.size)⟩
   | false =>
    go_enter Tryz.func90,Tryz.ntmps90
    go_wp2_with fail
    refine (k1 _).mono ?_
    rintro e w1 ⟨rfl,rfl⟩
    go_wp2_with fail
    go_ret
    exact⟨rfl,hb⟩
  ·have e:rightB d=false:=by simp [rightB,h2]
   have t0:decide (((d.loose.length:Nat):Int)≤100000)=false:=by simp;omega
   rw [e]
   clear e k1 k2 hda hl'
   go_enter Tryz.func90,Tryz.ntmps90
   go_wp2_with fail
   go_ret
   exact⟨rfl,hb⟩
 ·have e:rightB d=false:=by simp [rightB,h1]
  have t0:decide (((d.secs.length:Nat):Int)≤4096)=false:=by simp;omega
  rw [e]
  clear e k1 k2 hda hl'
  go_enter Tryz.func90,Tryz.ntmps90
  go_wp2_with fail
  go_ret
  exact⟨rfl,hb⟩
end
section
open Go.RowKit
theorem infoz_write:(Tryz.prog.info? 96).bind (fun i=>i.zero.map fun z=>(i.size,i.bytes,z.cells.size))=some (65,72,65):=by kernel_rfl
theorem infoz_sector:(Tryz.prog.info? 94).bind (fun i=>i.zero.map fun z=>(i.size,i.bytes,z.cells.size))=some (64,64,64):=by kernel_rfl
theorem zero_parts {P:Program} {e:TypeId} {a b c:Nat} (h:(P.info? e).bind (fun i=>i.zero.map fun z=>(i.size,i.bytes,z.cells.size))=some (a,b,c)):∃ i z,P.info? e=some i∧i.zero=some z∧i.size=a∧i.bytes=b∧z.cells.size=c:=by
 obtain⟨i,hi,h⟩:=Option.bind_eq_some_iff.1 h
 obtain⟨z,hz,h⟩:=Option.map_eq_some_iff.1 h
 simp only [Prod.mk.injEq] at h
 exact⟨i,z,hi,hz,h.1,h.2.1,h.2.2⟩
def SecsO (B:Nat) (w:World) (v:Value) (ss:List (List UInt8)):Prop:=(∀ s∈ss,s.length=64)∧Own B w 94 v 64 ss.length (ss.map u8s).flatten
def LooseO (B:Nat) (w:World) (v:Value) (ls:List WriteP):Prop:=(∀ x∈ls,x.data.length=64)∧Own B w 96 v 65 ls.length (ls.map wcells).flatten
theorem SecsO.secs {B:Nat} {w:World} {v:Value} {ss:List (List UInt8)} (h:SecsO B w v ss):Secs w.heap.size w v ss:=⟨h.1,h.2.row⟩
theorem LooseO.loose {B:Nat} {w:World} {v:Value} {ls:List WriteP} (h:LooseO B w v ls):Loose w.heap.size w v ls:=⟨h.1,h.2.row⟩
theorem oneCell_secs (ss:List (List UInt8)):∀ u∈(ss.map u8s).flatten,u.oneCell'=true:=by
 intro u hu
 obtain⟨l,hl,hu⟩:=List.mem_flatten.1 hu
 obtain⟨s,_,rfl⟩:=List.mem_map.1 hl
 exact oneCell_u8s s u hu
theorem oneCell_w (x:WriteP):∀ u∈wcells x,u.oneCell'=true:=by
 intro u hu
 rcases List.mem_cons.1 hu with rfl | hu
 ·rfl
 ·exact oneCell_u8s _ u hu
theorem oneCell_ws (ls:List WriteP):∀ u∈(ls.map wcells).flatten,u.oneCell'=true:=by
 intro u hu
 obtain⟨l,hl,hu⟩:=List.mem_flatten.1 hu
 obtain⟨s,_,rfl⟩:=List.mem_map.1 hl
 exact oneCell_w s u hu
theorem length_flat {α:Type} (f:α→List Value) (sz:Nat):∀ (xs:List α),(∀ x∈xs,(f x).length=sz)→(xs.map f).flatten.length=xs.length*sz
 | [],_=>by simp
 | y :: ys,h=>by
  rw [List.map_cons,List.flatten_cons,List.length_append,h y (List.mem_cons_self ..),length_flat f sz ys (fun x hx=>h x (List.mem_cons_of_mem _ hx)),List.length_cons,Nat.succ_mul,Nat.add_comm]
theorem Own.setOther {B:Nat} {w:World} {e:TypeId} {v:Value} {sz n:Nat} {cs:List Value} (h:Own B w e v sz n cs) (p:Addr) (u:Value) (hp:p.block<B):Own B (w.setCell p u) e v sz n cs:=by
 obtain⟨h1,a,cap,rfl,h2,h3,h4⟩:=h
 refine⟨h1,a,cap,rfl,h2,h3,?_⟩
 rcases h4 with h4 | ⟨g,cur,rfl,hg,hh,hs,ht⟩
 ·exact .inl h4
 ·refine .inr ⟨g,cur,rfl,hg,?_,hs,ht⟩
  simp only [World.setCell,Array.getElem?_modify]
  rw [if_neg (by omega)]
  exact hh
theorem SecsO.setOther {B:Nat} {w:World} {v:Value} {ss:List (List UInt8)} (h:SecsO B w v ss) (p:Addr) (u:Value) (hp:p.block<B):SecsO B (w.setCell p u) v ss:=⟨h.1,h.2.setOther p u hp⟩
theorem LooseO.setOther {B:Nat} {w:World} {v:Value} {ls:List WriteP} (h:LooseO B w v ls) (p:Addr) (u:Value) (hp:p.block<B):LooseO B (w.setCell p u) v ls:=⟨h.1,h.2.setOther p u hp⟩
theorem SecsO.keep {B B':Nat} {w w':World} {v:Value} {ss:List (List UInt8)} (h:SecsO B w v ss) (hb:Below B' w w') (hB:w.heap.size≤B'):SecsO B w' v ss:=⟨h.1,h.2.below hb hB⟩
theorem LooseO.keep {B B':Nat} {w w':World} {v:Value} {ls:List WriteP} (h:LooseO B w v ls) (hb:Below B' w w') (hB:w.heap.size≤B'):LooseO B w' v ls:=⟨h.1,h.2.below hb hB⟩
set_option maxRecDepth 100000 in
set_option maxHeartbeats 400000 in
theorem clone64_any {B:Nat} (v:Value) (ss:List (List UInt8)) (w:World) (hr:Secs B w v ss) (hlen:ss.length≤2^40) :
  Calls Tryz.prog 174 #[v] w fun e w'=>∃ v',e = .returned v'∧SecsO w.heap.size w' v' ss∧Below w.heap.size w w':=by
 have hr:=hr.tight
 have hR:=hr
 obtain⟨h64,h1,a,cap,rfl,hnc,hcap,hcells⟩:=hr
 have kn:=fun (w:World) (a:Option Addr) (n c n' c':Nat)=>eql_slice_nil Tryz.underlying35 w a n c n' c'
 cases a with
 | none =>
  have hn:ss=[]:=by
   cases ss with
   | nil=>rfl
   | cons b bs=>obtain⟨b,off,h,_⟩:=hcells (by simp);cases h
  subst hn
  clear hcells h1 hR
  go_enter Tryz.func174,Tryz.ntmps174
  go_wp2
  go_ret
  exact⟨_,rfl,⟨h64,Own.none _ _ _ _ _⟩,Below.refl _ _⟩
 | some ad =>
  obtain⟨i0,z0,hi,hz0,hz1,hz2,hz3⟩:=zero_parts infoz_sector
  have ho:Own w.heap.size (w.alloc (.cells #[] 94)) 94 (.slice (some ⟨w.heap.size,0,none⟩) 0 0) 64 0 []:=Own.none _ _ _ _ _
  have hb:Below w.heap.size w (w.alloc (.cells #[] 94)):=Below.alloc (Below.refl _ _) (Nat.le_refl _) _
  have hs:=Row.src (P:=Tryz.prog) (hR.below hb).2
  have hB:w.heap.size≤(w.alloc (.cells #[] 94)).heap.size:=hb.size
  have hl1:0+ss.length≤maxLen:=by unfold maxLen;omega
  have hl2:(0+ss.length)*64≤140737488355328:=by omega
  have H1:=zh hl1
  have H2:=zh hl2
  clear hR h1 hcells hcap hl1 hl2 hlen
  go_enter Tryz.func174,Tryz.ntmps174
  go_wp2_with (at_builtin;refine wp_append rfl (.tmp 5) (.tmp 6) 35 35 94 rfl i0 z0 64 64 Tryz.underlying35 (.inl ⟨_,Tryz.underlying35⟩) hi hz0 hz1 hz2 hz3 rfl rfl ho hs (oneCell_secs _) H1.out H2.out hB ?_;intro v2 w2 hown2 hb2)
  go_ret
  refine⟨_,rfl,⟨h64,?_⟩,hb.trans hb2⟩
  rw [Nat.zero_add,List.nil_append] at hown2
  exact hown2
set_option maxRecDepth 100000 in
set_option maxHeartbeats 400000 in
theorem cloneW_any {B:Nat} (v:Value) (ls:List WriteP) (w:World) (hr:Loose B w v ls) (hlen:ls.length≤2^40) :
  Calls Tryz.prog 175 #[v] w fun e w'=>∃ v',e = .returned v'∧LooseO w.heap.size w' v' ls∧Below w.heap.size w w':=by
 have hr:=hr.tight
 have hR:=hr
 obtain⟨h64,h1,a,cap,rfl,hnc,hcap,hcells⟩:=hr
 have kn:=fun (w:World) (a:Option Addr) (n c n' c':Nat)=>eql_slice_nil Tryz.underlying36 w a n c n' c'
 cases a with
 | none =>
  have hn:ls=[]:=by
   cases ls with
   | nil=>rfl
   | cons b bs=>obtain⟨b,off,h,_⟩:=hcells (by simp);cases h
  subst hn
  clear hcells h1 hR
  go_enter Tryz.func175,Tryz.ntmps175
  go_wp2
  go_ret
  exact⟨_,rfl,⟨h64,Own.none _ _ _ _ _⟩,Below.refl _ _⟩
 | some ad =>
  obtain⟨i0,z0,hi,hz0,hz1,hz2,hz3⟩:=zero_parts infoz_write
  have ho:Own w.heap.size (w.alloc (.cells #[] 96)) 96 (.slice (some ⟨w.heap.size,0,none⟩) 0 0) 65 0 []:=Own.none _ _ _ _ _
  have hb:Below w.heap.size w (w.alloc (.cells #[] 96)):=Below.alloc (Below.refl _ _) (Nat.le_refl _) _
  have hs:=Row.src (P:=Tryz.prog) (hR.below hb).2
  have hB:w.heap.size≤(w.alloc (.cells #[] 96)).heap.size:=hb.size
  have hl1:0+ls.length≤maxLen:=by unfold maxLen;omega
  have hl2:(0+ls.length)*72≤140737488355328:=by omega
  have H1:=zh hl1
  have H2:=zh hl2
  clear hR h1 hcells hcap hl1 hl2 hlen
  go_enter Tryz.func175,Tryz.ntmps175
  go_wp2_with (at_builtin;refine wp_append rfl (.tmp 5) (.tmp 6) 36 36 96 rfl i0 z0 65 72 Tryz.underlying36 (.inl ⟨_,Tryz.underlying36⟩) hi hz0 hz1 hz2 hz3 rfl rfl ho hs (oneCell_ws _) H1.out H2.out hB ?_;intro v2 w2 hown2 hb2)
  go_ret
  refine⟨_,rfl,⟨h64,?_⟩,hb.trans hb2⟩
  rw [Nat.zero_add,List.nil_append] at hown2
  exact hown2
end
section
open Go.RowKit
theorem results_ct {P:Program} {fn:Func} {p u:Tmp} {ty:TypeId} (h:fn.results=#[.cell p ty,.tmp u]) (tmps:Array Value) (w:World) (g:Nat) (t:TypeId) (cs:Array Value) (fr:Nat×Nat) (d:TypeDesc)
  (hp:tmps.getD p undef = .pointer (some ⟨g,0,none⟩)) (hg:w.heap[g]?=some (.cells cs t fr))
  (hu:P.underlying ty=some d) (hd:(match d with | .struct _ | .array _ _=>true | _=>false)=true) (hi:(P.info? ty).map (·.size)=some cs.size) :
  (results fn tmps).run P w = .ok (.tuple #[.agg cs,tmps.getD u undef]) w:=by
 have hp':tmps[p]?.getD undef = .pointer (some ⟨g,0,none⟩):=by simpa using hp
 simp [results,h,hp',asAddr,run_loadVar_row w g t ty cs fr d hg hu hd hi]
theorem zQ:(Tryz.prog.info? 38).map (·.size)=some 4:=by kernel_rfl
theorem SecsO.form {B:Nat} {w:World} {v:Value} {ss:List (List UInt8)} (h:SecsO B w v ss):∃ a cap,v = .slice a ss.length cap:=by obtain⟨_,_,a,cap,rfl,_⟩:=h;exact⟨a,cap,rfl⟩
theorem LooseO.form {B:Nat} {w:World} {v:Value} {ss:List WriteP} (h:LooseO B w v ss):∃ a cap,v = .slice a ss.length cap:=by obtain⟨_,_,a,cap,rfl,_⟩:=h;exact⟨a,cap,rfl⟩
theorem zF {w:World} {g:Nat} {cs:Array Value} {t:TypeId} (h:w.heap[g]?=some (.cells cs t (0,0))) (k:Nat):w.frozen? ⟨g,k,none⟩=false:=by simp [World.frozen?,h]
theorem Row.mix {C C':Nat} {w w':World} {v:Value} {sz n:Nat} {cs cs':List Value} (h1:Row C w v sz n cs) (h2:Row C' w' v sz n cs'):Row C w' v sz n cs':=by
 obtain⟨_,a,cap,rfl,_,_,h1⟩:=h1
 obtain⟨hl,a',cap',hv,hn,hc,h2⟩:=h2
 obtain⟨rfl,rfl⟩:a=a'∧cap=cap':=by cases hv;exact⟨rfl,rfl⟩
 refine⟨hl,a,cap,rfl,hn,hc,fun hp=>?_⟩
 obtain⟨b,off,e,hb,_⟩:=h1 hp
 obtain⟨b',off',e',_,hc'⟩:=h2 hp
 rw [e] at e'
 cases e'
 exact⟨b,off,e,hb,hc'⟩
def downP (d:DiskP):Bool:=d.down || (d.fuse == 0)
def burnF (d:DiskP):Int:=if downP d then d.fuse else if 0<d.fuse then d.fuse-1 else d.fuse
def burnE (d:DiskP):Int:=if downP d then 9 else 0
theorem set0 {w:World} {g:Nat} {a b c d:Value} {t:TypeId} {fr:Nat×Nat} (h:w.heap[g]?=some (.cells #[a,b,c,d] t fr)) (u v:Value):((w.setCell ⟨g,0,none⟩ u).setCell ⟨g,1,none⟩ v).heap[g]?=some (.cells #[u,v,c,d] t fr):=by
 simp [World.setCell,Array.getElem?_modify,h]
theorem setFar {w:World} {g h:Nat} (hne:g≠h) (k:Nat) (u:Value):(w.setCell ⟨g,k,none⟩ u).heap[h]?=w.heap[h]?:=by
 simp only [World.setCell,Array.getElem?_modify]
 rw [if_neg hne]
abbrev put4 (w:World) (h:Nat) (a b c d:Value):World:=(((w.setCell ⟨h,0,none⟩ a).setCell ⟨h,1,none⟩ b).setCell ⟨h,2,none⟩ c).setCell ⟨h,3,none⟩ d
theorem put4_heap {w:World} {h:Nat} {a0 b0 c0 d0:Value} {t:TypeId} {fr:Nat×Nat} (hh:w.heap[h]?=some (.cells #[a0,b0,c0,d0] t fr)) (a b c d:Value):(put4 w h a b c d).heap[h]?=some (.cells #[a,b,c,d] t fr):=by
 simp [put4,World.setCell,Array.getElem?_modify,hh]
theorem put4_secs {B h:Nat} {w:World} {v:Value} {ss:List (List UInt8)} (hs:SecsO B w v ss) (hB:h<B) (a b c d:Value):SecsO B (put4 w h a b c d) v ss:=(((hs.setOther _ _ hB).setOther _ _ hB).setOther _ _ hB).setOther _ _ hB
theorem put4_loose {B h:Nat} {w:World} {v:Value} {ss:List WriteP} (hs:LooseO B w v ss) (hB:h<B) (a b c d:Value):LooseO B (put4 w h a b c d) v ss:=(((hs.setOther _ _ hB).setOther _ _ hB).setOther _ _ hB).setOther _ _ hB
theorem put4_below {B h:Nat} {w w':World} (hb:Below B w w') (hB:B≤h) (a b c d:Value):Below B w (put4 w' h a b c d) :=
 (((hb.setCell (p:=⟨h,0,none⟩) hB a).setCell (p:=⟨h,1,none⟩) hB b).setCell (p:=⟨h,2,none⟩) hB c).setCell (p:=⟨h,3,none⟩) hB d
theorem SecsO.lower {B B':Nat} {w:World} {v:Value} {ss:List (List UInt8)} (h:SecsO B w v ss) (hB:B'≤B):SecsO B' w v ss:=⟨h.1,h.2.lower hB⟩
theorem LooseO.lower {B B':Nat} {w:World} {v:Value} {ss:List WriteP} (h:LooseO B w v ss) (hB:B'≤B):LooseO B' w v ss:=⟨h.1,h.2.lower hB⟩
set_option maxRecDepth 100000 in
set_option maxHeartbeats 1000000 in
theorem burn_any {B:Nat} (v:Value) (d:DiskP) (w:World) (h:DiskV B w v d) (hr:rightB d=true) :
  Calls Tryz.prog 156 #[v] w fun e w'=>(∃ sv lv,e = .returned (.tuple #[.agg #[sv,lv,.int .i64 (burnF d),.bool (downP d)],.int .i64 (burnE d)])∧∃ C,w.heap.size≤C∧SecsO w.heap.size w' sv d.secs∧Row C w' sv 64 d.secs.length (d.secs.map u8s).flatten∧LooseO C w' lv d.loose)∧Below w.heap.size w w':=by
 have h:=h.tight
 obtain⟨sv,lv,rfl,hs,hl⟩:=h
 have hrs:d.secs.length≤2^40∧d.loose.length≤2^40 ∧ -1≤d.fuse∧d.fuse≤2^40:=by
  simp only [rightB,fusedB,Bool.and_eq_true,decide_eq_true_eq] at hr
  omega
 clear hr
 obtain⟨r1,r2,r3,r4⟩:=hrs
 have R1:=zh r1
 have R2:=zh r2
 obtain⟨w2,hw2⟩:∃ w2,w2=((w.alloc (.cells #[sv,lv,.int .i64 d.fuse,.bool d.down] 38)).alloc (.cells #[.slice none 0 0,.slice none 0 0,.int .i64 0,.bool false] 38)):=⟨_,rfl⟩
 have hb2:Below w.heap.size w w2:=by rw [hw2];exact Below.alloc (Below.alloc (Below.refl _ _) (Nat.le_refl _) _) (by simp) _
 have hsz2:w2.heap.size=w.heap.size+2:=by rw [hw2];simp
 have hg0:w2.heap[w.heap.size]?=some (.cells #[sv,lv,.int .i64 d.fuse,.bool d.down] 38 (0,0)):=by rw [hw2];exact heap_alloc2_old w _ _
 have hg1:w2.heap[w.heap.size+1]?=some (.cells #[.slice none 0 0,.slice none 0 0,.int .i64 0,.bool false] 38 (0,0)):=by rw [hw2];exact heap_alloc2_new w _ _
 have hs2:Secs w.heap.size w2.drew sv d.secs:=(show Secs w.heap.size w2 sv d.secs from hs.below hb2)
 have F1:=zh (fun (w5:World) (h:Below w2.drew.heap.size w2.drew w5)=>(show Below w2.heap.size w2 w5 from ⟨h.os,h.tape,h.output,h.size,h.block⟩))
 have F2:=zh (fun (w5:World) (h:Below w2.drew.heap.size w2.drew w5)=>(hl.below hb2).below (((F1.out w5 h).mono hb2.size)))
 have c0:=cR w2 _ 0 _ _ _ hg0
 have c1:=cR w2 _ 1 _ _ _ hg0
 have hlt1:w.heap.size<w2.heap.size:=by omega
 have F3:=zh (fun (w5:World) (h:Below w2.drew.heap.size w2.drew w5)=>((F1.out w5 h).cell (p:=⟨w.heap.size,1,none⟩) hlt1).trans c1)
 have F4:=zh (fun (w5:World) (h:Below w2.drew.heap.size w2.drew w5)=>((F1.out w5 h).block w.heap.size hlt1).trans hg0)
 clear hs hl
 go_enter Tryz.func156,Tryz.ntmps156
 go_wp2_with fail
 rw [← hw2]
 clear hw2
 go_region_with (first
  | (go_at_call 174;refine (clone64_any sv d.secs _ hs2 R1.out).mono ?_;rintro e w5 ⟨v5,rfl,ho5,hb5⟩;obtain⟨a5,k5,rfl⟩:=ho5.form;have hl5:=F2.out w5 hb5;have hc5:=F3.out w5 hb5;have hg5:=F4.out w5 hb5)
  | (go_at_call 175;refine (cloneW_any lv d.loose _ hl5 R2.out).mono ?_;rintro e w6 ⟨v6,rfl,ho6,hb6⟩;obtain⟨a6,k6,rfl⟩:=ho6.form;have hg6:=(hb6.block w.heap.size (zB hg5)).trans hg5;have hk0:=cR w6 _ 0 _ _ _ hg6;have hk1:=cR w6 _ 1 _ _ _ hg6;have hf0:=zF hg6 0;have hf1:=zF hg6 1))
 all_goals
  clear F1 F2 F3 F4 hc5 hl5 c0 c1 hk0 hk1 hf0 hf1 hs2 h R1 R2
  have hb26:Below w.heap.size w w6:=hb2.trans ((show Below w.heap.size w2 w5 from ⟨hb5.os,hb5.tape,hb5.output,hb5.size,fun k hk=>hb5.block k (Nat.lt_trans hk hlt1)⟩).trans (hb6.mono (by have:=hb5.size;simp only [heap_drew] at this;omega)))
  have hs5:w2.heap.size≤w5.heap.size:=hb5.size
  have hh6:w6.heap[w.heap.size+1]?=some (.cells #[.slice none 0 0,.slice none 0 0,.int .i64 0,.bool false] 38 (0,0)):=(hb6.block (w.heap.size+1) (by omega)).trans ((hb5.block (w.heap.size+1) (by simp only [heap_drew];omega)).trans hg1)
  have hg7:=set0 hg6 (.slice a5 d.secs.length k5) (.slice a6 d.loose.length k6)
  have hh7:=((setFar (w:=w6.setCell ⟨w.heap.size,0,none⟩ (.slice a5 d.secs.length k5)) (g:=w.heap.size) (h:=w.heap.size+1) (by omega) 1 (.slice a6 d.loose.length k6)).trans (setFar (w:=w6) (by omega) 0 (.slice a5 d.secs.length k5))).trans hh6
  have p5:=((ho5.keep hb6 (Nat.le_refl _)).setOther ⟨w.heap.size,0,none⟩ (.slice a5 d.secs.length k5) hlt1).setOther ⟨w.heap.size,1,none⟩ (.slice a6 d.loose.length k6) hlt1
  have p6:=(ho6.setOther ⟨w.heap.size,0,none⟩ (.slice a5 d.secs.length k5) (Nat.lt_of_lt_of_le hlt1 hs5)).setOther ⟨w.heap.size,1,none⟩ (.slice a6 d.loose.length k6) (Nat.lt_of_lt_of_le hlt1 hs5)
  have hb7:=(hb26.setCell (p:=⟨w.heap.size,0,none⟩) (Nat.le_refl _) (.slice a5 d.secs.length k5)).setCell (p:=⟨w.heap.size,1,none⟩) (Nat.le_refl _) (.slice a6 d.loose.length k6)
  obtain⟨w7,hw7⟩:∃ w7,w7=(w6.setCell ⟨w.heap.size,0,none⟩ (.slice a5 d.secs.length k5)).setCell ⟨w.heap.size,1,none⟩ (.slice a6 d.loose.length k6):=⟨_,rfl⟩
  rw [← hw7] at hg7 hh7 p5 p6 hb7 ⊢
  clear hw7 hb6 hb5 hg1 hg0 hb2 hg5 ho6 hg6 hh6 hb26 hlt1
  have hb2z:w.heap.size+2≤w2.heap.size:=by omega
  clear hsz2
  have q5:SecsO (w.heap.size+2) w7 (.slice a5 d.secs.length k5) d.secs:=p5.lower hb2z
  have q6:=p6
  have hC:w.heap.size+2≤w5.heap.size:=Nat.le_trans hb2z hs5
  have r5:=ho5.secs.2
  have c2:=cR w7 _ 2 _ _ _ hg7
  have c3:=cR w7 _ 3 _ _ _ hg7
  have c0:=cR w7 _ 0 _ _ _ hg7
  have c1:=cR w7 _ 1 _ _ _ hg7
  have f0:=zF hg7
  have e0:=cR w7 _ 0 _ _ _ hh7
  have e1:=cR w7 _ 1 _ _ _ hh7
  have e2:=cR w7 _ 2 _ _ _ hh7
  have e3:=cR w7 _ 3 _ _ _ hh7
  have f1:=zF hh7
  have H1:w.heap.size+1<w.heap.size+2:=Nat.lt_succ_self _
  have H2:w.heap.size≤w.heap.size+2:=Nat.le_add_right _ _
  have H3:w.heap.size≤w.heap.size+1:=Nat.le_succ _
  have H4:w.heap.size<w.heap.size+2:=by omega
  have H5:w.heap.size≠w.heap.size+1:=by omega
  have H6:w.heap.size+1<w5.heap.size:=by omega
  have H7:w.heap.size<w5.heap.size:=by omega
  have H8:w.heap.size≤w5.heap.size:=by omega
  clear p5 p6 hs5 hb2z ho5 hC
  by_cases hz:d.fuse=0
  ·have t0:((d.fuse:Int) == 0)=true:=by rw [beq_iff_eq];exact hz
   have u1:downP d=true:=by simp [downP,hz]
   have u2:burnF d=d.fuse:=by simp [burnF,u1]
   have u3:burnE d=9:=by simp [burnE,u1]
   have U:=zh (And.intro u2 (And.intro u1 u3))
   clear u1 u2 u3 hz
   go_wp2_with fail
   refine bodyPost_ret (results_ct rfl _ _ (w.heap.size+1) _ _ _ _ rfl (put4_heap ((setFar H5 3 _).trans hh7) _ _ _ _) Tryz.underlying38 rfl zQ) rfl ?_
   exact⟨⟨_,_,by rw [U.out.1,U.out.2.1,U.out.2.2] <;> rfl,w5.heap.size,H8,(put4_secs (q5.setOther ⟨w.heap.size,3,none⟩ _ H4) H1 _ _ _ _).lower H2,r5.mix (put4_secs (q5.setOther ⟨w.heap.size,3,none⟩ _ H4) H1 _ _ _ _).2.row,put4_loose (q6.setOther ⟨w.heap.size,3,none⟩ _ H7) H6 _ _ _ _⟩,put4_below (hb7.setCell (p:=⟨w.heap.size,3,none⟩) (Nat.le_refl _) _) H3 _ _ _ _⟩
  ·have t0:((d.fuse:Int) == 0)=false:=by rw [beq_eq_false_iff_ne];exact hz
   obtain⟨D,hD⟩:∃ D,D=d.down:=⟨_,rfl⟩
   have c3':=c3
   rw [← hD] at c3' hg7
   clear c3
   cases D with
   | true =>
   have u1:downP d=true:=by simp [downP,← hD]
   have u2:burnF d=d.fuse:=by simp [burnF,u1]
   have u3:burnE d=9:=by simp [burnE,u1]
   have U:=zh (And.intro u2 (And.intro u1 u3))
   clear u1 u2 u3 hz hD
   go_wp2_with fail
   refine bodyPost_ret (results_ct rfl _ _ (w.heap.size+1) _ _ _ _ rfl (put4_heap hh7 _ _ _ _) Tryz.underlying38 rfl zQ) rfl ?_
   exact⟨⟨_,_,by rw [U.out.1,U.out.2.1,U.out.2.2] <;> rfl,w5.heap.size,H8,(put4_secs q5 H1 _ _ _ _).lower H2,r5.mix (put4_secs q5 H1 _ _ _ _).2.row,put4_loose q6 H6 _ _ _ _⟩,put4_below hb7 H3 _ _ _ _⟩
   | false =>
   have u1:downP d=false:=by simp [downP,← hD,hz]
   have u3:burnE d=0:=by simp [burnE,u1]
   by_cases hp:0<d.fuse
   ·have u2:burnF d=d.fuse-1:=by simp [burnF,u1,hp]
    have U:=zh (And.intro u2 (And.intro u1 u3))
    clear u1 u2 u3 hz hD
    have hz:=hp
    go_wp2_with fail
    refine bodyPost_ret (results_ct rfl _ _ (w.heap.size+1) _ _ _ _ rfl (put4_heap ((setFar H5 2 _).trans hh7) _ _ _ _) Tryz.underlying38 rfl zQ) rfl ?_
    exact⟨⟨_,_,by rw [U.out.1,U.out.2.1,U.out.2.2] <;> rfl,w5.heap.size,H8,(put4_secs (q5.setOther ⟨w.heap.size,2,none⟩ _ H4) H1 _ _ _ _).lower H2,r5.mix (put4_secs (q5.setOther ⟨w.heap.size,2,none⟩ _ H4) H1 _ _ _ _).2.row,put4_loose (q6.setOther ⟨w.heap.size,2,none⟩ _ H7) H6 _ _ _ _⟩,put4_below (hb7.setCell (p:=⟨w.heap.size,2,none⟩) (Nat.le_refl _) _) H3 _ _ _ _⟩
   ·have u2:burnF d=d.fuse:=by simp [burnF,u1,hp]
    have U:=zh (And.intro u2 (And.intro u1 u3))
    clear u1 u2 u3 hz hD
    go_wp2_with fail
    refine bodyPost_ret (results_ct rfl _ _ (w.heap.size+1) _ _ _ _ rfl (put4_heap hh7 _ _ _ _) Tryz.underlying38 rfl zQ) rfl ?_
    exact⟨⟨_,_,by rw [U.out.1,U.out.2.1,U.out.2.2] <;> rfl,w5.heap.size,H8,(put4_secs q5 H1 _ _ _ _).lower H2,r5.mix (put4_secs q5 H1 _ _ _ _).2.row,put4_loose q6 H6 _ _ _ _⟩,put4_below hb7 H3 _ _ _ _⟩
end
section
open Go.RowKit
theorem fold_put (off:Nat):∀ (cs:List Value) (n:Nat) (A:Array Value),off+n+cs.length≤A.size →
  ((cs.zipIdx n).foldl (fun (a:Array Value) (x:Value×Nat)=>a.setIfInBounds (off+x.2) x.1) A).toList=A.toList.take (off+n)++cs++A.toList.drop (off+n+cs.length)
 | [],n,A,_=>by simp
 | c :: cs,n,A,h=>by
  rw [List.zipIdx_cons,List.foldl_cons,fold_put off cs (n+1) _ (by simp only [Array.size_setIfInBounds,List.length_cons] at h ⊢;omega)]
  simp only [List.length_cons] at h
  have hlt:off+n<A.toList.length:=by simp;omega
  simp only [Array.toList_setIfInBounds,List.length_cons]
  have e1:off+(n+1)=off+n+1:=by omega
  have e2:off+n+1+cs.length=off+n+(cs.length+1):=by omega
  rw [e1,e2,List.take_add_one,List.take_set_of_le (Nat.le_refl _),List.getElem?_set_self hlt,List.drop_set_of_lt (by omega)]
  simp
theorem fold_put_arr (off:Nat) (C A:Array Value) (h:off+C.size≤A.size) :
  (C.zipIdx.foldl (fun (a:Array Value) (x:Value×Nat)=>a.setIfInBounds (off+x.2) x.1) A)=(A.toList.take off++C.toList++A.toList.drop (off+C.size)).toArray:=by
 have h1:=fold_put off C.toList 0 A (by simpa using h)
 apply Array.ext'
 rw [← Array.foldl_toList,Array.toList_zipIdx]
 simpa using h1
theorem cells_agg (A:Array Value):(Value.agg A).cells=A:=rfl
theorem cells_int (k:IntKind) (n:Int):(Value.int k n).cells=#[.int k n]:=rfl
theorem infoz_u8s:(Tryz.prog.info? 3).map (fun i=>i.size)=some 1:=by kernel_rfl
theorem run_build_write {w:World} (at_:Int) (A:Array Value) (hA:A.size=64) :
  (Instr.build 96 #[(0,.int .i64 at_),(1,.agg A)]).run Tryz.prog w = .ok (.agg (.int .i64 at_ :: A.toList).toArray) w:=by
 obtain⟨i0,z0,hi,hz0,hz1,hz2,hz3⟩:=zero_parts infoz_write
 obtain⟨i1,hi1,hs1⟩:=Option.map_eq_some_iff.1 infoz_u8s
 obtain⟨i2,z2,hi2,_,hs2,_,_⟩:=zero_parts infoz_sector
 have e:(z0.cells.setIfInBounds 0 (Value.int .i64 at_)).size=65:=by simpa using hz3
 have e1:=fold_put_arr 1 A (z0.cells.setIfInBounds 0 (Value.int .i64 at_)) (by rw [e,hA];exact Nat.le_refl _)
 have e2:(List.take 1 (z0.cells.setIfInBounds 0 (Value.int .i64 at_)).toList++A.toList++List.drop (1+A.size) (z0.cells.setIfInBounds 0 (Value.int .i64 at_)).toList) = .int .i64 at_ :: A.toList:=by
  rw [List.drop_eq_nil_of_le (by simp [hz3,hA]),List.append_nil]
  cases hl:z0.cells.toList with
  | nil=>have:=congrArg List.length hl;simp [hz3] at this
  | cons a l=>simp [hl]
 rw [e2] at e1
 have e4:z0.cells≠#[]:=by intro h;rw [h] at hz3;simp at hz3
 simp [Instr.build,zeroValue,typeInfo,hi,hz0,run_underlying Tryz.underlying96,sizeOf,hi1,hi2,hs1,hs2,Instr.fill,cells_agg,cells_int,hA,hz3,e4]
 simpa [hA] using e1
set_option maxRecDepth 100000 in
theorem run_buildSlice_write {w:World} (A:Array Value) (hA:A.size=65) :
  (Instr.buildSlice 36 1 #[(0,.agg A)]).run Tryz.prog w = .ok (.slice (some ⟨w.heap.size,0,none⟩) 1 1) (w.alloc (.cells A 96)):=by
 obtain⟨i0,z0,hi,hz0,hz1,hz2,hz3⟩:=zero_parts infoz_write
 have e1:=fold_put_arr 0 A ((Array.range 65).map (z0.cells[·%z0.cells.size]!)) (by simp [hA])
 have e2:(List.take 0 ((Array.range 65).map (z0.cells[·%z0.cells.size]!)).toList++A.toList++List.drop (0+A.size) ((Array.range 65).map (z0.cells[·%z0.cells.size]!)).toList)=A.toList:=by
  rw [List.drop_eq_nil_of_le (by simp [hA])];simp
 rw [e2] at e1
 simp only [Nat.zero_add] at e1
 simp [Instr.buildSlice,zeroValue,typeInfo,hi,hz0,hz1,run_underlying Tryz.underlying36,sizeOf,Instr.fill,cells_agg,cells_int,hA,hz3,newRow]
 congr 2
 simpa [hA,hz3] using e1
section
variable {P:Program} {ops:Array Oper} {rest:List Oper} {o:Oper} {a:Act} {w:World} {Q:Exit→Act→World→Prop}
theorem wp_load_to (x:Operand) (t:TypeId) (hgd:o.guard=none) (ho:o.op = .load t x) {ad:Addr} {v:Value} {w':World} (hw:w'=w) (hx:a.eval x = .pointer (some ad)) (hl:(loadVar t ad).run P w' = .ok v w')
  (h:wpList P ops Q rest (a.put o.dst v) w'):wpList P ops Q (o :: rest) a w:=by
 subst hw
 exact wp_load_at x t hgd ho hx hl h
theorem wp_build_l (t:TypeId) (L:List (Nat×Operand)) (hgd:o.guard=none) (ho:o.op = .build t L.toArray) {v:Value} {L':List (Nat×Value)} (hL:L.map (fun x=>(x.1,a.eval x.2))=L') (hb:(Instr.build t L'.toArray).run P w = .ok v w)
  (h:wpList P ops Q rest (a.put o.dst v) w):wpList P ops Q (o :: rest) a w:=by
 refine wpList_plain hgd fun K hK=>?_
 subst hL
 unfold Oper.wp execOp
 simp only [ho,Sem.run_bind,Sem.run_pure,Result.andThen_ok,List.map_toArray,hb]
 exact hK _ _ h
theorem wp_buildSlice_l (t:TypeId) (n:Nat) (L:List (Nat×Operand)) (hgd:o.guard=none) (ho:o.op = .buildSlice t n L.toArray) {v:Value} {w':World} {L':List (Nat×Value)} (hL:L.map (fun x=>(x.1,a.eval x.2))=L') (hb:(Instr.buildSlice t n L'.toArray).run P w = .ok v w')
  (h:wpList P ops Q rest (a.put o.dst v) w'):wpList P ops Q (o :: rest) a w:=by
 refine wpList_plain hgd fun K hK=>?_
 subst hL
 unfold Oper.wp execOp
 simp only [ho,Sem.run_bind,Sem.run_pure,Result.andThen_ok,List.map_toArray,hb]
 exact hK _ _ h
/-! The same with the operation written out: so they fail at once,under with_reducible,where another operation stands. -/
variable {dst:Option Tmp} {ty:TypeId} {pos:String} {after:Array Edge}
theorem wp_buildSlice_r (t:TypeId) (n:Nat) (L:List (Nat×Operand)) {v:Value} {w':World} {L':List (Nat×Value)} (hb:(Instr.buildSlice t n L'.toArray).run P w = .ok v w') (hL:L.map (fun x=>(x.1,a.eval x.2))=L')
  (h:wpList P ops Q rest (a.put dst v) w'):wpList P ops Q (⟨dst,.buildSlice t n L.toArray,ty,pos,after,none⟩ :: rest) a w:=wp_buildSlice_l t n L rfl rfl hL hb h
theorem wp_store_r (x y:Operand) (t:TypeId) {ad:Addr} {v:Value} {w':World} (hl:(storeVar t ad v).run P w = .ok () w') (hx:a.eval x = .pointer (some ad)) (hy:a.eval y=v)
  (h:wpList P ops Q rest (a.put dst undef) w'):wpList P ops Q (⟨dst,.store t x y,ty,pos,after,none⟩ :: rest) a w:=wp_store_at x y t rfl rfl hx hy hl h
end
end
section
open Go.RowKit
theorem size_sector:(Tryz.prog.info? 94).map (·.size)=some 64:=by kernel_rfl
def Halt (p:Prop):Prop:=p
theorem Halt.out {p:Prop} (h:p):Halt p:=h
theorem Halt.in {p:Prop} (h:Halt p):p:=h
def putP (d:DiskP) (at_:Int) (data:List UInt8):DiskP×Int :=
 if rightB d&&thereB d at_ then (if downP d then ({ d with fuse:=burnF d,down:=true },9) else ({ d with loose:=d.loose++[⟨at_,data⟩],fuse:=burnF d,down:=false },0)) else (d,1)
structure Fr (B G:Nat) (w:World) (sv lv:Value) (d:DiskP) (A:Array Value):Prop where
 g0:w.heap[G]?=some (.cells #[sv,lv,.int .i64 d.fuse,.bool d.down] 38 (0,0))
 g1:w.heap[G+1]?=some (.cells A 94 (0,0))
 g2:w.heap[G+1+1]?=some (.cells #[.slice none 0 0,.slice none 0 0,.int .i64 0,.bool false] 38 (0,0))
 s:Secs B w sv d.secs
 l:Loose B w lv d.loose
theorem Fr.below {B G B':Nat} {w w':World} {sv lv:Value} {d:DiskP} {A:Array Value} (h:Fr B G w sv lv d A) (hb:Below B' w w') (hB:G+1+1<B') (hB2:B≤B'):Fr B G w' sv lv d A :=
 ⟨(hb.block _ (by omega)).trans h.g0,(hb.block _ (by omega)).trans h.g1,(hb.block _ hB).trans h.g2,h.s.below (hb.mono hB2),h.l.below (hb.mono hB2)⟩
theorem Fr.diskV {B G:Nat} {w:World} {sv lv:Value} {d:DiskP} {A:Array Value} (h:Fr B G w sv lv d A):DiskV B w (.agg #[sv,lv,.int .i64 d.fuse,.bool d.down]) d:=⟨sv,lv,rfl,h.s,h.l⟩
theorem DiskV.parts {B:Nat} {w:World} {v:Value} {d:DiskP} (h:DiskV B w v d):∃ a1 k1 a2 k2,v = .agg #[.slice a1 d.secs.length k1,.slice a2 d.loose.length k2,.int .i64 d.fuse,.bool d.down]∧Secs B w (.slice a1 d.secs.length k1) d.secs∧Loose B w (.slice a2 d.loose.length k2) d.loose:=by
 obtain⟨sv,lv,rfl,hs,hl⟩:=h
 have hs':=hs
 have hl':=hl
 obtain⟨_,_,a,cap,rfl,_⟩:=hs'
 obtain⟨_,_,a2,cap2,rfl,_⟩:=hl'
 exact⟨_,_,_,_,rfl,hs,hl⟩
theorem put4_secsV {B h:Nat} {w:World} {v:Value} {ss:List (List UInt8)} (hs:Secs B w v ss) (hB:B≤h) (a b c d:Value):Secs B (put4 w h a b c d) v ss:=hs.below (put4_below (Below.refl _ _) hB a b c d)
theorem put4_looseV {B h:Nat} {w:World} {v:Value} {ss:List WriteP} (hs:Loose B w v ss) (hB:B≤h) (a b c d:Value):Loose B (put4 w h a b c d) v ss:=hs.below (put4_below (Below.refl _ _) hB a b c d)
theorem LooseO.snoc {B:Nat} {w:World} {v:Value} {ls:List WriteP} {x:WriteP} (h:∀ x∈ls,x.data.length=64) (hx:x.data.length=64) (ho:Own B w 96 v 65 (ls.length+1) ((ls.map wcells).flatten++wcells x)):LooseO B w v (ls++[x]):=by
 refine⟨fun y hy=>?_,?_⟩
 ·rcases List.mem_append.1 hy with hy | hy
  ·exact h y hy
  ·rw [List.mem_singleton.1 hy];exact hx
 ·simpa using ho
theorem normC {G C:Nat} {w:World} {sv lv:Value} {ss:List (List UInt8)} {ls:List WriteP} (hC:G≤C) (ho:SecsO G w sv ss) (r:Row C w sv 64 ss.length (ss.map u8s).flatten) (hl:LooseO C w lv ls) (hs:G≤w.heap.size) :
  ∃ C,G≤C∧C≤w.heap.size∧Row C w sv 64 ss.length (ss.map u8s).flatten∧LooseO C w lv ls:=by
 rcases Nat.le_total C w.heap.size with h | h
 ·exact⟨C,hC,h,r,hl⟩
 ·exact⟨w.heap.size,hs,Nat.le_refl _,ho.secs.2,hl.lower h⟩
def RowIn (B C:Nat) (w:World) (v:Value) (sz n:Nat) (cs:List Value):Prop :=
 cs.length=n*sz∧∃ a cap,v = .slice a n cap∧n≤cap∧cap≤maxLen∧(0<n→∃ b off,a=some ⟨b,off,none⟩∧B≤b∧b<C∧∀ k u,cs[k]?=some u→w.cell? ⟨b,off+k,none⟩=some u)
theorem RowIn.of {B C:Nat} {w:World} {e:TypeId} {v:Value} {sz n:Nat} {cs:List Value} (ho:Own B w e v sz n cs) (r:Row C w v sz n cs):RowIn B C w v sz n cs:=by
 obtain⟨_,a,cap,rfl,hn,_,ho⟩:=ho
 obtain⟨hl,a',cap',hv,h1,h2,h3⟩:=r
 obtain⟨rfl,rfl⟩:a=a'∧cap=cap':=by cases hv;exact⟨rfl,rfl⟩
 refine⟨hl,a,cap,rfl,h1,h2,fun hp=>?_⟩
 obtain⟨b,off,rfl,hb,hc⟩:=h3 hp
 rcases ho with ho | ⟨g,cur,hg,hB,_⟩
 ·omega
 ·cases hg
  exact⟨b,0,rfl,hB,hb,hc⟩
theorem RowIn.below {B C:Nat} {w w':World} {v:Value} {sz n:Nat} {cs:List Value} (h:RowIn B C w v sz n cs) (hb:Below C w w'):RowIn B C w' v sz n cs:=by
 obtain⟨hl,a,cap,rfl,h1,h2,h3⟩:=h
 refine⟨hl,a,cap,rfl,h1,h2,fun hp=>?_⟩
 obtain⟨b,off,rfl,hB,hC,hc⟩:=h3 hp
 exact⟨b,off,rfl,hB,hC,fun k u hk=>(hb.cell (p:=⟨b,off+k,none⟩) hC).trans (hc k u hk)⟩
theorem RowIn.setOther {B C:Nat} {w:World} {v:Value} {sz n:Nat} {cs:List Value} (h:RowIn B C w v sz n cs) (p:Addr) (u:Value) (hp:p.block<B):RowIn B C (w.setCell p u) v sz n cs:=by
 obtain⟨hl,a,cap,rfl,h1,h2,h3⟩:=h
 refine⟨hl,a,cap,rfl,h1,h2,fun hn=>?_⟩
 obtain⟨b,off,rfl,hB,hC,hc⟩:=h3 hn
 refine⟨b,off,rfl,hB,hC,fun k u' hk=>?_⟩
 rw [← hc k u' hk]
 unfold World.cell?
 have:(w.setCell p u).heap[b]?=w.heap[b]?:=by
  simp only [World.setCell,Array.getElem?_modify]
  rw [if_neg (by omega)]
 simp only [this]
theorem RowIn.row {B C:Nat} {w:World} {v:Value} {sz n:Nat} {cs:List Value} (h:RowIn B C w v sz n cs):Row C w v sz n cs:=by
 obtain⟨hl,a,cap,rfl,h1,h2,h3⟩:=h
 refine⟨hl,a,cap,rfl,h1,h2,fun hn=>?_⟩
 obtain⟨b,off,rfl,_,hC,hc⟩:=h3 hn
 exact⟨b,off,rfl,hC,hc⟩
theorem DiskV.mk {B B':Nat} {w:World} {sv lv:Value} {d:DiskP} (hs:Secs B w sv d.secs) (hl:Loose B' w lv d.loose):DiskV w.heap.size w (.agg #[sv,lv,.int .i64 d.fuse,.bool d.down]) d:=⟨sv,lv,rfl,hs.tight,hl.tight⟩
theorem put4_far {w:World} {g h:Nat} {o:Obj} (hh:w.heap[h]?=some o) (hne:g≠h) (a b c d:Value):(put4 w g a b c d).heap[h]?=some o:=by
 unfold put4
 rw [setFar hne,setFar hne,setFar hne,setFar hne]
 exact hh
def Sl (S:Nat→Prop) (v:Value):Prop:=∀ a n c,v = .slice (some a) n c→0<n→S a.block
def DSl (S:Nat→Prop) (v:Value):Prop:=∀ sv lv f dn,v = .agg #[sv,lv,f,dn]→Sl S sv∧Sl S lv
theorem DSl.mk {S:Nat→Prop} {sv lv f dn:Value} (h1:Sl S sv) (h2:Sl S lv):DSl S (.agg #[sv,lv,f,dn]):=by
 intro sv' lv' f' dn' h
 simp only [Value.agg.injEq,Array.mk.injEq,List.cons.injEq] at h
 obtain⟨rfl,rfl,_⟩:=h
 exact⟨h1,h2⟩
theorem Sl.none (S:Nat→Prop) (n c:Nat):Sl S (.slice none n c):=fun _ _ _ h=>by simp at h
theorem Own.sl {B:Nat} {w:World} {e:TypeId} {v:Value} {sz n:Nat} {cs:List Value} (h:Own B w e v sz n cs) {S:Nat→Prop} (hS:∀ b,B≤b→S b):Sl S v:=by
 obtain⟨_,a,cap,rfl,hn,_,h4⟩:=h
 intro a' n' c' h hp
 cases h
 rcases h4 with h4 | ⟨g,cur,hg,hB,_⟩
 ·omega
 ·cases hg
  exact hS _ hB
theorem Row.sl {B:Nat} {w:World} {v:Value} {sz n:Nat} {cs:List Value} (h:Row B w v sz n cs) {S:Nat→Prop} (hS:∀ b,b<B→S b):Sl S v:=by
 obtain⟨_,a,cap,rfl,_,_,h4⟩:=h
 intro a' n' c' h hp
 cases h
 obtain⟨b,off,hb,hB,_⟩:=h4 hp
 cases hb
 exact hS _ hB
theorem DiskV.sl {B:Nat} {w:World} {v:Value} {d:DiskP} (h:DiskV B w v d) {S:Nat→Prop} (hS:∀ b,b<B→S b):DSl S v:=by
 obtain⟨sv,lv,rfl,hs,hl⟩:=h
 exact DSl.mk (hs.2.sl hS) (hl.2.sl hS)
theorem Row.setFar {B:Nat} {w:World} {v:Value} {sz n:Nat} {cs:List Value} (h:Row B w v sz n cs) {p:Addr} (hs:Sl (·≠p.block) v) (u:Value):Row B (w.setCell p u) v sz n cs:=by
 obtain⟨hl,a,cap,rfl,h1,h2,h3⟩:=h
 refine⟨hl,a,cap,rfl,h1,h2,fun hp=>?_⟩
 obtain⟨b,off,rfl,hb,hc⟩:=h3 hp
 have:=hs _ _ _ rfl hp
 refine⟨b,off,rfl,hb,fun k u' hk=>?_⟩
 exact (World.cell?_setCell_other w p ⟨b,off+k,none⟩ u (fun e=>this (by rw [e]))).trans (hc k u' hk)
theorem DiskV.setFar {B:Nat} {w:World} {v:Value} {d:DiskP} (h:DiskV B w v d) {p:Addr} (hs:DSl (·≠p.block) v) (u:Value):DiskV B (w.setCell p u) v d:=by
 obtain⟨sv,lv,rfl,h1,h2⟩:=h
 obtain⟨q1,q2⟩:=hs _ _ _ _ rfl
 exact⟨sv,lv,rfl,⟨h1.1,h1.2.setFar q1 u⟩,⟨h2.1,h2.2.setFar q2 u⟩⟩
set_option maxRecDepth 100000 in
set_option maxHeartbeats 1000000 in
theorem put_any {B:Nat} (v:Value) (d:DiskP) (at_:Int) (data:List UInt8) (w:World) (h:DiskV B w v d) (h64:data.length=64) (S:Nat→Prop) (hS:DSl S v) (hF:∀ b,w.heap.size≤b→S b) :
  Calls Tryz.prog 142 #[v,.int .i64 at_,.agg (u8s data).toArray] w fun e w'=>(∃ v',e = .returned (.tuple #[v',.int .i64 (putP d at_ data).2])∧DiskV w'.heap.size w' v' (putP d at_ data).1∧DSl S v')∧Below w.heap.size w w':=by
 obtain⟨a1,n1,a2,n2,rfl,hs,hl⟩:=h.tight.parts
 have HSl:=zh (hS _ _ _ _ rfl)
 have HFr:=zh hF
 clear hS hF
 have hAs:(u8s data).toArray.size=64:=by simp [zL,h64]
 obtain⟨A,hA⟩:∃ A,A=(u8s data).toArray:=⟨_,rfl⟩
 rw [← hA] at hAs ⊢
 have HA:=zh hA
 clear hA
 clear h
 obtain⟨w2,hw2⟩:∃ w2,w2=((w.alloc (.cells #[.slice a1 d.secs.length n1,.slice a2 d.loose.length n2,.int .i64 d.fuse,.bool d.down] 38)).alloc (.cells A 94)).alloc (.cells #[.slice none 0 0,.slice none 0 0,.int .i64 0,.bool false] 38):=⟨_,rfl⟩
 have hb2:Below w.heap.size w w2:=by rw [hw2];exact Below.alloc (Below.alloc (Below.alloc (Below.refl _ _) (Nat.le_refl _) _) (by simp) _) (by simp;omega) _
 have hsz2:w2.heap.size=w.heap.size+3:=by rw [hw2];simp
 have F:Fr w.heap.size w.heap.size w2 (.slice a1 d.secs.length n1) (.slice a2 d.loose.length n2) d A:=by
  refine⟨?_,?_,?_,hs.below hb2,hl.below hb2⟩
  ·rw [hw2,heap_alloc_old _ _ (by simp;omega)];exact heap_alloc2_old w _ _
  ·rw [hw2,heap_alloc_old _ _ (by simp)];exact heap_alloc2_new w _ _
  ·rw [hw2]
   have h:=heap_alloc_new ((w.alloc (.cells #[.slice a1 d.secs.length n1,.slice a2 d.loose.length n2,.int .i64 d.fuse,.bool d.down] 38)).alloc (.cells A 94)) (.cells #[.slice none 0 0,.slice none 0 0,.int .i64 0,.bool false] 38)
   simpa using h
 clear hs hl
 have k1:=right_any _ d w2 F.diskV
 have C0:=cR w2 _ 0 _ _ _ F.g0
 have C1:=cR w2 _ 1 _ _ _ F.g0
 have C2:=cR w2 _ 2 _ _ _ F.g0
 have C3:=cR w2 _ 3 _ _ _ F.g0
 have D0:=cR w2 _ 0 _ _ _ F.g2
 have D1:=cR w2 _ 1 _ _ _ F.g2
 have D2:=cR w2 _ 2 _ _ _ F.g2
 have D3:=cR w2 _ 3 _ _ _ F.g2
 have Y:=zF F.g0
 have Z:=zF F.g2
 have hle:w.heap.size+3≤w2.heap.size:=by omega
 clear hsz2
 have H3:w.heap.size≤w.heap.size+1+1:=by omega
 cases hR:rightB d with
 | false =>
  have hP:putP d at_ data=(d,1):=by simp [putP,hR]
  rw [hR] at k1
  rw [hP]
  clear hP
  go_enter Tryz.func142,Tryz.ntmps142
  go_wp2_with fail
  rw [← hw2]
  clear hw2
  go_wp2_with fail
  refine k1.mono ?_
  rintro e w3 ⟨rfl,hb3⟩
  have F:=F.below hb3 (by omega) (by omega)
  have hbb:=hb2.trans (hb3.mono hb2.size)
  clear k1 C0 C1 C2 C3 D0 D1 D2 D3 Y Z
  have C0:=cR w3 _ 0 _ _ _ F.g0
  have C1:=cR w3 _ 1 _ _ _ F.g0
  have C2:=cR w3 _ 2 _ _ _ F.g0
  have C3:=cR w3 _ 3 _ _ _ F.g0
  have D0:=cR w3 _ 0 _ _ _ F.g2
  have D1:=cR w3 _ 1 _ _ _ F.g2
  have D2:=cR w3 _ 2 _ _ _ F.g2
  have D3:=cR w3 _ 3 _ _ _ F.g2
  have Y:=zF F.g0
  have Z:=zF F.g2
  go_wp2_with fail
  refine bodyPost_ret (results_ct rfl _ _ (w.heap.size+1+1) _ _ _ _ rfl (put4_heap F.g2 _ _ _ _) Tryz.underlying38 rfl zQ) rfl ?_
  exact⟨⟨_,rfl,DiskV.tight ⟨_,_,rfl,put4_secsV F.s H3 _ _ _ _,put4_looseV F.l H3 _ _ _ _⟩,DSl.mk HSl.out.1 HSl.out.2⟩,put4_below hbb H3 _ _ _ _⟩
 | true =>
  rw [hR] at k1
  go_enter Tryz.func142,Tryz.ntmps142
  go_wp2_with fail
  rw [← hw2]
  clear hw2
  go_wp2_with fail
  refine k1.mono ?_
  rintro e w3 ⟨rfl,hb3⟩
  have F:=F.below hb3 (by omega) (by omega)
  have hbb:=hb2.trans (hb3.mono hb2.size)
  have hle:=Nat.le_trans hle hb3.size
  clear hb3 hb2
  clear k1 C0 C1 C2 C3 D0 D1 D2 D3 Y Z
  have C0:=cR w3 _ 0 _ _ _ F.g0
  have C1:=cR w3 _ 1 _ _ _ F.g0
  have C2:=cR w3 _ 2 _ _ _ F.g0
  have C3:=cR w3 _ 3 _ _ _ F.g0
  have D0:=cR w3 _ 0 _ _ _ F.g2
  have D1:=cR w3 _ 1 _ _ _ F.g2
  have D2:=cR w3 _ 2 _ _ _ F.g2
  have D3:=cR w3 _ 3 _ _ _ F.g2
  have Y:=zF F.g0
  have Z:=zF F.g2
  have k1:=there_any _ d at_ w3 F.diskV
  cases hT:thereB d at_ with
  | false =>
   have hP:putP d at_ data=(d,1):=by simp [putP,hR,hT]
   rw [hT] at k1
   have HP:=zh hP
   clear hP hR hT
   go_wp2_with fail
   refine k1.mono ?_
   rintro e w4 ⟨rfl,hb4⟩
   have F:=F.below hb4 (by omega) (by omega)
   have hbb:=hbb.trans (hb4.mono hbb.size)
   clear k1 hb4 C0 C1 C2 C3 D0 D1 D2 D3 Y Z
   have C0:=cR w4 _ 0 _ _ _ F.g0
   have C1:=cR w4 _ 1 _ _ _ F.g0
   have C2:=cR w4 _ 2 _ _ _ F.g0
   have C3:=cR w4 _ 3 _ _ _ F.g0
   have D0:=cR w4 _ 0 _ _ _ F.g2
   have D1:=cR w4 _ 1 _ _ _ F.g2
   have D2:=cR w4 _ 2 _ _ _ F.g2
   have D3:=cR w4 _ 3 _ _ _ F.g2
   have Y:=zF F.g0
   have Z:=zF F.g2
   go_wp2_with fail
   refine bodyPost_ret (results_ct rfl _ _ (w.heap.size+1+1) _ _ _ _ rfl (put4_heap F.g2 _ _ _ _) Tryz.underlying38 rfl zQ) rfl ?_
   rw [HP.out]
   exact⟨⟨_,rfl,DiskV.tight ⟨_,_,rfl,put4_secsV F.s H3 _ _ _ _,put4_looseV F.l H3 _ _ _ _⟩,DSl.mk HSl.out.1 HSl.out.2⟩,put4_below hbb H3 _ _ _ _⟩
  | true =>
   rw [hT] at k1
   go_wp2_with fail
   refine k1.mono ?_
   rintro e w4 ⟨rfl,hb4⟩
   have F:=F.below hb4 (by omega) (by omega)
   have hbb:=hbb.trans (hb4.mono hbb.size)
   have hle:=Nat.le_trans hle hb4.size
   clear k1 hb4 C0 C1 C2 C3 D0 D1 D2 D3 Y Z
   have C0:=cR w4 _ 0 _ _ _ F.g0
   have C1:=cR w4 _ 1 _ _ _ F.g0
   have C2:=cR w4 _ 2 _ _ _ F.g0
   have C3:=cR w4 _ 3 _ _ _ F.g0
   have D0:=cR w4 _ 0 _ _ _ F.g2
   have D1:=cR w4 _ 1 _ _ _ F.g2
   have D2:=cR w4 _ 2 _ _ _ F.g2
   have D3:=cR w4 _ 3 _ _ _ F.g2
   have Y:=zF F.g0
   have Z:=zF F.g2
   have k1:=burn_any _ d w4 F.diskV hR
   cases hD:downP d with
   | true =>
    have hP:putP d at_ data=({ d with fuse:=burnF d,down:=true },9):=by simp [putP,hR,hT,hD]
    have hE:burnE d=9:=by simp [burnE,hD]
    rw [hD,hE] at k1
    have HP:=zh hP
    clear hP hR hT hD hE
    go_wp2_with fail
    refine k1.mono ?_
    rintro e w5 ⟨⟨sv,lv,rfl,C,hC,ho5,r5,hl5⟩,hb5⟩
    obtain⟨C,hC,hC5,r5,hl5⟩:=normC hC ho5 r5 hl5 hb5.size
    obtain⟨b1,m1,rfl⟩:=ho5.form
    obtain⟨b2,m2,rfl⟩:=hl5.form
    have F:=F.below hb5 (by omega) (by omega)
    have hbb:=hbb.trans (hb5.mono hbb.size)
    clear k1 hb5 C0 C1 C2 C3 D0 D1 D2 D3 Y Z
    have C0:=cR w5 _ 0 _ _ _ F.g0
    have C1:=cR w5 _ 1 _ _ _ F.g0
    have C2:=cR w5 _ 2 _ _ _ F.g0
    have C3:=cR w5 _ 3 _ _ _ F.g0
    have D0:=cR w5 _ 0 _ _ _ F.g2
    have D1:=cR w5 _ 1 _ _ _ F.g2
    have D2:=cR w5 _ 2 _ _ _ F.g2
    have D3:=cR w5 _ 3 _ _ _ F.g2
    have Y:=zF F.g0
    have Z:=zF F.g2
    go_wp2_with fail
    have hg:w.heap.size<C:=by omega
    have hg4:w.heap.size<w4.heap.size:=by omega
    have hg2:w.heap.size+1+1<C:=by omega
    have hg24:w.heap.size+1+1<w4.heap.size:=by omega
    refine bodyPost_ret (results_ct rfl _ _ (w.heap.size+1+1) _ _ _ _ rfl (put4_heap (w:=put4 w5 w.heap.size _ _ _ _) (put4_far F.g2 (by omega) _ _ _ _) _ _ _ _) Tryz.underlying38 rfl zQ) rfl ?_
    rw [HP.out]
    exact⟨⟨_,rfl,⟨_,_,rfl,(put4_secs (put4_secs ho5 hg4 _ _ _ _) hg24 _ _ _ _).secs,(put4_loose (put4_loose hl5 hg _ _ _ _) hg2 _ _ _ _).loose⟩,DSl.mk (ho5.2.sl fun b hb=>HFr.out b (by omega)) (hl5.2.sl fun b hb=>HFr.out b (by omega))⟩,put4_below (put4_below hbb (Nat.le_refl _) _ _ _ _) H3 _ _ _ _⟩
   | false =>
    have hP:putP d at_ data=({ d with loose:=d.loose++[⟨at_,data⟩],fuse:=burnF d,down:=false },0):=by simp [putP,hR,hT,hD]
    have hE:burnE d=0:=by simp [burnE,hD]
    rw [hD,hE] at k1
    have HP:=zh hP
    have hlen:d.loose.length≤100000:=by simp only [rightB,Bool.and_eq_true,decide_eq_true_eq] at hR;omega
    have R1:=zh (show d.loose.length+1≤maxLen by unfold maxLen;omega)
    have R2:=zh (show (d.loose.length+1)*72≤140737488355328 by omega)
    clear hP hR hT hD hE hlen
    go_wp2_with fail
    refine k1.mono ?_
    rintro e w5 ⟨⟨sv,lv,rfl,C,hC,ho5,r5,hl5⟩,hb5⟩
    obtain⟨C,hC,hC5,r5,hl5⟩:=normC hC ho5 r5 hl5 hb5.size
    obtain⟨b1,m1,rfl⟩:=ho5.form
    obtain⟨b2,m2,rfl⟩:=hl5.form
    have F:=F.below hb5 (by omega) (by omega)
    have hbb:=hbb.trans (hb5.mono hbb.size)
    have hle5:=hb5.size
    clear k1 hb5 C0 C1 C2 C3 D0 D1 D2 D3 Y Z
    have C0:=cR w5 _ 0 _ _ _ F.g0
    have C1:=cR w5 _ 1 _ _ _ F.g0
    have C2:=cR w5 _ 2 _ _ _ F.g0
    have C3:=cR w5 _ 3 _ _ _ F.g0
    have D0:=cR w5 _ 0 _ _ _ F.g2
    have D1:=cR w5 _ 1 _ _ _ F.g2
    have D2:=cR w5 _ 2 _ _ _ F.g2
    have D3:=cR w5 _ 3 _ _ _ F.g2
    have Y:=zF F.g0
    have Z:=zF F.g2
    have hg:w.heap.size<C:=by omega
    have hg4:w.heap.size<w4.heap.size:=by omega
    have hg2:w.heap.size+1+1<C:=by omega
    have hg24:w.heap.size+1+1<w4.heap.size:=by omega
    obtain⟨w6,hw6⟩:∃ w6,w6=(put4 w5 w.heap.size (.slice b1 d.secs.length m1) (.slice b2 d.loose.length m2) (.int .i64 (burnF d)) (.bool false)):=⟨_,rfl⟩
    have hb56:Below w.heap.size w5 w6:=by rw [hw6];exact put4_below (Below.refl _ _) (Nat.le_refl _) _ _ _ _
    have hsz6:w6.heap.size=w5.heap.size:=by rw [hw6];simp [put4]
    have E0:w6.heap[w.heap.size]?=some (.cells #[.slice b1 d.secs.length m1,.slice b2 d.loose.length m2,.int .i64 (burnF d),.bool false] 38 (0,0)):=by rw [hw6];exact put4_heap F.g0 _ _ _ _
    have E1:w6.heap[w.heap.size+1]?=some (.cells A 94 (0,0)):=by rw [hw6];exact put4_far F.g1 (by omega) _ _ _ _
    have E2:w6.heap[w.heap.size+1+1]?=some (.cells #[.slice none 0 0,.slice none 0 0,.int .i64 0,.bool false] 38 (0,0)):=by rw [hw6];exact put4_far F.g2 (by omega) _ _ _ _
    have ho6:SecsO w4.heap.size w6 (.slice b1 d.secs.length m1) d.secs:=by rw [hw6];exact put4_secs ho5 hg4 _ _ _ _
    have r6:=r5.mix ho6.2.row
    have hl6:LooseO C w6 (.slice b2 d.loose.length m2) d.loose:=by rw [hw6];exact put4_loose hl5 hg _ _ _ _
    have hb6:=hbb.trans hb56
    have hld:=run_loadVar_row (P:=Tryz.prog) w6 (w.heap.size+1) 94 94 A (0,0) _ E1 Tryz.underlying94 rfl (by rw [hAs];exact size_sector)
    unfold put4 at hw6
    have hbd:=run_build_write (w:=w6) at_ A hAs
    have hXs:(Value.int .i64 at_ :: A.toList).toArray.size=65:=by simp [hAs]
    obtain⟨X,hX⟩:∃ X,X=(Value.int .i64 at_ :: A.toList).toArray:=⟨_,rfl⟩
    rw [← hX] at hbd hXs
    have hbs:=run_buildSlice_write (w:=w6) X hXs
    have hXw:X.toList=wcells ⟨at_,data⟩:=by rw [hX,HA.out];simp [wcells]
    obtain⟨w8,hw8⟩:∃ w8,w8=w6.alloc (.cells X 96):=⟨_,rfl⟩
    have hb68:Below w6.heap.size w6 w8:=by rw [hw8];exact Below.alloc (Below.refl _ _) (Nat.le_refl _) _
    have hl8:=(hl6.keep hb68 (Nat.le_refl _)).2
    have hsrc:Src Tryz.prog w8 (.slice (some ⟨w6.heap.size,0,none⟩) 1 1) 65 1 (wcells ⟨at_,data⟩):=by
     rw [hw8]
     refine Row.src (Row.fresh (by simp [wcells,zL,h64]) (Nat.le_refl _) (by decide) (fun k u hk=>?_))
     rw [← hXw] at hk
     simpa using hk
    have hle8:C≤w8.heap.size:=by have:=hb68.size;omega
    obtain⟨i0,z0,hi,hz0,hz1,hz2,hz3⟩:=zero_parts infoz_write
    obtain⟨g6,hg6⟩:∃ g,g=w6.heap.size:=⟨_,rfl⟩
    rw [← hw8,← hg6] at hbs
    rw [← hg6] at hsrc
    have hone:=oneCell_w ⟨at_,data⟩
    clear hXw hX hw8 F ho5 hl5 hg6
    go_wp2_with (refine wp_load_to (.tmp 5) 94 rfl rfl hw6 rfl hld ?_;clear hld hw6;refine Halt.in ?_)
    refine Halt.out ?_
    refine wp_build_l 96 [(0,.tmp 28),(1,.tmp 29)] rfl rfl rfl hbd ?_
    refine wp_buildSlice_l 36 1 [(0,.tmp 30)] rfl rfl rfl hbs ?_
    refine wp_append rfl (.tmp 27) (.tmp 31) 36 36 96 rfl i0 z0 65 72 Tryz.underlying36 (.inl ⟨_,Tryz.underlying36⟩) hi hz0 hz1 hz2 hz3 rfl rfl hl8 hsrc hone R1.out R2.out hle8 ?_
    intro v2 w9 hown9 hb9
    clear C0 C1 C2 C3 D0 D1 D2 D3 Y Z
    clear hbd hbs hsrc hl8 hi hz0 hz1 hz2 hz3 hone
    have hx9:LooseO C w9 v2 (d.loose++[⟨at_,data⟩]):=LooseO.snoc hl6.1 h64 hown9
    obtain⟨b3,m3,hv2⟩:=hx9.form
    rw [List.length_append,List.length_singleton] at hv2
    subst hv2
    have hb69:Below C w6 w9:=(hb68.mono (by omega)).trans hb9
    have G0:=(hb69.block _ hg).trans E0
    have G2:=(hb69.block _ hg2).trans E2
    have r9:=(RowIn.of ho6.2 r6).below hb69
    have H0:w.heap.size≤C:=by omega
    have hbb9:=(hb6.trans (hb69.mono H0)).setCell (p:=⟨w.heap.size,1,none⟩) (Nat.le_refl _) (.slice b3 (d.loose.length+1) m3)
    have C0:=cR w9 _ 0 _ _ _ G0
    have C1:=cR w9 _ 1 _ _ _ G0
    have C2:=cR w9 _ 2 _ _ _ G0
    have C3:=cR w9 _ 3 _ _ _ G0
    have D0:=cR w9 _ 0 _ _ _ G2
    have D1:=cR w9 _ 1 _ _ _ G2
    have D2:=cR w9 _ 2 _ _ _ G2
    have D3:=cR w9 _ 3 _ _ _ G2
    have Y:=zF G0
    have Z:=zF G2
    go_wp2_with fail
    refine bodyPost_ret (results_ct rfl _ _ (w.heap.size+1+1) _ _ _ _ rfl (put4_heap ((setFar (by omega) 1 _).trans G2) _ _ _ _) Tryz.underlying38 rfl zQ) rfl ?_
    rw [HP.out]
    exact⟨⟨_,rfl,DiskV.mk (d:={ d with loose:=d.loose++[⟨at_,data⟩],fuse:=burnF d,down:=false }) ⟨ho6.1,(((((r9.setOther ⟨w.heap.size,1,none⟩ _ hg4).setOther ⟨w.heap.size+1+1,0,none⟩ _ hg24).setOther ⟨w.heap.size+1+1,1,none⟩ _ hg24).setOther ⟨w.heap.size+1+1,2,none⟩ _ hg24).setOther ⟨w.heap.size+1+1,3,none⟩ _ hg24).row⟩ (put4_loose (hx9.setOther ⟨w.heap.size,1,none⟩ _ hg) hg2 _ _ _ _).loose,DSl.mk (ho6.2.sl fun b hb=>HFr.out b (by omega)) (hx9.2.sl fun b hb=>HFr.out b (by omega))⟩,put4_below hbb9 H3 _ _ _ _⟩
end
section
open Go.RowKit
structure Fr2 (B G:Nat) (w:World) (sv lv:Value) (d:DiskP):Prop where
 g0:w.heap[G]?=some (.cells #[sv,lv,.int .i64 d.fuse,.bool d.down] 38 (0,0))
 g2:w.heap[G+1]?=some (.cells #[.slice none 0 0,.slice none 0 0,.int .i64 0,.bool false] 38 (0,0))
 s:Secs B w sv d.secs
 l:Loose B w lv d.loose
theorem Fr2.below {B G B':Nat} {w w':World} {sv lv:Value} {d:DiskP} (h:Fr2 B G w sv lv d) (hb:Below B' w w') (hB:G+1<B') (hB2:B≤B'):Fr2 B G w' sv lv d :=
 ⟨(hb.block _ (by omega)).trans h.g0,(hb.block _ hB).trans h.g2,h.s.below (hb.mono hB2),h.l.below (hb.mono hB2)⟩
theorem Fr2.diskV {B G:Nat} {w:World} {sv lv:Value} {d:DiskP} (h:Fr2 B G w sv lv d):DiskV B w (.agg #[sv,lv,.int .i64 d.fuse,.bool d.down]) d:=⟨sv,lv,rfl,h.s,h.l⟩
theorem Fr2.new {w:World} {sv lv:Value} {d:DiskP} (hs:Secs w.heap.size w sv d.secs) (hl:Loose w.heap.size w lv d.loose) :
  Fr2 w.heap.size w.heap.size ((w.alloc (.cells #[sv,lv,.int .i64 d.fuse,.bool d.down] 38)).alloc (.cells #[.slice none 0 0,.slice none 0 0,.int .i64 0,.bool false] 38)) sv lv d:=by
 have hb:Below w.heap.size w ((w.alloc (.cells #[sv,lv,.int .i64 d.fuse,.bool d.down] 38)).alloc (.cells #[.slice none 0 0,.slice none 0 0,.int .i64 0,.bool false] 38)):=Below.alloc (Below.alloc (Below.refl _ _) (Nat.le_refl _) _) (by simp) _
 exact⟨heap_alloc2_old w _ _,heap_alloc2_new w _ _,hs.below hb,hl.below hb⟩
end
section
open Go.RowKit
def zeroS:List UInt8:=List.replicate 64 0
def newP (n:Int):DiskP×Int:=if 0≤n∧n≤4096 then (⟨List.replicate n.toNat zeroS,[],-1,false⟩,0) else (⟨[],[],0,false⟩,1)
theorem zero_sector:(Tryz.prog.info? 94).bind (fun i=>i.zero.map fun z=>(i.size,i.bytes,z.cells))=some (64,64,Array.replicate 64 (.int .u8 0)):=by kernel_rfl
theorem secs_zero (n:Nat):((List.replicate n zeroS).map u8s).flatten=List.replicate (n*64) (.int .u8 0):=by
 have e:u8s zeroS=List.replicate 64 (.int .u8 0):=by simp [u8s,zeroS,u8]
 rw [List.map_replicate,e,List.flatten_replicate_replicate]
theorem made_zero (n:Nat):(madeCells (Array.replicate 64 (Value.int .u8 0)) (n*64)).toList=List.replicate (n*64) (.int .u8 0):=by
 apply List.ext_getElem
 ·simp [size_madeCells]
 ·intro k h1 h2
  simp only [madeCells,Array.toList_map,Array.toList_range,List.getElem_map,List.getElem_range,List.getElem_replicate,Array.size_replicate]
  have:k%64<64:=Nat.mod_lt _ (by decide)
  rw [getElem!_pos _ _ (by simpa using this)]
  simp
theorem ownsRow_secs {w:World} {base n:Nat} {e:TypeId} {a:Option Addr} {c:Nat} (h:w.ownsRow base e 64 (.slice a n c) n (madeCells (Array.replicate 64 (Value.int .u8 0)) (n*64)).toList):Secs w.heap.size w (.slice a n c) (List.replicate n zeroS):=by
 rw [made_zero] at h
 obtain⟨h1,h⟩:=h
 refine⟨fun s hs=>by rw [(List.mem_replicate.1 hs).2];rfl,?_⟩
 rw [secs_zero,List.length_replicate]
 rcases h with ⟨h,rfl⟩ | ⟨g,cap,cur,hv,_,hh,hn,hc,hz,ht⟩
 ·cases h
  exact⟨by simp,none,0,rfl,Nat.le_refl _,by simp [maxLen],fun h=>absurd h (Nat.lt_irrefl _)⟩
 ·cases hv
  refine⟨by simp,_,c,rfl,hn,hc,fun _=>⟨g,0,rfl,zB hh,fun k u hk=>?_⟩⟩
  rw [Nat.zero_add,cR w g k cur e (0,0) hh]
  rw [← ht,List.getElem?_take] at hk
  split at hk
  ·simpa using hk
  ·cases hk
theorem Loose.nil (B:Nat) (w:World):Loose B w (.slice none 0 0) []:=⟨fun _ h=>absurd h List.not_mem_nil,Row.nil B w 65⟩
theorem Secs.nil (B:Nat) (w:World):Secs B w (.slice none 0 0) []:=⟨fun _ h=>absurd h List.not_mem_nil,Row.nil B w 64⟩
end
section
open Go.RowKit
def settleN (ss:List (List UInt8)) (ls:List WriteP) (st:Nat→Bool):Nat→List (List UInt8)
 | 0=>ss
 | k+1=>match ls[k]? with
  | some x=>if st k then (settleN ss ls st k).set x.at_.toNat x.data else settleN ss ls st k
  | none=>settleN ss ls st k
theorem length_settleN (ss:List (List UInt8)) (ls:List WriteP) (st:Nat→Bool):∀ k,(settleN ss ls st k).length=ss.length
 | 0=>rfl
 | k+1=>by
  unfold settleN
  split
  ·split <;> simp [length_settleN ss ls st k]
  ·exact length_settleN ss ls st k
theorem flat_set (sz:Nat) (f:List UInt8→List Value):∀ (ss:List (List UInt8)) (k:Nat) (x:List UInt8),(∀ s∈ss,(f s).length=sz)→(f x).length=sz→k<ss.length →
  ((ss.set k x).map f).flatten=(ss.map f).flatten.take (k*sz)++f x++(ss.map f).flatten.drop (k*sz+sz)
 | [],k,x,_,_,h=>by simp at h
 | y :: ys,0,x,hs,hx,_=>by
  have h0:=hs y (List.mem_cons_self ..)
  simp only [zq2,List.map_cons,List.flatten_cons,Nat.zero_mul,List.take_zero,List.nil_append,Nat.zero_add]
  rw [← h0,List.drop_left]
 | y :: ys,k+1,x,hs,hx,h=>by
  have h0:=hs y (List.mem_cons_self ..)
  have ih:=flat_set sz f ys k x (fun s hs'=>hs s (List.mem_cons_of_mem _ hs')) hx (by simpa using h)
  simp only [zq3,List.map_cons,List.flatten_cons,ih]
  have e1:(k+1)*sz=(f y).length+k*sz:=by rw [h0,Nat.succ_mul];omega
  have e2:(f y).length+k*sz+sz=(f y).length+(k*sz+sz):=by omega
  rw [e1,e2,List.take_length_add_append,List.drop_length_add_append]
  simp [List.append_assoc]
theorem SecsO.lay {P:Program} {B:Nat} {w:World} {a:Option Addr} {n cap:Nat} {ss:List (List UInt8)} (h:SecsO B w (.slice a n cap) ss) (k:Nat) (x:List UInt8) (hk:k<ss.length) (hx:x.length=64) {i:TypeInfo} (hi:P.info? 94=some i) (hsz:i.size=64) :
  ∃ g,a=some ⟨g,0,none⟩∧B≤g∧g<w.heap.size∧∃ w',(storeVar 94 ⟨g,k*64,none⟩ (.agg (u8s x).toArray)).run P w = .ok () w'∧SecsO B w' (.slice a n cap) (ss.set k x)∧Below B w w'∧w'.heap.size=w.heap.size∧∀ g',g'≠g→w'.heap[g']?=w.heap[g']?:=by
 obtain⟨h64,hl,a',cap',hv,hn,hc,h4⟩:=h
 injection hv with ha hn' hcap
 subst ha
 subst hn'
 subst hcap
 rcases h4 with h4 | ⟨g,cur,rfl,hg,hh,hs,ht⟩
 ·omega
 ·have hfit:k*64+(u8s x).length≤cur.size:=by rw [zL,hx,hs];omega
  have hst:=run_store_big (P:=P) hi (cs:=u8s x) hh (by rw [zL,hx,hsz]) hfit (oneCell_u8s x)
  have hh':=setRow_heap w g cur (cur.toList.take (k*64)++u8s x++cur.toList.drop (k*64+(u8s x).length)).toArray 94 _ hh
  refine⟨g,rfl,hg,zB hh,_,hst,⟨?_,?_⟩,?_,?_,?_⟩
  ·intro s hs'
   rcases List.mem_or_eq_of_mem_set hs' with h | h
   ·exact h64 s h
   ·rw [h];exact hx
  ·have hfl:=flat_set 64 u8s ss k x (fun s hs'=>by rw [zL,h64 s hs']) (by rw [zL,hx]) hk
   have hu:(u8s x).length=64:=by rw [zL,hx]
   have hall:∀ s∈ss.set k x,(u8s s).length=64:=fun s hs'=>by
    rcases List.mem_or_eq_of_mem_set hs' with h | h
    ·rw [zL,h64 s h]
    ·rw [h,zL,hx]
   refine⟨length_flat u8s 64 _ hall,_,cap,by rw [List.length_set],by rw [List.length_set];exact hn,hc,.inr ⟨g,_,rfl,hg,hh',?_,?_⟩⟩
   ·simp only [List.size_toArray,List.length_append,List.length_take,List.length_drop,Array.length_toList,hu]
    omega
   ·rw [hfl,List.length_set,← ht,hu]
    have a1:k*64≤ss.length*64:=by omega
    have a2:k*64+64≤ss.length*64:=by omega
    have a3:k*64≤cur.toList.length:=by simp;omega
    simp only [List.take_append,List.length_append,List.length_take,hu,List.take_take,List.drop_take]
    rw [Nat.min_eq_left a3]
    have b1:min (ss.length*64) (k*64)=k*64:=by omega
    have b2:min (k*64) (ss.length*64)=k*64:=by omega
    rw [b1,b2,List.take_of_length_le (l:=u8s x) (by omega)]
  ·exact⟨rfl,rfl,rfl,by simp [World.setRow],fun j hj=>setRow_other w g j _ (by omega)⟩
  ·simp [World.setRow]
  ·intro g' hne
   exact setRow_other w g g' _ (by omega)
end
end Go.Proofs.YtaijompnohkmaaaGreatDoor
