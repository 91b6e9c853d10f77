/- Layer 1 (sector): Put. -/
import Derived.Test.YtaijompnohkmaaaGreatDoorOB
import Derived.OwnWalk
import Derived.RangeFuncNested
import Derived.RangeFuncBound
import Derived.RangeFuncCalls
import Derived.RangeFuncLeaves
import Derived.RangeFuncBox
import Derived.Shelf.Abstract
import Derived.Shelf.RegionOpen
import Derived.WalkKit
import Derived.OwnWalkIn
import Derived.TacticsInMore
import Derived.LoopNIn
import Derived.LoopIn
set_option linter.unusedSimpArgs false
set_option linter.unusedVariables false
namespace Go.Proofs.YtaijompnohkmaaaGreatDoor
section
open Go.RowKit
theorem size_sector:(Tryz.prog.info? 94).map (·.size)=some 64:=by kernel_rfl
def Halt (p:Prop):Prop:=p
theorem Halt.out {p:Prop} (h:p):Halt p:=h
theorem Halt.in {p:Prop} (h:Halt p):p:=h
def putP (d:DiskP) (at_:Int) (data:List UInt8):DiskP×Int :=
 if rightB d&&thereB d at_ then (if downP d then ({ d with fuse:=burnF d,down:=true },9) else ({ d with loose:=d.loose++[⟨at_,data⟩],fuse:=burnF d,down:=false },0)) else (d,1)
structure Fr (B G:Nat) (w:World) (sv lv:Value) (d:DiskP) (A:Array Value):Prop where
 g0:w.heap[G]?=some (.cells #[sv,lv,.int .i64 d.fuse,.bool d.down] 38 (0,0))
 g1:w.heap[G+1]?=some (.cells A 94 (0,0))
 g2:w.heap[G+1+1]?=some (.cells #[.slice none 0 0,.slice none 0 0,.int .i64 0,.bool false] 38 (0,0))
 s:Secs B w sv d.secs
 l:Loose B w lv d.loose
theorem Fr.below {B G B':Nat} {w w':World} {sv lv:Value} {d:DiskP} {A:Array Value} (h:Fr B G w sv lv d A) (hb:Below B' w w') (hB:G+1+1<B') (hB2:B≤B'):Fr B G w' sv lv d A :=
 ⟨(hb.block _ (by omega)).trans h.g0,(hb.block _ (by omega)).trans h.g1,(hb.block _ hB).trans h.g2,h.s.below (hb.mono hB2),h.l.below (hb.mono hB2)⟩
theorem Fr.diskV {B G:Nat} {w:World} {sv lv:Value} {d:DiskP} {A:Array Value} (h:Fr B G w sv lv d A):DiskV B w (.agg #[sv,lv,.int .i64 d.fuse,.bool d.down]) d:=⟨sv,lv,rfl,h.s,h.l⟩
theorem DiskV.parts {B:Nat} {w:World} {v:Value} {d:DiskP} (h:DiskV B w v d):∃ a1 k1 a2 k2,v = .agg #[.slice a1 d.secs.length k1,.slice a2 d.loose.length k2,.int .i64 d.fuse,.bool d.down]∧Secs B w (.slice a1 d.secs.length k1) d.secs∧Loose B w (.slice a2 d.loose.length k2) d.loose:=by
 obtain⟨sv,lv,rfl,hs,hl⟩:=h
 have hs':=hs
 have hl':=hl
 obtain⟨_,_,a,cap,rfl,_⟩:=hs'
 obtain⟨_,_,a2,cap2,rfl,_⟩:=hl'
 exact⟨_,_,_,_,rfl,hs,hl⟩
theorem put4_secsV {B h:Nat} {w:World} {v:Value} {ss:List (List UInt8)} (hs:Secs B w v ss) (hB:B≤h) (a b c d:Value):Secs B (put4 w h a b c d) v ss:=hs.below (put4_below (Below.refl _ _) hB a b c d)
theorem put4_looseV {B h:Nat} {w:World} {v:Value} {ss:List WriteP} (hs:Loose B w v ss) (hB:B≤h) (a b c d:Value):Loose B (put4 w h a b c d) v ss:=hs.below (put4_below (Below.refl _ _) hB a b c d)
theorem LooseO.snoc {B:Nat} {w:World} {v:Value} {ls:List WriteP} {x:WriteP} (h:∀ x∈ls,x.data.length=64) (hx:x.data.length=64) (ho:Own B w 96 v 65 (ls.length+1) ((ls.map wcells).flatten++wcells x)):LooseO B w v (ls++[x]):=by
 refine⟨fun y hy=>?_,?_⟩
 ·rcases List.mem_append.1 hy with hy | hy
  ·exact h y hy
  ·rw [List.mem_singleton.1 hy];exact hx
 ·simpa using ho
theorem normC {G C:Nat} {w:World} {sv lv:Value} {ss:List (List UInt8)} {ls:List WriteP} (hC:G≤C) (ho:SecsO G w sv ss) (r:Row C w sv 64 ss.length (ss.map u8s).flatten) (hl:LooseO C w lv ls) (hs:G≤w.heap.size) :
  ∃ C,G≤C∧C≤w.heap.size∧Row C w sv 64 ss.length (ss.map u8s).flatten∧LooseO C w lv ls:=by
 rcases Nat.le_total C w.heap.size with h | h
 ·exact⟨C,hC,h,r,hl⟩
 ·exact⟨w.heap.size,hs,Nat.le_refl _,ho.secs.2,hl.lower h⟩
def RowIn (B C:Nat) (w:World) (v:Value) (sz n:Nat) (cs:List Value):Prop :=
 cs.length=n*sz∧∃ a cap,v = .slice a n cap∧n≤cap∧cap≤maxLen∧(0<n→∃ b off,a=some ⟨b,off,none⟩∧B≤b∧b<C∧∀ k u,cs[k]?=some u→w.cell? ⟨b,off+k,none⟩=some u)
theorem RowIn.of {B C:Nat} {w:World} {e:TypeId} {v:Value} {sz n:Nat} {cs:List Value} (ho:Own B w e v sz n cs) (r:Row C w v sz n cs):RowIn B C w v sz n cs:=by
 obtain⟨_,a,cap,rfl,hn,_,ho⟩:=ho
 obtain⟨hl,a',cap',hv,h1,h2,h3⟩:=r
 obtain⟨rfl,rfl⟩:a=a'∧cap=cap':=by cases hv;exact⟨rfl,rfl⟩
 refine⟨hl,a,cap,rfl,h1,h2,fun hp=>?_⟩
 obtain⟨b,off,rfl,hb,hc⟩:=h3 hp
 rcases ho with ho | ⟨g,cur,hg,hB,_⟩
 ·omega
 ·cases hg
  exact⟨b,0,rfl,hB,hb,hc⟩
theorem RowIn.below {B C:Nat} {w w':World} {v:Value} {sz n:Nat} {cs:List Value} (h:RowIn B C w v sz n cs) (hb:Below C w w'):RowIn B C w' v sz n cs:=by
 obtain⟨hl,a,cap,rfl,h1,h2,h3⟩:=h
 refine⟨hl,a,cap,rfl,h1,h2,fun hp=>?_⟩
 obtain⟨b,off,rfl,hB,hC,hc⟩:=h3 hp
 exact⟨b,off,rfl,hB,hC,fun k u hk=>(hb.cell (p:=⟨b,off+k,none⟩) hC).trans (hc k u hk)⟩
theorem RowIn.setOther {B C:Nat} {w:World} {v:Value} {sz n:Nat} {cs:List Value} (h:RowIn B C w v sz n cs) (p:Addr) (u:Value) (hp:p.block<B):RowIn B C (w.setCell p u) v sz n cs:=by
 obtain⟨hl,a,cap,rfl,h1,h2,h3⟩:=h
 refine⟨hl,a,cap,rfl,h1,h2,fun hn=>?_⟩
 obtain⟨b,off,rfl,hB,hC,hc⟩:=h3 hn
 refine⟨b,off,rfl,hB,hC,fun k u' hk=>?_⟩
 rw [← hc k u' hk]
 unfold World.cell?
 have:(w.setCell p u).heap[b]?=w.heap[b]?:=by
  simp only [World.setCell,Array.getElem?_modify]
  rw [if_neg (by omega)]
 simp only [this]
theorem RowIn.row {B C:Nat} {w:World} {v:Value} {sz n:Nat} {cs:List Value} (h:RowIn B C w v sz n cs):Row C w v sz n cs:=by
 obtain⟨hl,a,cap,rfl,h1,h2,h3⟩:=h
 refine⟨hl,a,cap,rfl,h1,h2,fun hn=>?_⟩
 obtain⟨b,off,rfl,_,hC,hc⟩:=h3 hn
 exact⟨b,off,rfl,hC,hc⟩
theorem DiskV.mk {B B':Nat} {w:World} {sv lv:Value} {d:DiskP} (hs:Secs B w sv d.secs) (hl:Loose B' w lv d.loose):DiskV w.heap.size w (.agg #[sv,lv,.int .i64 d.fuse,.bool d.down]) d:=⟨sv,lv,rfl,hs.tight,hl.tight⟩
theorem put4_far {w:World} {g h:Nat} {o:Obj} (hh:w.heap[h]?=some o) (hne:g≠h) (a b c d:Value):(put4 w g a b c d).heap[h]?=some o:=by
 unfold put4
 rw [setFar hne,setFar hne,setFar hne,setFar hne]
 exact hh
def Sl (S:Nat→Prop) (v:Value):Prop:=∀ a n c,v = .slice (some a) n c→0<n→S a.block
def DSl (S:Nat→Prop) (v:Value):Prop:=∀ sv lv f dn,v = .agg #[sv,lv,f,dn]→Sl S sv∧Sl S lv
theorem DSl.mk {S:Nat→Prop} {sv lv f dn:Value} (h1:Sl S sv) (h2:Sl S lv):DSl S (.agg #[sv,lv,f,dn]):=by
 intro sv' lv' f' dn' h
 simp only [Value.agg.injEq,Array.mk.injEq,List.cons.injEq] at h
 obtain⟨rfl,rfl,_⟩:=h
 exact⟨h1,h2⟩
theorem Sl.none (S:Nat→Prop) (n c:Nat):Sl S (.slice none n c):=fun _ _ _ h=>by simp at h
theorem Own.sl {B:Nat} {w:World} {e:TypeId} {v:Value} {sz n:Nat} {cs:List Value} (h:Own B w e v sz n cs) {S:Nat→Prop} (hS:∀ b,B≤b→S b):Sl S v:=by
 obtain⟨_,a,cap,rfl,hn,_,h4⟩:=h
 intro a' n' c' h hp
 cases h
 rcases h4 with h4 | ⟨g,cur,hg,hB,_⟩
 ·omega
 ·cases hg
  exact hS _ hB
theorem Row.sl {B:Nat} {w:World} {v:Value} {sz n:Nat} {cs:List Value} (h:Row B w v sz n cs) {S:Nat→Prop} (hS:∀ b,b<B→S b):Sl S v:=by
 obtain⟨_,a,cap,rfl,_,_,h4⟩:=h
 intro a' n' c' h hp
 cases h
 obtain⟨b,off,hb,hB,_⟩:=h4 hp
 cases hb
 exact hS _ hB
theorem DiskV.sl {B:Nat} {w:World} {v:Value} {d:DiskP} (h:DiskV B w v d) {S:Nat→Prop} (hS:∀ b,b<B→S b):DSl S v:=by
 obtain⟨sv,lv,rfl,hs,hl⟩:=h
 exact DSl.mk (hs.2.sl hS) (hl.2.sl hS)
theorem Row.setFar {B:Nat} {w:World} {v:Value} {sz n:Nat} {cs:List Value} (h:Row B w v sz n cs) {p:Addr} (hs:Sl (·≠p.block) v) (u:Value):Row B (w.setCell p u) v sz n cs:=by
 obtain⟨hl,a,cap,rfl,h1,h2,h3⟩:=h
 refine⟨hl,a,cap,rfl,h1,h2,fun hp=>?_⟩
 obtain⟨b,off,rfl,hb,hc⟩:=h3 hp
 have:=hs _ _ _ rfl hp
 refine⟨b,off,rfl,hb,fun k u' hk=>?_⟩
 exact (World.cell?_setCell_other w p ⟨b,off+k,none⟩ u (fun e=>this (by rw [e]))).trans (hc k u' hk)
theorem DiskV.setFar {B:Nat} {w:World} {v:Value} {d:DiskP} (h:DiskV B w v d) {p:Addr} (hs:DSl (·≠p.block) v) (u:Value):DiskV B (w.setCell p u) v d:=by
 obtain⟨sv,lv,rfl,h1,h2⟩:=h
 obtain⟨q1,q2⟩:=hs _ _ _ _ rfl
 exact⟨sv,lv,rfl,⟨h1.1,h1.2.setFar q1 u⟩,⟨h2.1,h2.2.setFar q2 u⟩⟩
set_option maxRecDepth 100000 in
set_option maxHeartbeats 1000000 in
theorem put_any {B:Nat} (v:Value) (d:DiskP) (at_:Int) (data:List UInt8) (w:World) (h:DiskV B w v d) (h64:data.length=64) (S:Nat→Prop) (hS:DSl S v) (hF:∀ b,w.heap.size≤b→S b) :
  Calls Tryz.prog 142 #[v,.int .i64 at_,.agg (u8s data).toArray] w fun e w'=>(∃ v',e = .returned (.tuple #[v',.int .i64 (putP d at_ data).2])∧DiskV w'.heap.size w' v' (putP d at_ data).1∧DSl S v')∧Below w.heap.size w w':=by
 obtain⟨a1,n1,a2,n2,rfl,hs,hl⟩:=h.tight.parts
 have HSl:=zh (hS _ _ _ _ rfl)
 have HFr:=zh hF
 clear hS hF
 have hAs:(u8s data).toArray.size=64:=by simp [zL,h64]
 obtain⟨A,hA⟩:∃ A,A=(u8s data).toArray:=⟨_,rfl⟩
 rw [← hA] at hAs ⊢
 have HA:=zh hA
 clear hA
 clear h
 obtain⟨w2,hw2⟩:∃ w2,w2=((w.alloc (.cells #[.slice a1 d.secs.length n1,.slice a2 d.loose.length n2,.int .i64 d.fuse,.bool d.down] 38)).alloc (.cells A 94)).alloc (.cells #[.slice none 0 0,.slice none 0 0,.int .i64 0,.bool false] 38):=⟨_,rfl⟩
 have hb2:Below w.heap.size w w2:=by rw [hw2];exact Below.alloc (Below.alloc (Below.alloc (Below.refl _ _) (Nat.le_refl _) _) (by simp) _) (by simp;omega) _
 have hsz2:w2.heap.size=w.heap.size+3:=by rw [hw2];simp
 have F:Fr w.heap.size w.heap.size w2 (.slice a1 d.secs.length n1) (.slice a2 d.loose.length n2) d A:=by
  refine⟨?_,?_,?_,hs.below hb2,hl.below hb2⟩
  ·rw [hw2,heap_alloc_old _ _ (by simp;omega)];exact heap_alloc2_old w _ _
  ·rw [hw2,heap_alloc_old _ _ (by simp)];exact heap_alloc2_new w _ _
  ·rw [hw2]
   have h:=heap_alloc_new ((w.alloc (.cells #[.slice a1 d.secs.length n1,.slice a2 d.loose.length n2,.int .i64 d.fuse,.bool d.down] 38)).alloc (.cells A 94)) (.cells #[.slice none 0 0,.slice none 0 0,.int .i64 0,.bool false] 38)
   simpa using h
 clear hs hl
 have k1:=right_any _ d w2 F.diskV
 have C0:=cR w2 _ 0 _ _ _ F.g0
 have C1:=cR w2 _ 1 _ _ _ F.g0
 have C2:=cR w2 _ 2 _ _ _ F.g0
 have C3:=cR w2 _ 3 _ _ _ F.g0
 have D0:=cR w2 _ 0 _ _ _ F.g2
 have D1:=cR w2 _ 1 _ _ _ F.g2
 have D2:=cR w2 _ 2 _ _ _ F.g2
 have D3:=cR w2 _ 3 _ _ _ F.g2
 have Y:=zF F.g0
 have Z:=zF F.g2
 have hle:w.heap.size+3≤w2.heap.size:=by omega
 clear hsz2
 have H3:w.heap.size≤w.heap.size+1+1:=by omega
 cases hR:rightB d with
 | false =>
  have hP:putP d at_ data=(d,1):=by simp [putP,hR]
  rw [hR] at k1
  rw [hP]
  clear hP
  go_enter Tryz.func142,Tryz.ntmps142
  go_wp2_with fail
  rw [← hw2]
  clear hw2
  go_wp2_with fail
  refine k1.mono ?_
  rintro e w3 ⟨rfl,hb3⟩
  have F:=F.below hb3 (by omega) (by omega)
  have hbb:=hb2.trans (hb3.mono hb2.size)
  clear k1 C0 C1 C2 C3 D0 D1 D2 D3 Y Z
  have C0:=cR w3 _ 0 _ _ _ F.g0
  have C1:=cR w3 _ 1 _ _ _ F.g0
  have C2:=cR w3 _ 2 _ _ _ F.g0
  have C3:=cR w3 _ 3 _ _ _ F.g0
  have D0:=cR w3 _ 0 _ _ _ F.g2
  have D1:=cR w3 _ 1 _ _ _ F.g2
  have D2:=cR w3 _ 2 _ _ _ F.g2
  have D3:=cR w3 _ 3 _ _ _ F.g2
  have Y:=zF F.g0
  have Z:=zF F.g2
  go_wp2_with fail
  refine bodyPost_ret (results_ct rfl _ _ (w.heap.size+1+1) _ _ _ _ rfl (put4_heap F.g2 _ _ _ _) Tryz.underlying38 rfl zQ) rfl ?_
  exact⟨⟨_,rfl,DiskV.tight ⟨_,_,rfl,put4_secsV F.s H3 _ _ _ _,put4_looseV F.l H3 _ _ _ _⟩,DSl.mk HSl.out.1 HSl.out.2⟩,put4_below hbb H3 _ _ _ _⟩
 | true =>
  rw [hR] at k1
  go_enter Tryz.func142,Tryz.ntmps142
  go_wp2_with fail
  rw [← hw2]
  clear hw2
  go_wp2_with fail
  refine k1.mono ?_
  rintro e w3 ⟨rfl,hb3⟩
  have F:=F.below hb3 (by omega) (by omega)
  have hbb:=hb2.trans (hb3.mono hb2.size)
  have hle:=Nat.le_trans hle hb3.size
  clear hb3 hb2
  clear k1 C0 C1 C2 C3 D0 D1 D2 D3 Y Z
  have C0:=cR w3 _ 0 _ _ _ F.g0
  have C1:=cR w3 _ 1 _ _ _ F.g0
  have C2:=cR w3 _ 2 _ _ _ F.g0
  have C3:=cR w3 _ 3 _ _ _ F.g0
  have D0:=cR w3 _ 0 _ _ _ F.g2
  have D1:=cR w3 _ 1 _ _ _ F.g2
  have D2:=cR w3 _ 2 _ _ _ F.g2
  have D3:=cR w3 _ 3 _ _ _ F.g2
  have Y:=zF F.g0
  have Z:=zF F.g2
  have k1:=there_any _ d at_ w3 F.diskV
  cases hT:thereB d at_ with
  | false =>
   have hP:putP d at_ data=(d,1):=by simp [putP,hR,hT]
   rw [hT] at k1
   have HP:=zh hP
   clear hP hR hT
   go_wp2_with fail
   refine k1.mono ?_
   rintro e w4 ⟨rfl,hb4⟩
   have F:=F.below hb4 (by omega) (by omega)
   have hbb:=hbb.trans (hb4.mono hbb.size)
   clear k1 hb4 C0 C1 C2 C3 D0 D1 D2 D3 Y Z
   have C0:=cR w4 _ 0 _ _ _ F.g0
   have C1:=cR w4 _ 1 _ _ _ F.g0
   have C2:=cR w4 _ 2 _ _ _ F.g0
   have C3:=cR w4 _ 3 _ _ _ F.g0
   have D0:=cR w4 _ 0 _ _ _ F.g2
   have D1:=cR w4 _ 1 _ _ _ F.g2
   have D2:=cR w4 _ 2 _ _ _ F.g2
   have D3:=cR w4 _ 3 _ _ _ F.g2
   have Y:=zF F.g0
   have Z:=zF F.g2
   go_wp2_with fail
   refine bodyPost_ret (results_ct rfl _ _ (w.heap.size+1+1) _ _ _ _ rfl (put4_heap F.g2 _ _ _ _) Tryz.underlying38 rfl zQ) rfl ?_
   rw [HP.out]
   exact⟨⟨_,rfl,DiskV.tight ⟨_,_,rfl,put4_secsV F.s H3 _ _ _ _,put4_looseV F.l H3 _ _ _ _⟩,DSl.mk HSl.out.1 HSl.out.2⟩,put4_below hbb H3 _ _ _ _⟩
  | true =>
   rw [hT] at k1
   go_wp2_with fail
   refine k1.mono ?_
   rintro e w4 ⟨rfl,hb4⟩
   have F:=F.below hb4 (by omega) (by omega)
   have hbb:=hbb.trans (hb4.mono hbb.size)
   have hle:=Nat.le_trans hle hb4.size
   clear k1 hb4 C0 C1 C2 C3 D0 D1 D2 D3 Y Z
   have C0:=cR w4 _ 0 _ _ _ F.g0
   have C1:=cR w4 _ 1 _ _ _ F.g0
   have C2:=cR w4 _ 2 _ _ _ F.g0
   have C3:=cR w4 _ 3 _ _ _ F.g0
   have D0:=cR w4 _ 0 _ _ _ F.g2
   have D1:=cR w4 _ 1 _ _ _ F.g2
   have D2:=cR w4 _ 2 _ _ _ F.g2
   have D3:=cR w4 _ 3 _ _ _ F.g2
   have Y:=zF F.g0
   have Z:=zF F.g2
   have k1:=burn_any _ d w4 F.diskV hR
   cases hD:downP d with
   | true =>
    have hP:putP d at_ data=({ d with fuse:=burnF d,down:=true },9):=by simp [putP,hR,hT,hD]
    have hE:burnE d=9:=by simp [burnE,hD]
    rw [hD,hE] at k1
    have HP:=zh hP
    clear hP hR hT hD hE
    go_wp2_with fail
    refine k1.mono ?_
    rintro e w5 ⟨⟨sv,lv,rfl,C,hC,ho5,r5,hl5⟩,hb5⟩
    obtain⟨C,hC,hC5,r5,hl5⟩:=normC hC ho5 r5 hl5 hb5.size
    obtain⟨b1,m1,rfl⟩:=ho5.form
    obtain⟨b2,m2,rfl⟩:=hl5.form
    have F:=F.below hb5 (by omega) (by omega)
    have hbb:=hbb.trans (hb5.mono hbb.size)
    clear k1 hb5 C0 C1 C2 C3 D0 D1 D2 D3 Y Z
    have C0:=cR w5 _ 0 _ _ _ F.g0
    have C1:=cR w5 _ 1 _ _ _ F.g0
    have C2:=cR w5 _ 2 _ _ _ F.g0
    have C3:=cR w5 _ 3 _ _ _ F.g0
    have D0:=cR w5 _ 0 _ _ _ F.g2
    have D1:=cR w5 _ 1 _ _ _ F.g2
    have D2:=cR w5 _ 2 _ _ _ F.g2
    have D3:=cR w5 _ 3 _ _ _ F.g2
    have Y:=zF F.g0
    have Z:=zF F.g2
    go_wp2_with fail
    have hg:w.heap.size<C:=by omega
    have hg4:w.heap.size<w4.heap.size:=by omega
    have hg2:w.heap.size+1+1<C:=by omega
    have hg24:w.heap.size+1+1<w4.heap.size:=by omega
    refine bodyPost_ret (results_ct rfl _ _ (w.heap.size+1+1) _ _ _ _ rfl (put4_heap (w:=put4 w5 w.heap.size _ _ _ _) (put4_far F.g2 (by omega) _ _ _ _) _ _ _ _) Tryz.underlying38 rfl zQ) rfl ?_
    rw [HP.out]
    exact⟨⟨_,rfl,⟨_,_,rfl,(put4_secs (put4_secs ho5 hg4 _ _ _ _) hg24 _ _ _ _).secs,(put4_loose (put4_loose hl5 hg _ _ _ _) hg2 _ _ _ _).loose⟩,DSl.mk (ho5.2.sl fun b hb=>HFr.out b (by omega)) (hl5.2.sl fun b hb=>HFr.out b (by omega))⟩,put4_below (put4_below hbb (Nat.le_refl _) _ _ _ _) H3 _ _ _ _⟩
   | false =>
    have hP:putP d at_ data=({ d with loose:=d.loose++[⟨at_,data⟩],fuse:=burnF d,down:=false },0):=by simp [putP,hR,hT,hD]
    have hE:burnE d=0:=by simp [burnE,hD]
    rw [hD,hE] at k1
    have HP:=zh hP
    have hlen:d.loose.length≤100000:=by simp only [rightB,Bool.and_eq_true,decide_eq_true_eq] at hR;omega
    have R1:=zh (show d.loose.length+1≤maxLen by unfold maxLen;omega)
    have R2:=zh (show (d.loose.length+1)*72≤140737488355328 by omega)
    clear hP hR hT hD hE hlen
    go_wp2_with fail
    refine k1.mono ?_
    rintro e w5 ⟨⟨sv,lv,rfl,C,hC,ho5,r5,hl5⟩,hb5⟩
    obtain⟨C,hC,hC5,r5,hl5⟩:=normC hC ho5 r5 hl5 hb5.size
    obtain⟨b1,m1,rfl⟩:=ho5.form
    obtain⟨b2,m2,rfl⟩:=hl5.form
    have F:=F.below hb5 (by omega) (by omega)
    have hbb:=hbb.trans (hb5.mono hbb.size)
    have hle5:=hb5.size
    clear k1 hb5 C0 C1 C2 C3 D0 D1 D2 D3 Y Z
    have C0:=cR w5 _ 0 _ _ _ F.g0
    have C1:=cR w5 _ 1 _ _ _ F.g0
    have C2:=cR w5 _ 2 _ _ _ F.g0
    have C3:=cR w5 _ 3 _ _ _ F.g0
    have D0:=cR w5 _ 0 _ _ _ F.g2
    have D1:=cR w5 _ 1 _ _ _ F.g2
    have D2:=cR w5 _ 2 _ _ _ F.g2
    have D3:=cR w5 _ 3 _ _ _ F.g2
    have Y:=zF F.g0
    have Z:=zF F.g2
    have hg:w.heap.size<C:=by omega
    have hg4:w.heap.size<w4.heap.size:=by omega
    have hg2:w.heap.size+1+1<C:=by omega
    have hg24:w.heap.size+1+1<w4.heap.size:=by omega
    obtain⟨w6,hw6⟩:∃ w6,w6=(put4 w5 w.heap.size (.slice b1 d.secs.length m1) (.slice b2 d.loose.length m2) (.int .i64 (burnF d)) (.bool false)):=⟨_,rfl⟩
    have hb56:Below w.heap.size w5 w6:=by rw [hw6];exact put4_below (Below.refl _ _) (Nat.le_refl _) _ _ _ _
    have hsz6:w6.heap.size=w5.heap.size:=by rw [hw6];simp [put4]
    have E0:w6.heap[w.heap.size]?=some (.cells #[.slice b1 d.secs.length m1,.slice b2 d.loose.length m2,.int .i64 (burnF d),.bool false] 38 (0,0)):=by rw [hw6];exact put4_heap F.g0 _ _ _ _
    have E1:w6.heap[w.heap.size+1]?=some (.cells A 94 (0,0)):=by rw [hw6];exact put4_far F.g1 (by omega) _ _ _ _
    have E2:w6.heap[w.heap.size+1+1]?=some (.cells #[.slice none 0 0,.slice none 0 0,.int .i64 0,.bool false] 38 (0,0)):=by rw [hw6];exact put4_far F.g2 (by omega) _ _ _ _
    have ho6:SecsO w4.heap.size w6 (.slice b1 d.secs.length m1) d.secs:=by rw [hw6];exact put4_secs ho5 hg4 _ _ _ _
    have r6:=r5.mix ho6.2.row
    have hl6:LooseO C w6 (.slice b2 d.loose.length m2) d.loose:=by rw [hw6];exact put4_loose hl5 hg _ _ _ _
    have hb6:=hbb.trans hb56
    have hld:=run_loadVar_row (P:=Tryz.prog) w6 (w.heap.size+1) 94 94 A (0,0) _ E1 Tryz.underlying94 rfl (by rw [hAs];exact size_sector)
    unfold put4 at hw6
    have hbd:=run_build_write (w:=w6) at_ A hAs
    have hXs:(Value.int .i64 at_ :: A.toList).toArray.size=65:=by simp [hAs]
    obtain⟨X,hX⟩:∃ X,X=(Value.int .i64 at_ :: A.toList).toArray:=⟨_,rfl⟩
    rw [← hX] at hbd hXs
    have hbs:=run_buildSlice_write (w:=w6) X hXs
    have hXw:X.toList=wcells ⟨at_,data⟩:=by rw [hX,HA.out];simp [wcells]
    obtain⟨w8,hw8⟩:∃ w8,w8=w6.alloc (.cells X 96):=⟨_,rfl⟩
    have hb68:Below w6.heap.size w6 w8:=by rw [hw8];exact Below.alloc (Below.refl _ _) (Nat.le_refl _) _
    have hl8:=(hl6.keep hb68 (Nat.le_refl _)).2
    have hsrc:Src Tryz.prog w8 (.slice (some ⟨w6.heap.size,0,none⟩) 1 1) 65 1 (wcells ⟨at_,data⟩):=by
     rw [hw8]
     refine Row.src (Row.fresh (by simp [wcells,zL,h64]) (Nat.le_refl _) (by decide) (fun k u hk=>?_))
     rw [← hXw] at hk
     simpa using hk
    have hle8:C≤w8.heap.size:=by have:=hb68.size;omega
    obtain⟨i0,z0,hi,hz0,hz1,hz2,hz3⟩:=zero_parts infoz_write
    obtain⟨g6,hg6⟩:∃ g,g=w6.heap.size:=⟨_,rfl⟩
    rw [← hw8,← hg6] at hbs
    rw [← hg6] at hsrc
    have hone:=oneCell_w ⟨at_,data⟩
    clear hXw hX hw8 F ho5 hl5 hg6
    go_wp2_with (refine wp_load_to (.tmp 5) 94 rfl rfl hw6 rfl hld ?_;clear hld hw6;refine Halt.in ?_)
    refine Halt.out ?_
    refine wp_build_l 96 [(0,.tmp 28),(1,.tmp 29)] rfl rfl rfl hbd ?_
    refine wp_buildSlice_l 36 1 [(0,.tmp 30)] rfl rfl rfl hbs ?_
    refine wp_append rfl (.tmp 27) (.tmp 31) 36 36 96 rfl i0 z0 65 72 Tryz.underlying36 (.inl ⟨_,Tryz.underlying36⟩) hi hz0 hz1 hz2 hz3 rfl rfl hl8 hsrc hone R1.out R2.out hle8 ?_
    intro v2 w9 hown9 hb9
    clear C0 C1 C2 C3 D0 D1 D2 D3 Y Z
    clear hbd hbs hsrc hl8 hi hz0 hz1 hz2 hz3 hone
    have hx9:LooseO C w9 v2 (d.loose++[⟨at_,data⟩]):=LooseO.snoc hl6.1 h64 hown9
    obtain⟨b3,m3,hv2⟩:=hx9.form
    rw [List.length_append,List.length_singleton] at hv2
    subst hv2
    have hb69:Below C w6 w9:=(hb68.mono (by omega)).trans hb9
    have G0:=(hb69.block _ hg).trans E0
    have G2:=(hb69.block _ hg2).trans E2
    have r9:=(RowIn.of ho6.2 r6).below hb69
    have H0:w.heap.size≤C:=by omega
    have hbb9:=(hb6.trans (hb69.mono H0)).setCell (p:=⟨w.heap.size,1,none⟩) (Nat.le_refl _) (.slice b3 (d.loose.length+1) m3)
    have C0:=cR w9 _ 0 _ _ _ G0
    have C1:=cR w9 _ 1 _ _ _ G0
    have C2:=cR w9 _ 2 _ _ _ G0
    have C3:=cR w9 _ 3 _ _ _ G0
    have D0:=cR w9 _ 0 _ _ _ G2
    have D1:=cR w9 _ 1 _ _ _ G2
    have D2:=cR w9 _ 2 _ _ _ G2
    have D3:=cR w9 _ 3 _ _ _ G2
    have Y:=zF G0
    have Z:=zF G2
    go_wp2_with fail
    refine bodyPost_ret (results_ct rfl _ _ (w.heap.size+1+1) _ _ _ _ rfl (put4_heap ((setFar (by omega) 1 _).trans G2) _ _ _ _) Tryz.underlying38 rfl zQ) rfl ?_
    rw [HP.out]
    exact⟨⟨_,rfl,DiskV.mk (d:={ d with loose:=d.loose++[⟨at_,data⟩],fuse:=burnF d,down:=false }) ⟨ho6.1,(((((r9.setOther ⟨w.heap.size,1,none⟩ _ hg4).setOther ⟨w.heap.size+1+1,0,none⟩ _ hg24).setOther ⟨w.heap.size+1+1,1,none⟩ _ hg24).setOther ⟨w.heap.size+1+1,2,none⟩ _ hg24).setOther ⟨w.heap.size+1+1,3,none⟩ _ hg24).row⟩ (put4_loose (hx9.setOther ⟨w.heap.size,1,none⟩ _ hg) hg2 _ _ _ _).loose,DSl.mk (ho6.2.sl fun b hb=>HFr.out b (by omega)) (hx9.2.sl fun b hb=>HFr.out b (by omega))⟩,put4_below hbb9 H3 _ _ _ _⟩
end
section
open Go.RowKit
structure Fr2 (B G:Nat) (w:World) (sv lv:Value) (d:DiskP):Prop where
 g0:w.heap[G]?=some (.cells #[sv,lv,.int .i64 d.fuse,.bool d.down] 38 (0,0))
 g2:w.heap[G+1]?=some (.cells #[.slice none 0 0,.slice none 0 0,.int .i64 0,.bool false] 38 (0,0))
 s:Secs B w sv d.secs
 l:Loose B w lv d.loose
theorem Fr2.below {B G B':Nat} {w w':World} {sv lv:Value} {d:DiskP} (h:Fr2 B G w sv lv d) (hb:Below B' w w') (hB:G+1<B') (hB2:B≤B'):Fr2 B G w' sv lv d :=
 ⟨(hb.block _ (by omega)).trans h.g0,(hb.block _ hB).trans h.g2,h.s.below (hb.mono hB2),h.l.below (hb.mono hB2)⟩
theorem Fr2.diskV {B G:Nat} {w:World} {sv lv:Value} {d:DiskP} (h:Fr2 B G w sv lv d):DiskV B w (.agg #[sv,lv,.int .i64 d.fuse,.bool d.down]) d:=⟨sv,lv,rfl,h.s,h.l⟩
theorem Fr2.new {w:World} {sv lv:Value} {d:DiskP} (hs:Secs w.heap.size w sv d.secs) (hl:Loose w.heap.size w lv d.loose) :
  Fr2 w.heap.size w.heap.size ((w.alloc (.cells #[sv,lv,.int .i64 d.fuse,.bool d.down] 38)).alloc (.cells #[.slice none 0 0,.slice none 0 0,.int .i64 0,.bool false] 38)) sv lv d:=by
 have hb:Below w.heap.size w ((w.alloc (.cells #[sv,lv,.int .i64 d.fuse,.bool d.down] 38)).alloc (.cells #[.slice none 0 0,.slice none 0 0,.int .i64 0,.bool false] 38)):=Below.alloc (Below.alloc (Below.refl _ _) (Nat.le_refl _) _) (by simp) _
 exact⟨heap_alloc2_old w _ _,heap_alloc2_new w _ _,hs.below hb,hl.below hb⟩
end
section
open Go.RowKit
def zeroS:List UInt8:=List.replicate 64 0
def newP (n:Int):DiskP×Int:=if 0≤n∧n≤4096 then (⟨List.replicate n.toNat zeroS,[],-1,false⟩,0) else (⟨[],[],0,false⟩,1)
theorem zero_sector:(Tryz.prog.info? 94).bind (fun i=>i.zero.map fun z=>(i.size,i.bytes,z.cells))=some (64,64,Array.replicate 64 (.int .u8 0)):=by kernel_rfl
theorem secs_zero (n:Nat):((List.replicate n zeroS).map u8s).flatten=List.replicate (n*64) (.int .u8 0):=by
 have e:u8s zeroS=List.replicate 64 (.int .u8 0):=by simp [u8s,zeroS,u8]
 rw [List.map_replicate,e,List.flatten_replicate_replicate]
theorem made_zero (n:Nat):(madeCells (Array.replicate 64 (Value.int .u8 0)) (n*64)).toList=List.replicate (n*64) (.int .u8 0):=by
 apply List.ext_getElem
 ·simp [size_madeCells]
 ·intro k h1 h2
  simp only [madeCells,Array.toList_map,Array.toList_range,List.getElem_map,List.getElem_range,List.getElem_replicate,Array.size_replicate]
  have:k%64<64:=Nat.mod_lt _ (by decide)
  rw [getElem!_pos _ _ (by simpa using this)]
  simp
theorem ownsRow_secs {w:World} {base n:Nat} {e:TypeId} {a:Option Addr} {c:Nat} (h:w.ownsRow base e 64 (.slice a n c) n (madeCells (Array.replicate 64 (Value.int .u8 0)) (n*64)).toList):Secs w.heap.size w (.slice a n c) (List.replicate n zeroS):=by
 rw [made_zero] at h
 obtain⟨h1,h⟩:=h
 refine⟨fun s hs=>by rw [(List.mem_replicate.1 hs).2];rfl,?_⟩
 rw [secs_zero,List.length_replicate]
 rcases h with ⟨h,rfl⟩ | ⟨g,cap,cur,hv,_,hh,hn,hc,hz,ht⟩
 ·cases h
  exact⟨by simp,none,0,rfl,Nat.le_refl _,by simp [maxLen],fun h=>absurd h (Nat.lt_irrefl _)⟩
 ·cases hv
  refine⟨by simp,_,c,rfl,hn,hc,fun _=>⟨g,0,rfl,zB hh,fun k u hk=>?_⟩⟩
  rw [Nat.zero_add,cR w g k cur e (0,0) hh]
  rw [← ht,List.getElem?_take] at hk
  split at hk
  ·simpa using hk
  ·cases hk
theorem Loose.nil (B:Nat) (w:World):Loose B w (.slice none 0 0) []:=⟨fun _ h=>absurd h List.not_mem_nil,Row.nil B w 65⟩
theorem Secs.nil (B:Nat) (w:World):Secs B w (.slice none 0 0) []:=⟨fun _ h=>absurd h List.not_mem_nil,Row.nil B w 64⟩
end
section
open Go.RowKit
def settleN (ss:List (List UInt8)) (ls:List WriteP) (st:Nat→Bool):Nat→List (List UInt8)
 | 0=>ss
 | k+1=>match ls[k]? with
  | some x=>if st k then (settleN ss ls st k).set x.at_.toNat x.data else settleN ss ls st k
  | none=>settleN ss ls st k
theorem length_settleN (ss:List (List UInt8)) (ls:List WriteP) (st:Nat→Bool):∀ k,(settleN ss ls st k).length=ss.length
 | 0=>rfl
 | k+1=>by
  unfold settleN
  split
  ·split <;> simp [length_settleN ss ls st k]
  ·exact length_settleN ss ls st k
theorem flat_set (sz:Nat) (f:List UInt8→List Value):∀ (ss:List (List UInt8)) (k:Nat) (x:List UInt8),(∀ s∈ss,(f s).length=sz)→(f x).length=sz→k<ss.length →
  ((ss.set k x).map f).flatten=(ss.map f).flatten.take (k*sz)++f x++(ss.map f).flatten.drop (k*sz+sz)
 | [],k,x,_,_,h=>by simp at h
 | y :: ys,0,x,hs,hx,_=>by
  have h0:=hs y (List.mem_cons_self ..)
  simp only [zq2,List.map_cons,List.flatten_cons,Nat.zero_mul,List.take_zero,List.nil_append,Nat.zero_add]
  rw [← h0,List.drop_left]
 | y :: ys,k+1,x,hs,hx,h=>by
  have h0:=hs y (List.mem_cons_self ..)
  have ih:=flat_set sz f ys k x (fun s hs'=>hs s (List.mem_cons_of_mem _ hs')) hx (by simpa using h)
  simp only [zq3,List.map_cons,List.flatten_cons,ih]
  have e1:(k+1)*sz=(f y).length+k*sz:=by rw [h0,Nat.succ_mul];omega
  have e2:(f y).length+k*sz+sz=(f y).length+(k*sz+sz):=by omega
  rw [e1,e2,List.take_length_add_append,List.drop_length_add_append]
  simp [List.append_assoc]
theorem SecsO.lay {P:Program} {B:Nat} {w:World} {a:Option Addr} {n cap:Nat} {ss:List (List UInt8)} (h:SecsO B w (.slice a n cap) ss) (k:Nat) (x:List UInt8) (hk:k<ss.length) (hx:x.length=64) {i:TypeInfo} (hi:P.info? 94=some i) (hsz:i.size=64) :
  ∃ g,a=some ⟨g,0,none⟩∧B≤g∧g<w.heap.size∧∃ w',(storeVar 94 ⟨g,k*64,none⟩ (.agg (u8s x).toArray)).run P w = .ok () w'∧SecsO B w' (.slice a n cap) (ss.set k x)∧Below B w w'∧w'.heap.size=w.heap.size∧∀ g',g'≠g→w'.heap[g']?=w.heap[g']?:=by
 obtain⟨h64,hl,a',cap',hv,hn,hc,h4⟩:=h
 injection hv with ha hn' hcap
 subst ha
 subst hn'
 subst hcap
 rcases h4 with h4 | ⟨g,cur,rfl,hg,hh,hs,ht⟩
 ·omega
 ·have hfit:k*64+(u8s x).length≤cur.size:=by rw [zL,hx,hs];omega
  have hst:=run_store_big (P:=P) hi (cs:=u8s x) hh (by rw [zL,hx,hsz]) hfit (oneCell_u8s x)
  have hh':=setRow_heap w g cur (cur.toList.take (k*64)++u8s x++cur.toList.drop (k*64+(u8s x).length)).toArray 94 _ hh
  refine⟨g,rfl,hg,zB hh,_,hst,⟨?_,?_⟩,?_,?_,?_⟩
  ·intro s hs'
   rcases List.mem_or_eq_of_mem_set hs' with h | h
   ·exact h64 s h
   ·rw [h];exact hx
  ·have hfl:=flat_set 64 u8s ss k x (fun s hs'=>by rw [zL,h64 s hs']) (by rw [zL,hx]) hk
   have hu:(u8s x).length=64:=by rw [zL,hx]
   have hall:∀ s∈ss.set k x,(u8s s).length=64:=fun s hs'=>by
    rcases List.mem_or_eq_of_mem_set hs' with h | h
    ·rw [zL,h64 s h]
    ·rw [h,zL,hx]
   refine⟨length_flat u8s 64 _ hall,_,cap,by rw [List.length_set],by rw [List.length_set];exact hn,hc,.inr ⟨g,_,rfl,hg,hh',?_,?_⟩⟩
   ·simp only [List.size_toArray,List.length_append,List.length_take,List.length_drop,Array.length_toList,hu]
    omega
   ·rw [hfl,List.length_set,← ht,hu]
    have a1:k*64≤ss.length*64:=by omega
    have a2:k*64+64≤ss.length*64:=by omega
    have a3:k*64≤cur.toList.length:=by simp;omega
    simp only [List.take_append,List.length_append,List.length_take,hu,List.take_take,List.drop_take]
    rw [Nat.min_eq_left a3]
    have b1:min (ss.length*64) (k*64)=k*64:=by omega
    have b2:min (k*64) (ss.length*64)=k*64:=by omega
    rw [b1,b2,List.take_of_length_le (l:=u8s x) (by omega)]
  ·exact⟨rfl,rfl,rfl,by simp [World.setRow],fun j hj=>setRow_other w g j _ (by omega)⟩
  ·simp [World.setRow]
  ·intro g' hne
   exact setRow_other w g g' _ (by omega)
end
section
open Go.RowKit
theorem wp_alloc_to {P:Program} {ops:Array Oper} {rest:List Oper} {o:Oper} {a:Act} {w:World} {Q:Exit→Act→World→Prop} (t:TypeId) (hgd:o.guard=none) (ho:o.op = .alloc t) {z:Value} {w':World} (hz:(zeroValue t).run P w = .ok z w) (hw:w'=w.alloc (.cells z.cells t))
  (h:wpList P ops Q rest (a.put o.dst (.pointer (some ⟨w.heap.size,0,none⟩))) w'):wpList P ops Q (o :: rest) a w:=by
 subst hw
 exact wp_alloc_at t hgd ho hz h
theorem there_of_right {d:DiskP} (h:rightB d=true) (k:Nat) (hk:k<d.loose.length):∃ m:Nat,d.loose[k].at_=(m:Int)∧m<d.secs.length:=by
 simp only [rightB,Bool.and_eq_true,Bool.not_eq_true',badAt,List.any_eq_false] at h
 have:=h.2 d.loose[k] (List.getElem_mem hk)
 simp only [Bool.not_eq_true',Bool.not_eq_false,thereB,Bool.and_eq_true,decide_eq_true_eq] at this
 refine⟨d.loose[k].at_.toNat,by omega,by omega⟩
set_option maxRecDepth 100000 in
set_option maxHeartbeats 2000000 in
theorem settle_any {B:Nat} (v:Value) (d:DiskP) (st:Nat→Bool) (fn:Nat) (caps:Array Value) (w:World) (h:DiskV B w v d) (hr:rightB d=true)
  (hcf:∀ args w,(callFunc fn args).run Tryz.prog w = .ok (.enter fn args) w) (K:∀ (k:Nat) (w':World),k<d.loose.length→Below w.heap.size w w'→Calls Tryz.prog fn (#[.int .i64 k]++caps) w' fun e w''=>e = .returned (.bool (st k))∧Below w'.heap.size w' w'') :
  Calls Tryz.prog 158 #[v,.func (.func fn) #[] caps] w fun e w'=>(∃ sv,e = .returned (.agg #[sv,.slice none 0 0,.int .i64 d.fuse,.bool d.down])∧SecsO w.heap.size w' sv (settleN d.secs d.loose st d.loose.length))∧Below w.heap.size w w':=by
 obtain⟨a1,n1,a2,n2,rfl,hs,hl⟩:=h.tight.parts
 clear h
 have HR:=zh hr
 have F:=Fr2.new (w:=w) hs hl
 obtain⟨w2,hw2⟩:∃ w2,w2=(w.alloc (.cells #[.slice a1 d.secs.length n1,.slice a2 d.loose.length n2,.int .i64 d.fuse,.bool d.down] 38)).alloc (.cells #[.slice none 0 0,.slice none 0 0,.int .i64 0,.bool false] 38):=⟨_,rfl⟩
 have hb2:Below w.heap.size w w2:=by rw [hw2];exact Below.alloc (Below.alloc (Below.refl _ _) (Nat.le_refl _) _) (by simp) _
 have hle:w.heap.size+2≤w2.heap.size:=by rw [hw2];simp
 rw [← hw2] at F
 clear hs
 have C0:=cR w2 _ 0 _ _ _ F.g0
 have hsl:d.secs.length≤2^40:=by simp only [rightB,Bool.and_eq_true,decide_eq_true_eq] at hr;omega
 have k1:=clone64_any _ d.secs w2 F.s hsl
 clear hr hsl
 go_enter Tryz.func158,Tryz.ntmps158
 go_wp2_with fail
 rw [← hw2]
 clear hw2
 go_wp2_with fail
 refine k1.mono ?_
 rintro e w3 ⟨sv,rfl,ho3,hb3⟩
 obtain⟨b1,m1,rfl⟩:=ho3.form
 have F:=F.below hb3 (by omega) (by omega)
 have hbb:=hb2.trans (hb3.mono hb2.size)
 clear k1 C0
 have C1:=cR w3 _ 1 _ _ _ F.g0
 have hcap2:=hl.2
 obtain⟨_,_,_,hv,_,hcap2,_⟩:=hcap2
 cases hv
 unfold maxLen at hcap2
 go_wp2_with fail
 obtain⟨i0,z0,hi,hz0,hz1,hz2,hz3⟩:=zero_parts infoz_write
 obtain⟨i1,z1,hi1,_,hs1,_,_⟩:=zero_parts infoz_sector
 have ho3:=ho3.lower hle
 have hle3:=Nat.le_trans hle hb3.size
 have hb03:=hbb
 have HT:=zh (fun k hk=>there_of_right HR.out k hk)
 have Hl:=zh hl
 clear hb3 hb2 hcap2
 go_loopw [14] (fun i wr=>∃ k:Nat,k≤d.loose.length∧i = .int .i64 k∧SecsO (w.heap.size+2) wr (.slice b1 d.secs.length m1) (settleN d.secs d.loose st k)∧Fr2 w.heap.size w.heap.size wr (.slice a1 d.secs.length n1) (.slice a2 d.loose.length n2) d∧Below w.heap.size w wr∧w.heap.size+2≤wr.heap.size) (fun i _=>d.loose.length-(intOf i).toNat)
 case atStart=>exact⟨0,Nat.zero_le _,rfl,ho3,F,hbb,hle3⟩
 case round =>
  obtain⟨k,hk,rfl,ho,F,hb,hszr⟩:=hrel
  clear ho3 hle3 hbb C1
  by_cases hlt:k<d.loose.length
  ·obtain⟨hls,_,a,cap,hv,hnc,hcap,hcells⟩:=hl
   cases hv
   unfold maxLen at hcap
   obtain⟨b,off,rfl,hBb,hc⟩:=hcells (by omega)
   have hat:=flat_at wcells 65 d.loose (fun x hx=>by rw [length_wcells,hls x hx]) k d.loose[k] (List.getElem?_eq_getElem hlt)
   have hld:=run_load_big (P:=Tryz.prog) (t:=96) Tryz.underlying96 (.inr ⟨_,rfl⟩) hi (w:=wr) (b:=b) (off:=off+k*65) (cs:=wcells d.loose[k]) hz1 (by rw [length_wcells,hls _ (List.getElem_mem hlt)])
    (fun j u hj=>by rw [Nat.add_assoc];exact (hb.cell (p:=⟨b,off+(k*65+j),none⟩) hBb).trans (hc _ _ (hat j u hj)))
   obtain⟨x,hx⟩:∃ x,x=d.loose[k]:=⟨_,rfl⟩
   rw [← hx] at hld
   have hxl:x.data.length=64:=by rw [hx];exact hls _ (List.getElem_mem hlt)
   obtain⟨m,hm,hmlt⟩:=HT.out k hlt
   rw [← hx] at hm
   have hset:settleN d.secs d.loose st (k+1)=if st k then (settleN d.secs d.loose st k).set m x.data else settleN d.secs d.loose st k:=by
    show (match d.loose[k]? with | some x=>_ | none=>_)=_
    rw [List.getElem?_eq_getElem hlt,← hx]
    simp only [hm,Int.toNat_natCast]
   have HS:=zh hset
   have HX:=zh hx
   clear hset hx hat hc hcells
   have hzr:(zeroValue 96).run Tryz.prog wr = .ok z0 wr:=by simp [zeroValue,typeInfo,hi,hz0]
   obtain⟨w4,hw4⟩:∃ w4,w4=wr.alloc (.cells z0.cells 96):=⟨_,rfl⟩
   have hn4:w4.heap[wr.heap.size]?=some (.cells z0.cells 96 (0,0)):=by rw [hw4];exact heap_alloc_new wr _
   have hb4:Below wr.heap.size wr w4:=by rw [hw4];exact Below.alloc (Below.refl _ _) (Nat.le_refl _) _
   have hst:=run_store_big (P:=Tryz.prog) (t:=96) hi (off:=0) (cs:=wcells x) hn4 (by rw [hz1,length_wcells,hxl]) (by rw [length_wcells,hxl,hz3];decide) (oneCell_w x)
   have hcells5:(z0.cells.toList.take 0++wcells x++z0.cells.toList.drop (0+(wcells x).length)).toArray=(wcells x).toArray:=by
    rw [List.drop_eq_nil_of_le (by simp [length_wcells,hxl,hz3])];simp
   rw [hcells5] at hst
   obtain⟨w5,hw5⟩:∃ w5,w5=w4.setRow wr.heap.size (wcells x).toArray:=⟨_,rfl⟩
   have hn5:w5.heap[wr.heap.size]?=some (.cells (wcells x).toArray 96 (0,0)):=by rw [hw5];exact setRow_heap w4 _ _ _ _ _ hn4
   have hb5:Below wr.heap.size w4 w5:=by rw [hw5];exact⟨rfl,rfl,rfl,by simp [World.setRow],fun j hj=>setRow_other w4 _ j _ (by omega)⟩
   have hb5:=hb4.trans hb5
   have hs5:wr.heap.size+1≤w5.heap.size:=by have:=zB hn5;omega
   rw [← hw5] at hst
   clear hn4 hb4 hcells5 hw5
   obtain⟨X,hX⟩:∃ X,X=(wcells x).toArray:=⟨_,rfl⟩
   rw [← hX] at hst hld hn5
   have HXX:=zh hX
   clear hX
   go_wp2_with (refine wp_load_at (.tmp 17) 96 rfl rfl rfl hld ?_;refine Halt.in ?_)
   refine Halt.out ?_
   refine wp_alloc_to 96 rfl rfl hzr hw4 ?_
   clear hld hzr hw4
   go_wp2_with (refine wp_store_at (.tmp 7) (.tmp 18) 96 rfl rfl rfl rfl hst ?_;refine Halt.in ?_)
   refine Halt.out ?_
   clear hst
   have ho5:=ho.keep hb5 (Nat.le_refl _)
   have F5:=F.below hb5 (by omega) (by omega)
   have hb05:=hb.trans (hb5.mono hb.size)
   have k1:=K k w5 hlt hb05
   clear ho F hb hb5
   go_wp2_with fail
   refine k1.mono ?_
   rintro e w6 ⟨rfl,hb6⟩
   have ho6:=ho5.keep hb6 (Nat.le_refl _)
   have F6:=F5.below hb6 (by omega) (by omega)
   have hn6:=(hb6.block _ (by omega)).trans hn5
   have hb06:=hb05.trans (hb6.mono hb05.size)
   have hs6:=Nat.le_trans hs5 hb6.size
   clear k1 ho5 F5 hn5 hb05 hb6 hs5
   obtain⟨q,hq⟩:∃ q,q=st k:=⟨_,rfl⟩
   rw [← hq]
   have HQ:=zh hq
   clear hq
   cases q with
   | false =>
    go_wp2_with fail
    go_roundw
    case rel =>
     refine⟨k+1,by omega,by go_num,?_,F6,hb06,by omega⟩
     rw [HS.out,← HQ.out]
     exact ho6
    case measure=>simp [intOf];omega
   | true =>
    have hXx:X=(Value.int .i64 (m:Int) :: u8s x.data).toArray:=by rw [HXX.out,wcells,hm]
    have C0:w6.cell? ⟨wr.heap.size,0,none⟩=some (.int .i64 (m:Int)):=by rw [cR w6 _ 0 _ _ _ hn6,hXx];rfl
    have hld:=run_load_big (P:=Tryz.prog) (t:=94) Tryz.underlying94 (.inl ⟨_,_,rfl⟩) hi1 (w:=w6) (b:=wr.heap.size) (off:=1) (cs:=u8s x.data) hs1 (by rw [zL,hxl])
     (fun j u hj=>by rw [cR w6 _ _ _ _ _ hn6,hXx];simpa [Nat.add_comm 1 j] using hj)
    obtain⟨g,rfl,hgB,hgw,w7,hst7,ho7,hb7,hsz7,_⟩:=ho6.lay (P:=Tryz.prog) m x.data (by rw [length_settleN];exact hmlt) hxl hi1 hs1
    have F7:=F6.below hb7 (by omega) (by omega)
    have hb07:=hb06.trans (hb7.mono (by omega))
    obtain⟨Y,hY⟩:∃ Y,Y=(u8s x.data).toArray:=⟨_,rfl⟩
    rw [← hY] at hld hst7
    clear hn6 hXx F6 ho6 hb06 hb7 hY
    go_wp2_with (refine wp_load_at (.tmp 25) 94 rfl rfl rfl hld ?_;refine Halt.in ?_)
    refine Halt.out ?_
    clear hld C0
    go_wp2_with (refine wp_store_at (.tmp 27) (.tmp 26) 94 rfl rfl rfl rfl hst7 ?_;refine Halt.in ?_)
    refine Halt.out ?_
    clear hst7
    go_wp2_with fail
    go_roundw
    case rel =>
     refine⟨k+1,by omega,by go_num,?_,F7,hb07,by omega⟩
     rw [HS.out,← HQ.out]
     exact ho7
    case measure=>simp [intOf];omega
  ·obtain rfl:k=d.loose.length:=by omega
   have C0:=cR wr _ 0 _ _ _ F.g0
   have C1:=cR wr _ 1 _ _ _ F.g0
   have C2:=cR wr _ 2 _ _ _ F.g0
   have C3:=cR wr _ 3 _ _ _ F.g0
   have D0:=cR wr _ 0 _ _ _ F.g2
   have D1:=cR wr _ 1 _ _ _ F.g2
   have D2:=cR wr _ 2 _ _ _ F.g2
   have D3:=cR wr _ 3 _ _ _ F.g2
   have Y:=zF F.g0
   have Z:=zF F.g2
   go_wp2_with fail
   have hB0:w.heap.size<w.heap.size+2:=by omega
   have hB1:w.heap.size+1<w.heap.size+2:=by omega
   have hne:w.heap.size≠w.heap.size+1:=by omega
   have G2:((wr.setCell ⟨w.heap.size,0,none⟩ (.slice b1 d.secs.length m1)).setCell ⟨w.heap.size,1,none⟩ (.slice none 0 0)).heap[w.heap.size+1]?=_:=((setFar hne 1 _).trans (setFar hne 0 _)).trans F.g2
   refine bodyPost_ret (results_cell_row rfl _ _ (w.heap.size+1) _ _ _ _ rfl (put4_heap G2 _ _ _ _) Tryz.underlying38 rfl zQ) rfl ?_
   exact⟨⟨_,rfl,(put4_secs ((ho.setOther _ _ hB0).setOther _ _ hB0) hB1 _ _ _ _).lower (by omega)⟩,put4_below ((hb.setCell (p:=⟨w.heap.size,0,none⟩) (Nat.le_refl _) _).setCell (p:=⟨w.heap.size,1,none⟩) (Nat.le_refl _) _) (by omega) _ _ _ _⟩
end
section
open Go.RowKit
theorem callFunc_run {P : Program} {f : FuncId} {fn : Func} (hf : P.funcs[f]? = some fn) (hn : (fn.name == "runtime.NumGoroutine") = false) (hb : fn.body.isNone = false) (args : Array Value) (w : World) : (callFunc f args).run P w = .ok (.enter f args) w := by
 have hn' : fn.name ≠ "runtime.NumGoroutine" := by simpa using hn
 have hb':fn.body≠none:=by intro h;simp [h] at hb
 simp [callFunc,hf,hn',hb']
theorem cf_flush:∀ args w,(callFunc 159 args).run Tryz.prog w = .ok (.enter 159 args) w:=fun args w=>callFunc_run Tryz.func159 rfl rfl args w
theorem flush1_any (k:Int) (w:World):Calls Tryz.prog 159 (#[.int .i64 k]++#[]) w fun e w'=>e = .returned (.bool true)∧Below w.heap.size w w':=by
 go_enter Tryz.func159,Tryz.ntmps159
 go_wp2_with fail
 go_ret
 exact⟨rfl,Below.refl _ _⟩
def stay (m:Int) (k:Nat):Bool:=bits BinOp.and IntKind.u64 (m / 2^(k%64)) 1 == 1
def flushP (d:DiskP):DiskP×Int :=
 if rightB d then (if downP d then ({ d with fuse:=burnF d,down:=true },9) else (⟨settleN d.secs d.loose (fun _=>true) d.loose.length,[],burnF d,false⟩,0)) else (d,1)
set_option maxRecDepth 100000 in
set_option maxHeartbeats 1000000 in
theorem flush_any {B:Nat} (v:Value) (d:DiskP) (w:World) (h:DiskV B w v d) (S:Nat→Prop) (hS:DSl S v) (hF:∀ b,w.heap.size≤b→S b) :
  Calls Tryz.prog 144 #[v] w fun e w'=>(∃ v',e = .returned (.tuple #[v',.int .i64 (flushP d).2])∧DiskV w'.heap.size w' v' (flushP d).1∧DSl S v')∧Below w.heap.size w w':=by
 obtain⟨a1,n1,a2,n2,rfl,hs,hl⟩:=h.tight.parts
 have HSl:=zh (hS _ _ _ _ rfl)
 have HFr:=zh hF
 clear h hS hF
 have F:=Fr2.new (w:=w) hs hl
 obtain⟨w2,hw2⟩:∃ w2,w2=(w.alloc (.cells #[.slice a1 d.secs.length n1,.slice a2 d.loose.length n2,.int .i64 d.fuse,.bool d.down] 38)).alloc (.cells #[.slice none 0 0,.slice none 0 0,.int .i64 0,.bool false] 38):=⟨_,rfl⟩
 have hb2:Below w.heap.size w w2:=by rw [hw2];exact Below.alloc (Below.alloc (Below.refl _ _) (Nat.le_refl _) _) (by simp) _
 have hle:w.heap.size+2≤w2.heap.size:=by rw [hw2];simp
 rw [← hw2] at F
 clear hs hl
 have k1:=right_any _ d w2 F.diskV
 have H3:w.heap.size≤w.heap.size+1:=by omega
 have C0:=cR w2 _ 0 _ _ _ F.g0
 have C1:=cR w2 _ 1 _ _ _ F.g0
 have C2:=cR w2 _ 2 _ _ _ F.g0
 have C3:=cR w2 _ 3 _ _ _ F.g0
 obtain⟨R,hR⟩:∃ R,R=rightB d:=⟨_,rfl⟩
 rw [← hR] at k1
 have HR:=zh hR
 clear hR
 go_enter Tryz.func144,Tryz.ntmps144
 go_wp2_with fail
 rw [← hw2]
 clear hw2
 go_wp2_with fail
 refine k1.mono ?_
 rintro e w3 ⟨rfl,hb3⟩
 have F:=F.below hb3 (by omega) (by omega)
 have hbb:=hb2.trans (hb3.mono hb2.size)
 have hle:=Nat.le_trans hle hb3.size
 clear k1 C0 C1 C2 C3 hb2 hb3
 have C0:=cR w3 _ 0 _ _ _ F.g0
 have C1:=cR w3 _ 1 _ _ _ F.g0
 have C2:=cR w3 _ 2 _ _ _ F.g0
 have C3:=cR w3 _ 3 _ _ _ F.g0
 have D0:=cR w3 _ 0 _ _ _ F.g2
 have D1:=cR w3 _ 1 _ _ _ F.g2
 have D2:=cR w3 _ 2 _ _ _ F.g2
 have D3:=cR w3 _ 3 _ _ _ F.g2
 have Y:=zF F.g0
 have Z:=zF F.g2
 cases R with
 | false =>
  have hP:flushP d=(d,1):=by simp [flushP,← HR.out]
  have HP:=zh hP
  clear hP
  go_wp2_with fail
  refine bodyPost_ret (results_ct rfl _ _ (w.heap.size+1) _ _ _ _ rfl (put4_heap F.g2 _ _ _ _) Tryz.underlying38 rfl zQ) rfl ?_
  rw [HP.out]
  exact⟨⟨_,rfl,DiskV.tight ⟨_,_,rfl,put4_secsV F.s H3 _ _ _ _,put4_looseV F.l H3 _ _ _ _⟩,DSl.mk HSl.out.1 HSl.out.2⟩,put4_below hbb H3 _ _ _ _⟩
 | true =>
  have hR:=HR.out.symm
  have k1:=burn_any _ d w3 F.diskV hR
  cases hD:downP d with
  | true =>
   have hP:flushP d=({ d with fuse:=burnF d,down:=true },9):=by simp [flushP,hR,hD]
   have hE:burnE d=9:=by simp [burnE,hD]
   rw [hD,hE] at k1
   have HP:=zh hP
   clear hP hR hD hE
   go_wp2_with fail
   refine k1.mono ?_
   rintro e w5 ⟨⟨sv,lv,rfl,C,hC,ho5,r5,hl5⟩,hb5⟩
   obtain⟨C,hC,hC5,r5,hl5⟩:=normC hC ho5 r5 hl5 hb5.size
   obtain⟨b1,m1,rfl⟩:=ho5.form
   obtain⟨b2,m2,rfl⟩:=hl5.form
   have F:=F.below hb5 (by omega) (by omega)
   have hbb:=hbb.trans (hb5.mono hbb.size)
   clear k1 hb5 C0 C1 C2 C3 D0 D1 D2 D3 Y Z
   have C0:=cR w5 _ 0 _ _ _ F.g0
   have C1:=cR w5 _ 1 _ _ _ F.g0
   have C2:=cR w5 _ 2 _ _ _ F.g0
   have C3:=cR w5 _ 3 _ _ _ F.g0
   have D0:=cR w5 _ 0 _ _ _ F.g2
   have D1:=cR w5 _ 1 _ _ _ F.g2
   have D2:=cR w5 _ 2 _ _ _ F.g2
   have D3:=cR w5 _ 3 _ _ _ F.g2
   have Y:=zF F.g0
   have Z:=zF F.g2
   go_wp2_with fail
   have hg:w.heap.size<C:=by omega
   have hg3:w.heap.size<w3.heap.size:=by omega
   have hg1:w.heap.size+1<C:=by omega
   have hg13:w.heap.size+1<w3.heap.size:=by omega
   refine bodyPost_ret (results_ct rfl _ _ (w.heap.size+1) _ _ _ _ rfl (put4_heap (w:=put4 w5 w.heap.size _ _ _ _) (put4_far F.g2 (by omega) _ _ _ _) _ _ _ _) Tryz.underlying38 rfl zQ) rfl ?_
   rw [HP.out]
   exact⟨⟨_,rfl,⟨_,_,rfl,(put4_secs (put4_secs ho5 hg3 _ _ _ _) hg13 _ _ _ _).secs,(put4_loose (put4_loose hl5 hg _ _ _ _) hg1 _ _ _ _).loose⟩,DSl.mk (ho5.2.sl fun b hb=>HFr.out b (by omega)) (hl5.2.sl fun b hb=>HFr.out b (by omega))⟩,put4_below (put4_below hbb (Nat.le_refl _) _ _ _ _) H3 _ _ _ _⟩
  | false =>
   have hP:flushP d=(⟨settleN d.secs d.loose (fun _=>true) d.loose.length,[],burnF d,false⟩,0):=by simp [flushP,hR,hD]
   have hE:burnE d=0:=by simp [burnE,hD]
   rw [hD,hE] at k1
   have HP:=zh hP
   have hR2:rightB { d with fuse:=burnF d,down:=false }=true:=by
    simp only [rightB,fusedB,Bool.and_eq_true,decide_eq_true_eq] at hR ⊢
    refine⟨⟨⟨hR.1.1.1,hR.1.1.2⟩,?_⟩,hR.2⟩
    simp only [burnF,hD]
    split <;> omega
   clear hP hR hD hE
   go_wp2_with fail
   refine k1.mono ?_
   rintro e w5 ⟨⟨sv,lv,rfl,C,hC,ho5,r5,hl5⟩,hb5⟩
   obtain⟨C,hC,hC5,r5,hl5⟩:=normC hC ho5 r5 hl5 hb5.size
   obtain⟨b1,m1,rfl⟩:=ho5.form
   obtain⟨b2,m2,rfl⟩:=hl5.form
   have F:=F.below hb5 (by omega) (by omega)
   have hbb:=hbb.trans (hb5.mono hbb.size)
   have hg:w.heap.size<C:=by omega
   have hg3:w.heap.size<w3.heap.size:=by omega
   have hg1:w.heap.size+1<C:=by omega
   have hg13:w.heap.size+1<w3.heap.size:=by omega
   clear k1 C0 C1 C2 C3 D0 D1 D2 D3 Y Z
   have C0:=cR w5 _ 0 _ _ _ F.g0
   have C1:=cR w5 _ 1 _ _ _ F.g0
   have C2:=cR w5 _ 2 _ _ _ F.g0
   have C3:=cR w5 _ 3 _ _ _ F.g0
   have Y:=zF F.g0
   obtain⟨w6,hw6⟩:∃ w6,w6=put4 w5 w.heap.size (.slice b1 d.secs.length m1) (.slice b2 d.loose.length m2) (.int .i64 (burnF d)) (.bool false):=⟨_,rfl⟩
   have hb56:Below w.heap.size w5 w6:=by rw [hw6];exact put4_below (Below.refl _ _) (Nat.le_refl _) _ _ _ _
   have E2:w6.heap[w.heap.size+1]?=some (.cells #[.slice none 0 0,.slice none 0 0,.int .i64 0,.bool false] 38 (0,0)):=by rw [hw6];exact put4_far F.g2 (by omega) _ _ _ _
   have hsz6:w6.heap.size=w5.heap.size:=by rw [hw6];simp [put4]
   have hd6:DiskV w6.heap.size w6 (.agg #[.slice b1 d.secs.length m1,.slice b2 d.loose.length m2,.int .i64 (burnF d),.bool false]) { d with fuse:=burnF d,down:=false }:=by
    rw [hw6]
    exact⟨_,_,rfl,(put4_secs ho5 hg3 _ _ _ _).secs,(put4_loose hl5 hg _ _ _ _).loose⟩
   have k2:=settle_any _ { d with fuse:=burnF d,down:=false } (fun _=>true) 159 #[] w6 hd6 hR2 cf_flush (fun k w' _ _=>flush1_any k w')
   have E0:w6.heap[w.heap.size]?=some (.cells #[.slice b1 d.secs.length m1,.slice b2 d.loose.length m2,.int .i64 (burnF d),.bool false] 38 (0,0)):=by rw [hw6];exact put4_heap F.g0 _ _ _ _
   have hbb:=hbb.trans hb56
   clear hd6 hR2 F ho5 r5 hl5 hb56
   clear hb5
   unfold put4 at hw6
   go_wp2_with fail
   rw [← hw6]
   clear hw6
   refine k2.mono ?_
   rintro e w7 ⟨⟨sv,rfl,ho7⟩,hb7⟩
   obtain⟨b3,m3,rfl⟩:=ho7.form
   have G2:=(hb7.block _ (by omega)).trans E2
   have hg7:w.heap.size+1<w6.heap.size:=by omega
   have hbb:=hbb.trans (hb7.mono hbb.size)
   clear k2 C0 C1 C2 C3 Y hb7 E0 E2
   have D0:=cR w7 _ 0 _ _ _ G2
   have D1:=cR w7 _ 1 _ _ _ G2
   have D2:=cR w7 _ 2 _ _ _ G2
   have D3:=cR w7 _ 3 _ _ _ G2
   have Z:=zF G2
   go_wp2_with fail
   refine bodyPost_ret (results_ct rfl _ _ (w.heap.size+1) _ _ _ _ rfl (put4_heap G2 _ _ _ _) Tryz.underlying38 rfl zQ) rfl ?_
   rw [HP.out]
   exact⟨⟨_,rfl,⟨_,_,rfl,(put4_secs ho7 hg7 _ _ _ _).secs,Loose.nil _ _⟩,DSl.mk (ho7.2.sl fun b hb=>HFr.out b (by omega)) (Sl.none _ _ _)⟩,put4_below hbb H3 _ _ _ _⟩
end
section
open Go.RowKit Go.Shelf
section
variable {F:Fence} {n:Nat} {P:Program} {ops:Array Oper} {rest:List Oper} {o:Oper} {a:Act} {w:World} {Q:Exit→Act→World→Prop}
theorem wpin_load_to (x:Operand) (t:TypeId) (hgd:o.guard=none) (ho:o.op = .load t x) {ad:Addr} {v:Value} {w':World} (hw:w'=w) (hx:a.eval x = .pointer (some ad)) (hl:(loadVar t ad).run P w' = .ok v w')
  (h:wpListIn F n P ops Q rest (a.put o.dst v) w'):wpListIn F n P ops Q (o :: rest) a w:=by
 subst hw
 refine wpListIn_plain hgd fun K hK=>?_
 unfold Oper.wpIn
 refine⟨by simp [Oper.about,ho],?_⟩
 rw [Oper.semAt_plain F _ _ (by rw [ho];intro c hc';cases hc')]
 unfold execOp
 simp only [ho,hx,Instr.loadAt,Instr.sureAddr,Sem.run_bind,Sem.run_pure,Result.andThen_ok,hl]
 exact hK _ _ h
theorem wpin_store_at (x y:Operand) (t:TypeId) (hgd:o.guard=none) (ho:o.op = .store t x y) {ad:Addr} {v:Value} {w':World} (hx:a.eval x = .pointer (some ad)) (hy:a.eval y=v) (hl:(storeVar t ad v).run P w = .ok () w')
  (h:wpListIn F n P ops Q rest (a.put o.dst undef) w'):wpListIn F n P ops Q (o :: rest) a w:=by
 refine wpListIn_plain hgd fun K hK=>?_
 unfold Oper.wpIn
 refine⟨by simp [Oper.about,ho],?_⟩
 rw [Oper.semAt_plain F _ _ (by rw [ho];intro c hc';cases hc')]
 unfold execOp
 simp only [ho,hx,hy,Instr.storeAt,Instr.sureAddr,Sem.run_bind,Sem.run_pure,Result.andThen_ok,hl]
 exact hK _ _ h
theorem wpin_alloc_to (t:TypeId) (hgd:o.guard=none) (ho:o.op = .alloc t) {z:Value} {w':World} (hz:(zeroValue t).run P w = .ok z w) (hw:w'=w.alloc (.cells z.cells t))
  (h:wpListIn F n P ops Q rest (a.put o.dst (.pointer (some ⟨w.heap.size,0,none⟩))) w'):wpListIn F n P ops Q (o :: rest) a w:=by
 subst hw
 refine wpListIn_plain hgd fun K hK=>?_
 unfold Oper.wpIn
 refine⟨by simp [Oper.about,ho],?_⟩
 rw [Oper.semAt_plain F _ _ (by rw [ho];intro c hc';cases hc')]
 unfold execOp
 have hr:(Instr.alloc t true (.tuple #[])).run P w = .ok (.pointer (some ⟨w.heap.size,0,none⟩)) (w.alloc (.cells z.cells t)):=by
  simp only [Instr.alloc,Sem.run_bind,hz,Result.andThen_ok]
  rfl
 simp only [ho,Sem.run_bind,Sem.run_pure,Result.andThen_ok,hr]
 exact hK _ _ h
end
end
section
open Go.RowKit Go.Shelf
attribute [local go_sem] Oper.semAt_some
abbrev W64:={ x:WriteP // x.data.length=64 }
def upto {α:Type} (f:Nat→α) (k:Nat):List α:=(List.range k).map f
theorem upto_succ {α:Type} (f:Nat→α) (k:Nat):upto f (k+1)=upto f k++[f k]:=by simp [upto,List.range_succ]
theorem upto_length {α:Type} (f:Nat→α) (k:Nat):(upto f k).length=k:=by simp [upto]
def sub64 (ls:List WriteP) (k:Nat):W64:=if h:(ls[k]?.getD ⟨0,zeroS⟩).data.length=64 then ⟨_,h⟩ else ⟨⟨0,zeroS⟩,rfl⟩
theorem sub64_at {ls:List WriteP} (h:∀ x∈ls,x.data.length=64) {k:Nat} (hk:k<ls.length):(sub64 ls k).1=ls[k]:=by
 have e:ls[k]?.getD ⟨0,zeroS⟩=ls[k]:=by simp [hk]
 have h1:(ls[k]?.getD ⟨0,zeroS⟩).data.length=64:=by rw [e];exact h _ (List.getElem_mem hk)
 unfold sub64
 rw [dif_pos h1]
 exact e
def backAt (ls:List WriteP) (k:Nat):Int×W64:=((ls.length:Int)-1-k,sub64 ls (ls.length-1-k))
def encW (x:Int×W64):Array Value:=#[.int .i64 x.1,.agg (wcells x.2.1).toArray]
theorem backward_any (a:Option Addr) (n c:Nat) (w:World) :
  Calls Tryz.prog 153 #[.slice a n c] w fun e w'=>e = .returned (.func (.func 173) #[] #[.pointer (some ⟨w.heap.size,0,none⟩)])∧w'=w.alloc (.cells #[.slice a n c] 36):=by
 go_enter Tryz.func153,Tryz.ntmps153
 go_wp2_with fail
 go_ret
 exact⟨rfl,rfl⟩
set_option maxRecDepth 100000 in
set_option maxHeartbeats 2000000 in
theorem backward1_in (n:Nat) (hn:1≤n) (l Bs n₀:Nat) (v:Value) (ls:List WriteP) (hlen:ls.length≤2^40) (hBs0:Bs<n₀) (J Jx:List (Int×W64)→World→Prop)
  (hY:∀ pre x W,J pre W→pre.length<ls.length→YieldAt Fence.wide (n-1) Tryz.prog l (encW x) W fun e W' =>
   (e = .returned (.bool true)∧J (pre++[x]) W'∧Below n₀ W W')∨(e = .returned (.bool false)∧Jx (pre++[x]) W'))
  (W:World) (hBs:W.cell? ⟨Bs,0,none⟩=some v) (hl:Loose n₀ W v ls) (h0:J [] W) :
  CallsIn Fence.wide n Tryz.prog 173 #[.func (.yield l) #[] #[],.pointer (some ⟨Bs,0,none⟩)] W fun e W'=>(∃ v,e = .returned v) ∧
   ((∃ ys,ys=upto (backAt ls) ls.length∧J ys W')∨(∃ pre,(∃ k,k≤ls.length∧pre=upto (backAt ls) k)∧Jx pre W')):=by
 have hl0:=hl
 obtain⟨hls,_,a,cap,rfl,hnc,hcap,hcells⟩:=hl
 unfold maxLen at hcap
 have HY:=zh hY
 clear hY
 refine callsIn_of_wp Tryz.func173 rfl trivial ?_ rfl
 simp only [Tryz.ntmps173,List.size_toArray,List.length_cons,List.length_nil,Nat.reduceAdd,Nat.reduceSub,Array.replicate_succ,Array.replicate_zero,List.push_toArray,List.append_toArray,List.nil_append,List.cons_append]
 obtain⟨i0,z0,hi,hz0,hz1,hz2,hz3⟩:=zero_parts infoz_write
 gi_wp2
 gi_loopw [3] (fun i wr=>∃ k m:Nat,k+m=ls.length∧i = .int .i64 ((m:Int)-1)∧J (upto (backAt ls) k) wr∧Below n₀ W wr) (fun i _=>(intOf i+1).toNat)
 case atStart=>exact⟨0,ls.length,by omega,rfl,h0,Below.refl _ _⟩
 case round =>
  obtain⟨k,m,hkm,rfl,hJ,hb⟩:=hrel
  have hbs:=(hb.cell (p:=⟨Bs,0,none⟩) hBs0).trans hBs
  cases m with
  | zero =>
   gi_wp2
   obtain rfl:k=ls.length:=by omega
   go_end0
   exact⟨⟨_,rfl⟩,.inl ⟨_,rfl,hJ⟩⟩
  | succ m =>
   have hm:(((m+1:Nat):Int)-1)=(m:Int):=by omega
   rw [hm]
   have hlt:m<ls.length:=by omega
   obtain⟨b,off,rfl,hBb,hc⟩:=hcells (by omega)
   have hat:=flat_at wcells 65 ls (fun x hx=>by rw [length_wcells,hls x hx]) m ls[m] (List.getElem?_eq_getElem hlt)
   have hld:=run_load_big (P:=Tryz.prog) (t:=96) Tryz.underlying96 (.inr ⟨_,rfl⟩) hi (w:=wr) (b:=b) (off:=off+m*65) (cs:=wcells ls[m]) hz1 (by rw [length_wcells,hls _ (List.getElem_mem hlt)])
    (fun j u hj=>by rw [Nat.add_assoc];exact (hb.cell (p:=⟨b,off+(m*65+j),none⟩) hBb).trans (hc _ _ (hat j u hj)))
   have hba:backAt ls k=((m:Int),sub64 ls m):=by
    unfold backAt
    have e1:ls.length-1-k=m:=by omega
    have e2:(ls.length:Int)-1-k=m:=by omega
    rw [e1,e2]
   obtain⟨fn,tmps,assign,body,hy,hR⟩:=HY.out _ (backAt ls k) wr hJ (by rw [upto_length];omega)
   unfold encW at hy
   rw [hba] at hy
   simp only [sub64_at hls hlt] at hy
   obtain⟨X,hX⟩:∃ X,X=(wcells ls[m]).toArray:=⟨_,rfl⟩
   rw [← hX] at hld hy
   have HX:=zh hX
   clear hX hat hc hcells hba
   gi_wp2_with (refine wpin_load_to (w':=wr) (.tmp 15) 96 rfl rfl ?_ rfl hld ?_;(exact rfl))
   refine hR.mono ?_
   rintro e W3 (⟨rfl,hJ3,hb3⟩ | ⟨rfl,hJx3⟩)
   ·gi_wp2
    go_roundw
    case rel=>exact⟨k+1,m,by omega,rfl,by rw [upto_succ];exact hJ3,hb.trans hb3⟩
    case measure=>simp [intOf]
   ·gi_wp2
    refine bodyPost_ret (results_none rfl _ _ _) rfl ?_
    exact⟨⟨_,rfl⟩,.inr ⟨_,⟨k+1,by omega,(upto_succ _ _).symm⟩,hJx3⟩⟩
theorem backward_stops (n:Nat) (hn:1≤n) (Bs n₀:Nat) (v:Value) (ls:List WriteP) (hlen:ls.length≤2^40) (hBs0:Bs<n₀) (w:World) (hn₀:n₀≤w.heap.size) (hBs:w.cell? ⟨Bs,0,none⟩=some v) (hl:Loose n₀ w v ls) :
  SeqStopsK Fence.wide n Tryz.prog 173 #[.pointer (some ⟨Bs,0,none⟩)] encW (Below n₀) (fun ys=>ys=upto (backAt ls) ls.length) (fun pre=>∃ k,k≤ls.length∧pre=upto (backAt ls) k) ls.length w:=fun l J Jx W hW _ _ hY h0 =>
 backward1_in n hn l Bs n₀ v ls hlen hBs0 J Jx hY W ((hW.cell (p:=⟨Bs,0,none⟩) (Nat.lt_of_lt_of_le hBs0 hn₀)).trans hBs) (hl.below (hW.mono hn₀)) h0
end
section
open Go.RowKit Go.Shelf
attribute [local go_sem] Oper.semAt_some
def lastW (ls:List WriteP) (at_:Int) (s:List UInt8):List UInt8:=ls.foldl (fun s x=>if x.at_=at_ then x.data else s) s
def readP (d:DiskP) (at_:Int):List UInt8×Int :=
 if rightB d&&thereB d at_ then (if d.down then (zeroS,9) else (lastW d.loose at_ (d.secs[at_.toNat]?.getD zeroS),0)) else (zeroS,1)
theorem alloc_old (w:World) (o:Obj) {r:Nat} (h:r<w.heap.size):(w.alloc o).heap[r]?=w.heap[r]?:=(Below.refl w.heap.size w |>.alloc (Nat.le_refl _) o).block r h
theorem zero44:∃ z:Value,z.cells=(u8s zeroS).toArray∧∀ w,(zeroValue 94).run Tryz.prog w = .ok z w:=by
 obtain⟨i0,hi,hx⟩:=Option.bind_eq_some_iff.1 zero_sector
 obtain⟨z0,hz0,hx⟩:=Option.map_eq_some_iff.1 hx
 simp only [Prod.mk.injEq] at hx
 refine⟨z0,?_,fun w=>by simp [zeroValue,typeInfo,hi,hz0]⟩
 rw [hx.2.2]
 rfl
structure RF (G:Nat) (w:World) (sv lv:Value) (d:DiskP) (at_:Int) (A:Array Value) (e:Value) (Z:Array Value):Prop where
 g0:w.heap[G]?=some (.cells #[sv,lv,.int .i64 d.fuse,.bool d.down] 38 (0,0))
 g1:w.heap[G+1]?=some (.cells #[.int .i64 at_] 3 (0,0))
 g2:w.heap[G+1+1]?=some (.cells A 94 (0,0))
 g3:w.heap[G+1+1+1]?=some (.cells #[e] 26 (0,0))
 g4:w.heap[G+1+1+1+1]?=some (.cells Z 94 (0,0))
 s:Secs G w sv d.secs
 l:Loose G w lv d.loose
theorem RF.size {G:Nat} {w:World} {sv lv:Value} {d:DiskP} {at_:Int} {A Z:Array Value} {e:Value} (h:RF G w sv lv d at_ A e Z):G+5≤w.heap.size:=by have:=zB h.g4;omega
theorem RF.below {G B':Nat} {w w':World} {sv lv:Value} {d:DiskP} {at_:Int} {A Z:Array Value} {e:Value} (h:RF G w sv lv d at_ A e Z) (hb:Below B' w w') (hB:G+5≤B'):RF G w' sv lv d at_ A e Z :=
 ⟨(hb.block _ (by omega)).trans h.g0,(hb.block _ (by omega)).trans h.g1,(hb.block _ (by omega)).trans h.g2,(hb.block _ (by omega)).trans h.g3,(hb.block _ (by omega)).trans h.g4,h.s.below (hb.mono (by omega)),h.l.below (hb.mono (by omega))⟩
theorem info44:∃ i,Tryz.prog.info? 94=some i∧i.size=64:=by
 obtain⟨i,_,hi,_,hs,_⟩:=zero_parts infoz_sector
 exact⟨i,hi,hs⟩
theorem storeBig {t:TypeId} {n:Nat} (hi:∃ i,Tryz.prog.info? t=some i∧i.size=n) {w:World} {g:Nat} {cur:Array Value} (hg:w.heap[g]?=some (.cells cur t (0,0))) (hc:cur.size=n) (X:Array Value) (hX:X.size=n) (h1:∀ v∈X.toList,v.oneCell'=true) :
  ∃ w',(storeVar t ⟨g,0,none⟩ (.agg X)).run Tryz.prog w = .ok () w'∧w'.heap[g]?=some (.cells X t (0,0))∧Below g w w'∧w'.heap.size=w.heap.size∧(∀ k,k≠g→w'.heap[k]?=w.heap[k]?)∧KeepsOthers w w':=by
 obtain⟨i,hi,hs⟩:=hi
 have hst:=run_store_big (P:=Tryz.prog) hi (off:=0) (cs:=X.toList) hg (by rw [hs];simp [hX]) (by simp [hX,hc]) h1
 have e:(cur.toList.take 0++X.toList++cur.toList.drop (0+X.toList.length)).toArray=X:=by
  rw [List.drop_eq_nil_of_le (by simp [hX,hc])];simp
 rw [e] at hst
 refine⟨_,hst,setRow_heap _ _ _ _ _ _ hg,⟨rfl,rfl,rfl,by simp [World.setRow],fun j hj=>setRow_other _ _ j _ (by omega)⟩,by simp [World.setRow],fun k hk=>setRow_other _ _ k _ hk,⟨by simp [World.setRow],fun k o hk ho=>?_⟩⟩
 by_cases hkg:k=g
 ·subst hkg
  rw [hg] at hk
  cases hk
  simp [Obj.isCells] at ho
 ·rw [setRow_other _ _ k _ hkg]
  exact hk
theorem store64 {w:World} {g:Nat} {cur:Array Value} (hg:w.heap[g]?=some (.cells cur 94 (0,0))) (hc:cur.size=64) (X:Array Value) (hX:X.size=64) (h1:∀ v∈X.toList,v.oneCell'=true) :
  ∃ w',(storeVar 94 ⟨g,0,none⟩ (.agg X)).run Tryz.prog w = .ok () w'∧w'.heap[g]?=some (.cells X 94 (0,0))∧Below g w w'∧w'.heap.size=w.heap.size∧(∀ k,k≠g→w'.heap[k]?=w.heap[k]?)∧KeepsOthers w w':=storeBig info44 hg hc X hX h1
theorem info46:∃ i,Tryz.prog.info? 96=some i∧i.size=65:=by
 obtain⟨i,_,hi,_,hs,_⟩:=zero_parts infoz_write
 exact⟨i,hi,hs⟩
theorem zero46:∃ z:Value,z.cells.size=65∧∀ w,(zeroValue 96).run Tryz.prog w = .ok z w:=by
 obtain⟨i0,z0,hi,hz0,_,_,hz3⟩:=zero_parts infoz_write
 exact⟨z0,hz3,fun w=>by simp [zeroValue,typeInfo,hi,hz0]⟩
theorem lastW_none (at_:Int):∀ (ls:List WriteP) (s:List UInt8),(∀ x∈ls,x.at_≠at_)→lastW ls at_ s=s
 | [],_,_=>rfl
 | x :: ls,s,h=>by
  unfold lastW
  rw [List.foldl_cons,if_neg (h x (List.mem_cons_self ..))]
  exact lastW_none at_ ls s (fun y hy=>h y (List.mem_cons_of_mem _ hy))
theorem lastW_at {at_:Int} {ls:List WriteP} {m:Nat} (hm:m<ls.length) (h1:ls[m].at_=at_) (h2:∀ j (hj:j<ls.length),m<j→ls[j].at_≠at_) (s:List UInt8):lastW ls at_ s=ls[m].data:=by
 have e:ls=ls.take m++ls[m] :: ls.drop (m+1):=by rw [List.getElem_cons_drop];exact (List.take_append_drop m ls).symm
 have hn:lastW (ls.drop (m+1)) at_ ls[m].data=ls[m].data:=lastW_none at_ _ _ (fun x hx=>by
  obtain⟨j,hj,rfl⟩:=List.getElem_of_mem hx
  rw [List.getElem_drop]
  exact h2 _ _ (by omega))
 have hf:lastW ls at_ s=(ls.take m++ls[m] :: ls.drop (m+1)).foldl (fun s x=>if x.at_=at_ then x.data else s) s:=by rw [← e];rfl
 rw [hf,List.foldl_append,List.foldl_cons,if_pos h1]
 exact hn
theorem lastW_upto_none {at_:Int} {ls:List WriteP} (h64:∀ x∈ls,x.data.length=64) (h:∀ p∈upto (backAt ls) ls.length,p.2.1.at_≠at_) (s:List UInt8):lastW ls at_ s=s :=
 lastW_none at_ ls s (fun x hx=>by
  obtain⟨j,hj,rfl⟩:=List.getElem_of_mem hx
  have:=h (backAt ls (ls.length-1-j)) (by simp only [upto,List.mem_map,List.mem_range];exact⟨_,by omega,rfl⟩)
  have e:ls.length-1-(ls.length-1-j)=j:=by omega
  simp only [backAt,e,sub64_at h64 hj] at this
  exact this)
theorem lastW_upto_at {at_:Int} {ls:List WriteP} (h64:∀ x∈ls,x.data.length=64) {k:Nat} (hk:k≤ls.length) {ini:List (Int×W64)} {last:Int×W64} (e:upto (backAt ls) k=ini++[last]) (hi:∀ p∈ini,p.2.1.at_≠at_) (hl:last.2.1.at_=at_) (s:List UInt8):lastW ls at_ s=last.2.1.data:=by
 cases k with
 | zero=>simp [upto] at e
 | succ k =>
  rw [upto_succ] at e
  obtain⟨rfl,e5⟩:=List.append_inj' e rfl
  obtain rfl:backAt ls k=last:=by simpa using e5
  have hm:ls.length-1-k<ls.length:=by omega
  simp only [backAt,sub64_at h64 hm] at hl ⊢
  refine lastW_at hm hl (fun j hj hmj=>?_) s
  have:=hi (backAt ls (ls.length-1-j)) (by simp only [upto,List.mem_map,List.mem_range];exact⟨_,by omega,rfl⟩)
  have e:ls.length-1-(ls.length-1-j)=j:=by omega
  simp only [backAt,e,sub64_at h64 hj] at this
  exact this
theorem results_cc {fn:Func} {p q:Tmp} (h:fn.results=#[.cell p 94,.cell q 26]) (tmps:Array Value) (w:World) (g g':Nat) (cs:Array Value) (e:Int)
  (hp:tmps.getD p undef = .pointer (some ⟨g,0,none⟩)) (hg:w.heap[g]?=some (.cells cs 94 (0,0))) (hq:tmps.getD q undef = .pointer (some ⟨g',0,none⟩)) (hg':w.heap[g']?=some (.cells #[.int .i64 e] 26 (0,0))) (hc:cs.size=64) :
  (results fn tmps).run Tryz.prog w = .ok (.tuple #[.agg cs,.int .i64 e]) w:=by
 have hp':tmps[p]?.getD undef = .pointer (some ⟨g,0,none⟩):=by simpa using hp
 have hq':tmps[q]?.getD undef = .pointer (some ⟨g',0,none⟩):=by simpa using hq
 have h1:=run_loadVar_row (P:=Tryz.prog) w g 94 94 cs (0,0) _ hg Tryz.underlying94 rfl (by rw [hc];exact size_sector)
 have hcell:=cR w g' 0 _ _ _ hg'
 have h2:(loadVar 26 ⟨g',0,none⟩).run Tryz.prog w = .ok (.int .i64 e) w:=by simp [go_sem,hcell]
 simp [results,h,hp',hq',asAddr,h1,h2]
theorem retM {F:Fence} {n:Nat} {P:Program} {fn:Func} {R:Ending→World→Prop} {tmps:Array Value} {w:World} {v:Value} (h:(results fn tmps).run P w = .ok v w) (hR:R (.returned v) w):bodyPostM F n P fn R .ret { tmps:=tmps,defers:=[] } w:=⟨_,h,hR⟩
theorem retD {F:Fence} {n:Nat} {P:Program} {fn:Func} {R:Ending→World→Prop} {tmps:Array Value} {w:World} {v:Value} {D:Nat} (hK:w.heap[D]?=some (.deferred (some []))) (h:(results fn tmps).run P (w.putObj D (.deferred none)) = .ok v (w.putObj D (.deferred none))) (hR:R (.returned v) (w.putObj D (.deferred none))) :
  bodyPostM F n P fn R .ret { tmps:=tmps,defers:=[{ target:=.collected D,args:=#[] }] } w:=⟨by simp,.inl ⟨_,_,rfl,run_takeDeferred hK,⟨_,h,hR⟩⟩⟩
theorem setCell_one {w:World} {g:Nat} {u:Value} {t:TypeId} (h:w.heap[g]?=some (.cells #[u] t (0,0))) (v:Value):(w.setCell ⟨g,0,none⟩ v).heap[g]?=some (.cells #[v] t (0,0)):=by
 simp [World.setCell,Array.getElem?_modify,h]
set_option maxRecDepth 100000 in
set_option maxHeartbeats 2000000 in
theorem read_any {B:Nat} (v:Value) (d:DiskP) (at_:Int) (w:World) (h:DiskV B w v d) :
  Calls Tryz.prog 135 #[v,.int .i64 at_] w fun e w'=>e = .returned (.tuple #[.agg (u8s (readP d at_).1).toArray,.int .i64 (readP d at_).2])∧Below w.heap.size w w':=by
 obtain⟨a1,n1,a2,n2,rfl,hs,hl⟩:=h.tight.parts
 clear h
 obtain⟨z,hz,hzr⟩:=zero44
 obtain⟨Z,hZ⟩:∃ Z,Z=z.cells:=⟨_,rfl⟩
 rw [← hZ] at hz
 have HZ:=zh hz
 have HZC:=zh hZ
 have HZR:=zh hzr
 clear hz hzr
 obtain⟨w2,hw2⟩:∃ w2,w2=((w.alloc (.cells #[.slice a1 d.secs.length n1,.slice a2 d.loose.length n2,.int .i64 d.fuse,.bool d.down] 38)).alloc (.cells #[.int .i64 at_] 3)):=⟨_,rfl⟩
 have hsz2:w2.heap.size=w.heap.size+1+1:=by rw [hw2];simp
 have hb2:Below w.heap.size w w2:=by rw [hw2];exact Below.alloc (Below.alloc (Below.refl _ _) (Nat.le_refl _) _) (by simp) _
 have G0:w2.heap[w.heap.size]?=some (.cells #[.slice a1 d.secs.length n1,.slice a2 d.loose.length n2,.int .i64 d.fuse,.bool d.down] 38 (0,0)):=by rw [hw2];exact heap_alloc2_old w _ _
 have G1:w2.heap[w.heap.size+1]?=some (.cells #[.int .i64 at_] 3 (0,0)):=by rw [hw2];exact heap_alloc2_new w _ _
 obtain⟨w3,hw3⟩:∃ w3,w3=w2.alloc (.cells Z 94):=⟨_,rfl⟩
 obtain⟨w4,hw4⟩:∃ w4,w4=w3.alloc (.cells #[.int .i64 0] 26):=⟨_,rfl⟩
 obtain⟨w5,hw5⟩:∃ w5,w5=w4.alloc (.cells Z 94):=⟨_,rfl⟩
 have hsz3:w3.heap.size=w.heap.size+1+1+1:=by rw [hw3];simp [hsz2]
 have hsz4:w4.heap.size=w.heap.size+1+1+1+1:=by rw [hw4];simp [hsz3]
 have hsz5:w5.heap.size=w.heap.size+1+1+1+1+1:=by rw [hw5];simp [hsz4]
 have hb5:Below w2.heap.size w2 w5:=by
  rw [hw5,hw4,hw3]
  exact Below.alloc (Below.alloc (Below.alloc (Below.refl _ _) (Nat.le_refl _) _) (by simp) _) (by simp;omega) _
 have G2:w5.heap[w.heap.size+1+1]?=some (.cells Z 94 (0,0)):=by
  rw [hw5,alloc_old _ _ (by omega),hw4,alloc_old _ _ (by omega),hw3,← hsz2];exact heap_alloc_new w2 _
 have G3:w5.heap[w.heap.size+1+1+1]?=some (.cells #[.int .i64 0] 26 (0,0)):=by
  rw [hw5,alloc_old _ _ (by omega),hw4,← hsz3];exact heap_alloc_new w3 _
 have G4:w5.heap[w.heap.size+1+1+1+1]?=some (.cells Z 94 (0,0)):=by
  rw [hw5,← hsz4];exact heap_alloc_new w4 _
 have G0:=(hb5.block _ (by omega)).trans G0
 have G1:=(hb5.block _ (by omega)).trans G1
 have hbb:=hb2.trans (hb5.mono hb2.size)
 have hs:=hs.below hbb
 have hl:=hl.below hbb
 have hZs:Z.size=64:=by rw [HZ.out];simp [zL,zeroS]
 have hZ1:∀ v∈Z.toList,v.oneCell'=true:=by rw [HZ.out];exact oneCell_u8s _
 have F:RF w.heap.size w5 (.slice a1 d.secs.length n1) (.slice a2 d.loose.length n2) d at_ Z (.int .i64 0) Z:=⟨G0,G1,G2,G3,G4,hs,hl⟩
 have k1:=right_any _ d w5 ⟨_,_,rfl,F.s,F.l⟩
 have C0:=cR w5 _ 0 _ _ _ F.g0
 have C1:=cR w5 _ 1 _ _ _ F.g0
 have C2:=cR w5 _ 2 _ _ _ F.g0
 have C3:=cR w5 _ 3 _ _ _ F.g0
 have hle:=F.size
 clear hb2 hb5 hZ G0 G1 G2 G3 G4 hs hl
 have HW3:=zh (show w3=((w.alloc (.cells #[.slice a1 d.secs.length n1,.slice a2 d.loose.length n2,.int .i64 d.fuse,.bool d.down] 38)).alloc (.cells #[.int .i64 at_] 3)).alloc (.cells z.cells 94) by rw [hw3,hw2,HZC.out])
 have HW4:=zh hw4
 have HW5:=zh (show w5=w4.alloc (.cells z.cells 94) by rw [hw5,HZC.out])
 clear hw2 hw3 hw4 hw5
 obtain⟨R,hR⟩:∃ R,R=rightB d:=⟨_,rfl⟩
 rw [← hR] at k1
 have HR:=zh hR
 clear hR
 refine (callsIn_wide (n:=4)).1 ?_
 refine callsIn_of_wp_marks Tryz.func135 rfl trivial ?_ rfl
 simp only [Tryz.ntmps135,List.size_toArray,List.length_cons,List.length_nil,Nat.reduceAdd,Nat.reduceSub,Array.replicate_succ,Array.replicate_zero,List.push_toArray,List.append_toArray,List.nil_append,List.cons_append]
 gi_wp2_with (refine wpin_alloc_to (w':=w3) 94 rfl rfl (HZR.out _) ?_ ?_;(exact HW3.out);refine Halt.in ?_)
 refine Halt.out ?_
 gi_wp2_with (refine wpin_alloc_to (w':=w5) 94 rfl rfl (HZR.out _) ?_ ?_;(rw [← HW4.out];exact HW5.out);refine Halt.in ?_)
 refine Halt.out ?_
 gi_wp2_with fail
 refine⟨trivial,(callsIn_wide.2 k1).mono ?_⟩
 rintro e w6 ⟨rfl,hb6⟩
 have F:=F.below hb6 (by omega)
 have hbb:=hbb.trans (hb6.mono hbb.size)
 have hle:=F.size
 clear k1 C0 C1 C2 C3 hb6 hsz2 hsz3 hsz4 hsz5
 have C0:=cR w6 _ 0 _ _ _ F.g0
 have C1:=cR w6 _ 1 _ _ _ F.g0
 have C2:=cR w6 _ 2 _ _ _ F.g0
 have C3:=cR w6 _ 3 _ _ _ F.g0
 have C4:=cR w6 _ 0 _ _ _ F.g1
 have C5:=cR w6 _ 0 _ _ _ F.g3
 have Y:=zF F.g3
 have hldz:=run_loadVar_row (P:=Tryz.prog) w6 (w.heap.size+1+1+1+1) 94 94 Z (0,0) _ F.g4 Tryz.underlying94 rfl (by rw [hZs];exact size_sector)
 cases R with
 | false =>
  have hP:readP d at_=(zeroS,1):=by simp [readP,← HR.out]
  have HP:=zh hP
  clear hP
  obtain⟨w7,hst,hn7,hb7,hsz7,hoth7,_⟩:=store64 F.g2 hZs Z hZs hZ1
  gi_wp2_with fail
  refine⟨trivial,?_⟩
  gi_wp2_with (first
   | (refine wpin_load_to (w':=w6) (.tmp 6) 94 rfl rfl ?_ rfl hldz ?_;(exact rfl))
   | (refine wpin_store_at (.tmp 4) (.tmp 19) 94 rfl rfl rfl rfl hst ?_;refine Halt.in ?_))
  refine Halt.out ?_
  clear hst hldz C0 C1 C2 C3 C4 C5 Y
  have H3:=(hoth7 (w.heap.size+1+1+1) (by omega)).trans F.g3
  have C5:=cR w7 _ 0 _ _ _ H3
  have Y:=zF H3
  gi_wp2
  refine retM (results_cc rfl _ _ _ _ _ _ rfl ((setFar (by omega) 0 _).trans hn7) rfl (setCell_one H3 _) hZs) ?_
  rw [HP.out,HZ.out]
  exact⟨rfl,(hbb.trans (hb7.mono (by omega))).setCell (p:=⟨w.heap.size+1+1+1,0,none⟩) (show w.heap.size≤w.heap.size+1+1+1 by omega) _⟩
 | true =>
  have k1:=there_any _ d at_ w6 ⟨_,_,rfl,F.s,F.l⟩
  cases hT:thereB d at_ with
  | false =>
   have hP:readP d at_=(zeroS,1):=by simp [readP,hT]
   rw [hT] at k1
   have HP:=zh hP
   clear hP hT hldz
   gi_wp2_with fail
   refine⟨trivial,(callsIn_wide.2 k1).mono ?_⟩
   rintro e w6' ⟨rfl,hb6'⟩
   have F:=F.below hb6' (by omega)
   have hbb:=hbb.trans (hb6'.mono hbb.size)
   have hle:=F.size
   have hldz:=run_loadVar_row (P:=Tryz.prog) w6' (w.heap.size+1+1+1+1) 94 94 Z (0,0) _ F.g4 Tryz.underlying94 rfl (by rw [hZs];exact size_sector)
   obtain⟨w7,hst,hn7,hb7,hsz7,hoth7,_⟩:=store64 F.g2 hZs Z hZs hZ1
   gi_wp2_with (first
    | (refine wpin_load_to (w':=w6') (.tmp 6) 94 rfl rfl ?_ rfl hldz ?_;(exact rfl))
    | (refine wpin_store_at (.tmp 4) (.tmp 19) 94 rfl rfl rfl rfl hst ?_;refine Halt.in ?_))
   refine Halt.out ?_
   clear hst hldz C0 C1 C2 C3 C4 C5 Y
   have H3:=(hoth7 (w.heap.size+1+1+1) (by omega)).trans F.g3
   have C5:=cR w7 _ 0 _ _ _ H3
   have Y:=zF H3
   gi_wp2
   refine retM (results_cc rfl _ _ _ _ _ _ rfl ((setFar (by omega) 0 _).trans hn7) rfl (setCell_one H3 _) hZs) ?_
   rw [HP.out,HZ.out]
   exact⟨rfl,(hbb.trans (hb7.mono (by omega))).setCell (p:=⟨w.heap.size+1+1+1,0,none⟩) (show w.heap.size≤w.heap.size+1+1+1 by omega) _⟩
  | true =>
   have hR:=HR.out.symm
   rw [hT] at k1
   have HTT:=zh hT
   clear hldz
   gi_wp2_with fail
   refine⟨trivial,(callsIn_wide.2 k1).mono ?_⟩
   rintro e w6' ⟨rfl,hb6'⟩
   have F:=F.below hb6' (by omega)
   have hbb:=hbb.trans (hb6'.mono hbb.size)
   have hle:=F.size
   have hldz:=run_loadVar_row (P:=Tryz.prog) w6' (w.heap.size+1+1+1+1) 94 94 Z (0,0) _ F.g4 Tryz.underlying94 rfl (by rw [hZs];exact size_sector)
   obtain⟨w7,hst,hn7,hb7,hsz7,hoth7,_⟩:=store64 F.g2 hZs Z hZs hZ1
   clear C0 C1 C2 C3 C4 C5 Y hb6' k1
   have C0:=cR w6' _ 0 _ _ _ F.g0
   have C1:=cR w6' _ 1 _ _ _ F.g0
   have C2:=cR w6' _ 2 _ _ _ F.g0
   have C3:=cR w6' _ 3 _ _ _ F.g0
   have C4:=cR w6' _ 0 _ _ _ F.g1
   have C5:=cR w6' _ 0 _ _ _ F.g3
   have Y:=zF F.g3
   cases hD:d.down with
   | true =>
    have hP:readP d at_=(zeroS,9):=by simp [readP,hT,hR,hD]
    have HP:=zh hP
    rw [hD] at C3
    clear hP hT hR
    gi_wp2_with (first
     | (refine wpin_load_to (w':=w6') (.tmp 6) 94 rfl rfl ?_ rfl hldz ?_;(exact rfl))
     | (refine wpin_store_at (.tmp 4) (.tmp 23) 94 rfl rfl rfl rfl hst ?_;refine Halt.in ?_))
    refine Halt.out ?_
    clear hst hldz C0 C1 C2 C3 C4 C5 Y
    have H3:=(hoth7 (w.heap.size+1+1+1) (by omega)).trans F.g3
    have C5:=cR w7 _ 0 _ _ _ H3
    have Y:=zF H3
    gi_wp2
    refine retM (results_cc rfl _ _ _ _ _ _ rfl ((setFar (by omega) 0 _).trans hn7) rfl (setCell_one H3 _) hZs) ?_
    rw [HP.out,HZ.out]
    exact⟨rfl,(hbb.trans (hb7.mono (by omega))).setCell (p:=⟨w.heap.size+1+1+1,0,none⟩) (show w.heap.size≤w.heap.size+1+1+1 by omega) _⟩
   | false =>
    have hP:readP d at_=(lastW d.loose at_ (d.secs[at_.toNat]?.getD zeroS),0):=by simp [readP,hT,hR,hD]
    have HP:=zh hP
    have hlen:d.loose.length≤2^40:=by simp only [rightB,Bool.and_eq_true,decide_eq_true_eq] at hR;omega
    have HL:=zh hlen
    rw [hD] at C3
    clear hP hT hR hst hldz hn7 hb7 hsz7 hoth7 hlen hD
    have k2:=fun w=>backward_any a2 d.loose.length n2 w
    gi_wp2_with fail
    refine⟨trivial,(callsIn_wide.2 (k2 _)).mono ?_⟩
    rintro e w8 ⟨rfl,hw8⟩
    have hb8:Below w6'.heap.size w6' w8:=by rw [hw8];exact Below.alloc (Below.refl _ _) (Nat.le_refl _) _
    have hbs:=heap_alloc_new w6' (.cells #[.slice a2 d.loose.length n2] 36)
    rw [← hw8] at hbs
    have hbs:=cR w8 _ 0 _ _ _ hbs
    have hs8:w8.heap.size=w6'.heap.size+1:=by rw [hw8];simp
    have F:=F.below hb8 (by omega)
    have hbb:=hbb.trans (hb8.mono hbb.size)
    have hl8:=F.l
    have hbb8:w.heap.size+5≤w8.heap.size:=F.size
    clear k2 C0 C1 C2 C3 C4 C5 Y hb8 hw8
    obtain⟨Bs,hBs⟩:∃ Bs,Bs=w6'.heap.size:=⟨_,rfl⟩
    rw [← hBs] at hbs hs8 ⊢
    clear hBs
    gi_wp2_with fail
    refine wpIn_rangeFunc_ownH rfl (by decide) (gf:=173) (lb:=#[.pointer (some ⟨Bs,0,none⟩)]) rfl trivial (fun args w=>callFunc_run Tryz.func173 rfl rfl args w)
     (backward_stops 3 (by decide) Bs w8.heap.size _ d.loose HL.out (by omega) w8 (Nat.le_refl _) hbs hl8.tight) belowK_t (belowK_b (Nat.le_refl _)) (Below.refl _ _) (fun _=>rfl)
     (fun pre W=>(∀ p∈pre,p.2.1.at_≠at_)∧Below w8.heap.size w8 W)
     (fun c pre W=>(c = .ret∧∃ ini last,pre=ini++[last]∧(∀ p∈ini,p.2.1.at_≠at_)∧last.2.1.at_=at_∧W.heap[w.heap.size+1+1]?=some (.cells (u8s last.2.1.data).toArray 94 (0,0))∧W.heap[w.heap.size+1+1+1]?=some (.cells #[.int .i64 0] 26 (0,0)))∧Below w.heap.size w W)
     (OwnFrom.and (ownFrom_pure _ _) (ownFrom_below (Nat.le_refl _) (Nat.le_refl _)))
     (fun c=>OwnFrom.and (Go.Own.from (fun s A B row hs hg hr=>by
      obtain⟨hc,ini,last,e1,e2,e3,h2,h3⟩:=hs
      exact⟨hc,ini,last,e1,e2,e3,(grownBy_keeps_cells hg hr h2 rfl).trans h2,(grownBy_keeps_cells hg hr h3 rfl).trans h3⟩) _) (ownFrom_below (Nat.le_refl _) hbb.size))
     ⟨fun p hp=>absurd hp List.not_mem_nil,Below.refl _ _⟩
     (fun x a' W=>∃ Bx,w8.heap.size≤Bx∧W.heap[Bx]?=some (.cells (wcells x.2.1).toArray 96 (0,0))∧a'={ tmps:=#[.agg #[.slice a1 d.secs.length n1,.slice a2 d.loose.length n2,.int .i64 d.fuse,.bool false],.int .i64 at_,.pointer (some ⟨w.heap.size,0,none⟩),.pointer (some ⟨w.heap.size+1,0,none⟩),.pointer (some ⟨w.heap.size+1+1,0,none⟩),.pointer (some ⟨w.heap.size+1+1+1,0,none⟩),.pointer (some ⟨w.heap.size+1+1+1+1,0,none⟩),undef,.pointer (some ⟨Bx,0,none⟩),.bool false,.agg #[.slice a1 d.secs.length n1,.slice a2 d.loose.length n2,.int .i64 d.fuse,.bool false],.bool true,.bool false,.bool false,.agg #[.slice a1 d.secs.length n1,.slice a2 d.loose.length n2,.int .i64 d.fuse,.bool false],.int .i64 at_,.bool true,.bool false,.bool false,undef,.bool false,.pointer (some ⟨w.heap.size,3,none⟩),.bool false,undef,.pointer (some ⟨w.heap.size,1,none⟩),.slice a2 d.loose.length n2,.func (.func 173) #[] #[.pointer (some ⟨Bs,0,none⟩)],.int .i64 x.1,.agg (wcells x.2.1).toArray,undef,undef,undef,undef,undef,undef,undef,undef,undef,undef,undef],defers:=[] })
     (fun x a'=>Go.Own.from (fun s A B row hs hg hr=>by
      obtain⟨Bx,h1,h2,h3⟩:=hs
      exact⟨Bx,h1,(grownBy_keeps_cells hg hr h2 rfl).trans h2,h3⟩) _) ?assign ?body ?done ?stop
    case assign =>
     rintro l pre x W K ⟨hp,hB⟩ hK
     obtain⟨z,hzs,hzr⟩:=zero46
     obtain⟨W1,hW1⟩:∃ W1,W1=W.alloc (.cells z.cells 96):=⟨_,rfl⟩
     have hn1:W1.heap[W.heap.size]?=some (.cells z.cells 96 (0,0)):=by rw [hW1];exact heap_alloc_new W _
     have hK1:KeepsOthers W W1:=by rw [hW1];exact KeepsOthers.alloc _ _
     have hB1:Below W.heap.size W W1:=by rw [hW1];exact Below.alloc (Below.refl _ _) (Nat.le_refl _) _
     obtain⟨X,hX⟩:∃ X,X=(wcells x.2.1).toArray:=⟨_,rfl⟩
     obtain⟨W2,hst,hn2,hB2,_,_,hK2⟩:=storeBig info46 hn1 hzs X (by rw [hX];simp [length_wcells,x.2.2]) (by rw [hX];exact oneCell_w _)
     have hB2:=hB1.trans (hB2.mono (Nat.le_refl _))
     have HK:=zh (hK { tmps:=#[.agg #[.slice a1 d.secs.length n1,.slice a2 d.loose.length n2,.int .i64 d.fuse,.bool false],.int .i64 at_,.pointer (some ⟨w.heap.size,0,none⟩),.pointer (some ⟨w.heap.size+1,0,none⟩),.pointer (some ⟨w.heap.size+1+1,0,none⟩),.pointer (some ⟨w.heap.size+1+1+1,0,none⟩),.pointer (some ⟨w.heap.size+1+1+1+1,0,none⟩),undef,.pointer (some ⟨W.heap.size,0,none⟩),.bool false,.agg #[.slice a1 d.secs.length n1,.slice a2 d.loose.length n2,.int .i64 d.fuse,.bool false],.bool true,.bool false,.bool false,.agg #[.slice a1 d.secs.length n1,.slice a2 d.loose.length n2,.int .i64 d.fuse,.bool false],.int .i64 at_,.bool true,.bool false,.bool false,undef,.bool false,.pointer (some ⟨w.heap.size,3,none⟩),.bool false,undef,.pointer (some ⟨w.heap.size,1,none⟩),.slice a2 d.loose.length n2,.func (.func 173) #[] #[.pointer (some ⟨Bs,0,none⟩)],.int .i64 x.1,.agg (wcells x.2.1).toArray,undef,undef,undef,undef,undef,undef,undef,undef,undef,undef,undef],defers:=[] } W2 ((hK1.trans hK2).from _) (hB2.mono hB.size) ⟨hp,hB.trans (hB2.mono hB.size)⟩ ⟨W.heap.size,hB.size,by rw [hn2,hX],rfl⟩)
     rw [← hX] at HK
     have HZ46:=zh hzr
     have HW1:=zh hW1
     unfold encW
     rw [← hX]
     clear hX hK hzr hW1
     gi_wp2_with (refine wpin_alloc_to (w':=W1) 96 rfl rfl (HZ46.out _) ?_ ?_;(exact HW1.out);refine Halt.in ?_)
     refine Halt.out ?_
     gi_wp2_with (refine wpin_store_at (.tmp 8) (.tmp 28) 96 rfl rfl rfl rfl hst ?_)
     exact HK.out
    case body =>
     rintro l pre x a' W hl ⟨r,hr⟩ ⟨hp,hB⟩ ⟨Bx,hBx,bX,rfl⟩ hlt
     have F:=F.below hB hbb8
     have hbW:=hbb.trans (hB.mono hbb.size)
     have X0:=cR W _ 0 _ _ _ bX
     have hX0:(wcells x.2.1).toArray[0]?=some (.int .i64 x.2.1.at_):=by simp [wcells]
     rw [hX0] at X0
     have C4:=cR W _ 0 _ _ _ F.g1
     have C5:=cR W _ 0 _ _ _ F.g3
     have Y:=zF F.g3
     obtain⟨i44,hi44,hs44⟩:=info44
     have hld:=run_load_big (P:=Tryz.prog) (t:=94) Tryz.underlying94 (.inl ⟨_,_,rfl⟩) hi44 (w:=W) (b:=Bx) (off:=1) (cs:=u8s x.2.1.data) hs44 (by rw [zL,x.2.2])
      (fun j u hj=>by rw [cR W _ _ _ _ _ bX];simpa [wcells,Nat.add_comm 1 j] using hj)
     obtain⟨X,hX⟩:∃ X,X=(u8s x.2.1.data).toArray:=⟨_,rfl⟩
     rw [← hX] at hld
     obtain⟨W2,hst,hn2,hB2,_,hoth2,hK2⟩:=store64 F.g2 hZs X (by rw [hX];simp [zL,x.2.2]) (by rw [hX];exact oneCell_u8s _)
     have HX:=zh hX
     obtain⟨y,hy⟩:∃ y,y=x.2.1.at_:=⟨_,rfl⟩
     rw [← hy] at X0
     have HY:=zh hy
     obtain⟨V,hV⟩:∃ V,V=(wcells x.2.1).toArray:=⟨_,rfl⟩
     rw [← hV]
     clear hX hX0 hy hV
     by_cases hx:y=at_
     ·gi_wp2_with (first
       | (refine wpin_load_to (w':=W) (.tmp 33) 94 rfl rfl ?_ rfl hld ?_;(exact rfl))
       | (refine wpin_store_at (.tmp 4) (.tmp 34) 94 rfl rfl rfl rfl hst ?_;refine Halt.in ?_))
      refine Halt.out ?_
      clear hst hld C4 C5 Y X0
      have H3:=(hoth2 (w.heap.size+1+1+1) (by omega)).trans F.g3
      have C5:=cR W2 _ 0 _ _ _ H3
      have Y:=zF H3
      gi_wp2
      refine⟨?_,⟨rfl,pre,x,rfl,hp,HY.out.symm.trans hx,?_,?_⟩,?_⟩
      ·exact (hK2.trans (KeepsOthers.setCell _ _ _)).from _
      ·rw [setFar (by omega),← HX.out];exact hn2
      ·exact setCell_one H3 _
      ·exact (hbW.trans (hB2.mono (by omega))).setCell (p:=⟨w.heap.size+1+1+1,0,none⟩) (show w.heap.size≤w.heap.size+1+1+1 by omega) _
     ·gi_wp2
      exact⟨KeepsFrom.refl _ _,Below.refl _ _,fun p hp'=>(List.mem_append.1 hp').elim (hp p) (fun e=>by simp at e;subst e;rw [← HY.out];exact hx),hB⟩
    case done =>
     rintro D xs W hD rfl ⟨hp,hB⟩ hK
     have F:=F.below hB hbb8
     have hbW:=hbb.trans (hB.mono hbb.size)
     have C0:=cR W _ 0 _ _ _ F.g0
     have C4:=cR W _ 0 _ _ _ F.g1
     have C5:=cR W _ 0 _ _ _ F.g3
     have Y:=zF F.g3
     obtain⟨m,hm,hmlt⟩:∃ m:Nat,at_=(m:Int)∧m<d.secs.length:=by
      have:=HTT.out
      simp only [thereB,Bool.and_eq_true,decide_eq_true_eq] at this
      exact⟨at_.toNat,by omega,by omega⟩
     have hfs:=F.s
     obtain⟨h64s,_,a,cap,hv,hnc,hcap,hcells⟩:=hfs
     obtain⟨b,off,rfl,hBb,hc⟩:=hcells (by omega)
     unfold maxLen at hcap
     cases hv
     have hat:=flat_at u8s 64 d.secs (fun x hx=>by rw [zL,h64s x hx]) m d.secs[m] (List.getElem?_eq_getElem hmlt)
     obtain⟨i44,hi44,hs44⟩:=info44
     have hld:=run_load_big (P:=Tryz.prog) (t:=94) Tryz.underlying94 (.inl ⟨_,_,rfl⟩) hi44 (w:=W) (b:=b) (off:=off+m*64) (cs:=u8s d.secs[m]) hs44 (by rw [zL,h64s _ (List.getElem_mem hmlt)])
      (fun j u hj=>by rw [Nat.add_assoc];exact hc _ _ (hat j u hj))
     obtain⟨X,hX⟩:∃ X,X=(u8s d.secs[m]).toArray:=⟨_,rfl⟩
     rw [← hX] at hld
     have hXs:X.size=64:=by rw [hX];simp [zL,h64s _ (List.getElem_mem hmlt)]
     obtain⟨W2,hst,hn2,hB2,_,hoth2,hK2⟩:=store64 F.g2 hZs X hXs (by rw [hX];exact oneCell_u8s _)
     have HX:=zh hX
     have HM:=zh hm
     rw [hm] at C4
     clear hX hat hc hcells hm
     gi_wp2_with (first
      | (refine wpin_load_to (w':=W) (.tmp 38) 94 rfl rfl ?_ rfl hld ?_;(exact rfl))
      | (refine wpin_store_at (.tmp 4) (.tmp 39) 94 rfl rfl rfl rfl hst ?_;refine Halt.in ?_))
     refine Halt.out ?_
     clear hst hld C0 C4 C5 Y
     have H3:=(hoth2 (w.heap.size+1+1+1) (by omega)).trans F.g3
     have C5:=cR W2 _ 0 _ _ _ H3
     have Y:=zF H3
     gi_wp2
     have hK':=(hK2.trans (KeepsOthers.setCell _ ⟨w.heap.size+1+1+1,0,none⟩ (.int .i64 0))).same D _ hK rfl
     have hDl:w.heap.size≤D:=by omega
     have e2:(W2.setCell ⟨w.heap.size+1+1+1,0,none⟩ (.int .i64 0)).heap[w.heap.size+1+1]?=some (.cells X 94 (0,0)):=(setFar (by omega) 0 _).trans hn2
     refine retD hK' (results_cc rfl _ _ (w.heap.size+1+1) (w.heap.size+1+1+1) X 0 rfl ?_ rfl ?_ hXs) ?_
     ·exact (grownBy_keeps_cells (grownBy_putObj' _ D (.deferred none)) (fun r e=>by cases e;exact⟨_,hK',rfl⟩) e2 rfl).trans e2
     ·exact (grownBy_keeps_cells (grownBy_putObj' _ D (.deferred none)) (fun r e=>by cases e;exact⟨_,hK',rfl⟩) (setCell_one H3 _) rfl).trans (setCell_one H3 _)
     ·refine⟨?_,((hbW.trans (hB2.mono (by omega))).setCell (p:=⟨w.heap.size+1+1+1,0,none⟩) (show w.heap.size≤w.heap.size+1+1+1 by omega) _).trans (belowK_b (w:=w) (Nat.le_refl _) _ D _ _ hDl hK' rfl rfl)⟩
      rw [HP.out,lastW_upto_none F.l.1 hp,HM.out,HX.out]
      simp [hmlt]
    case stop =>
     rintro D c pre W hD ⟨k,hk,rfl⟩ ⟨⟨rfl,ini,last,e1,e2,e3,h2,h3⟩,hB⟩ hK
     gi_wp2
     refine retD hK (results_cc rfl _ _ (w.heap.size+1+1) (w.heap.size+1+1+1) (u8s last.2.1.data).toArray 0 rfl ?_ rfl ?_ (by simp [zL,last.2.2])) ?_
     ·exact (grownBy_keeps_cells (grownBy_putObj' _ D (.deferred none)) (fun r e=>by cases e;exact⟨_,hK,rfl⟩) h2 rfl).trans h2
     ·exact (grownBy_keeps_cells (grownBy_putObj' _ D (.deferred none)) (fun r e=>by cases e;exact⟨_,hK,rfl⟩) h3 rfl).trans h3
     ·refine⟨?_,hB.trans (belowK_b (w:=w) (Nat.le_refl _) _ D _ _ (by omega) hK rfl rfl)⟩
      rw [HP.out,lastW_upto_at F.l.1 hk e1 e2 e3]
end
section
namespace SumP
def toI (x:BitVec 32):Int:=x.toNat
theorem toI_lo (x:BitVec 32):0≤toI x:=by unfold toI;omega
theorem toI_hi (x:BitVec 32):toI x<4294967296:=by have:=x.isLt;unfold toI;omega
theorem ofInt_toI (a:BitVec 32):BitVec.ofInt 32 (toI a)=a:=by
 apply BitVec.eq_of_toNat_eq
 simp [toI]
theorem wrap_toI (a:BitVec 32):IntKind.u32.wrap (a.toNat:Int)=toI a:=by
 have h:=a.isLt
 simp only [IntKind.wrap,IntKind.bits,IntKind.signed,toI]
 simp
 omega
theorem bits_xor (a b:BitVec 32):bits .xor .u32 (toI a) (toI b)=toI (a ^^^ b):=by
 simp only [bits,IntKind.bits,ofInt_toI]
 exact wrap_toI _
theorem bits_and (a b:BitVec 32):bits .and .u32 (toI a) (toI b)=toI (a &&& b):=by
 simp only [bits,IntKind.bits,ofInt_toI]
 exact wrap_toI _
theorem not_eq (a:BitVec 32):bits .xor .u32 IntKind.u32.max (toI a)=toI (~~~ a):=by
 have h:IntKind.u32.max=toI (BitVec.allOnes 32):=by decide
 rw [h,bits_xor,BitVec.allOnes_xor]
theorem shr4 (a:BitVec 32):toI a / (16:Int)=toI (a >>> 4):=by
 unfold toI;rw [BitVec.toNat_ushiftRight,Nat.shiftRight_eq_div_pow];omega
theorem shr1 (a:BitVec 32):toI a / (2:Int)=toI (a >>> 1):=by
 unfold toI;rw [BitVec.toNat_ushiftRight,Nat.shiftRight_eq_div_pow];omega
def tabL:List (BitVec 32):=[0x00000000#32,0x1db71064#32,0x3b6e20c8#32,0x26d930ac#32,0x76dc4190#32,0x6b6b51f4#32,0x4db26158#32,0x5005713c#32,
 0xedb88320#32,0xf00f9344#32,0xd6d6a3e8#32,0xcb61b38c#32,0x9b64c2b0#32,0x86d3d2d4#32,0xa00ae278#32,0xbdbdf21c#32]
def tab (x:BitVec 32):BitVec 32:=tabL.getD x.toNat 0#32
def half (s:BitVec 32):BitVec 32:=(s >>> 4) ^^^ tab (s &&& 15#32)
def byte (b:UInt8):BitVec 32:=b.toBitVec.setWidth 32
theorem byte_toNat (b:UInt8):(byte b).toNat=b.toNat:=by
 have h:=b.toNat_lt
 simp [byte]
def step1 (s:BitVec 32) (b:UInt8):BitVec 32:=half (half (s ^^^ byte b))
def more (s:BitVec 32) (bs:List UInt8):BitVec 32 := ~~~ (bs.foldl step1 (~~~ s))
def sum (bs:List UInt8):BitVec 32:=more 0#32 bs
def bit (s:BitVec 32):BitVec 32:=(s >>> 1) ^^^ (if s.getLsbD 0=true then 0xedb88320#32 else 0#32)
def bitN:Nat→BitVec 32→BitVec 32
 | 0,s=>s
 | n+1,s=>bitN n (bit s)
theorem bit_xor (a b:BitVec 32):bit (a ^^^ b)=bit a ^^^ bit b:=by
 unfold bit
 rw [BitVec.ushiftRight_xor_distrib,BitVec.getLsbD_xor]
 generalize a >>> 1=x
 generalize b >>> 1=y
 generalize (0xedb88320#32)=p
 have e1:x ^^^ y ^^^ p=x ^^^ (y ^^^ p):=BitVec.xor_assoc _ _ _
 have e2:x ^^^ y ^^^ p=x ^^^ p ^^^ y:=by rw [BitVec.xor_assoc,BitVec.xor_comm y p,← BitVec.xor_assoc]
 have e3:x ^^^ y=x ^^^ p ^^^ (y ^^^ p):=by
  rw [BitVec.xor_comm y p,← BitVec.xor_assoc,BitVec.xor_assoc x p p,BitVec.xor_self,BitVec.xor_zero]
 cases a.getLsbD 0 <;> cases b.getLsbD 0
 ·simp
 ·simpa using e1
 ·simpa using e2
 ·simpa using e3
theorem bitN_xor (n:Nat):∀ a b:BitVec 32,bitN n (a ^^^ b)=bitN n a ^^^ bitN n b:=by
 induction n with
 | zero=>intro a b;rfl
 | succ n ih=>intro a b;simp only [bitN,bit_xor,ih]
theorem bit_even (a:BitVec 32) (h:a.getLsbD 0=false):bit a=a >>> 1:=by
 unfold bit;rw [h];simp
theorem high4 (a:BitVec 32) (h:∀ i,i<4→a.getLsbD i=false):bitN 4 a=a >>> 4:=by
 have e:∀ i,i<4→(a >>> i).getLsbD 0=false:=fun i hi=>by
  rw [BitVec.getLsbD_ushiftRight];simpa using h i hi
 have e0:bit a=a >>> 1:=bit_even a (by simpa using e 0 (by omega))
 have e1:bit (a >>> 1)=a >>> 2:=by rw [bit_even _ (e 1 (by omega)),← BitVec.shiftRight_add]
 have e2:bit (a >>> 2)=a >>> 3:=by rw [bit_even _ (e 2 (by omega)),← BitVec.shiftRight_add]
 have e3:bit (a >>> 3)=a >>> 4:=by rw [bit_even _ (e 3 (by omega)),← BitVec.shiftRight_add]
 simp only [bitN,e0,e1,e2,e3]
theorem low4:∀ k:Fin 16,bitN 4 (BitVec.ofNat 32 k.val)=tab (BitVec.ofNat 32 k.val):=by decide
theorem split (s:BitVec 32):s=(s &&& ~~~ 15#32) ^^^ (s &&& 15#32):=by
 apply BitVec.eq_of_getLsbD_eq
 intro i hi
 simp only [BitVec.getLsbD_xor,BitVec.getLsbD_and,BitVec.getLsbD_not,hi,decide_true,Bool.true_and]
 cases s.getLsbD i <;> cases (15#32).getLsbD i <;> rfl
theorem and15_lt (s:BitVec 32):(s &&& 15#32).toNat<16:=by
 rw [BitVec.toNat_and]
 exact Nat.lt_of_le_of_lt Nat.and_le_right (by decide)
theorem half_eq (s:BitVec 32):half s=bitN 4 s:=by
 have hl:(s &&& 15#32)=BitVec.ofNat 32 (s &&& 15#32).toNat:=by simp
 have h1:bitN 4 (s &&& 15#32)=tab (s &&& 15#32):=by
  rw [hl];exact low4 ⟨_,and15_lt s⟩
 have h2:bitN 4 (s &&& ~~~ 15#32)=(s &&& ~~~ 15#32) >>> 4:=by
  apply high4
  intro i hi
  have hb:(15#32).getLsbD i=true:=by
   have:i=0∨i=1∨i=2∨i=3:=by omega
   rcases this with rfl | rfl | rfl | rfl <;> decide
  rw [BitVec.getLsbD_and,BitVec.getLsbD_not,hb];simp
 have h3:(s &&& ~~~ 15#32) >>> 4=s >>> 4:=by
  apply BitVec.eq_of_getLsbD_eq
  intro i hi
  rw [BitVec.getLsbD_ushiftRight,BitVec.getLsbD_ushiftRight,BitVec.getLsbD_and,BitVec.getLsbD_not]
  by_cases h:4+i<32
  ·have hb:(15#32).getLsbD (4+i)=false:=by
    have:∀ j:Fin 28,(15#32).getLsbD (4+j.val)=false:=by decide
    exact this ⟨i,by omega⟩
   rw [hb];simp [h]
  ·rw [BitVec.getLsbD_of_ge s _ (by omega)];simp
 conv=>rhs;rw [split s]
 rw [bitN_xor,h1,h2,h3];rfl
theorem bitN_add (m n:Nat):∀ s,bitN n (bitN m s)=bitN (m+n) s:=by
 induction m with
 | zero=>intro s;simp [bitN]
 | succ m ih=>intro s;rw [Nat.add_right_comm];simp only [bitN];exact ih _
theorem step1_eq (s:BitVec 32) (b:UInt8):step1 s b=bitN 8 (s ^^^ byte b):=by
 unfold step1;rw [half_eq,half_eq,bitN_add]
end SumP
end
end Go.Proofs.YtaijompnohkmaaaGreatDoor
