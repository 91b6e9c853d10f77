/- Layer 1 (sector): settle. -/
import Derived.Test.YtaijompnohkmaaaGreatDoorCB
import Derived.RangeFuncNested
import Derived.RangeFuncBound
import Derived.RangeFuncCalls
import Derived.RangeFuncLeaves
import Derived.RangeFuncBox
import Derived.Shelf.Abstract
import Derived.Shelf.RegionOpen
import Derived.WalkKit
import Derived.OwnWalkIn
import Derived.TacticsInMore
import Derived.LoopNIn
import Derived.LoopIn
import Derived.Deep.RegionHeld3
import Derived.Laws.CopyOwn
set_option linter.unusedSimpArgs false
set_option linter.unusedVariables false
namespace Go.Proofs.YtaijompnohkmaaaGreatDoor
section
open Go.RowKit
theorem wp_alloc_to {P:Program} {ops:Array Oper} {rest:List Oper} {o:Oper} {a:Act} {w:World} {Q:Exit→Act→World→Prop} (t:TypeId) (hgd:o.guard=none) (ho:o.op = .alloc t) {z:Value} {w':World} (hz:(zeroValue t).run P w = .ok z w) (hw:w'=w.alloc (.cells z.cells t))
  (h:wpList P ops Q rest (a.put o.dst (.pointer (some ⟨w.heap.size,0,none⟩))) w'):wpList P ops Q (o :: rest) a w:=by
 subst hw
 exact wp_alloc_at t hgd ho hz h
theorem there_of_right {d:DiskP} (h:rightB d=true) (k:Nat) (hk:k<d.loose.length):∃ m:Nat,d.loose[k].at_=(m:Int)∧m<d.secs.length:=by
 simp only [rightB,Bool.and_eq_true,Bool.not_eq_true',badAt,List.any_eq_false] at h
 have:=h.2 d.loose[k] (List.getElem_mem hk)
 simp only [Bool.not_eq_true',Bool.not_eq_false,thereB,Bool.and_eq_true,decide_eq_true_eq] at this
 refine⟨d.loose[k].at_.toNat,by omega,by omega⟩
set_option maxRecDepth 100000 in
set_option maxHeartbeats 2000000 in
theorem settle_any {B:Nat} (v:Value) (d:DiskP) (st:Nat→Bool) (fn:Nat) (caps:Array Value) (w:World) (h:DiskV B w v d) (hr:rightB d=true)
  (hcf:∀ args w,(callFunc fn args).run Tryz.prog w = .ok (.enter fn args) w) (K:∀ (k:Nat) (w':World),k<d.loose.length→Below w.heap.size w w'→Calls Tryz.prog fn (#[.int .i64 k]++caps) w' fun e w''=>e = .returned (.bool (st k))∧Below w'.heap.size w' w'') :
  Calls Tryz.prog 158 #[v,.func (.func fn) #[] caps] w fun e w'=>(∃ sv,e = .returned (.agg #[sv,.slice none 0 0,.int .i64 d.fuse,.bool d.down])∧SecsO w.heap.size w' sv (settleN d.secs d.loose st d.loose.length))∧Below w.heap.size w w':=by
 obtain⟨a1,n1,a2,n2,rfl,hs,hl⟩:=h.tight.parts
 clear h
 have HR:=zh hr
 have F:=Fr2.new (w:=w) hs hl
 obtain⟨w2,hw2⟩:∃ w2,w2=(w.alloc (.cells #[.slice a1 d.secs.length n1,.slice a2 d.loose.length n2,.int .i64 d.fuse,.bool d.down] 38)).alloc (.cells #[.slice none 0 0,.slice none 0 0,.int .i64 0,.bool false] 38):=⟨_,rfl⟩
 have hb2:Below w.heap.size w w2:=by rw [hw2];exact Below.alloc (Below.alloc (Below.refl _ _) (Nat.le_refl _) _) (by simp) _
 have hle:w.heap.size+2≤w2.heap.size:=by rw [hw2];simp
 rw [← hw2] at F
 clear hs
 have C0:=cR w2 _ 0 _ _ _ F.g0
 have hsl:d.secs.length≤2^40:=by simp only [rightB,Bool.and_eq_true,decide_eq_true_eq] at hr;omega
 have k1:=clone64_any _ d.secs w2 F.s hsl
 clear hr hsl
 go_enter Tryz.func158,Tryz.ntmps158
 go_wp2_with fail
 rw [← hw2]
 clear hw2
 go_wp2_with fail
 refine k1.mono ?_
 rintro e w3 ⟨sv,rfl,ho3,hb3⟩
 obtain⟨b1,m1,rfl⟩:=ho3.form
 have F:=F.below hb3 (by omega) (by omega)
 have hbb:=hb2.trans (hb3.mono hb2.size)
 clear k1 C0
 have C1:=cR w3 _ 1 _ _ _ F.g0
 have hcap2:=hl.2
 obtain⟨_,_,_,hv,_,hcap2,_⟩:=hcap2
 cases hv
 unfold maxLen at hcap2
 go_wp2_with fail
 obtain⟨i0,z0,hi,hz0,hz1,hz2,hz3⟩:=zero_parts infoz_write
 obtain⟨i1,z1,hi1,_,hs1,_,_⟩:=zero_parts infoz_sector
 have ho3:=ho3.lower hle
 have hle3:=Nat.le_trans hle hb3.size
 have hb03:=hbb
 have HT:=zh (fun k hk=>there_of_right HR.out k hk)
 have Hl:=zh hl
 clear hb3 hb2 hcap2
 go_loopw [14] (fun i wr=>∃ k:Nat,k≤d.loose.length∧i = .int .i64 k∧SecsO (w.heap.size+2) wr (.slice b1 d.secs.length m1) (settleN d.secs d.loose st k)∧Fr2 w.heap.size w.heap.size wr (.slice a1 d.secs.length n1) (.slice a2 d.loose.length n2) d∧Below w.heap.size w wr∧w.heap.size+2≤wr.heap.size) (fun i _=>d.loose.length-(intOf i).toNat)
 case atStart=>exact⟨0,Nat.zero_le _,rfl,ho3,F,hbb,hle3⟩
 case round =>
  obtain⟨k,hk,rfl,ho,F,hb,hszr⟩:=hrel
  clear ho3 hle3 hbb C1
  by_cases hlt:k<d.loose.length
  ·obtain⟨hls,_,a,cap,hv,hnc,hcap,hcells⟩:=hl
   cases hv
   unfold maxLen at hcap
   obtain⟨b,off,rfl,hBb,hc⟩:=hcells (by omega)
   have hat:=flat_at wcells 65 d.loose (fun x hx=>by rw [length_wcells,hls x hx]) k d.loose[k] (List.getElem?_eq_getElem hlt)
   have hld:=run_load_big (P:=Tryz.prog) (t:=96) Tryz.underlying96 (.inr ⟨_,rfl⟩) hi (w:=wr) (b:=b) (off:=off+k*65) (cs:=wcells d.loose[k]) hz1 (by rw [length_wcells,hls _ (List.getElem_mem hlt)])
    (fun j u hj=>by rw [Nat.add_assoc];exact (hb.cell (p:=⟨b,off+(k*65+j),none⟩) hBb).trans (hc _ _ (hat j u hj)))
   obtain⟨x,hx⟩:∃ x,x=d.loose[k]:=⟨_,rfl⟩
   rw [← hx] at hld
   have hxl:x.data.length=64:=by rw [hx];exact hls _ (List.getElem_mem hlt)
   obtain⟨m,hm,hmlt⟩:=HT.out k hlt
   rw [← hx] at hm
   have hset:settleN d.secs d.loose st (k+1)=if st k then (settleN d.secs d.loose st k).set m x.data else settleN d.secs d.loose st k:=by
    show (match d.loose[k]? with | some x=>_ | none=>_)=_
    rw [List.getElem?_eq_getElem hlt,← hx]
    simp only [hm,Int.toNat_natCast]
   have HS:=zh hset
   have HX:=zh hx
   clear hset hx hat hc hcells
   have hzr:(zeroValue 96).run Tryz.prog wr = .ok z0 wr:=by simp [zeroValue,typeInfo,hi,hz0]
   obtain⟨w4,hw4⟩:∃ w4,w4=wr.alloc (.cells z0.cells 96):=⟨_,rfl⟩
   have hn4:w4.heap[wr.heap.size]?=some (.cells z0.cells 96 (0,0)):=by rw [hw4];exact heap_alloc_new wr _
   have hb4:Below wr.heap.size wr w4:=by rw [hw4];exact Below.alloc (Below.refl _ _) (Nat.le_refl _) _
   have hst:=run_store_big (P:=Tryz.prog) (t:=96) hi (off:=0) (cs:=wcells x) hn4 (by rw [hz1,length_wcells,hxl]) (by rw [length_wcells,hxl,hz3];decide) (oneCell_w x)
   have hcells5:(z0.cells.toList.take 0++wcells x++z0.cells.toList.drop (0+(wcells x).length)).toArray=(wcells x).toArray:=by
    rw [List.drop_eq_nil_of_le (by simp [length_wcells,hxl,hz3])];simp
   rw [hcells5] at hst
   obtain⟨w5,hw5⟩:∃ w5,w5=w4.setRow wr.heap.size (wcells x).toArray:=⟨_,rfl⟩
   have hn5:w5.heap[wr.heap.size]?=some (.cells (wcells x).toArray 96 (0,0)):=by rw [hw5];exact setRow_heap w4 _ _ _ _ _ hn4
   have hb5:Below wr.heap.size w4 w5:=by rw [hw5];exact⟨rfl,rfl,rfl,by simp [World.setRow],fun j hj=>setRow_other w4 _ j _ (by omega)⟩
   have hb5:=hb4.trans hb5
   have hs5:wr.heap.size+1≤w5.heap.size:=by have:=zB hn5;omega
   rw [← hw5] at hst
   clear hn4 hb4 hcells5 hw5
   obtain⟨X,hX⟩:∃ X,X=(wcells x).toArray:=⟨_,rfl⟩
   rw [← hX] at hst hld hn5
   have HXX:=zh hX
   clear hX
   go_wp2_with (refine wp_load_at (.tmp 17) 96 rfl rfl rfl hld ?_;refine Halt.in ?_)
   refine Halt.out ?_
   refine wp_alloc_to 96 rfl rfl hzr hw4 ?_
   clear hld hzr hw4
   go_wp2_with (refine wp_store_at (.tmp 7) (.tmp 18) 96 rfl rfl rfl rfl hst ?_;refine Halt.in ?_)
   refine Halt.out ?_
   clear hst
   have ho5:=ho.keep hb5 (Nat.le_refl _)
   have F5:=F.below hb5 (by omega) (by omega)
   have hb05:=hb.trans (hb5.mono hb.size)
   have k1:=K k w5 hlt hb05
   clear ho F hb hb5
   go_wp2_with fail
   refine k1.mono ?_
   rintro e w6 ⟨rfl,hb6⟩
   have ho6:=ho5.keep hb6 (Nat.le_refl _)
   have F6:=F5.below hb6 (by omega) (by omega)
   have hn6:=(hb6.block _ (by omega)).trans hn5
   have hb06:=hb05.trans (hb6.mono hb05.size)
   have hs6:=Nat.le_trans hs5 hb6.size
   clear k1 ho5 F5 hn5 hb05 hb6 hs5
   obtain⟨q,hq⟩:∃ q,q=st k:=⟨_,rfl⟩
   rw [← hq]
   have HQ:=zh hq
   clear hq
   cases q with
   | false =>
    go_wp2_with fail
    go_roundw
    case rel =>
     refine⟨k+1,by omega,by go_num,?_,F6,hb06,by omega⟩
     rw [HS.out,← HQ.out]
     exact ho6
    case measure=>simp [intOf];omega
   | true =>
    have hXx:X=(Value.int .i64 (m:Int) :: u8s x.data).toArray:=by rw [HXX.out,wcells,hm]
    have C0:w6.cell? ⟨wr.heap.size,0,none⟩=some (.int .i64 (m:Int)):=by rw [cR w6 _ 0 _ _ _ hn6,hXx];rfl
    have hld:=run_load_big (P:=Tryz.prog) (t:=94) Tryz.underlying94 (.inl ⟨_,_,rfl⟩) hi1 (w:=w6) (b:=wr.heap.size) (off:=1) (cs:=u8s x.data) hs1 (by rw [zL,hxl])
     (fun j u hj=>by rw [cR w6 _ _ _ _ _ hn6,hXx];simpa [Nat.add_comm 1 j] using hj)
    obtain⟨g,rfl,hgB,hgw,w7,hst7,ho7,hb7,hsz7,_⟩:=ho6.lay (P:=Tryz.prog) m x.data (by rw [length_settleN];exact hmlt) hxl hi1 hs1
    have F7:=F6.below hb7 (by omega) (by omega)
    have hb07:=hb06.trans (hb7.mono (by omega))
    obtain⟨Y,hY⟩:∃ Y,Y=(u8s x.data).toArray:=⟨_,rfl⟩
    rw [← hY] at hld hst7
    clear hn6 hXx F6 ho6 hb06 hb7 hY
    go_wp2_with (refine wp_load_at (.tmp 25) 94 rfl rfl rfl hld ?_;refine Halt.in ?_)
    refine Halt.out ?_
    clear hld C0
    go_wp2_with (refine wp_store_at (.tmp 27) (.tmp 26) 94 rfl rfl rfl rfl hst7 ?_;refine Halt.in ?_)
    refine Halt.out ?_
    clear hst7
    go_wp2_with fail
    go_roundw
    case rel =>
     refine⟨k+1,by omega,by go_num,?_,F7,hb07,by omega⟩
     rw [HS.out,← HQ.out]
     exact ho7
    case measure=>simp [intOf];omega
  ·obtain rfl:k=d.loose.length:=by omega
   have C0:=cR wr _ 0 _ _ _ F.g0
   have C1:=cR wr _ 1 _ _ _ F.g0
   have C2:=cR wr _ 2 _ _ _ F.g0
   have C3:=cR wr _ 3 _ _ _ F.g0
   have D0:=cR wr _ 0 _ _ _ F.g2
   have D1:=cR wr _ 1 _ _ _ F.g2
   have D2:=cR wr _ 2 _ _ _ F.g2
   have D3:=cR wr _ 3 _ _ _ F.g2
   have Y:=zF F.g0
   have Z:=zF F.g2
   go_wp2_with fail
   have hB0:w.heap.size<w.heap.size+2:=by omega
   have hB1:w.heap.size+1<w.heap.size+2:=by omega
   have hne:w.heap.size≠w.heap.size+1:=by omega
   have G2:((wr.setCell ⟨w.heap.size,0,none⟩ (.slice b1 d.secs.length m1)).setCell ⟨w.heap.size,1,none⟩ (.slice none 0 0)).heap[w.heap.size+1]?=_:=((setFar hne 1 _).trans (setFar hne 0 _)).trans F.g2
   refine bodyPost_ret (results_cell_row rfl _ _ (w.heap.size+1) _ _ _ _ rfl (put4_heap G2 _ _ _ _) Tryz.underlying38 rfl zQ) rfl ?_
   exact⟨⟨_,rfl,(put4_secs ((ho.setOther _ _ hB0).setOther _ _ hB0) hB1 _ _ _ _).lower (by omega)⟩,put4_below ((hb.setCell (p:=⟨w.heap.size,0,none⟩) (Nat.le_refl _) _).setCell (p:=⟨w.heap.size,1,none⟩) (Nat.le_refl _) _) (by omega) _ _ _ _⟩
end
section
open Go.RowKit
theorem callFunc_run {P : Program} {f : FuncId} {fn : Func} (hf : P.funcs[f]? = some fn) (hn : (fn.name == "runtime.NumGoroutine") = false) (hb : fn.body.isNone = false) (args : Array Value) (w : World) : (callFunc f args).run P w = .ok (.enter f args) w := by
 have hn' : fn.name ≠ "runtime.NumGoroutine" := by simpa using hn
 have hb':fn.body≠none:=by intro h;simp [h] at hb
 simp [callFunc,hf,hn',hb']
theorem cf_flush:∀ args w,(callFunc 159 args).run Tryz.prog w = .ok (.enter 159 args) w:=fun args w=>callFunc_run Tryz.func159 rfl rfl args w
theorem flush1_any (k:Int) (w:World):Calls Tryz.prog 159 (#[.int .i64 k]++#[]) w fun e w'=>e = .returned (.bool true)∧Below w.heap.size w w':=by
 go_enter Tryz.func159,Tryz.ntmps159
 go_wp2_with fail
 go_ret
 exact⟨rfl,Below.refl _ _⟩
def stay (m:Int) (k:Nat):Bool:=bits BinOp.and IntKind.u64 (m / 2^(k%64)) 1 == 1
def flushP (d:DiskP):DiskP×Int :=
 if rightB d then (if downP d then ({ d with fuse:=burnF d,down:=true },9) else (⟨settleN d.secs d.loose (fun _=>true) d.loose.length,[],burnF d,false⟩,0)) else (d,1)
set_option maxRecDepth 100000 in
set_option maxHeartbeats 1000000 in
theorem flush_any {B:Nat} (v:Value) (d:DiskP) (w:World) (h:DiskV B w v d) (S:Nat→Prop) (hS:DSl S v) (hF:∀ b,w.heap.size≤b→S b) :
  Calls Tryz.prog 144 #[v] w fun e w'=>(∃ v',e = .returned (.tuple #[v',.int .i64 (flushP d).2])∧DiskV w'.heap.size w' v' (flushP d).1∧DSl S v')∧Below w.heap.size w w':=by
 obtain⟨a1,n1,a2,n2,rfl,hs,hl⟩:=h.tight.parts
 have HSl:=zh (hS _ _ _ _ rfl)
 have HFr:=zh hF
 clear h hS hF
 have F:=Fr2.new (w:=w) hs hl
 obtain⟨w2,hw2⟩:∃ w2,w2=(w.alloc (.cells #[.slice a1 d.secs.length n1,.slice a2 d.loose.length n2,.int .i64 d.fuse,.bool d.down] 38)).alloc (.cells #[.slice none 0 0,.slice none 0 0,.int .i64 0,.bool false] 38):=⟨_,rfl⟩
 have hb2:Below w.heap.size w w2:=by rw [hw2];exact Below.alloc (Below.alloc (Below.refl _ _) (Nat.le_refl _) _) (by simp) _
 have hle:w.heap.size+2≤w2.heap.size:=by rw [hw2];simp
 rw [← hw2] at F
 clear hs hl
 have k1:=right_any _ d w2 F.diskV
 have H3:w.heap.size≤w.heap.size+1:=by omega
 have C0:=cR w2 _ 0 _ _ _ F.g0
 have C1:=cR w2 _ 1 _ _ _ F.g0
 have C2:=cR w2 _ 2 _ _ _ F.g0
 have C3:=cR w2 _ 3 _ _ _ F.g0
 obtain⟨R,hR⟩:∃ R,R=rightB d:=⟨_,rfl⟩
 rw [← hR] at k1
 have HR:=zh hR
 clear hR
 go_enter Tryz.func144,Tryz.ntmps144
 go_wp2_with fail
 rw [← hw2]
 clear hw2
 go_wp2_with fail
 refine k1.mono ?_
 rintro e w3 ⟨rfl,hb3⟩
 have F:=F.below hb3 (by omega) (by omega)
 have hbb:=hb2.trans (hb3.mono hb2.size)
 have hle:=Nat.le_trans hle hb3.size
 clear k1 C0 C1 C2 C3 hb2 hb3
 have C0:=cR w3 _ 0 _ _ _ F.g0
 have C1:=cR w3 _ 1 _ _ _ F.g0
 have C2:=cR w3 _ 2 _ _ _ F.g0
 have C3:=cR w3 _ 3 _ _ _ F.g0
 have D0:=cR w3 _ 0 _ _ _ F.g2
 have D1:=cR w3 _ 1 _ _ _ F.g2
 have D2:=cR w3 _ 2 _ _ _ F.g2
 have D3:=cR w3 _ 3 _ _ _ F.g2
 have Y:=zF F.g0
 have Z:=zF F.g2
 cases R with
 | false =>
  have hP:flushP d=(d,1):=by simp [flushP,← HR.out]
  have HP:=zh hP
  clear hP
  go_wp2_with fail
  refine bodyPost_ret (results_ct rfl _ _ (w.heap.size+1) _ _ _ _ rfl (put4_heap F.g2 _ _ _ _) Tryz.underlying38 rfl zQ) rfl ?_
  rw [HP.out]
  exact⟨⟨_,rfl,DiskV.tight ⟨_,_,rfl,put4_secsV F.s H3 _ _ _ _,put4_looseV F.l H3 _ _ _ _⟩,DSl.mk HSl.out.1 HSl.out.2⟩,put4_below hbb H3 _ _ _ _⟩
 | true =>
  have hR:=HR.out.symm
  have k1:=burn_any _ d w3 F.diskV hR
  cases hD:downP d with
  | true =>
   have hP:flushP d=({ d with fuse:=burnF d,down:=true },9):=by simp [flushP,hR,hD]
   have hE:burnE d=9:=by simp [burnE,hD]
   rw [hD,hE] at k1
   have HP:=zh hP
   clear hP hR hD hE
   go_wp2_with fail
   refine k1.mono ?_
   rintro e w5 ⟨⟨sv,lv,rfl,C,hC,ho5,r5,hl5⟩,hb5⟩
   obtain⟨C,hC,hC5,r5,hl5⟩:=normC hC ho5 r5 hl5 hb5.size
   obtain⟨b1,m1,rfl⟩:=ho5.form
   obtain⟨b2,m2,rfl⟩:=hl5.form
   have F:=F.below hb5 (by omega) (by omega)
   have hbb:=hbb.trans (hb5.mono hbb.size)
   clear k1 hb5 C0 C1 C2 C3 D0 D1 D2 D3 Y Z
   have C0:=cR w5 _ 0 _ _ _ F.g0
   have C1:=cR w5 _ 1 _ _ _ F.g0
   have C2:=cR w5 _ 2 _ _ _ F.g0
   have C3:=cR w5 _ 3 _ _ _ F.g0
   have D0:=cR w5 _ 0 _ _ _ F.g2
   have D1:=cR w5 _ 1 _ _ _ F.g2
   have D2:=cR w5 _ 2 _ _ _ F.g2
   have D3:=cR w5 _ 3 _ _ _ F.g2
   have Y:=zF F.g0
   have Z:=zF F.g2
   go_wp2_with fail
   have hg:w.heap.size<C:=by omega
   have hg3:w.heap.size<w3.heap.size:=by omega
   have hg1:w.heap.size+1<C:=by omega
   have hg13:w.heap.size+1<w3.heap.size:=by omega
   refine bodyPost_ret (results_ct rfl _ _ (w.heap.size+1) _ _ _ _ rfl (put4_heap (w:=put4 w5 w.heap.size _ _ _ _) (put4_far F.g2 (by omega) _ _ _ _) _ _ _ _) Tryz.underlying38 rfl zQ) rfl ?_
   rw [HP.out]
   exact⟨⟨_,rfl,⟨_,_,rfl,(put4_secs (put4_secs ho5 hg3 _ _ _ _) hg13 _ _ _ _).secs,(put4_loose (put4_loose hl5 hg _ _ _ _) hg1 _ _ _ _).loose⟩,DSl.mk (ho5.2.sl fun b hb=>HFr.out b (by omega)) (hl5.2.sl fun b hb=>HFr.out b (by omega))⟩,put4_below (put4_below hbb (Nat.le_refl _) _ _ _ _) H3 _ _ _ _⟩
  | false =>
   have hP:flushP d=(⟨settleN d.secs d.loose (fun _=>true) d.loose.length,[],burnF d,false⟩,0):=by simp [flushP,hR,hD]
   have hE:burnE d=0:=by simp [burnE,hD]
   rw [hD,hE] at k1
   have HP:=zh hP
   have hR2:rightB { d with fuse:=burnF d,down:=false }=true:=by
    simp only [rightB,fusedB,Bool.and_eq_true,decide_eq_true_eq] at hR ⊢
    refine⟨⟨⟨hR.1.1.1,hR.1.1.2⟩,?_⟩,hR.2⟩
    simp only [burnF,hD]
    split <;> omega
   clear hP hR hD hE
   go_wp2_with fail
   refine k1.mono ?_
   rintro e w5 ⟨⟨sv,lv,rfl,C,hC,ho5,r5,hl5⟩,hb5⟩
   obtain⟨C,hC,hC5,r5,hl5⟩:=normC hC ho5 r5 hl5 hb5.size
   obtain⟨b1,m1,rfl⟩:=ho5.form
   obtain⟨b2,m2,rfl⟩:=hl5.form
   have F:=F.below hb5 (by omega) (by omega)
   have hbb:=hbb.trans (hb5.mono hbb.size)
   have hg:w.heap.size<C:=by omega
   have hg3:w.heap.size<w3.heap.size:=by omega
   have hg1:w.heap.size+1<C:=by omega
   have hg13:w.heap.size+1<w3.heap.size:=by omega
   clear k1 C0 C1 C2 C3 D0 D1 D2 D3 Y Z
   have C0:=cR w5 _ 0 _ _ _ F.g0
   have C1:=cR w5 _ 1 _ _ _ F.g0
   have C2:=cR w5 _ 2 _ _ _ F.g0
   have C3:=cR w5 _ 3 _ _ _ F.g0
   have Y:=zF F.g0
   obtain⟨w6,hw6⟩:∃ w6,w6=put4 w5 w.heap.size (.slice b1 d.secs.length m1) (.slice b2 d.loose.length m2) (.int .i64 (burnF d)) (.bool false):=⟨_,rfl⟩
   have hb56:Below w.heap.size w5 w6:=by rw [hw6];exact put4_below (Below.refl _ _) (Nat.le_refl _) _ _ _ _
   have E2:w6.heap[w.heap.size+1]?=some (.cells #[.slice none 0 0,.slice none 0 0,.int .i64 0,.bool false] 38 (0,0)):=by rw [hw6];exact put4_far F.g2 (by omega) _ _ _ _
   have hsz6:w6.heap.size=w5.heap.size:=by rw [hw6];simp [put4]
   have hd6:DiskV w6.heap.size w6 (.agg #[.slice b1 d.secs.length m1,.slice b2 d.loose.length m2,.int .i64 (burnF d),.bool false]) { d with fuse:=burnF d,down:=false }:=by
    rw [hw6]
    exact⟨_,_,rfl,(put4_secs ho5 hg3 _ _ _ _).secs,(put4_loose hl5 hg _ _ _ _).loose⟩
   have k2:=settle_any _ { d with fuse:=burnF d,down:=false } (fun _=>true) 159 #[] w6 hd6 hR2 cf_flush (fun k w' _ _=>flush1_any k w')
   have E0:w6.heap[w.heap.size]?=some (.cells #[.slice b1 d.secs.length m1,.slice b2 d.loose.length m2,.int .i64 (burnF d),.bool false] 38 (0,0)):=by rw [hw6];exact put4_heap F.g0 _ _ _ _
   have hbb:=hbb.trans hb56
   clear hd6 hR2 F ho5 r5 hl5 hb56
   clear hb5
   unfold put4 at hw6
   go_wp2_with fail
   rw [← hw6]
   clear hw6
   refine k2.mono ?_
   rintro e w7 ⟨⟨sv,rfl,ho7⟩,hb7⟩
   obtain⟨b3,m3,rfl⟩:=ho7.form
   have G2:=(hb7.block _ (by omega)).trans E2
   have hg7:w.heap.size+1<w6.heap.size:=by omega
   have hbb:=hbb.trans (hb7.mono hbb.size)
   clear k2 C0 C1 C2 C3 Y hb7 E0 E2
   have D0:=cR w7 _ 0 _ _ _ G2
   have D1:=cR w7 _ 1 _ _ _ G2
   have D2:=cR w7 _ 2 _ _ _ G2
   have D3:=cR w7 _ 3 _ _ _ G2
   have Z:=zF G2
   go_wp2_with fail
   refine bodyPost_ret (results_ct rfl _ _ (w.heap.size+1) _ _ _ _ rfl (put4_heap G2 _ _ _ _) Tryz.underlying38 rfl zQ) rfl ?_
   rw [HP.out]
   exact⟨⟨_,rfl,⟨_,_,rfl,(put4_secs ho7 hg7 _ _ _ _).secs,Loose.nil _ _⟩,DSl.mk (ho7.2.sl fun b hb=>HFr.out b (by omega)) (Sl.none _ _ _)⟩,put4_below hbb H3 _ _ _ _⟩
end
section
open Go.RowKit Go.Shelf
section
variable {F:Fence} {n:Nat} {P:Program} {ops:Array Oper} {rest:List Oper} {o:Oper} {a:Act} {w:World} {Q:Exit→Act→World→Prop}
theorem wpin_load_to (x:Operand) (t:TypeId) (hgd:o.guard=none) (ho:o.op = .load t x) {ad:Addr} {v:Value} {w':World} (hw:w'=w) (hx:a.eval x = .pointer (some ad)) (hl:(loadVar t ad).run P w' = .ok v w')
  (h:wpListIn F n P ops Q rest (a.put o.dst v) w'):wpListIn F n P ops Q (o :: rest) a w:=by
 subst hw
 refine wpListIn_plain hgd fun K hK=>?_
 unfold Oper.wpIn
 refine⟨by simp [Oper.about,ho],?_⟩
 rw [Oper.semAt_plain F _ _ (by rw [ho];intro c hc';cases hc')]
 unfold execOp
 simp only [ho,hx,Instr.loadAt,Instr.sureAddr,Sem.run_bind,Sem.run_pure,Result.andThen_ok,hl]
 exact hK _ _ h
theorem wpin_store_at (x y:Operand) (t:TypeId) (hgd:o.guard=none) (ho:o.op = .store t x y) {ad:Addr} {v:Value} {w':World} (hx:a.eval x = .pointer (some ad)) (hy:a.eval y=v) (hl:(storeVar t ad v).run P w = .ok () w')
  (h:wpListIn F n P ops Q rest (a.put o.dst undef) w'):wpListIn F n P ops Q (o :: rest) a w:=by
 refine wpListIn_plain hgd fun K hK=>?_
 unfold Oper.wpIn
 refine⟨by simp [Oper.about,ho],?_⟩
 rw [Oper.semAt_plain F _ _ (by rw [ho];intro c hc';cases hc')]
 unfold execOp
 simp only [ho,hx,hy,Instr.storeAt,Instr.sureAddr,Sem.run_bind,Sem.run_pure,Result.andThen_ok,hl]
 exact hK _ _ h
theorem wpin_alloc_to (t:TypeId) (hgd:o.guard=none) (ho:o.op = .alloc t) {z:Value} {w':World} (hz:(zeroValue t).run P w = .ok z w) (hw:w'=w.alloc (.cells z.cells t))
  (h:wpListIn F n P ops Q rest (a.put o.dst (.pointer (some ⟨w.heap.size,0,none⟩))) w'):wpListIn F n P ops Q (o :: rest) a w:=by
 subst hw
 refine wpListIn_plain hgd fun K hK=>?_
 unfold Oper.wpIn
 refine⟨by simp [Oper.about,ho],?_⟩
 rw [Oper.semAt_plain F _ _ (by rw [ho];intro c hc';cases hc')]
 unfold execOp
 have hr:(Instr.alloc t true (.tuple #[])).run P w = .ok (.pointer (some ⟨w.heap.size,0,none⟩)) (w.alloc (.cells z.cells t)):=by
  simp only [Instr.alloc,Sem.run_bind,hz,Result.andThen_ok]
  rfl
 simp only [ho,Sem.run_bind,Sem.run_pure,Result.andThen_ok,hr]
 exact hK _ _ h
end
end
section
open Go.RowKit Go.Shelf
attribute [local go_sem] Oper.semAt_some
abbrev W64:={ x:WriteP // x.data.length=64 }
def upto {α:Type} (f:Nat→α) (k:Nat):List α:=(List.range k).map f
theorem upto_succ {α:Type} (f:Nat→α) (k:Nat):upto f (k+1)=upto f k++[f k]:=by simp [upto,List.range_succ]
theorem upto_length {α:Type} (f:Nat→α) (k:Nat):(upto f k).length=k:=by simp [upto]
def sub64 (ls:List WriteP) (k:Nat):W64:=if h:(ls[k]?.getD ⟨0,zeroS⟩).data.length=64 then ⟨_,h⟩ else ⟨⟨0,zeroS⟩,rfl⟩
theorem sub64_at {ls:List WriteP} (h:∀ x∈ls,x.data.length=64) {k:Nat} (hk:k<ls.length):(sub64 ls k).1=ls[k]:=by
 have e:ls[k]?.getD ⟨0,zeroS⟩=ls[k]:=by simp [hk]
 have h1:(ls[k]?.getD ⟨0,zeroS⟩).data.length=64:=by rw [e];exact h _ (List.getElem_mem hk)
 unfold sub64
 rw [dif_pos h1]
 exact e
def backAt (ls:List WriteP) (k:Nat):Int×W64:=((ls.length:Int)-1-k,sub64 ls (ls.length-1-k))
def encW (x:Int×W64):Array Value:=#[.int .i64 x.1,.agg (wcells x.2.1).toArray]
theorem backward_any (a:Option Addr) (n c:Nat) (w:World) :
  Calls Tryz.prog 153 #[.slice a n c] w fun e w'=>e = .returned (.func (.func 173) #[] #[.pointer (some ⟨w.heap.size,0,none⟩)])∧w'=w.alloc (.cells #[.slice a n c] 36):=by
 go_enter Tryz.func153,Tryz.ntmps153
 go_wp2_with fail
 go_ret
 exact⟨rfl,rfl⟩
set_option maxRecDepth 100000 in
set_option maxHeartbeats 2000000 in
theorem backward1_in (n:Nat) (hn:1≤n) (l Bs n₀:Nat) (v:Value) (ls:List WriteP) (hlen:ls.length≤2^40) (hBs0:Bs<n₀) (J Jx:List (Int×W64)→World→Prop)
  (hY:∀ pre x W,J pre W→pre.length<ls.length→YieldAt Fence.wide (n-1) Tryz.prog l (encW x) W fun e W' =>
   (e = .returned (.bool true)∧J (pre++[x]) W'∧Below n₀ W W')∨(e = .returned (.bool false)∧Jx (pre++[x]) W'))
  (W:World) (hBs:W.cell? ⟨Bs,0,none⟩=some v) (hl:Loose n₀ W v ls) (h0:J [] W) :
  CallsIn Fence.wide n Tryz.prog 173 #[.func (.yield l) #[] #[],.pointer (some ⟨Bs,0,none⟩)] W fun e W'=>(∃ v,e = .returned v) ∧
   ((∃ ys,ys=upto (backAt ls) ls.length∧J ys W')∨(∃ pre,(∃ k,k≤ls.length∧pre=upto (backAt ls) k)∧Jx pre W')):=by
 have hl0:=hl
 obtain⟨hls,_,a,cap,rfl,hnc,hcap,hcells⟩:=hl
 unfold maxLen at hcap
 have HY:=zh hY
 clear hY
 refine callsIn_of_wp Tryz.func173 rfl trivial ?_ rfl
 simp only [Tryz.ntmps173,List.size_toArray,List.length_cons,List.length_nil,Nat.reduceAdd,Nat.reduceSub,Array.replicate_succ,Array.replicate_zero,List.push_toArray,List.append_toArray,List.nil_append,List.cons_append]
 obtain⟨i0,z0,hi,hz0,hz1,hz2,hz3⟩:=zero_parts infoz_write
 gi_wp2
 gi_loopw [3] (fun i wr=>∃ k m:Nat,k+m=ls.length∧i = .int .i64 ((m:Int)-1)∧J (upto (backAt ls) k) wr∧Below n₀ W wr) (fun i _=>(intOf i+1).toNat)
 case atStart=>exact⟨0,ls.length,by omega,rfl,h0,Below.refl _ _⟩
 case round =>
  obtain⟨k,m,hkm,rfl,hJ,hb⟩:=hrel
  have hbs:=(hb.cell (p:=⟨Bs,0,none⟩) hBs0).trans hBs
  cases m with
  | zero =>
   gi_wp2
   obtain rfl:k=ls.length:=by omega
   go_end0
   exact⟨⟨_,rfl⟩,.inl ⟨_,rfl,hJ⟩⟩
  | succ m =>
   have hm:(((m+1:Nat):Int)-1)=(m:Int):=by omega
   rw [hm]
   have hlt:m<ls.length:=by omega
   obtain⟨b,off,rfl,hBb,hc⟩:=hcells (by omega)
   have hat:=flat_at wcells 65 ls (fun x hx=>by rw [length_wcells,hls x hx]) m ls[m] (List.getElem?_eq_getElem hlt)
   have hld:=run_load_big (P:=Tryz.prog) (t:=96) Tryz.underlying96 (.inr ⟨_,rfl⟩) hi (w:=wr) (b:=b) (off:=off+m*65) (cs:=wcells ls[m]) hz1 (by rw [length_wcells,hls _ (List.getElem_mem hlt)])
    (fun j u hj=>by rw [Nat.add_assoc];exact (hb.cell (p:=⟨b,off+(m*65+j),none⟩) hBb).trans (hc _ _ (hat j u hj)))
   have hba:backAt ls k=((m:Int),sub64 ls m):=by
    unfold backAt
    have e1:ls.length-1-k=m:=by omega
    have e2:(ls.length:Int)-1-k=m:=by omega
    rw [e1,e2]
   obtain⟨fn,tmps,assign,body,hy,hR⟩:=HY.out _ (backAt ls k) wr hJ (by rw [upto_length];omega)
   unfold encW at hy
   rw [hba] at hy
   simp only [sub64_at hls hlt] at hy
   obtain⟨X,hX⟩:∃ X,X=(wcells ls[m]).toArray:=⟨_,rfl⟩
   rw [← hX] at hld hy
   have HX:=zh hX
   clear hX hat hc hcells hba
   gi_wp2_with (refine wpin_load_to (w':=wr) (.tmp 15) 96 rfl rfl ?_ rfl hld ?_;(exact rfl))
   refine hR.mono ?_
   rintro e W3 (⟨rfl,hJ3,hb3⟩ | ⟨rfl,hJx3⟩)
   ·gi_wp2
    go_roundw
    case rel=>exact⟨k+1,m,by omega,rfl,by rw [upto_succ];exact hJ3,hb.trans hb3⟩
    case measure=>simp [intOf]
   ·gi_wp2
    refine bodyPost_ret (results_none rfl _ _ _) rfl ?_
    exact⟨⟨_,rfl⟩,.inr ⟨_,⟨k+1,by omega,(upto_succ _ _).symm⟩,hJx3⟩⟩
theorem backward_stops (n:Nat) (hn:1≤n) (Bs n₀:Nat) (v:Value) (ls:List WriteP) (hlen:ls.length≤2^40) (hBs0:Bs<n₀) (w:World) (hn₀:n₀≤w.heap.size) (hBs:w.cell? ⟨Bs,0,none⟩=some v) (hl:Loose n₀ w v ls) :
  SeqStopsK Fence.wide n Tryz.prog 173 #[.pointer (some ⟨Bs,0,none⟩)] encW (Below n₀) (fun ys=>ys=upto (backAt ls) ls.length) (fun pre=>∃ k,k≤ls.length∧pre=upto (backAt ls) k) ls.length w:=fun l J Jx W hW _ _ hY h0 =>
 backward1_in n hn l Bs n₀ v ls hlen hBs0 J Jx hY W ((hW.cell (p:=⟨Bs,0,none⟩) (Nat.lt_of_lt_of_le hBs0 hn₀)).trans hBs) (hl.below (hW.mono hn₀)) h0
end
section
open Go.RowKit Go.Shelf
attribute [local go_sem] Oper.semAt_some
def lastW (ls:List WriteP) (at_:Int) (s:List UInt8):List UInt8:=ls.foldl (fun s x=>if x.at_=at_ then x.data else s) s
def readP (d:DiskP) (at_:Int):List UInt8×Int :=
 if rightB d&&thereB d at_ then (if d.down then (zeroS,9) else (lastW d.loose at_ (d.secs[at_.toNat]?.getD zeroS),0)) else (zeroS,1)
theorem alloc_old (w:World) (o:Obj) {r:Nat} (h:r<w.heap.size):(w.alloc o).heap[r]?=w.heap[r]?:=(Below.refl w.heap.size w |>.alloc (Nat.le_refl _) o).block r h
theorem zero44:∃ z:Value,z.cells=(u8s zeroS).toArray∧∀ w,(zeroValue 94).run Tryz.prog w = .ok z w:=by
 obtain⟨i0,hi,hx⟩:=Option.bind_eq_some_iff.1 zero_sector
 obtain⟨z0,hz0,hx⟩:=Option.map_eq_some_iff.1 hx
 simp only [Prod.mk.injEq] at hx
 refine⟨z0,?_,fun w=>by simp [zeroValue,typeInfo,hi,hz0]⟩
 rw [hx.2.2]
 rfl
structure RF (G:Nat) (w:World) (sv lv:Value) (d:DiskP) (at_:Int) (A:Array Value) (e:Value) (Z:Array Value):Prop where
 g0:w.heap[G]?=some (.cells #[sv,lv,.int .i64 d.fuse,.bool d.down] 38 (0,0))
 g1:w.heap[G+1]?=some (.cells #[.int .i64 at_] 3 (0,0))
 g2:w.heap[G+1+1]?=some (.cells A 94 (0,0))
 g3:w.heap[G+1+1+1]?=some (.cells #[e] 26 (0,0))
 g4:w.heap[G+1+1+1+1]?=some (.cells Z 94 (0,0))
 s:Secs G w sv d.secs
 l:Loose G w lv d.loose
theorem RF.size {G:Nat} {w:World} {sv lv:Value} {d:DiskP} {at_:Int} {A Z:Array Value} {e:Value} (h:RF G w sv lv d at_ A e Z):G+5≤w.heap.size:=by have:=zB h.g4;omega
theorem RF.below {G B':Nat} {w w':World} {sv lv:Value} {d:DiskP} {at_:Int} {A Z:Array Value} {e:Value} (h:RF G w sv lv d at_ A e Z) (hb:Below B' w w') (hB:G+5≤B'):RF G w' sv lv d at_ A e Z :=
 ⟨(hb.block _ (by omega)).trans h.g0,(hb.block _ (by omega)).trans h.g1,(hb.block _ (by omega)).trans h.g2,(hb.block _ (by omega)).trans h.g3,(hb.block _ (by omega)).trans h.g4,h.s.below (hb.mono (by omega)),h.l.below (hb.mono (by omega))⟩
theorem info44:∃ i,Tryz.prog.info? 94=some i∧i.size=64:=by
 obtain⟨i,_,hi,_,hs,_⟩:=zero_parts infoz_sector
 exact⟨i,hi,hs⟩
theorem storeBig {t:TypeId} {n:Nat} (hi:∃ i,Tryz.prog.info? t=some i∧i.size=n) {w:World} {g:Nat} {cur:Array Value} (hg:w.heap[g]?=some (.cells cur t (0,0))) (hc:cur.size=n) (X:Array Value) (hX:X.size=n) (h1:∀ v∈X.toList,v.oneCell'=true) :
  ∃ w',(storeVar t ⟨g,0,none⟩ (.agg X)).run Tryz.prog w = .ok () w'∧w'.heap[g]?=some (.cells X t (0,0))∧Below g w w'∧w'.heap.size=w.heap.size∧(∀ k,k≠g→w'.heap[k]?=w.heap[k]?)∧KeepsOthers w w':=by
 obtain⟨i,hi,hs⟩:=hi
 have hst:=run_store_big (P:=Tryz.prog) hi (off:=0) (cs:=X.toList) hg (by rw [hs];simp [hX]) (by simp [hX,hc]) h1
 have e:(cur.toList.take 0++X.toList++cur.toList.drop (0+X.toList.length)).toArray=X:=by
  rw [List.drop_eq_nil_of_le (by simp [hX,hc])];simp
 rw [e] at hst
 refine⟨_,hst,setRow_heap _ _ _ _ _ _ hg,⟨rfl,rfl,rfl,by simp [World.setRow],fun j hj=>setRow_other _ _ j _ (by omega)⟩,by simp [World.setRow],fun k hk=>setRow_other _ _ k _ hk,⟨by simp [World.setRow],fun k o hk ho=>?_⟩⟩
 by_cases hkg:k=g
 ·subst hkg
  rw [hg] at hk
  cases hk
  simp [Obj.isCells] at ho
 ·rw [setRow_other _ _ k _ hkg]
  exact hk
theorem store64 {w:World} {g:Nat} {cur:Array Value} (hg:w.heap[g]?=some (.cells cur 94 (0,0))) (hc:cur.size=64) (X:Array Value) (hX:X.size=64) (h1:∀ v∈X.toList,v.oneCell'=true) :
  ∃ w',(storeVar 94 ⟨g,0,none⟩ (.agg X)).run Tryz.prog w = .ok () w'∧w'.heap[g]?=some (.cells X 94 (0,0))∧Below g w w'∧w'.heap.size=w.heap.size∧(∀ k,k≠g→w'.heap[k]?=w.heap[k]?)∧KeepsOthers w w':=storeBig info44 hg hc X hX h1
theorem info46:∃ i,Tryz.prog.info? 96=some i∧i.size=65:=by
 obtain⟨i,_,hi,_,hs,_⟩:=zero_parts infoz_write
 exact⟨i,hi,hs⟩
theorem zero46:∃ z:Value,z.cells.size=65∧∀ w,(zeroValue 96).run Tryz.prog w = .ok z w:=by
 obtain⟨i0,z0,hi,hz0,_,_,hz3⟩:=zero_parts infoz_write
 exact⟨z0,hz3,fun w=>by simp [zeroValue,typeInfo,hi,hz0]⟩
theorem lastW_none (at_:Int):∀ (ls:List WriteP) (s:List UInt8),(∀ x∈ls,x.at_≠at_)→lastW ls at_ s=s
 | [],_,_=>rfl
 | x :: ls,s,h=>by
  unfold lastW
  rw [List.foldl_cons,if_neg (h x (List.mem_cons_self ..))]
  exact lastW_none at_ ls s (fun y hy=>h y (List.mem_cons_of_mem _ hy))
theorem lastW_at {at_:Int} {ls:List WriteP} {m:Nat} (hm:m<ls.length) (h1:ls[m].at_=at_) (h2:∀ j (hj:j<ls.length),m<j→ls[j].at_≠at_) (s:List UInt8):lastW ls at_ s=ls[m].data:=by
 have e:ls=ls.take m++ls[m] :: ls.drop (m+1):=by rw [List.getElem_cons_drop];exact (List.take_append_drop m ls).symm
 have hn:lastW (ls.drop (m+1)) at_ ls[m].data=ls[m].data:=lastW_none at_ _ _ (fun x hx=>by
  obtain⟨j,hj,rfl⟩:=List.getElem_of_mem hx
  rw [List.getElem_drop]
  exact h2 _ _ (by omega))
 have hf:lastW ls at_ s=(ls.take m++ls[m] :: ls.drop (m+1)).foldl (fun s x=>if x.at_=at_ then x.data else s) s:=by rw [← e];rfl
 rw [hf,List.foldl_append,List.foldl_cons,if_pos h1]
 exact hn
theorem lastW_upto_none {at_:Int} {ls:List WriteP} (h64:∀ x∈ls,x.data.length=64) (h:∀ p∈upto (backAt ls) ls.length,p.2.1.at_≠at_) (s:List UInt8):lastW ls at_ s=s :=
 lastW_none at_ ls s (fun x hx=>by
  obtain⟨j,hj,rfl⟩:=List.getElem_of_mem hx
  have:=h (backAt ls (ls.length-1-j)) (by simp only [upto,List.mem_map,List.mem_range];exact⟨_,by omega,rfl⟩)
  have e:ls.length-1-(ls.length-1-j)=j:=by omega
  simp only [backAt,e,sub64_at h64 hj] at this
  exact this)
theorem lastW_upto_at {at_:Int} {ls:List WriteP} (h64:∀ x∈ls,x.data.length=64) {k:Nat} (hk:k≤ls.length) {ini:List (Int×W64)} {last:Int×W64} (e:upto (backAt ls) k=ini++[last]) (hi:∀ p∈ini,p.2.1.at_≠at_) (hl:last.2.1.at_=at_) (s:List UInt8):lastW ls at_ s=last.2.1.data:=by
 cases k with
 | zero=>simp [upto] at e
 | succ k =>
  rw [upto_succ] at e
  obtain⟨rfl,e5⟩:=List.append_inj' e rfl
  obtain rfl:backAt ls k=last:=by simpa using e5
  have hm:ls.length-1-k<ls.length:=by omega
  simp only [backAt,sub64_at h64 hm] at hl ⊢
  refine lastW_at hm hl (fun j hj hmj=>?_) s
  have:=hi (backAt ls (ls.length-1-j)) (by simp only [upto,List.mem_map,List.mem_range];exact⟨_,by omega,rfl⟩)
  have e:ls.length-1-(ls.length-1-j)=j:=by omega
  simp only [backAt,e,sub64_at h64 hj] at this
  exact this
theorem results_cc {fn:Func} {p q:Tmp} (h:fn.results=#[.cell p 94,.cell q 26]) (tmps:Array Value) (w:World) (g g':Nat) (cs:Array Value) (e:Int)
  (hp:tmps.getD p undef = .pointer (some ⟨g,0,none⟩)) (hg:w.heap[g]?=some (.cells cs 94 (0,0))) (hq:tmps.getD q undef = .pointer (some ⟨g',0,none⟩)) (hg':w.heap[g']?=some (.cells #[.int .i64 e] 26 (0,0))) (hc:cs.size=64) :
  (results fn tmps).run Tryz.prog w = .ok (.tuple #[.agg cs,.int .i64 e]) w:=by
 have hp':tmps[p]?.getD undef = .pointer (some ⟨g,0,none⟩):=by simpa using hp
 have hq':tmps[q]?.getD undef = .pointer (some ⟨g',0,none⟩):=by simpa using hq
 have h1:=run_loadVar_row (P:=Tryz.prog) w g 94 94 cs (0,0) _ hg Tryz.underlying94 rfl (by rw [hc];exact size_sector)
 have hcell:=cR w g' 0 _ _ _ hg'
 have h2:(loadVar 26 ⟨g',0,none⟩).run Tryz.prog w = .ok (.int .i64 e) w:=by simp [go_sem,hcell]
 simp [results,h,hp',hq',asAddr,h1,h2]
theorem retM {F:Fence} {n:Nat} {P:Program} {fn:Func} {R:Ending→World→Prop} {tmps:Array Value} {w:World} {v:Value} (h:(results fn tmps).run P w = .ok v w) (hR:R (.returned v) w):bodyPostM F n P fn R .ret { tmps:=tmps,defers:=[] } w:=⟨_,h,hR⟩
theorem retD {F:Fence} {n:Nat} {P:Program} {fn:Func} {R:Ending→World→Prop} {tmps:Array Value} {w:World} {v:Value} {D:Nat} (hK:w.heap[D]?=some (.deferred (some []))) (h:(results fn tmps).run P (w.putObj D (.deferred none)) = .ok v (w.putObj D (.deferred none))) (hR:R (.returned v) (w.putObj D (.deferred none))) :
  bodyPostM F n P fn R .ret { tmps:=tmps,defers:=[{ target:=.collected D,args:=#[] }] } w:=⟨by simp,.inl ⟨_,_,rfl,run_takeDeferred hK,⟨_,h,hR⟩⟩⟩
theorem setCell_one {w:World} {g:Nat} {u:Value} {t:TypeId} (h:w.heap[g]?=some (.cells #[u] t (0,0))) (v:Value):(w.setCell ⟨g,0,none⟩ v).heap[g]?=some (.cells #[v] t (0,0)):=by
 simp [World.setCell,Array.getElem?_modify,h]
set_option maxRecDepth 100000 in
set_option maxHeartbeats 2000000 in
theorem read_any {B:Nat} (v:Value) (d:DiskP) (at_:Int) (w:World) (h:DiskV B w v d) :
  Calls Tryz.prog 135 #[v,.int .i64 at_] w fun e w'=>e = .returned (.tuple #[.agg (u8s (readP d at_).1).toArray,.int .i64 (readP d at_).2])∧Below w.heap.size w w':=by
 obtain⟨a1,n1,a2,n2,rfl,hs,hl⟩:=h.tight.parts
 clear h
 obtain⟨z,hz,hzr⟩:=zero44
 obtain⟨Z,hZ⟩:∃ Z,Z=z.cells:=⟨_,rfl⟩
 rw [← hZ] at hz
 have HZ:=zh hz
 have HZC:=zh hZ
 have HZR:=zh hzr
 clear hz hzr
 obtain⟨w2,hw2⟩:∃ w2,w2=((w.alloc (.cells #[.slice a1 d.secs.length n1,.slice a2 d.loose.length n2,.int .i64 d.fuse,.bool d.down] 38)).alloc (.cells #[.int .i64 at_] 3)):=⟨_,rfl⟩
 have hsz2:w2.heap.size=w.heap.size+1+1:=by rw [hw2];simp
 have hb2:Below w.heap.size w w2:=by rw [hw2];exact Below.alloc (Below.alloc (Below.refl _ _) (Nat.le_refl _) _) (by simp) _
 have G0:w2.heap[w.heap.size]?=some (.cells #[.slice a1 d.secs.length n1,.slice a2 d.loose.length n2,.int .i64 d.fuse,.bool d.down] 38 (0,0)):=by rw [hw2];exact heap_alloc2_old w _ _
 have G1:w2.heap[w.heap.size+1]?=some (.cells #[.int .i64 at_] 3 (0,0)):=by rw [hw2];exact heap_alloc2_new w _ _
 obtain⟨w3,hw3⟩:∃ w3,w3=w2.alloc (.cells Z 94):=⟨_,rfl⟩
 obtain⟨w4,hw4⟩:∃ w4,w4=w3.alloc (.cells #[.int .i64 0] 26):=⟨_,rfl⟩
 obtain⟨w5,hw5⟩:∃ w5,w5=w4.alloc (.cells Z 94):=⟨_,rfl⟩
 have hsz3:w3.heap.size=w.heap.size+1+1+1:=by rw [hw3];simp [hsz2]
 have hsz4:w4.heap.size=w.heap.size+1+1+1+1:=by rw [hw4];simp [hsz3]
 have hsz5:w5.heap.size=w.heap.size+1+1+1+1+1:=by rw [hw5];simp [hsz4]
 have hb5:Below w2.heap.size w2 w5:=by
  rw [hw5,hw4,hw3]
  exact Below.alloc (Below.alloc (Below.alloc (Below.refl _ _) (Nat.le_refl _) _) (by simp) _) (by simp;omega) _
 have G2:w5.heap[w.heap.size+1+1]?=some (.cells Z 94 (0,0)):=by
  rw [hw5,alloc_old _ _ (by omega),hw4,alloc_old _ _ (by omega),hw3,← hsz2];exact heap_alloc_new w2 _
 have G3:w5.heap[w.heap.size+1+1+1]?=some (.cells #[.int .i64 0] 26 (0,0)):=by
  rw [hw5,alloc_old _ _ (by omega),hw4,← hsz3];exact heap_alloc_new w3 _
 have G4:w5.heap[w.heap.size+1+1+1+1]?=some (.cells Z 94 (0,0)):=by
  rw [hw5,← hsz4];exact heap_alloc_new w4 _
 have G0:=(hb5.block _ (by omega)).trans G0
 have G1:=(hb5.block _ (by omega)).trans G1
 have hbb:=hb2.trans (hb5.mono hb2.size)
 have hs:=hs.below hbb
 have hl:=hl.below hbb
 have hZs:Z.size=64:=by rw [HZ.out];simp [zL,zeroS]
 have hZ1:∀ v∈Z.toList,v.oneCell'=true:=by rw [HZ.out];exact oneCell_u8s _
 have F:RF w.heap.size w5 (.slice a1 d.secs.length n1) (.slice a2 d.loose.length n2) d at_ Z (.int .i64 0) Z:=⟨G0,G1,G2,G3,G4,hs,hl⟩
 have k1:=right_any _ d w5 ⟨_,_,rfl,F.s,F.l⟩
 have C0:=cR w5 _ 0 _ _ _ F.g0
 have C1:=cR w5 _ 1 _ _ _ F.g0
 have C2:=cR w5 _ 2 _ _ _ F.g0
 have C3:=cR w5 _ 3 _ _ _ F.g0
 have hle:=F.size
 clear hb2 hb5 hZ G0 G1 G2 G3 G4 hs hl
 have HW3:=zh (show w3=((w.alloc (.cells #[.slice a1 d.secs.length n1,.slice a2 d.loose.length n2,.int .i64 d.fuse,.bool d.down] 38)).alloc (.cells #[.int .i64 at_] 3)).alloc (.cells z.cells 94) by rw [hw3,hw2,HZC.out])
 have HW4:=zh hw4
 have HW5:=zh (show w5=w4.alloc (.cells z.cells 94) by rw [hw5,HZC.out])
 clear hw2 hw3 hw4 hw5
 obtain⟨R,hR⟩:∃ R,R=rightB d:=⟨_,rfl⟩
 rw [← hR] at k1
 have HR:=zh hR
 clear hR
 refine (callsIn_wide (n:=4)).1 ?_
 refine callsIn_of_wp_marks Tryz.func135 rfl trivial ?_ rfl
 simp only [Tryz.ntmps135,List.size_toArray,List.length_cons,List.length_nil,Nat.reduceAdd,Nat.reduceSub,Array.replicate_succ,Array.replicate_zero,List.push_toArray,List.append_toArray,List.nil_append,List.cons_append]
 gi_wp2_with (refine wpin_alloc_to (w':=w3) 94 rfl rfl (HZR.out _) ?_ ?_;(exact HW3.out);refine Halt.in ?_)
 refine Halt.out ?_
 gi_wp2_with (refine wpin_alloc_to (w':=w5) 94 rfl rfl (HZR.out _) ?_ ?_;(rw [← HW4.out];exact HW5.out);refine Halt.in ?_)
 refine Halt.out ?_
 gi_wp2_with fail
 refine⟨trivial,(callsIn_wide.2 k1).mono ?_⟩
 rintro e w6 ⟨rfl,hb6⟩
 have F:=F.below hb6 (by omega)
 have hbb:=hbb.trans (hb6.mono hbb.size)
 have hle:=F.size
 clear k1 C0 C1 C2 C3 hb6 hsz2 hsz3 hsz4 hsz5
 have C0:=cR w6 _ 0 _ _ _ F.g0
 have C1:=cR w6 _ 1 _ _ _ F.g0
 have C2:=cR w6 _ 2 _ _ _ F.g0
 have C3:=cR w6 _ 3 _ _ _ F.g0
 have C4:=cR w6 _ 0 _ _ _ F.g1
 have C5:=cR w6 _ 0 _ _ _ F.g3
 have Y:=zF F.g3
 have hldz:=run_loadVar_row (P:=Tryz.prog) w6 (w.heap.size+1+1+1+1) 94 94 Z (0,0) _ F.g4 Tryz.underlying94 rfl (by rw [hZs];exact size_sector)
 cases R with
 | false =>
  have hP:readP d at_=(zeroS,1):=by simp [readP,← HR.out]
  have HP:=zh hP
  clear hP
  obtain⟨w7,hst,hn7,hb7,hsz7,hoth7,_⟩:=store64 F.g2 hZs Z hZs hZ1
  gi_wp2_with fail
  refine⟨trivial,?_⟩
  gi_wp2_with (first
   | (refine wpin_load_to (w':=w6) (.tmp 6) 94 rfl rfl ?_ rfl hldz ?_;(exact rfl))
   | (refine wpin_store_at (.tmp 4) (.tmp 19) 94 rfl rfl rfl rfl hst ?_;refine Halt.in ?_))
  refine Halt.out ?_
  clear hst hldz C0 C1 C2 C3 C4 C5 Y
  have H3:=(hoth7 (w.heap.size+1+1+1) (by omega)).trans F.g3
  have C5:=cR w7 _ 0 _ _ _ H3
  have Y:=zF H3
  gi_wp2
  refine retM (results_cc rfl _ _ _ _ _ _ rfl ((setFar (by omega) 0 _).trans hn7) rfl (setCell_one H3 _) hZs) ?_
  rw [HP.out,HZ.out]
  exact⟨rfl,(hbb.trans (hb7.mono (by omega))).setCell (p:=⟨w.heap.size+1+1+1,0,none⟩) (show w.heap.size≤w.heap.size+1+1+1 by omega) _⟩
 | true =>
  have k1:=there_any _ d at_ w6 ⟨_,_,rfl,F.s,F.l⟩
  cases hT:thereB d at_ with
  | false =>
   have hP:readP d at_=(zeroS,1):=by simp [readP,hT]
   rw [hT] at k1
   have HP:=zh hP
   clear hP hT hldz
   gi_wp2_with fail
   refine⟨trivial,(callsIn_wide.2 k1).mono ?_⟩
   rintro e w6' ⟨rfl,hb6'⟩
   have F:=F.below hb6' (by omega)
   have hbb:=hbb.trans (hb6'.mono hbb.size)
   have hle:=F.size
   have hldz:=run_loadVar_row (P:=Tryz.prog) w6' (w.heap.size+1+1+1+1) 94 94 Z (0,0) _ F.g4 Tryz.underlying94 rfl (by rw [hZs];exact size_sector)
   obtain⟨w7,hst,hn7,hb7,hsz7,hoth7,_⟩:=store64 F.g2 hZs Z hZs hZ1
   gi_wp2_with (first
    | (refine wpin_load_to (w':=w6') (.tmp 6) 94 rfl rfl ?_ rfl hldz ?_;(exact rfl))
    | (refine wpin_store_at (.tmp 4) (.tmp 19) 94 rfl rfl rfl rfl hst ?_;refine Halt.in ?_))
   refine Halt.out ?_
   clear hst hldz C0 C1 C2 C3 C4 C5 Y
   have H3:=(hoth7 (w.heap.size+1+1+1) (by omega)).trans F.g3
   have C5:=cR w7 _ 0 _ _ _ H3
   have Y:=zF H3
   gi_wp2
   refine retM (results_cc rfl _ _ _ _ _ _ rfl ((setFar (by omega) 0 _).trans hn7) rfl (setCell_one H3 _) hZs) ?_
   rw [HP.out,HZ.out]
   exact⟨rfl,(hbb.trans (hb7.mono (by omega))).setCell (p:=⟨w.heap.size+1+1+1,0,none⟩) (show w.heap.size≤w.heap.size+1+1+1 by omega) _⟩
  | true =>
   have hR:=HR.out.symm
   rw [hT] at k1
   have HTT:=zh hT
   clear hldz
   gi_wp2_with fail
   refine⟨trivial,(callsIn_wide.2 k1).mono ?_⟩
   rintro e w6' ⟨rfl,hb6'⟩
   have F:=F.below hb6' (by omega)
   have hbb:=hbb.trans (hb6'.mono hbb.size)
   have hle:=F.size
   have hldz:=run_loadVar_row (P:=Tryz.prog) w6' (w.heap.size+1+1+1+1) 94 94 Z (0,0) _ F.g4 Tryz.underlying94 rfl (by rw [hZs];exact size_sector)
   obtain⟨w7,hst,hn7,hb7,hsz7,hoth7,_⟩:=store64 F.g2 hZs Z hZs hZ1
   clear C0 C1 C2 C3 C4 C5 Y hb6' k1
   have C0:=cR w6' _ 0 _ _ _ F.g0
   have C1:=cR w6' _ 1 _ _ _ F.g0
   have C2:=cR w6' _ 2 _ _ _ F.g0
   have C3:=cR w6' _ 3 _ _ _ F.g0
   have C4:=cR w6' _ 0 _ _ _ F.g1
   have C5:=cR w6' _ 0 _ _ _ F.g3
   have Y:=zF F.g3
   cases hD:d.down with
   | true =>
    have hP:readP d at_=(zeroS,9):=by simp [readP,hT,hR,hD]
    have HP:=zh hP
    rw [hD] at C3
    clear hP hT hR
    gi_wp2_with (first
     | (refine wpin_load_to (w':=w6') (.tmp 6) 94 rfl rfl ?_ rfl hldz ?_;(exact rfl))
     | (refine wpin_store_at (.tmp 4) (.tmp 23) 94 rfl rfl rfl rfl hst ?_;refine Halt.in ?_))
    refine Halt.out ?_
    clear hst hldz C0 C1 C2 C3 C4 C5 Y
    have H3:=(hoth7 (w.heap.size+1+1+1) (by omega)).trans F.g3
    have C5:=cR w7 _ 0 _ _ _ H3
    have Y:=zF H3
    gi_wp2
    refine retM (results_cc rfl _ _ _ _ _ _ rfl ((setFar (by omega) 0 _).trans hn7) rfl (setCell_one H3 _) hZs) ?_
    rw [HP.out,HZ.out]
    exact⟨rfl,(hbb.trans (hb7.mono (by omega))).setCell (p:=⟨w.heap.size+1+1+1,0,none⟩) (show w.heap.size≤w.heap.size+1+1+1 by omega) _⟩
   | false =>
    have hP:readP d at_=(lastW d.loose at_ (d.secs[at_.toNat]?.getD zeroS),0):=by simp [readP,hT,hR,hD]
    have HP:=zh hP
    have hlen:d.loose.length≤2^40:=by simp only [rightB,Bool.and_eq_true,decide_eq_true_eq] at hR;omega
    have HL:=zh hlen
    rw [hD] at C3
    clear hP hT hR hst hldz hn7 hb7 hsz7 hoth7 hlen hD
    have k2:=fun w=>backward_any a2 d.loose.length n2 w
    gi_wp2_with fail
    refine⟨trivial,(callsIn_wide.2 (k2 _)).mono ?_⟩
    rintro e w8 ⟨rfl,hw8⟩
    have hb8:Below w6'.heap.size w6' w8:=by rw [hw8];exact Below.alloc (Below.refl _ _) (Nat.le_refl _) _
    have hbs:=heap_alloc_new w6' (.cells #[.slice a2 d.loose.length n2] 36)
    rw [← hw8] at hbs
    have hbs:=cR w8 _ 0 _ _ _ hbs
    have hs8:w8.heap.size=w6'.heap.size+1:=by rw [hw8];simp
    have F:=F.below hb8 (by omega)
    have hbb:=hbb.trans (hb8.mono hbb.size)
    have hl8:=F.l
    have hbb8:w.heap.size+5≤w8.heap.size:=F.size
    clear k2 C0 C1 C2 C3 C4 C5 Y hb8 hw8
    obtain⟨Bs,hBs⟩:∃ Bs,Bs=w6'.heap.size:=⟨_,rfl⟩
    rw [← hBs] at hbs hs8 ⊢
    clear hBs
    gi_wp2_with fail
    refine wpIn_rangeFunc_ownH rfl (by decide) (gf:=173) (lb:=#[.pointer (some ⟨Bs,0,none⟩)]) rfl trivial (fun args w=>callFunc_run Tryz.func173 rfl rfl args w)
     (backward_stops 3 (by decide) Bs w8.heap.size _ d.loose HL.out (by omega) w8 (Nat.le_refl _) hbs hl8.tight) belowK_t (belowK_b (Nat.le_refl _)) (Below.refl _ _) (fun _=>rfl)
     (fun pre W=>(∀ p∈pre,p.2.1.at_≠at_)∧Below w8.heap.size w8 W)
     (fun c pre W=>(c = .ret∧∃ ini last,pre=ini++[last]∧(∀ p∈ini,p.2.1.at_≠at_)∧last.2.1.at_=at_∧W.heap[w.heap.size+1+1]?=some (.cells (u8s last.2.1.data).toArray 94 (0,0))∧W.heap[w.heap.size+1+1+1]?=some (.cells #[.int .i64 0] 26 (0,0)))∧Below w.heap.size w W)
     (OwnFrom.and (ownFrom_pure _ _) (ownFrom_below (Nat.le_refl _) (Nat.le_refl _)))
     (fun c=>OwnFrom.and (Go.Own.from (fun s A B row hs hg hr=>by
      obtain⟨hc,ini,last,e1,e2,e3,h2,h3⟩:=hs
      exact⟨hc,ini,last,e1,e2,e3,(grownBy_keeps_cells hg hr h2 rfl).trans h2,(grownBy_keeps_cells hg hr h3 rfl).trans h3⟩) _) (ownFrom_below (Nat.le_refl _) hbb.size))
     ⟨fun p hp=>absurd hp List.not_mem_nil,Below.refl _ _⟩
     (fun x a' W=>∃ Bx,w8.heap.size≤Bx∧W.heap[Bx]?=some (.cells (wcells x.2.1).toArray 96 (0,0))∧a'={ tmps:=#[.agg #[.slice a1 d.secs.length n1,.slice a2 d.loose.length n2,.int .i64 d.fuse,.bool false],.int .i64 at_,.pointer (some ⟨w.heap.size,0,none⟩),.pointer (some ⟨w.heap.size+1,0,none⟩),.pointer (some ⟨w.heap.size+1+1,0,none⟩),.pointer (some ⟨w.heap.size+1+1+1,0,none⟩),.pointer (some ⟨w.heap.size+1+1+1+1,0,none⟩),undef,.pointer (some ⟨Bx,0,none⟩),.bool false,.agg #[.slice a1 d.secs.length n1,.slice a2 d.loose.length n2,.int .i64 d.fuse,.bool false],.bool true,.bool false,.bool false,.agg #[.slice a1 d.secs.length n1,.slice a2 d.loose.length n2,.int .i64 d.fuse,.bool false],.int .i64 at_,.bool true,.bool false,.bool false,undef,.bool false,.pointer (some ⟨w.heap.size,3,none⟩),.bool false,undef,.pointer (some ⟨w.heap.size,1,none⟩),.slice a2 d.loose.length n2,.func (.func 173) #[] #[.pointer (some ⟨Bs,0,none⟩)],.int .i64 x.1,.agg (wcells x.2.1).toArray,undef,undef,undef,undef,undef,undef,undef,undef,undef,undef,undef],defers:=[] })
     (fun x a'=>Go.Own.from (fun s A B row hs hg hr=>by
      obtain⟨Bx,h1,h2,h3⟩:=hs
      exact⟨Bx,h1,(grownBy_keeps_cells hg hr h2 rfl).trans h2,h3⟩) _) ?assign ?body ?done ?stop
    case assign =>
     rintro l pre x W K ⟨hp,hB⟩ hK
     obtain⟨z,hzs,hzr⟩:=zero46
     obtain⟨W1,hW1⟩:∃ W1,W1=W.alloc (.cells z.cells 96):=⟨_,rfl⟩
     have hn1:W1.heap[W.heap.size]?=some (.cells z.cells 96 (0,0)):=by rw [hW1];exact heap_alloc_new W _
     have hK1:KeepsOthers W W1:=by rw [hW1];exact KeepsOthers.alloc _ _
     have hB1:Below W.heap.size W W1:=by rw [hW1];exact Below.alloc (Below.refl _ _) (Nat.le_refl _) _
     obtain⟨X,hX⟩:∃ X,X=(wcells x.2.1).toArray:=⟨_,rfl⟩
     obtain⟨W2,hst,hn2,hB2,_,_,hK2⟩:=storeBig info46 hn1 hzs X (by rw [hX];simp [length_wcells,x.2.2]) (by rw [hX];exact oneCell_w _)
     have hB2:=hB1.trans (hB2.mono (Nat.le_refl _))
     have HK:=zh (hK { tmps:=#[.agg #[.slice a1 d.secs.length n1,.slice a2 d.loose.length n2,.int .i64 d.fuse,.bool false],.int .i64 at_,.pointer (some ⟨w.heap.size,0,none⟩),.pointer (some ⟨w.heap.size+1,0,none⟩),.pointer (some ⟨w.heap.size+1+1,0,none⟩),.pointer (some ⟨w.heap.size+1+1+1,0,none⟩),.pointer (some ⟨w.heap.size+1+1+1+1,0,none⟩),undef,.pointer (some ⟨W.heap.size,0,none⟩),.bool false,.agg #[.slice a1 d.secs.length n1,.slice a2 d.loose.length n2,.int .i64 d.fuse,.bool false],.bool true,.bool false,.bool false,.agg #[.slice a1 d.secs.length n1,.slice a2 d.loose.length n2,.int .i64 d.fuse,.bool false],.int .i64 at_,.bool true,.bool false,.bool false,undef,.bool false,.pointer (some ⟨w.heap.size,3,none⟩),.bool false,undef,.pointer (some ⟨w.heap.size,1,none⟩),.slice a2 d.loose.length n2,.func (.func 173) #[] #[.pointer (some ⟨Bs,0,none⟩)],.int .i64 x.1,.agg (wcells x.2.1).toArray,undef,undef,undef,undef,undef,undef,undef,undef,undef,undef,undef],defers:=[] } W2 ((hK1.trans hK2).from _) (hB2.mono hB.size) ⟨hp,hB.trans (hB2.mono hB.size)⟩ ⟨W.heap.size,hB.size,by rw [hn2,hX],rfl⟩)
     rw [← hX] at HK
     have HZ46:=zh hzr
     have HW1:=zh hW1
     unfold encW
     rw [← hX]
     clear hX hK hzr hW1
     gi_wp2_with (refine wpin_alloc_to (w':=W1) 96 rfl rfl (HZ46.out _) ?_ ?_;(exact HW1.out);refine Halt.in ?_)
     refine Halt.out ?_
     gi_wp2_with (refine wpin_store_at (.tmp 8) (.tmp 28) 96 rfl rfl rfl rfl hst ?_)
     exact HK.out
    case body =>
     rintro l pre x a' W hl ⟨r,hr⟩ ⟨hp,hB⟩ ⟨Bx,hBx,bX,rfl⟩ hlt
     have F:=F.below hB hbb8
     have hbW:=hbb.trans (hB.mono hbb.size)
     have X0:=cR W _ 0 _ _ _ bX
     have hX0:(wcells x.2.1).toArray[0]?=some (.int .i64 x.2.1.at_):=by simp [wcells]
     rw [hX0] at X0
     have C4:=cR W _ 0 _ _ _ F.g1
     have C5:=cR W _ 0 _ _ _ F.g3
     have Y:=zF F.g3
     obtain⟨i44,hi44,hs44⟩:=info44
     have hld:=run_load_big (P:=Tryz.prog) (t:=94) Tryz.underlying94 (.inl ⟨_,_,rfl⟩) hi44 (w:=W) (b:=Bx) (off:=1) (cs:=u8s x.2.1.data) hs44 (by rw [zL,x.2.2])
      (fun j u hj=>by rw [cR W _ _ _ _ _ bX];simpa [wcells,Nat.add_comm 1 j] using hj)
     obtain⟨X,hX⟩:∃ X,X=(u8s x.2.1.data).toArray:=⟨_,rfl⟩
     rw [← hX] at hld
     obtain⟨W2,hst,hn2,hB2,_,hoth2,hK2⟩:=store64 F.g2 hZs X (by rw [hX];simp [zL,x.2.2]) (by rw [hX];exact oneCell_u8s _)
     have HX:=zh hX
     obtain⟨y,hy⟩:∃ y,y=x.2.1.at_:=⟨_,rfl⟩
     rw [← hy] at X0
     have HY:=zh hy
     obtain⟨V,hV⟩:∃ V,V=(wcells x.2.1).toArray:=⟨_,rfl⟩
     rw [← hV]
     clear hX hX0 hy hV
     by_cases hx:y=at_
     ·gi_wp2_with (first
       | (refine wpin_load_to (w':=W) (.tmp 33) 94 rfl rfl ?_ rfl hld ?_;(exact rfl))
       | (refine wpin_store_at (.tmp 4) (.tmp 34) 94 rfl rfl rfl rfl hst ?_;refine Halt.in ?_))
      refine Halt.out ?_
      clear hst hld C4 C5 Y X0
      have H3:=(hoth2 (w.heap.size+1+1+1) (by omega)).trans F.g3
      have C5:=cR W2 _ 0 _ _ _ H3
      have Y:=zF H3
      gi_wp2
      refine⟨?_,⟨rfl,pre,x,rfl,hp,HY.out.symm.trans hx,?_,?_⟩,?_⟩
      ·exact (hK2.trans (KeepsOthers.setCell _ _ _)).from _
      ·rw [setFar (by omega),← HX.out];exact hn2
      ·exact setCell_one H3 _
      ·exact (hbW.trans (hB2.mono (by omega))).setCell (p:=⟨w.heap.size+1+1+1,0,none⟩) (show w.heap.size≤w.heap.size+1+1+1 by omega) _
     ·gi_wp2
      exact⟨KeepsFrom.refl _ _,Below.refl _ _,fun p hp'=>(List.mem_append.1 hp').elim (hp p) (fun e=>by simp at e;subst e;rw [← HY.out];exact hx),hB⟩
    case done =>
     rintro D xs W hD rfl ⟨hp,hB⟩ hK
     have F:=F.below hB hbb8
     have hbW:=hbb.trans (hB.mono hbb.size)
     have C0:=cR W _ 0 _ _ _ F.g0
     have C4:=cR W _ 0 _ _ _ F.g1
     have C5:=cR W _ 0 _ _ _ F.g3
     have Y:=zF F.g3
     obtain⟨m,hm,hmlt⟩:∃ m:Nat,at_=(m:Int)∧m<d.secs.length:=by
      have:=HTT.out
      simp only [thereB,Bool.and_eq_true,decide_eq_true_eq] at this
      exact⟨at_.toNat,by omega,by omega⟩
     have hfs:=F.s
     obtain⟨h64s,_,a,cap,hv,hnc,hcap,hcells⟩:=hfs
     obtain⟨b,off,rfl,hBb,hc⟩:=hcells (by omega)
     unfold maxLen at hcap
     cases hv
     have hat:=flat_at u8s 64 d.secs (fun x hx=>by rw [zL,h64s x hx]) m d.secs[m] (List.getElem?_eq_getElem hmlt)
     obtain⟨i44,hi44,hs44⟩:=info44
     have hld:=run_load_big (P:=Tryz.prog) (t:=94) Tryz.underlying94 (.inl ⟨_,_,rfl⟩) hi44 (w:=W) (b:=b) (off:=off+m*64) (cs:=u8s d.secs[m]) hs44 (by rw [zL,h64s _ (List.getElem_mem hmlt)])
      (fun j u hj=>by rw [Nat.add_assoc];exact hc _ _ (hat j u hj))
     obtain⟨X,hX⟩:∃ X,X=(u8s d.secs[m]).toArray:=⟨_,rfl⟩
     rw [← hX] at hld
     have hXs:X.size=64:=by rw [hX];simp [zL,h64s _ (List.getElem_mem hmlt)]
     obtain⟨W2,hst,hn2,hB2,_,hoth2,hK2⟩:=store64 F.g2 hZs X hXs (by rw [hX];exact oneCell_u8s _)
     have HX:=zh hX
     have HM:=zh hm
     rw [hm] at C4
     clear hX hat hc hcells hm
     gi_wp2_with (first
      | (refine wpin_load_to (w':=W) (.tmp 38) 94 rfl rfl ?_ rfl hld ?_;(exact rfl))
      | (refine wpin_store_at (.tmp 4) (.tmp 39) 94 rfl rfl rfl rfl hst ?_;refine Halt.in ?_))
     refine Halt.out ?_
     clear hst hld C0 C4 C5 Y
     have H3:=(hoth2 (w.heap.size+1+1+1) (by omega)).trans F.g3
     have C5:=cR W2 _ 0 _ _ _ H3
     have Y:=zF H3
     gi_wp2
     have hK':=(hK2.trans (KeepsOthers.setCell _ ⟨w.heap.size+1+1+1,0,none⟩ (.int .i64 0))).same D _ hK rfl
     have hDl:w.heap.size≤D:=by omega
     have e2:(W2.setCell ⟨w.heap.size+1+1+1,0,none⟩ (.int .i64 0)).heap[w.heap.size+1+1]?=some (.cells X 94 (0,0)):=(setFar (by omega) 0 _).trans hn2
     refine retD hK' (results_cc rfl _ _ (w.heap.size+1+1) (w.heap.size+1+1+1) X 0 rfl ?_ rfl ?_ hXs) ?_
     ·exact (grownBy_keeps_cells (grownBy_putObj' _ D (.deferred none)) (fun r e=>by cases e;exact⟨_,hK',rfl⟩) e2 rfl).trans e2
     ·exact (grownBy_keeps_cells (grownBy_putObj' _ D (.deferred none)) (fun r e=>by cases e;exact⟨_,hK',rfl⟩) (setCell_one H3 _) rfl).trans (setCell_one H3 _)
     ·refine⟨?_,((hbW.trans (hB2.mono (by omega))).setCell (p:=⟨w.heap.size+1+1+1,0,none⟩) (show w.heap.size≤w.heap.size+1+1+1 by omega) _).trans (belowK_b (w:=w) (Nat.le_refl _) _ D _ _ hDl hK' rfl rfl)⟩
      rw [HP.out,lastW_upto_none F.l.1 hp,HM.out,HX.out]
      simp [hmlt]
    case stop =>
     rintro D c pre W hD ⟨k,hk,rfl⟩ ⟨⟨rfl,ini,last,e1,e2,e3,h2,h3⟩,hB⟩ hK
     gi_wp2
     refine retD hK (results_cc rfl _ _ (w.heap.size+1+1) (w.heap.size+1+1+1) (u8s last.2.1.data).toArray 0 rfl ?_ rfl ?_ (by simp [zL,last.2.2])) ?_
     ·exact (grownBy_keeps_cells (grownBy_putObj' _ D (.deferred none)) (fun r e=>by cases e;exact⟨_,hK,rfl⟩) h2 rfl).trans h2
     ·exact (grownBy_keeps_cells (grownBy_putObj' _ D (.deferred none)) (fun r e=>by cases e;exact⟨_,hK,rfl⟩) h3 rfl).trans h3
     ·refine⟨?_,hB.trans (belowK_b (w:=w) (Nat.le_refl _) _ D _ _ (by omega) hK rfl rfl)⟩
      rw [HP.out,lastW_upto_at F.l.1 hk e1 e2 e3]
end
section
namespace SumP
def toI (x:BitVec 32):Int:=x.toNat
theorem toI_lo (x:BitVec 32):0≤toI x:=by unfold toI;omega
theorem toI_hi (x:BitVec 32):toI x<4294967296:=by have:=x.isLt;unfold toI;omega
theorem ofInt_toI (a:BitVec 32):BitVec.ofInt 32 (toI a)=a:=by
 apply BitVec.eq_of_toNat_eq
 simp [toI]
theorem wrap_toI (a:BitVec 32):IntKind.u32.wrap (a.toNat:Int)=toI a:=by
 have h:=a.isLt
 simp only [IntKind.wrap,IntKind.bits,IntKind.signed,toI]
 simp
 omega
theorem bits_xor (a b:BitVec 32):bits .xor .u32 (toI a) (toI b)=toI (a ^^^ b):=by
 simp only [bits,IntKind.bits,ofInt_toI]
 exact wrap_toI _
theorem bits_and (a b:BitVec 32):bits .and .u32 (toI a) (toI b)=toI (a &&& b):=by
 simp only [bits,IntKind.bits,ofInt_toI]
 exact wrap_toI _
theorem not_eq (a:BitVec 32):bits .xor .u32 IntKind.u32.max (toI a)=toI (~~~ a):=by
 have h:IntKind.u32.max=toI (BitVec.allOnes 32):=by decide
 rw [h,bits_xor,BitVec.allOnes_xor]
theorem shr4 (a:BitVec 32):toI a / (16:Int)=toI (a >>> 4):=by
 unfold toI;rw [BitVec.toNat_ushiftRight,Nat.shiftRight_eq_div_pow];omega
theorem shr1 (a:BitVec 32):toI a / (2:Int)=toI (a >>> 1):=by
 unfold toI;rw [BitVec.toNat_ushiftRight,Nat.shiftRight_eq_div_pow];omega
def tabL:List (BitVec 32):=[0x00000000#32,0x1db71064#32,0x3b6e20c8#32,0x26d930ac#32,0x76dc4190#32,0x6b6b51f4#32,0x4db26158#32,0x5005713c#32,
 0xedb88320#32,0xf00f9344#32,0xd6d6a3e8#32,0xcb61b38c#32,0x9b64c2b0#32,0x86d3d2d4#32,0xa00ae278#32,0xbdbdf21c#32]
def tab (x:BitVec 32):BitVec 32:=tabL.getD x.toNat 0#32
def half (s:BitVec 32):BitVec 32:=(s >>> 4) ^^^ tab (s &&& 15#32)
def byte (b:UInt8):BitVec 32:=b.toBitVec.setWidth 32
theorem byte_toNat (b:UInt8):(byte b).toNat=b.toNat:=by
 have h:=b.toNat_lt
 simp [byte]
def step1 (s:BitVec 32) (b:UInt8):BitVec 32:=half (half (s ^^^ byte b))
def more (s:BitVec 32) (bs:List UInt8):BitVec 32 := ~~~ (bs.foldl step1 (~~~ s))
def sum (bs:List UInt8):BitVec 32:=more 0#32 bs
def bit (s:BitVec 32):BitVec 32:=(s >>> 1) ^^^ (if s.getLsbD 0=true then 0xedb88320#32 else 0#32)
def bitN:Nat→BitVec 32→BitVec 32
 | 0,s=>s
 | n+1,s=>bitN n (bit s)
theorem bit_xor (a b:BitVec 32):bit (a ^^^ b)=bit a ^^^ bit b:=by
 unfold bit
 rw [BitVec.ushiftRight_xor_distrib,BitVec.getLsbD_xor]
 generalize a >>> 1=x
 generalize b >>> 1=y
 generalize (0xedb88320#32)=p
 have e1:x ^^^ y ^^^ p=x ^^^ (y ^^^ p):=BitVec.xor_assoc _ _ _
 have e2:x ^^^ y ^^^ p=x ^^^ p ^^^ y:=by rw [BitVec.xor_assoc,BitVec.xor_comm y p,← BitVec.xor_assoc]
 have e3:x ^^^ y=x ^^^ p ^^^ (y ^^^ p):=by
  rw [BitVec.xor_comm y p,← BitVec.xor_assoc,BitVec.xor_assoc x p p,BitVec.xor_self,BitVec.xor_zero]
 cases a.getLsbD 0 <;> cases b.getLsbD 0
 ·simp
 ·simpa using e1
 ·simpa using e2
 ·simpa using e3
theorem bitN_xor (n:Nat):∀ a b:BitVec 32,bitN n (a ^^^ b)=bitN n a ^^^ bitN n b:=by
 induction n with
 | zero=>intro a b;rfl
 | succ n ih=>intro a b;simp only [bitN,bit_xor,ih]
theorem bit_even (a:BitVec 32) (h:a.getLsbD 0=false):bit a=a >>> 1:=by
 unfold bit;rw [h];simp
theorem high4 (a:BitVec 32) (h:∀ i,i<4→a.getLsbD i=false):bitN 4 a=a >>> 4:=by
 have e:∀ i,i<4→(a >>> i).getLsbD 0=false:=fun i hi=>by
  rw [BitVec.getLsbD_ushiftRight];simpa using h i hi
 have e0:bit a=a >>> 1:=bit_even a (by simpa using e 0 (by omega))
 have e1:bit (a >>> 1)=a >>> 2:=by rw [bit_even _ (e 1 (by omega)),← BitVec.shiftRight_add]
 have e2:bit (a >>> 2)=a >>> 3:=by rw [bit_even _ (e 2 (by omega)),← BitVec.shiftRight_add]
 have e3:bit (a >>> 3)=a >>> 4:=by rw [bit_even _ (e 3 (by omega)),← BitVec.shiftRight_add]
 simp only [bitN,e0,e1,e2,e3]
theorem low4:∀ k:Fin 16,bitN 4 (BitVec.ofNat 32 k.val)=tab (BitVec.ofNat 32 k.val):=by decide
theorem split (s:BitVec 32):s=(s &&& ~~~ 15#32) ^^^ (s &&& 15#32):=by
 apply BitVec.eq_of_getLsbD_eq
 intro i hi
 simp only [BitVec.getLsbD_xor,BitVec.getLsbD_and,BitVec.getLsbD_not,hi,decide_true,Bool.true_and]
 cases s.getLsbD i <;> cases (15#32).getLsbD i <;> rfl
theorem and15_lt (s:BitVec 32):(s &&& 15#32).toNat<16:=by
 rw [BitVec.toNat_and]
 exact Nat.lt_of_le_of_lt Nat.and_le_right (by decide)
theorem half_eq (s:BitVec 32):half s=bitN 4 s:=by
 have hl:(s &&& 15#32)=BitVec.ofNat 32 (s &&& 15#32).toNat:=by simp
 have h1:bitN 4 (s &&& 15#32)=tab (s &&& 15#32):=by
  rw [hl];exact low4 ⟨_,and15_lt s⟩
 have h2:bitN 4 (s &&& ~~~ 15#32)=(s &&& ~~~ 15#32) >>> 4:=by
  apply high4
  intro i hi
  have hb:(15#32).getLsbD i=true:=by
   have:i=0∨i=1∨i=2∨i=3:=by omega
   rcases this with rfl | rfl | rfl | rfl <;> decide
  rw [BitVec.getLsbD_and,BitVec.getLsbD_not,hb];simp
 have h3:(s &&& ~~~ 15#32) >>> 4=s >>> 4:=by
  apply BitVec.eq_of_getLsbD_eq
  intro i hi
  rw [BitVec.getLsbD_ushiftRight,BitVec.getLsbD_ushiftRight,BitVec.getLsbD_and,BitVec.getLsbD_not]
  by_cases h:4+i<32
  ·have hb:(15#32).getLsbD (4+i)=false:=by
    have:∀ j:Fin 28,(15#32).getLsbD (4+j.val)=false:=by decide
    exact this ⟨i,by omega⟩
   rw [hb];simp [h]
  ·rw [BitVec.getLsbD_of_ge s _ (by omega)];simp
 conv=>rhs;rw [split s]
 rw [bitN_xor,h1,h2,h3];rfl
theorem bitN_add (m n:Nat):∀ s,bitN n (bitN m s)=bitN (m+n) s:=by
 induction m with
 | zero=>intro s;simp [bitN]
 | succ m ih=>intro s;rw [Nat.add_right_comm];simp only [bitN];exact ih _
theorem step1_eq (s:BitVec 32) (b:UInt8):step1 s b=bitN 8 (s ^^^ byte b):=by
 unfold step1;rw [half_eq,half_eq,bitN_add]
end SumP
end
section
namespace WalP
open PackP
inductive Deed where
 | put (at_:Int) (s:List UInt8)
 | flush
def deed (d:DiskP):Deed→DiskP×Int
 | .put a s=>putP d a s
 | .flush=>flushP d
def run:DiskP→List Deed→DiskP×Int
 | d,[]=>(d,0)
 | d,x :: xs=>if (deed d x).2=0 then run (deed d x).1 xs else deed d x
theorem run_append (xs ys:List Deed):∀ d,run d (xs++ys)=if (run d xs).2=0 then run (run d xs).1 ys else run d xs:=by
 induction xs with
 | nil=>intro d;simp [run]
 | cons x xs ih =>
  intro d
  rw [List.cons_append]
  simp only [run]
  by_cases h:(deed d x).2=0
  ·simp only [h,if_true];exact ih _
  ·simp only [h,if_false]
theorem run_one (d:DiskP) (x:Deed):run d [x]=deed d x:=by
 simp only [run]
 by_cases h:(deed d x).2=0
 ·rw [if_pos h,← h]
 ·rw [if_neg h]
def takes (n:Nat):Nat:=if n<1∨6000<n then 0 else 1+(n+63) / 64
def takesZ (n:Int):Int:=if n<1∨6000<n then 0 else 1+(n+63) / 64
theorem takesZ_nat (n:Nat):takesZ (n:Int)=(takes n:Int):=by
 unfold takesZ takes
 by_cases h:n<1∨6000<n
 ·rw [if_pos (by omega),if_pos h];rfl
 ·rw [if_neg (by omega),if_neg h];omega
theorem takes_le (n:Nat):takes n≤95:=by unfold takes;split <;> omega
def half (d:DiskP):Nat:=d.secs.length / 2
structure LogP where
 half:Int
 gen:Int
 used:Int
 count:Int
def log0:LogP:=⟨0,0,0,0⟩
def rightL (d:DiskP) (l:LogP):Bool :=
 rightB d&&(decide (l.half=0) || decide (l.half=1))&&decide (1≤l.gen)&&decide (l.gen≤1099511627776)&&decide (2≤l.used)&&decide (l.used≤half d)&&decide (1≤l.count)&&decide (l.count≤l.used)
def roomP (d:DiskP) (l:LogP):Int:=if rightL d l then half d-l.used else 0
def pad64 (b:List UInt8):List UInt8:=b.take 64++List.replicate (64-b.length) 0
theorem length_pad64 (b:List UInt8):(pad64 b).length=64:=by simp [pad64];omega
def markB (gen k len sum:Int):List UInt8:=[87,76,79,71]++(numB gen++(numB k++(numB len++numB sum)))
def markS (gen k len sum:Int):List UInt8:=pad64 (markB gen k len sum)
theorem length_markS (gen k len sum:Int):(markS gen k len sum).length=64:=length_pad64 _
def markOf (gen:Int) (k:Nat) (b:List UInt8):List UInt8:=markS gen k b.length (SumP.toI (SumP.sum b))
def bytesD (at_:Int) (b:List UInt8):List Deed:=(List.range ((b.length+63) / 64)).map fun i:Nat=>.put (at_+1+i) (pad64 (b.drop (64*i)))
def recD (at_ gen:Int) (k:Nat) (b:List UInt8):List Deed:=bytesD at_ b++if 0<k then [.put at_ (markOf gen k b)] else []
def recsD (gen:Int):Int→Nat→List (List UInt8)→List Deed
 | _,_,[]=>[]
 | at_,k,b :: bs=>recD at_ gen k b++recsD gen (at_+takes b.length) (k+1) bs
def zerosD (first:Int) (n:Nat):List Deed:=(List.range n).map fun i:Nat=>.put (first+i) zeroS
def layD (size:Nat) (which gen:Int) (list:List (List UInt8)):List Deed :=
 zerosD (which*size) size++([.flush]++(recsD gen (which*size) 0 list++[.flush,.put (which*size) (markOf gen 0 (list.headD [])),.flush]))
def totalN:List (List UInt8)→Option Nat
 | []=>some 0
 | b :: bs=>if takes b.length=0 then none else (totalN bs).map (takes b.length+·)
def total (l:List (List UInt8)):Option Nat:=if l=[] then none else totalN l
def formatP (d:DiskP) (l:List (List UInt8)):DiskP×LogP×Int :=
 match total l with
 | none=>(d,log0,1)
 | some n =>
  if rightB d then
   if half d<n then (d,log0,8)
   else
    let r:=run d (.put (half d) zeroS :: layD (half d) 0 1 l)
    if r.2=0 then (r.1,⟨0,1,n,l.length⟩,0) else (r.1,log0,r.2)
  else (d,log0,1)
def appendD (d:DiskP) (l:LogP) (b:List UInt8):List Deed :=
 bytesD (l.half*half d+l.used) b++[.flush,.put (l.half*half d+l.used) (markS l.gen l.count b.length (SumP.toI (SumP.sum b))),.flush]
def appendP (d:DiskP) (l:LogP) (b:List UInt8):DiskP×LogP×Int :=
 if takes b.length=0∨rightL d l=false then (d,l,1)
 else if roomP d l<takes b.length then (d,l,8)
 else
  let r:=run d (appendD d l b)
  if r.2=0 then (r.1,{ l with used:=l.used+takes b.length,count:=l.count+1 },0) else (r.1,l,r.2)
def compactP (d:DiskP) (l:LogP) (list:List (List UInt8)):DiskP×LogP×Int :=
 match total list with
 | none=>(d,l,1)
 | some n =>
  if rightL d l then
   if half d<n then (d,l,8)
   else if l.gen=1099511627776 then (d,l,15)
   else
    let r:=run d (layD (half d) (1-l.half) (l.gen+1) list)
    if r.2=0 then (r.1,⟨1-l.half,l.gen+1,n,list.length⟩,0) else (r.1,l,r.2)
  else (d,l,1)
structure MarkP where
 gen:Int
 number:Int
 length:Int
 sum:Int
def nums4 (r:RS):MarkP×RS :=
 let a:=r.num
 let b:=a.1.num
 let c:=b.1.num
 let d:=c.1.num
 (⟨a.2,b.2,c.2,d.2⟩,d.1)
def readMark (s:List UInt8):MarkP×Bool :=
 let x:=nums4 ⟨(s.drop 4).take 32,0⟩
 let m:MarkP:={ x.1 with sum:=x.1.sum%4294967296 }
 (m,decide (x.2.e=0)&&decide (s=markS m.gen m.number m.length m.sum)&&decide (1≤m.gen)&&decide (m.gen≤1099511627776)&&decide (0<takesZ m.length))
def viewP (d:DiskP) (which:Int):List (List UInt8):=(List.range (half d)).map fun i:Nat=>(readP d (which*half d+i)).1
def recsGo (l:List (List UInt8)):Nat→List (List UInt8)→Nat→Int→List (List UInt8)×Nat×Int×Int
 | 0,list,used,gen=>if list=[] then ([],0,0,6) else (list,used,gen,0)
 | f+1,list,used,gen =>
  if used<l.length then
   let x:=readMark (l.getD used [])
   let gen':=if list=[] then x.1.gen else gen
   let n:=(takesZ x.1.length).toNat
   if x.2=false∨x.1.gen≠gen'∨x.1.number≠list.length∨l.length-used<n then (if list=[] then ([],0,0,6) else (list,used,gen',0))
   else
    let b:=((l.drop (used+1)).take (n-1)).flatten.take x.1.length.toNat
    if SumP.toI (SumP.sum b)≠x.1.sum then ([],0,gen',10)
    else recsGo l f (list++[b]) (used+n) gen'
  else (if list=[] then ([],0,0,6) else (list,used,gen,0))
def recordsP (l:List (List UInt8)):List (List UInt8)×Nat×Int×Int:=recsGo l (l.length+1) [] 0 0
def openP (d:DiskP):DiskP×LogP×List (List UInt8)×Int :=
 if rightB d=false then (d,log0,[],1)
 else if d.down then (d,log0,[],9)
 else
  let a:=recordsP (viewP d 0)
  let b:=recordsP (viewP d 1)
  let w:Int:=if a.2.2.1<b.2.2.1 then 1 else 0
  let x:=if a.2.2.1<b.2.2.1 then b else a
  if x.2.2.2≠0 then (d,log0,[],x.2.2.2)
  else
   let c:=compactP d ⟨w,x.2.2.1,x.2.1,x.1.length⟩ x.1
   if c.2.2≠0 then (c.1,log0,[],c.2.2) else (c.1,c.2.1,x.1,0)
end WalP
end
section
namespace WalP
def posN (l:List (List UInt8)):Nat:=(l.map fun b=>takes b.length).sum
theorem posN_cons (b:List UInt8) (l:List (List UInt8)):posN (b :: l)=takes b.length+posN l:=by simp [posN]
theorem posN_append (l m:List (List UInt8)):posN (l++m)=posN l+posN m:=by simp [posN]
theorem posN_le:∀ l:List (List UInt8),posN l≤95*l.length
 | []=>by simp [posN]
 | b :: l=>by have:=posN_le l;have:=takes_le b.length;rw [posN_cons,List.length_cons];omega
theorem recsD_append (gen:Int):∀ (l m:List (List UInt8)) (at_:Int) (k:Nat),recsD gen at_ k (l++m)=recsD gen at_ k l++recsD gen (at_+posN l) (k+l.length) m
 | [],m,at_,k=>by simp [recsD,posN]
 | b :: l,m,at_,k=>by
  rw [List.cons_append]
  simp only [recsD]
  rw [recsD_append gen l m,posN_cons,List.append_assoc]
  congr 3
  ·rw [Int.natCast_add,Int.add_assoc]
  ·rw [List.length_cons];omega
def layA (F:Int) (H:Nat) (gen:Int) (list:List (List UInt8)) (k:Nat):List Deed:=zerosD F H++([.flush]++recsD gen F 0 (list.take k))
theorem layD_eq (H:Nat) (which gen:Int) (list:List (List UInt8)):layD H which gen list=layA (which*H) H gen list list.length++[.flush,.put (which*H) (markOf gen 0 (list.headD [])),.flush]:=by
 unfold layD layA
 rw [List.take_length]
 simp only [List.append_assoc]
theorem layA_succ (F:Int) (H:Nat) (gen:Int) (list:List (List UInt8)) (k:Nat) (hk:k<list.length):layA F H gen list (k+1)=layA F H gen list k++recD (F+posN (list.take k)) gen k list[k]:=by
 unfold layA
 have e:list.take (k+1)=list.take k++[list[k]]:=by rw [List.take_add_one,List.getElem?_eq_getElem hk];rfl
 rw [e,recsD_append]
 have e2:0+(list.take k).length=k:=by rw [List.length_take];omega
 rw [e2]
 simp only [recsD,List.append_nil,List.append_assoc]
theorem layA_zero (F:Int) (H:Nat) (gen:Int) (list:List (List UInt8)):layA F H gen list 0=zerosD F H++[.flush]:=by simp [layA,recsD]
theorem layA_pre (H:Nat) (which gen:Int) (list:List (List UInt8)) (k:Nat):∃ r,layD H which gen list=layA (which*H) H gen list k++r:=by
 rw [layD_eq]
 unfold layA
 rw [List.take_length]
 refine⟨recsD gen (which*H+posN (list.take k)) (0+(list.take k).length) (list.drop k)++[.flush,.put (which*H) (markOf gen 0 (list.headD [])),.flush],?_⟩
 have e:=recsD_append gen (list.take k) (list.drop k) (which*H) 0
 rw [List.take_append_drop] at e
 rw [e]
 simp only [List.append_assoc]
theorem zerosD_succ (F:Int) (H k:Nat) (hk:k<H):(zerosD F H).take (k+1)=(zerosD F H).take k++[.put (F+k) zeroS]:=by
 unfold zerosD
 rw [List.take_add_one,List.getElem?_map,List.getElem?_range hk]
 rfl
theorem zerosD_all (F:Int) (H k:Nat) (hk:H≤k):(zerosD F H).take k=zerosD F H:=List.take_of_length_le (by unfold zerosD;simpa using hk)
theorem run_split {d d':DiskP} {xs ys zs r:List Deed} (hz:zs=xs++(ys++r)) (h:run d xs=(d',0)) (hb:(run d' ys).2≠0):run d zs=run d' ys:=by
 have h1:run d (xs++ys)=run d' ys:=by rw [WalP.run_append,h];simp
 rw [hz,← List.append_assoc,WalP.run_append,if_neg (by rw [h1];exact hb),h1]
theorem run_good2 {d d':DiskP} {xs ys:List Deed} (h:run d xs=(d',0)):run d (xs++ys)=run d' ys:=by rw [WalP.run_append,h];simp
theorem run_ok {d:DiskP} {xs:List Deed} (h:(run d xs).2=0):run d xs=((run d xs).1,0):=by rw [← h]
end WalP
end
section
namespace KvP
open PackP WalP
structure StoreP where
 log:LogP
 pairs:List PairP
def store0:StoreP:=⟨log0,[]⟩
def rightS (d:DiskP) (s:StoreP):Bool:=rightL d s.log&&pairsB s.pairs
def formatK (d:DiskP):DiskP×StoreP×Int:=((formatP d (snapP [])).1,⟨(formatP d (snapP [])).2.1,[]⟩,(formatP d (snapP [])).2.2)
def playedP:List (List UInt8)→List PairP→List PairP×Int
 | [],l=>(l,0)
 | b :: bs,l=>if (decodeP b).2=0 then (if pairsB (doP l (decodeP b).1) then playedP bs (doP l (decodeP b).1) else ([],3)) else ([],3)
def openK (d:DiskP):DiskP×StoreP×Int :=
 let x:=openP d
 if x.2.2.2=0 then (if (playedP x.2.2.1 []).2=0 then (x.1,⟨x.2.1,(playedP x.2.2.1 []).1⟩,0) else (x.1,store0,3)) else (x.1,store0,x.2.2.2)
def commitK (d:DiskP) (s:StoreP) (l:List ChangeP):DiskP×StoreP×Int :=
 if changesB l&&rightS d s then
  (if (encodeP l).2=0 then
   (if pairsB (doP s.pairs l) then
    let x:=appendP d s.log (encodeP l).1
    let y:=if x.2.2=8 then compactP d s.log (snapP (doP s.pairs l)) else x
    if y.2.2=0 then (y.1,⟨y.2.1,doP s.pairs l⟩,0) else (y.1,s,y.2.2)
   else (d,s,8))
  else (d,s,(encodeP l).2))
 else (d,s,1)
theorem played_two (l:List PairP):∀ (a b:List (List UInt8)) (x:List PairP),playedP a x=(l,0)→playedP (a++b) x=playedP b l:=by
 intro a
 induction a with
 | nil =>
  intro b x h
  cases h
  rfl
 | cons c a ih =>
  intro b x h
  rw [List.cons_append]
  rw [playedP] at h ⊢
  by_cases h1:(decodeP c).2=0
  ·rw [if_pos h1] at h ⊢
   by_cases h2:pairsB (doP x (decodeP c).1)=true
   ·rw [if_pos h2] at h ⊢
    exact ih b _ h
   ·rw [if_neg h2] at h
    cases h
  ·rw [if_neg h1] at h
   cases h
theorem played_snoc {a:List (List UInt8)} {x l:List PairP} {c:List ChangeP} (h:playedP a x=(l,0)) (hc:changesB c=true) (hp:pairsB (doP l c)=true):playedP (a++[bytesP c]) x=(doP l c,0):=by
 rw [played_two l a [bytesP c] x h,playedP,decode_bytes hc]
 simp only [if_true]
 rw [if_pos hp]
 rfl
theorem pairsB_parts {l:List PairP} (h:pairsB l=true):l.length≤400∧(∀ p∈l,mayP p.key p.val=true)∧Rising l:=by
 unfold pairsB at h
 simp only [Bool.and_eq_true,decide_eq_true_eq,List.all_eq_true] at h
 exact⟨h.1.1,h.1.2,h.2⟩
theorem pairsB_of {l:List PairP} (h1:l.length≤400) (h2:∀ p∈l,mayP p.key p.val=true) (h3:Rising l):pairsB l=true:=by
 unfold pairsB
 simp only [Bool.and_eq_true,decide_eq_true_eq,List.all_eq_true]
 exact⟨⟨h1,h2⟩,h3⟩
end KvP
end
section
namespace KvP
theorem rising_step {l:List PairP} (h:∀ i (hi:i+1<l.length),l[i].key<l[i+1].key):∀ (d i:Nat) (hi:i+d+1<l.length),l[i].key<l[i+d+1].key
 | 0,i,hi=>h i hi
 | d+1,i,hi=>lt_trans3 (rising_step h d i (by omega)) (h (i+d+1) (by omega))
theorem rising_iff {l:List PairP}:Rising l↔∀ i (hi:i+1<l.length),l[i].key<l[i+1].key:=by
 constructor
 ·intro h i hi
  exact (List.pairwise_iff_getElem.1 h) i (i+1) (by omega) hi (by omega)
 ·intro h
  refine List.pairwise_iff_getElem.2 (fun i j hi hj hij=>?_)
  have:=rising_step h (j-i-1) i (by omega)
  have e:i+(j-i-1)+1=j:=by omega
  simpa only [e] using this
def goodAt (l:List PairP) (i:Nat) (p:PairP):Bool:=decide (i<400)&&mayP p.key p.val&&(decide (i=0) || match l[i-1]? with | some q=>decide (q.key<p.key) | none=>true)
theorem pairsB_iff {l:List PairP}:pairsB l=true↔∀ i (hi:i<l.length),goodAt l i l[i]=true:=by
 constructor
 ·intro h i hi
  obtain⟨h1,h2,h3⟩:=pairsB_parts h
  unfold goodAt
  rw [decide_eq_true (show i<400 by omega),h2 _ (List.getElem_mem hi)]
  simp only [Bool.true_and]
  by_cases h0:i=0
  ·simp [h0]
  ·rw [List.getElem?_eq_getElem (show i-1<l.length by omega)]
   simp only
   have:=(rising_iff.1 h3) (i-1) (by omega)
   have e:i-1+1=i:=by omega
   simp only [e] at this
   rw [decide_eq_true this]
   simp
 ·intro h
  refine pairsB_of ?_ (fun p hp=>?_) (rising_iff.2 (fun i hi=>?_))
  ·by_cases h0:l.length≤400
   ·exact h0
   ·have:=h 400 (by omega)
    unfold goodAt at this
    simp at this
  ·obtain⟨i,hi,rfl⟩:=List.getElem_of_mem hp
   have:=h i hi
   unfold goodAt at this
   simp only [Bool.and_eq_true] at this
   exact this.1.2
  ·have:=h (i+1) hi
   unfold goodAt at this
   simp only [Bool.and_eq_true,Nat.add_sub_cancel,List.getElem?_eq_getElem (show i<l.length by omega),Bool.or_eq_true,decide_eq_true_eq] at this
   rcases this.2 with h2 | h2
   ·omega
   ·exact h2
end KvP
end
section
open Go.RowKit
section
variable {P:Program} {ops:Array Oper} {l:List Oper} {Q:Exit→Act→World→Prop} {md:Region.Mode} {S:World→Prop} {w:World} {L:Act→World→Prop} {i:Nat} {r:List (Bool×Nat)} {o:Oper} {a:Act}
def nth:List Oper→Nat→Option Oper
 | [],_=>none
 | o :: _,0=>some o
 | _ :: l,n+1=>nth l n
theorem nth_eq:∀ (l:List Oper) (i:Nat),nth l i=l.toArray[i]?
 | [],i=>by simp [nth]
 | o :: l,0=>by simp [nth]
 | o :: l,i+1=>by
  have:=nth_eq l i
  simp only [nth,this]
  simp
def heldI (P:Program) (l:List Oper) (Q:Exit→Act→World→Prop) (S:World→Prop) (L:Act→World→Prop):List (Bool×Nat)→Act→World→Prop
 | [],a,w=>L a w
 | (false,i) :: r,a,w=>∃ o v,nth l i=some o∧YieldsIf P l.toArray S o v a∧heldI P l Q S L r (a.put o.dst v) w
 | (true,i) :: r,a,w=>∃ o,nth l i=some o∧∀ K':Act→World→Prop,(∀ a' w',S w'→heldI P l Q S L r a' w'→K' a' w')→if Region.wanted o (yielded l.toArray a.tmps)=true then Oper.wp P o a w K' Q else K' (a.put o.dst undef) w
theorem zN (h:L a w):heldI P l Q S L [] a w:=h
theorem zT (ho:nth l i=some o) (v:Value) (hw:Region.wanted o (yielded l.toArray a.tmps)=true) (h:∀ w,S w→(execOp a.eval o).run P w = .ok (.value v) w)
  (k:heldI P l Q S L r (a.put o.dst v) w):heldI P l Q S L ((false,i) :: r) a w:=⟨o,v,ho,.inl ⟨hw,h⟩,k⟩
theorem zS (ho:nth l i=some o) (hw:Region.wanted o (yielded l.toArray a.tmps)=false)
  (k:heldI P l Q S L r (a.put o.dst undef) w):heldI P l Q S L ((false,i) :: r) a w:=⟨o,undef,ho,.inr ⟨hw,rfl⟩,k⟩
theorem run_load_op (x:Operand) (t:TypeId) (ho:o.op = .load t x) {ad:Addr} {v:Value} (hx:a.eval x = .pointer (some ad)) (hl:(loadVar t ad).run P w = .ok v w):(execOp a.eval o).run P w = .ok (.value v) w:=by
 unfold execOp
 simp only [ho,hx,Instr.loadAt,Instr.sureAddr,Sem.run_bind,Sem.run_pure,Result.andThen_ok,hl]
theorem heldI_load (ho:nth l i=some o) (x:Operand) (t:TypeId) (hw:Region.wanted o (yielded l.toArray a.tmps)=true) (hop:o.op = .load t x) {ad:Addr} {v:Value} (hx:a.eval x = .pointer (some ad))
  (hl:∀ w,S w→(loadVar t ad).run P w = .ok v w) (k:heldI P l Q S L r (a.put o.dst v) w):heldI P l Q S L ((false,i) :: r) a w :=
 zT ho v hw (fun w hS=>run_load_op x t hop hx (hl w hS)) k
theorem heldI_pass (ho:nth l i=some o) (hw:Region.wanted o (yielded l.toArray a.tmps)=false) (hS:S w)
  (k:heldI P l Q S L r (a.put o.dst undef) w):heldI P l Q S L ((true,i) :: r) a w:=⟨o,ho,fun K' hK=>by
 rw [if_neg (by rw [hw];simp)]
 exact hK _ _ hS k⟩
theorem zA (ho:nth l i=some o) (hw:Region.wanted o (yielded l.toArray a.tmps)=true)
  (h:∀ K':Act→World→Prop,Shut (∀ a' w',S w'→heldI P l Q S L r a' w'→K' a' w')→Oper.wp P o a w K' Q):heldI P l Q S L ((true,i) :: r) a w:=⟨o,ho,fun K' hK=>by
 rw [if_pos hw]
 exact h K' hK⟩
def checkI (md:Region.Mode) (ops:Array Oper):List (Bool×Nat)→Array Bool→Option (Array Bool)
 | [],listed=>some listed
 | (false,i) :: r,listed=>if (Region.ready md ops listed).contains i&&Region.free md ops listed i then checkI md ops r (listed.setIfInBounds i true) else none
 | (true,i) :: r,listed=>if Region.ready md ops listed=[i] then checkI md ops r (listed.setIfInBounds i true) else none
theorem wpAnyH_I {fuel:Nat} (hs:Region.noSelect l.toArray=true) (hQ:∀ c d v a w,Q (.panic c) (Act.put a d v) w→Q (.panic c) a w) {listed':Array Bool} (hL:∀ a w,S w→L a w→wpAnyH P md l.toArray Q S fuel listed' a w)
  (is:List (Bool×Nat)):∀ (listed:Array Bool) (a:Act) (w:World),checkI md l.toArray is listed=some listed'→S w →
  heldI P l Q S L is a w→wpAnyH P md l.toArray Q S (is.length+fuel) listed a w:=by
 induction is with
 | nil =>
  intro listed a w hB hS h
  simp only [checkI,Option.some.injEq] at hB
  subst hB
  simpa using hL a w hS h
 | cons x is ih =>
  intro listed a w hB hS h
  have e:(x :: is).length+fuel=(is.length+fuel)+1:=by simp;omega
  rw [e]
  obtain⟨b,i⟩:=x
  cases b with
  | false =>
   obtain⟨o,v,h0,hy,hk⟩:=h
   rw [nth_eq] at h0
   simp only [checkI] at hB
   split at hB
   ·rename_i hc
    simp only [Bool.and_eq_true] at hc
    exact wpAnyH_take h0 hs hc.2 hc.1 (fun c a w=>hQ c _ _ a w) hy hS (ih _ _ _ hB hS hk)
   ·cases hB
  | true =>
   obtain⟨o,h0,h⟩:=h
   rw [nth_eq] at h0
   simp only [checkI] at hB
   split at hB
   ·rename_i hr
    refine wpAnyH_ready (fuel:=is.length+fuel) hr (by simp) (.cons h0 (fun K' hK=>h K' fun a' w' hS' hr'=>?_) .nil)
    exact hK.out a' w' hS' fun _=>ih _ a' w' hB hS' hr'
   ·cases hB
theorem wpAnyH_end {fuel:Nat} {listed:Array Bool} (is:List (Bool×Nat)) (hB:(Region.noSelect l.toArray&&decide (is.length≤fuel)&&(checkI md l.toArray is listed).any fun x=>(Region.ready md l.toArray x).isEmpty)=true) (hS:S w)
  (h:heldI P l (NoPanic Q) S (fun a w=>Q .normal a w) is a w):wpAnyH P md l.toArray (NoPanic Q) S fuel listed a w:=by
 simp only [Bool.and_eq_true,decide_eq_true_eq,Option.any_eq_true] at hB
 obtain⟨⟨h1,h2⟩,x,hx,h3⟩:=hB
 have:=wpAnyH_I (P:=P) (l:=l) (Q:=NoPanic Q) (md:=md) (S:=S) (fuel:=fuel-is.length) h1 (fun _ _ _ _ _ h=>h) (listed':=x)
  (L:=fun a w=>Q .normal a w) (fun a w _ hq=>wpAnyH_done (by simpa [List.isEmpty_iff] using h3) (NoPanic.normal hq) _) is listed a w hx hS h
 rwa [show is.length+(fuel-is.length)=fuel by omega] at this
theorem wpAnyH_part {fuel:Nat} {listed:Array Bool} (is:List (Bool×Nat)) (hB:(Region.noSelect l.toArray&&decide (is.length≤fuel)&&(checkI md l.toArray is listed).isSome)=true) (hS:S w)
  (h:heldI P l (NoPanic Q) S (fun a w=>wpAnyH P md l.toArray (NoPanic Q) S (fuel-is.length) ((checkI md l.toArray is listed).getD #[]) a w) is a w):wpAnyH P md l.toArray (NoPanic Q) S fuel listed a w:=by
 simp only [Bool.and_eq_true,decide_eq_true_eq,Option.isSome_iff_exists] at hB
 obtain⟨⟨h1,h2⟩,x,hx⟩:=hB
 rw [hx] at h
 have:=wpAnyH_I (P:=P) (l:=l) (Q:=NoPanic Q) (md:=md) (S:=S) (fuel:=fuel-is.length) h1 (fun _ _ _ _ _ h=>h) (listed':=x)
  (L:=fun a w=>wpAnyH P md l.toArray (NoPanic Q) S (fuel-is.length) x a w) (fun a w _ hq=>hq) is listed a w hx hS h
 rwa [show is.length+(fuel-is.length)=fuel by omega] at this
theorem wp_region_start {id:Nat} (S:World→Prop) (hm:P.follows .mixedOrders=true) (hS:S w.drew)
  (h:wpAnyH P .any l.toArray (NoPanic Q) S l.length (Array.replicate l.length false) a w.drew):(Code.region id l.toArray true).wp P Q a w :=
 wp_region_noPanic (wp_region_held_drew (S:=S) hm hS fun _=>by simpa using h)
theorem zI {id:Nat} (is:List (Bool×Nat)) (S:World→Prop) (hm:P.follows .mixedOrders=true) (hB:(Region.noSelect l.toArray&&decide (is.length≤l.length)&&(checkI .any l.toArray is (Array.replicate l.length false)).any fun x=>(Region.ready .any l.toArray x).isEmpty)=true)
  (hS:S w.drew) (h:heldI P l (NoPanic Q) S (fun a w=>Q .normal a w) is a w.drew):(Code.region id l.toArray true).wp P Q a w :=
 wp_region_start S hm hS (wpAnyH_end is hB hS h)
theorem zR {fuel:Nat} {listed:Array Bool} {rs:List Nat} (ho:nth l i=some o) (hw:Region.wanted o (yielded l.toArray a.tmps)=true)
  (h:∀ K':Act→World→Prop,Shut (∀ a w,S w→wpAnyH P md l.toArray Q S fuel (listed.setIfInBounds i true) a w→K' a w)→Oper.wp P o a w K' Q)
  (hs:AllReadyH P md l.toArray Q S fuel listed a w rs):AllReadyH P md l.toArray Q S fuel listed a w (i :: rs):=by
 rw [nth_eq] at ho
 refine .cons ho (fun K' hK=>?_) hs
 rw [if_pos hw]
 exact h K' fun a w hS hr=>hK.out a w hS fun _=>hr
theorem wp_region_P {id:Nat} (is:List (Bool×Nat)) (S:World→Prop) (hm:P.follows .mixedOrders=true) (hB:(Region.noSelect l.toArray&&decide (is.length=l.length)&&(checkI .any l.toArray is (Array.replicate l.length false)).any fun x=>(Region.ready .any l.toArray x).isEmpty)=true)
  (hQ:∀ c d v a w,Q (.panic c) (Act.put a d v) w→Q (.panic c) a w)
  (hS:S w.drew) (h:heldI P l Q S (fun a w=>Q .normal a w) is a w.drew):(Code.region id l.toArray true).wp P Q a w:=by
 simp only [Bool.and_eq_true,decide_eq_true_eq,Option.any_eq_true] at hB
 obtain⟨⟨h1,h2⟩,x,hx,h3⟩:=hB
 refine wp_region_held_drew (S:=S) hm hS fun _=>?_
 have:=wpAnyH_I (P:=P) (l:=l) (Q:=Q) (md:=.any) (S:=S) (fuel:=0) h1 hQ (listed':=x)
  (L:=fun a w=>Q .normal a w) (fun a w _ hq=>wpAnyH_done (by simpa [List.isEmpty_iff] using h3) hq _) is (Array.replicate l.length false) a w.drew hx hS h
 rw [h2] at this
 simpa using this
theorem op_copy {K:Act→World→Prop} (hgd:o.guard=none) (d s:Operand) (dT sT:TypeId)
  (ho:o.op = .call { callee:=.builtin .copy,args:=#[d,s],argTypes:=#[dT,sT] }) (elem:TypeId) (hu:P.underlying dT=some (.slice elem)) (hsz:(P.info? elem).map (·.size)=some 1)
  (dp sp:Option Addr) (dLen dCap sLen sCap:Nat) (hd:a.eval d = .slice dp dLen dCap) (hs:a.eval s = .slice sp sLen sCap)
  (g off:Nat) (cur:List Value) (t:TypeId) (hg:w.heap[g]?=some (.cells cur.toArray t (0,0))) (cs:List Value) (hn:cs.length=Nat.min sLen dLen)
  (hpos:0<cs.length→dp=some ⟨g,off,none⟩∧∃ ad,sp=some ad∧∀ j v,cs[j]?=some v→w.cell? (ad.add j)=some v)
  (hfit:off+cs.length≤cur.length) (h1:∀ v∈cs,v.oneCell'=true)
  (h:∀ w',w'.heap[g]?=some (.cells (splice cur off cs).toArray t (0,0))→Below g w w'→w'.heap.size=w.heap.size→(∀ k,k≠g→w'.heap[k]?=w.heap[k]?)→K (a.put o.dst (goInt cs.length)) w'):Oper.wp P o a w K Q:=by
 by_cases h0:cs.length=0
 ·obtain rfl:cs=[]:=List.eq_nil_of_length_eq_zero h0
  have hrun:=run_copy_none (P:=P) w dT sT o.type elem dp sp dLen dCap sLen sCap hu hsz (by simpa using hn.symm)
  unfold Oper.wp
  simp [execOp,ho,resolve,invoke,builtin,hd,hs,hrun,Result.andThen]
  exact h w (by simpa [splice] using hg) (Below.refl _ _) rfl (fun _ _=>rfl)
 ·obtain⟨rfl,ad,rfl,hsrc⟩:=hpos (by omega)
  have hrun:=run_copy_row (P:=P) w dT sT o.type elem g off dLen dCap ad sLen sCap cur.toArray t cs hu hsz hg hn hsrc (by simpa using hfit) h1
  unfold Oper.wp
  simp [execOp,ho,resolve,invoke,builtin,hd,hs,hrun,Result.andThen]
  exact h _ (by simpa [splice] using setRow_heap w g _ _ t _ hg) (below_setRow (Below.refl _ _) (Nat.le_refl _) _) (by simp [World.setRow]) (fun k hk=>setRow_other w g k _ hk)
theorem wpAnyH_endQ {fuel:Nat} {listed:Array Bool} (is:List (Bool×Nat)) (hB:(Region.noSelect l.toArray&&decide (is.length≤fuel)&&(checkI md l.toArray is listed).any fun x=>(Region.ready md l.toArray x).isEmpty)=true) (hQ:∀ c d v a w,Q (.panic c) (Act.put a d v) w→Q (.panic c) a w) (hS:S w)
  (h:heldI P l Q S (fun a w=>Q .normal a w) is a w):wpAnyH P md l.toArray Q S fuel listed a w:=by
 simp only [Bool.and_eq_true,decide_eq_true_eq,Option.any_eq_true] at hB
 obtain⟨⟨h1,h2⟩,x,hx,h3⟩:=hB
 have:=wpAnyH_I (P:=P) (l:=l) (Q:=Q) (md:=md) (S:=S) (fuel:=fuel-is.length) h1 hQ (listed':=x)
  (L:=fun a w=>Q .normal a w) (fun a w _ hq=>wpAnyH_done (by simpa [List.isEmpty_iff] using h3) hq _) is listed a w hx hS h
 rwa [show is.length+(fuel-is.length)=fuel by omega] at this
theorem wpAnyH_partQ {fuel:Nat} {listed:Array Bool} (is:List (Bool×Nat)) (hB:(Region.noSelect l.toArray&&decide (is.length≤fuel)&&(checkI md l.toArray is listed).isSome)=true) (hQ:∀ c d v a w,Q (.panic c) (Act.put a d v) w→Q (.panic c) a w) (hS:S w)
  (h:heldI P l Q S (fun a w=>wpAnyH P md l.toArray Q S (fuel-is.length) ((checkI md l.toArray is listed).getD #[]) a w) is a w):wpAnyH P md l.toArray Q S fuel listed a w:=by
 simp only [Bool.and_eq_true,decide_eq_true_eq,Option.isSome_iff_exists] at hB
 obtain⟨⟨h1,h2⟩,x,hx⟩:=hB
 rw [hx] at h
 have:=wpAnyH_I (P:=P) (l:=l) (Q:=Q) (md:=md) (S:=S) (fuel:=fuel-is.length) h1 hQ (listed':=x)
  (L:=fun a w=>wpAnyH P md l.toArray Q S (fuel-is.length) x a w) (fun a w _ hq=>hq) is listed a w hx hS h
 rwa [show is.length+(fuel-is.length)=fuel by omega] at this
theorem wp_region_startQ {id:Nat} (S:World→Prop) (hm:P.follows .mixedOrders=true) (hS:S w.drew)
  (h:wpAnyH P .any l.toArray Q S l.length (Array.replicate l.length false) a w.drew):(Code.region id l.toArray true).wp P Q a w :=
 wp_region_held_drew (S:=S) hm hS fun _=>by simpa using h
theorem op_load {K:Act→World→Prop} (x:Operand) (t:TypeId) (ho:o.op = .load t x) {ad:Addr} {v:Value} (hx:a.eval x = .pointer (some ad)) (hl:(loadVar t ad).run P w = .ok v w) (h:K (a.put o.dst v) w):Oper.wp P o a w K Q:=by
 unfold Oper.wp
 rw [run_load_op x t ho hx hl]
 exact h
end
end
end Go.Proofs.YtaijompnohkmaaaGreatDoor
