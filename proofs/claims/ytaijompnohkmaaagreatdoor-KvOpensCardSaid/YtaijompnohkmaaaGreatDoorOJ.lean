/- Layer 1 (sector), the document's answer: deed. -/
import Derived.Test.YtaijompnohkmaaaGreatDoorOI
import Derived.StillTailTactics
set_option linter.unusedSimpArgs false
set_option linter.unusedVariables false
namespace Go.Proofs.YtaijompnohkmaaaGreatDoor
section
open Go.RowKit
theorem set_row4 {w:World} {g:Nat} {a b c d:Value} {t:TypeId} (h:w.heap[g]?=some (.cells #[a,b,c,d] t (0,0))) (v:Value):(w.setCell ⟨g,2,none⟩ v).heap[g]?=some (.cells #[a,b,v,d] t (0,0))∧(w.setCell ⟨g,3,none⟩ v).heap[g]?=some (.cells #[a,b,c,v] t (0,0))∧(w.setCell ⟨g,1,none⟩ v).heap[g]?=some (.cells #[a,v,c,d] t (0,0))∧(w.setCell ⟨g,0,none⟩ v).heap[g]?=some (.cells #[v,b,c,d] t (0,0)):=by
 refine⟨?_,?_,?_,?_⟩ <;> simp [World.setCell,Array.getElem?_modify,h]
def DiskO (B C:Nat) (w:World) (sv lv:Value) (d:DiskP):Prop:=SecsO B w sv d.secs∧RowIn B C w sv 64 d.secs.length (d.secs.map u8s).flatten∧LooseO C w lv d.loose
theorem DiskO.setOther {B C:Nat} {w:World} {sv lv:Value} {d:DiskP} (h:DiskO B C w sv lv d) (p:Addr) (u:Value) (hp:p.block<B) (hC:B≤C):DiskO B C (w.setCell p u) sv lv d :=
 ⟨h.1.setOther p u hp,h.2.1.setOther p u hp,h.2.2.setOther p u (Nat.lt_of_lt_of_le hp hC)⟩
theorem DiskO.put4 {B C g:Nat} {w:World} {sv lv:Value} {d:DiskP} (h:DiskO B C w sv lv d) (hp:g<B) (hC:B≤C) (a b c e:Value):DiskO B C (put4 w g a b c e) sv lv d :=
 (((h.setOther ⟨g,0,none⟩ a hp hC).setOther ⟨g,1,none⟩ b hp hC).setOther ⟨g,2,none⟩ c hp hC).setOther ⟨g,3,none⟩ e hp hC
theorem DiskO.lower {B B' C:Nat} {w:World} {sv lv:Value} {d:DiskP} (h:DiskO B C w sv lv d) (hB:B'≤B):DiskO B' C w sv lv d :=
 ⟨h.1.lower hB,by
  obtain⟨hl,a,cap,rfl,h1,h2,h3⟩:=h.2.1
  refine⟨hl,a,cap,rfl,h1,h2,fun hp=>?_⟩
  obtain⟨b,off,hb,hBb,hc⟩:=h3 hp
  exact⟨b,off,hb,Nat.le_trans hB hBb,hc⟩,h.2.2⟩
theorem DiskO.of {B C:Nat} {w:World} {sv lv:Value} {d:DiskP} (h1:SecsO B w sv d.secs) (r:Row C w sv 64 d.secs.length (d.secs.map u8s).flatten) (h2:LooseO C w lv d.loose):DiskO B C w sv lv d:=⟨h1,RowIn.of h1.2 r,h2⟩
set_option maxRecDepth 100000 in
set_option maxHeartbeats 1000000 in
theorem deed_any {B:Nat} (v:Value) (d:DiskP) (w:World) (h:DiskV B w v d) (hlen:d.secs.length≤2^40∧d.loose.length≤2^40) (hf:-1≤d.fuse∧d.fuse≤2^40) :
  Calls Tryz.prog 157 #[v] w fun e w'=>(∃ sv lv,e = .returned (.tuple #[.agg #[sv,lv,.int .i64 (burnF d),.bool (downP d)],.bool (!downP d)])∧∃ C,w.heap.size≤C∧C≤w'.heap.size∧DiskO w.heap.size C w' sv lv d)∧Below w.heap.size w w':=by
 obtain⟨a1,n1,a2,n2,rfl,hs,hl⟩:=h.tight.parts
 clear h
 have F:=Fr2.new (w:=w) hs hl
 obtain⟨w2,hw2⟩:∃ w2,w2=(w.alloc (.cells #[.slice a1 d.secs.length n1,.slice a2 d.loose.length n2,.int .i64 d.fuse,.bool d.down] 38)).alloc (.cells #[.slice none 0 0,.slice none 0 0,.int .i64 0,.bool false] 38):=⟨_,rfl⟩
 have hB:Below w.heap.size w w2:=by rw [hw2];exact Below.alloc (Below.alloc (Below.refl _ _) (Nat.le_refl _) _) (by simp) _
 have hle:w.heap.size+2≤w2.heap.size:=by rw [hw2];simp
 rw [← hw2] at F
 clear hs hl
 have k1:=copy_any _ d w2 F.diskV hlen
 have C0:=cR w2 _ 0 _ _ _ F.g0
 have C1:=cR w2 _ 1 _ _ _ F.g0
 have C2:=cR w2 _ 2 _ _ _ F.g0
 have C3:=cR w2 _ 3 _ _ _ F.g0
 have HF:=zh hf
 clear hlen hf
 go_enter Tryz.func157,Tryz.ntmps157
 go_wp2_with fail
 rw [← hw2]
 clear hw2
 refine k1.mono ?_
 rintro e w3 ⟨⟨sv,lv,rfl,C,hC1,hC2,ho,r,hlo⟩,hb3⟩
 obtain⟨b1,m1,rfl⟩:=ho.form
 obtain⟨b2,m2,rfl⟩:=hlo.form
 have O:=DiskO.of ho r hlo
 have F:=F.below hb3 (by omega) (by omega)
 have hB:=hB.trans (hb3.mono hB.size)
 clear k1 C0 C1 C2 C3 hb3 ho r hlo
 have C0:=cR w3 _ 0 _ _ _ F.g0
 have C1:=cR w3 _ 1 _ _ _ F.g0
 have C2:=cR w3 _ 2 _ _ _ F.g0
 have C3:=cR w3 _ 3 _ _ _ F.g0
 have Y:=zF F.g0
 have hg0:w.heap.size<w2.heap.size:=by omega
 have hg1:w.heap.size+1<w2.heap.size:=by omega
 obtain⟨w4,hw4⟩:∃ w4,w4=put4 w3 w.heap.size (.slice b1 d.secs.length m1) (.slice b2 d.loose.length m2) (.int .i64 d.fuse) (.bool d.down):=⟨_,rfl⟩
 have G0:w4.heap[w.heap.size]?=some (.cells #[.slice b1 d.secs.length m1,.slice b2 d.loose.length m2,.int .i64 d.fuse,.bool d.down] 38 (0,0)):=by rw [hw4];exact put4_heap F.g0 _ _ _ _
 have G1:w4.heap[w.heap.size+1]?=some (.cells #[.slice none 0 0,.slice none 0 0,.int .i64 0,.bool false] 38 (0,0)):=by rw [hw4];exact put4_far F.g2 (by omega) _ _ _ _
 have O4:DiskO w2.heap.size C w4 (.slice b1 d.secs.length m1) (.slice b2 d.loose.length m2) d:=by rw [hw4];exact O.put4 hg0 hC1 _ _ _ _
 have hB4:Below w.heap.size w w4:=by rw [hw4];exact put4_below hB (Nat.le_refl _) _ _ _ _
 have hC4:C≤w4.heap.size:=by rw [hw4];simpa [put4] using hC2
 unfold put4 at hw4
 have HW4:=zh hw4
 clear hw4 hB O hC2 F
 have hld:=run_loadVar_row (P:=Tryz.prog) w4 w.heap.size 38 38 _ (0,0) _ G0 Tryz.underlying38 rfl zQ
 have ldn:(loadVar 4 ⟨w.heap.size,3,none⟩).run Tryz.prog w4 = .ok (.bool d.down) w4:=by simp [go_sem,cR w4 _ 3 _ _ _ G0]
 go_wp2_with (refine wp_load_to (w':=w4) (.tmp 6) 4 rfl rfl ?_ rfl ldn ?_;(exact HW4.out);refine Halt.in ?_)
 refine Halt.out ?_
 clear hld ldn C0 C1 C2 C3 Y
 have C0:=cR w4 _ 0 _ _ _ G0
 have C1:=cR w4 _ 1 _ _ _ G0
 have C2:=cR w4 _ 2 _ _ _ G0
 have C3:=cR w4 _ 3 _ _ _ G0
 have D0:=cR w4 _ 0 _ _ _ G1
 have D1:=cR w4 _ 1 _ _ _ G1
 have D2:=cR w4 _ 2 _ _ _ G1
 have D3:=cR w4 _ 3 _ _ _ G1
 have Y:=zF G0
 have Z:=zF G1
 have H5:w.heap.size≠w.heap.size+1:=by omega
 have hl2:w.heap.size≤w2.heap.size:=by omega
 obtain⟨D,hD⟩:∃ D,D=d.down:=⟨_,rfl⟩
 rw [← hD] at C3 ⊢
 have HD:=zh hD
 clear hD
 cases D with
 | true =>
  have U:=zh (show burnF d=d.fuse∧downP d=true from ⟨by simp [burnF,downP,← HD.out],by simp [downP,← HD.out]⟩)
  go_wp2_with fail
  refine bodyPost_ret (results_ct rfl _ _ (w.heap.size+1) _ _ _ _ rfl (put4_heap ((setFar H5 3 _).trans G1) _ _ _ _) Tryz.underlying38 rfl zQ) rfl ?_
  exact⟨⟨_,_,by rw [U.out.1,U.out.2] <;> rfl,C,Nat.le_trans hl2 hC1,by simpa [put4] using hC4,((O4.setOther ⟨w.heap.size,3,none⟩ _ hg0 hC1).put4 hg1 hC1 _ _ _ _).lower hl2⟩,put4_below (hB4.setCell (p:=⟨w.heap.size,3,none⟩) (Nat.le_refl _) _) (by omega) _ _ _ _⟩
 | false =>
 by_cases hz:d.fuse=0
 ·have t0:((d.fuse:Int) == 0)=true:=by rw [beq_iff_eq];exact hz
  have U:=zh (show burnF d=d.fuse∧downP d=true from ⟨by simp [burnF,downP,hz],by simp [downP,hz]⟩)
  clear hz
  go_wp2_with fail
  refine bodyPost_ret (results_ct rfl _ _ (w.heap.size+1) _ _ _ _ rfl (put4_heap ((setFar H5 3 _).trans G1) _ _ _ _) Tryz.underlying38 rfl zQ) rfl ?_
  exact⟨⟨_,_,by rw [U.out.1,U.out.2] <;> rfl,C,Nat.le_trans hl2 hC1,by simpa [put4] using hC4,((O4.setOther ⟨w.heap.size,3,none⟩ _ hg0 hC1).put4 hg1 hC1 _ _ _ _).lower hl2⟩,put4_below (hB4.setCell (p:=⟨w.heap.size,3,none⟩) (Nat.le_refl _) _) (by omega) _ _ _ _⟩
 ·have t0:((d.fuse:Int) == 0)=false:=by rw [beq_eq_false_iff_ne];exact hz
  have hf:=HF.out
  by_cases hp:0<d.fuse
  ·have U:=zh (show burnF d=d.fuse-1∧downP d=false from ⟨by simp [burnF,downP,← HD.out,hz,hp],by simp [downP,← HD.out,hz]⟩)
   clear hz
   go_wp2_with fail
   refine bodyPost_ret (results_ct rfl _ _ (w.heap.size+1) _ _ _ _ rfl (put4_heap ((setFar H5 2 _).trans G1) _ _ _ _) Tryz.underlying38 rfl zQ) rfl ?_
   exact⟨⟨_,_,by rw [U.out.1,U.out.2] <;> rfl,C,Nat.le_trans hl2 hC1,by simpa [put4] using hC4,((O4.setOther ⟨w.heap.size,2,none⟩ _ hg0 hC1).put4 hg1 hC1 _ _ _ _).lower hl2⟩,put4_below (hB4.setCell (p:=⟨w.heap.size,2,none⟩) (Nat.le_refl _) _) (by omega) _ _ _ _⟩
  ·have U:=zh (show burnF d=d.fuse∧downP d=false from ⟨by simp [burnF,downP,← HD.out,hz,hp],by simp [downP,← HD.out,hz]⟩)
   clear hz
   go_wp2_with fail
   refine bodyPost_ret (results_ct rfl _ _ (w.heap.size+1) _ _ _ _ rfl (put4_heap (G1) _ _ _ _) Tryz.underlying38 rfl zQ) rfl ?_
   exact⟨⟨_,_,by rw [U.out.1,U.out.2] <;> rfl,C,Nat.le_trans hl2 hC1,by simpa [put4] using hC4,(O4.put4 hg1 hC1 _ _ _ _).lower hl2⟩,put4_below (hB4) (by omega) _ _ _ _⟩
end
section
open Go.RowKit
set_option maxRecDepth 100000 in
set_option maxHeartbeats 2000000 in
theorem done_any {B:Nat} (v:Value) (d:DiskP) (mask:Int) (w:World) (h:DiskV B w v d) (hr:rightB d=true) (hm0:0≤mask) (hm:mask<2^64) :
  Calls Tryz.prog 70 #[v,.int .u64 mask] w fun e w'=>(∃ sv,e = .returned (.agg #[sv,.slice none 0 0,.int .i64 d.fuse,.bool d.down])∧SecsO w.heap.size w' sv (settleN d.secs d.loose (stay mask) d.loose.length))∧Below w.heap.size w w':=by
 obtain⟨a1,n1,a2,n2,rfl,hs,hl⟩:=h.tight.parts
 clear h
 have hl0:=hl
 have F:=Fr2.new (w:=w) hs hl
 obtain⟨w2,hw2⟩:∃ w2,w2=(w.alloc (.cells #[.slice a1 d.secs.length n1,.slice a2 d.loose.length n2,.int .i64 d.fuse,.bool d.down] 38)).alloc (.cells #[.slice none 0 0,.slice none 0 0,.int .i64 0,.bool false] 38):=⟨_,rfl⟩
 have hB:Below w.heap.size w w2:=by rw [hw2];exact Below.alloc (Below.alloc (Below.refl _ _) (Nat.le_refl _) _) (by simp) _
 have hle:w.heap.size+2≤w2.heap.size:=by rw [hw2];simp
 rw [← hw2] at F
 have hrs:d.secs.length≤2^40∧d.loose.length≤2^40:=by
  simp only [rightB,Bool.and_eq_true,decide_eq_true_eq] at hr
  omega
 have k1:=copy_any _ d w2 F.diskV hrs
 have HT:=zh (fun k hk=>there_of_right hr k hk)
 have HM:=zh (And.intro hm0 hm)
 have C0:=cR w2 _ 0 _ _ _ F.g0
 have C1:=cR w2 _ 1 _ _ _ F.g0
 have C2:=cR w2 _ 2 _ _ _ F.g0
 have C3:=cR w2 _ 3 _ _ _ F.g0
 clear hs hl hr hm0 hm
 obtain⟨mk,hmk⟩:=Int.eq_ofNat_of_zero_le HM.out.1
 go_enter Tryz.func70,Tryz.ntmps70
 go_wp2_with fail
 rw [← hw2]
 clear hw2
 refine k1.mono ?_
 rintro e w3 ⟨⟨sv,lv,rfl,C,hC1,hC2,ho,r,hlo⟩,hb3⟩
 obtain⟨b1,m1,rfl⟩:=ho.form
 obtain⟨b2,m2,rfl⟩:=hlo.form
 have HNE:=zh (show 0<d.secs.length→∀ g,b1=some ⟨g,0,none⟩→w3.heap.size≠g from fun hp g hg=>by
  obtain⟨_,a,cap,hv,_,_,h3⟩:=ho.secs.2
  cases hv
  obtain⟨b,off,hb,hlt,_⟩:=h3 hp
  rw [hg] at hb
  cases hb
  omega)
 have F:=F.below hb3 (by omega) (by omega)
 have hB:=hB.trans (hb3.mono hB.size)
 have hs3:w.heap.size+2≤w3.heap.size:=Nat.le_trans hle hb3.size
 clear k1 C0 C1 C2 C3 hb3 r hlo hC1 hC2
 obtain⟨w4,hw4⟩:∃ w4,w4=w3.alloc (.cells #[.slice b1 d.secs.length m1,.slice none 0 0,.int .i64 d.fuse,.bool d.down] 38):=⟨_,rfl⟩
 have hb4:Below w3.heap.size w3 w4:=by rw [hw4];exact Below.alloc (Below.refl _ _) (Nat.le_refl _) _
 have G5:w4.heap[w3.heap.size]?=some (.cells #[.slice b1 d.secs.length m1,.slice none 0 0,.int .i64 d.fuse,.bool d.down] 38 (0,0)):=by rw [hw4];exact heap_alloc_new w3 _
 have F:=F.below hb4 (by omega) (by omega)
 have ho:=ho.keep hb4 (Nat.le_refl _)
 have hB:=hB.trans (hb4.mono hB.size)
 have hs4:w3.heap.size+1≤w4.heap.size:=by have:=zB G5;omega
 have ho4:=ho.lower hle
 have HW4:=zh hw4
 clear hw4 ho
 obtain⟨_,_,_,hv,_,hcap2,_⟩:=hl0.2
 cases hv
 unfold maxLen at hcap2
 obtain⟨iz,zz,hi46,_,hsz46,_,_⟩:=zero_parts infoz_write
 obtain⟨i44,hi44,hs44⟩:=info44
 have HL:=zh hl0
 go_wp2_with fail
 rw [← HW4.out]
 go_loopw [6] (fun i wr=>∃ k:Nat,k≤d.loose.length∧i = .int .i64 k∧SecsO (w.heap.size+2) wr (.slice b1 d.secs.length m1) (settleN d.secs d.loose (stay mask) k)∧Fr2 w.heap.size w.heap.size wr (.slice a1 d.secs.length n1) (.slice a2 d.loose.length n2) d∧wr.heap[w3.heap.size]?=some (.cells #[.slice b1 d.secs.length m1,.slice none 0 0,.int .i64 d.fuse,.bool d.down] 38 (0,0))∧Below w.heap.size w wr) (fun i _=>d.loose.length-(intOf i).toNat)
 case atStart=>exact⟨0,Nat.zero_le _,rfl,ho4,F,G5,hB⟩
 case round =>
  obtain⟨k,hk,rfl,ho,F,G5,hB⟩:=hrel
  have C1:=cR wr _ 1 _ _ _ F.g0
  clear ho4
  by_cases hlt:k<d.loose.length
  ·obtain⟨hls,_,a,cap,hv,hnc,hcap,hcells⟩:=HL.out
   cases hv
   unfold maxLen at hcap
   obtain⟨b,off,rfl,hBb,hc⟩:=hcells (by omega)
   have hat:=flat_at wcells 65 d.loose (fun x hx=>by rw [length_wcells,hls x hx]) k d.loose[k] (List.getElem?_eq_getElem hlt)
   obtain⟨x,hx⟩:∃ x,x=d.loose[k]:=⟨_,rfl⟩
   rw [← hx] at hat
   have hxl:x.data.length=64:=by rw [hx];exact hls _ (List.getElem_mem hlt)
   obtain⟨m,hm,hmlt⟩:=HT.out k hlt
   rw [← hx] at hm
   have hset:settleN d.secs d.loose (stay mask) (k+1)=if stay mask k then (settleN d.secs d.loose (stay mask) k).set m x.data else settleN d.secs d.loose (stay mask) k:=by
    show (match d.loose[k]? with | some x=>_ | none=>_)=_
    rw [List.getElem?_eq_getElem hlt,← hx]
    simp only [hm,Int.toNat_natCast]
   have HS:=zh hset
   have hcc:∀ j u,(wcells x)[j]?=some u→wr.cell? ⟨b,off+(k*65+j),none⟩=some u:=fun j u hj=>(hB.cell (p:=⟨b,off+(k*65+j),none⟩) hBb).trans (hc _ _ (hat j u hj))
   have E0:=hcc 0 (.int .i64 (m:Int)) (by simp [wcells,hm])
   rw [Nat.add_zero] at E0
   have hld:=run_load_big (P:=Tryz.prog) (t:=94) Tryz.underlying94 (.inl ⟨_,_,rfl⟩) hi44 (w:=wr.drew) (b:=b) (off:=off+k*65+1) (cs:=u8s x.data) hs44 (by rw [zL,hxl])
    (fun j u hj=>by
     have e:off+k*65+1+j=off+(k*65+(j+1)):=by omega
     rw [e]
     exact hcc (j+1) u (by simpa [wcells] using hj))
   obtain⟨X,hX⟩:∃ X,X=(u8s x.data).toArray:=⟨_,rfl⟩
   rw [← hX] at hld
   have HX:=zh hX
   obtain⟨q,hq⟩:∃ q,q=stay mask k:=⟨_,rfl⟩
   have hqq:(bits BinOp.and IntKind.u64 ((mk:Int) / 2^(k%64)) 1 == 1)=q:=by rw [hq,hmk];rfl
   have HQ:=zh hq
   clear hx hset hcc hat hc hcells hX hq
   have hmk1:mk<2^64:=by have:=HM.out;omega
   rw [hmk]
   have HMK:=zh hmk
   clear hmk
   cases q with
   | false =>
    go_wp2_with fail
    go_roundw
    case rel =>
     refine⟨k+1,by omega,by go_num,?_,F,G5,hB⟩
     rw [← HMK.out,HS.out,← HQ.out]
     exact ho
    case measure=>simp [intOf];omega
   | true =>
    have C5:=cR wr _ 0 _ _ _ G5
    have hl1:((m:Int)<(d.secs.length:Int)):=by omega
    obtain⟨g,rfl,hgB,hgw,w7,hst7,ho7,hb7,hsz7,hoth7⟩:=SecsO.lay (P:=Tryz.prog) (show SecsO (w.heap.size+2) wr.drew (.slice b1 d.secs.length m1) (settleN d.secs d.loose (stay mask) k) from ho) m x.data (by rw [length_settleN];exact hmlt) hxl hi44 hs44
    rw [← HX.out] at hst7
    have hne:w3.heap.size≠g:=HNE.out (by omega) g rfl
    have F7:=(show Fr2 w.heap.size w.heap.size wr.drew _ _ d from ⟨F.g0,F.g2,F.s,F.l⟩).below hb7 (by omega) (by omega)
    have G7:=(hoth7 w3.heap.size hne).trans (show wr.drew.heap[w3.heap.size]?=_ from G5)
    have hB7:=(zD hB 1).trans (hb7.mono (by omega))
    go_wp2_with fail
    go_still_tail 15,(by kernel_rfl)
    refine still_load (.tmp 36) 94 rfl rfl rfl hld ?_
    repeat still_step
    refine wpStill_nil ?_
    change wpList _ _ _ _ _ wr.drew
    clear hld
    refine wp_store_at (.tmp 38) (.tmp 37) 94 rfl rfl rfl rfl hst7 ?_
    clear hst7
    go_wp2_with fail
    go_roundw
    case rel =>
     refine⟨k+1,by omega,by go_num,?_,F7,G7,hB7⟩
     rw [← HMK.out,HS.out,← HQ.out]
     exact ho7
    case measure=>simp [intOf];omega
  ·obtain rfl:k=d.loose.length:=by omega
   have c0:=cR wr _ 0 _ _ _ G5
   have c1:=cR wr _ 1 _ _ _ G5
   have c2:=cR wr _ 2 _ _ _ G5
   have c3:=cR wr _ 3 _ _ _ G5
   have D0:=cR wr _ 0 _ _ _ F.g2
   have D1:=cR wr _ 1 _ _ _ F.g2
   have D2:=cR wr _ 2 _ _ _ F.g2
   have D3:=cR wr _ 3 _ _ _ F.g2
   have Z:=zF F.g2
   have hl2:w.heap.size+1<w.heap.size+2:=by omega
   go_wp2_with fail
   refine bodyPost_ret (results_cell_row rfl _ _ (w.heap.size+1) _ _ _ _ rfl (put4_heap F.g2 _ _ _ _) Tryz.underlying38 rfl zQ) rfl ?_
   exact⟨⟨_,rfl,(put4_secs ho hl2 _ _ _ _).lower (by omega)⟩,put4_below hB (by omega) _ _ _ _⟩
end
section
open Go.RowKit
theorem stay_all_lt:∀ j:Fin 64,(bits BinOp.and IntKind.u64 ((18446744073709551615:Int) / 2^(j:Nat)) 1 == 1)=true:=by decide
theorem stay_all:stay 18446744073709551615=fun _=>true:=by
 funext k
 exact stay_all_lt ⟨k%64,Nat.mod_lt _ (by decide)⟩
theorem DiskO.diskV {B C:Nat} {w:World} {sv lv:Value} {d:DiskP} (h:DiskO B C w sv lv d) (f:Int) (b:Bool):DiskV w.heap.size w (.agg #[sv,lv,.int .i64 f,.bool b]) { d with fuse:=f,down:=b } :=
 ⟨sv,lv,rfl,h.1.secs,h.2.2.loose⟩
theorem right_bounds {d:DiskP} (hr:rightB d=true):(d.secs.length≤2^40∧d.loose.length≤2^40)∧(-1≤d.fuse∧d.fuse≤2^40):=by
 simp only [rightB,fusedB,Bool.and_eq_true,decide_eq_true_eq] at hr
 omega
theorem right_burn {d:DiskP} (hr:rightB d=true):rightB { d with fuse:=burnF d,down:=downP d }=true:=by
 simp only [rightB,fusedB,Bool.and_eq_true,decide_eq_true_eq] at hr ⊢
 refine⟨⟨⟨hr.1.1.1,hr.1.1.2⟩,?_⟩,hr.2⟩
 simp only [burnF]
 split
 ·omega
 ·split <;> omega
set_option maxRecDepth 100000 in
set_option maxHeartbeats 1000000 in
theorem refflush_any {B:Nat} (v:Value) (d:DiskP) (w:World) (h:DiskV B w v d) :
  Calls Tryz.prog 145 #[v] w fun e w'=>(∃ v',e = .returned (.tuple #[v',.int .i64 (flushP d).2])∧DiskV w'.heap.size w' v' (flushP d).1)∧Below w.heap.size w w':=by
 obtain⟨a1,n1,a2,n2,rfl,hs,hl⟩:=h.tight.parts
 clear h
 have F:=Fr2.new (w:=w) hs hl
 obtain⟨w2,hw2⟩:∃ w2,w2=(w.alloc (.cells #[.slice a1 d.secs.length n1,.slice a2 d.loose.length n2,.int .i64 d.fuse,.bool d.down] 38)).alloc (.cells #[.slice none 0 0,.slice none 0 0,.int .i64 0,.bool false] 38):=⟨_,rfl⟩
 have hB:Below w.heap.size w w2:=by rw [hw2];exact Below.alloc (Below.alloc (Below.refl _ _) (Nat.le_refl _) _) (by simp) _
 have hle:w.heap.size+2≤w2.heap.size:=by rw [hw2];simp
 rw [← hw2] at F
 clear hs hl
 have k1:=refright_any _ d w2 F.diskV
 have H3:w.heap.size≤w.heap.size+1:=by omega
 have C0:=cR w2 _ 0 _ _ _ F.g0
 have C1:=cR w2 _ 1 _ _ _ F.g0
 have C2:=cR w2 _ 2 _ _ _ F.g0
 have C3:=cR w2 _ 3 _ _ _ F.g0
 obtain⟨R,hR⟩:∃ R,R=rightB d:=⟨_,rfl⟩
 rw [← hR] at k1
 have HR:=zh hR
 clear hR
 go_enter Tryz.func145,Tryz.ntmps145
 go_wp2_with fail
 rw [← hw2]
 clear hw2
 refine k1.mono ?_
 rintro e w3 ⟨rfl,hb3⟩
 have F:=F.below hb3 (by omega) (by omega)
 have hB:=hB.trans (hb3.mono hB.size)
 have hle:=Nat.le_trans hle hb3.size
 have hle3:=zh hle
 clear k1 C0 C1 C2 C3 hb3
 have C0:=cR w3 _ 0 _ _ _ F.g0
 have C1:=cR w3 _ 1 _ _ _ F.g0
 have C2:=cR w3 _ 2 _ _ _ F.g0
 have C3:=cR w3 _ 3 _ _ _ F.g0
 have D0:=cR w3 _ 0 _ _ _ F.g2
 have D1:=cR w3 _ 1 _ _ _ F.g2
 have D2:=cR w3 _ 2 _ _ _ F.g2
 have D3:=cR w3 _ 3 _ _ _ F.g2
 have Z:=zF F.g2
 cases R with
 | false =>
  have HP:=zh (show flushP d=(d,1) by simp [flushP,← HR.out])
  go_wp2_with fail
  refine bodyPost_ret (results_ct rfl _ _ (w.heap.size+1) _ _ _ _ rfl (put4_heap F.g2 _ _ _ _) Tryz.underlying38 rfl zQ) rfl ?_
  rw [HP.out]
  exact⟨⟨_,rfl,DiskV.tight ⟨_,_,rfl,put4_secsV F.s H3 _ _ _ _,put4_looseV F.l H3 _ _ _ _⟩⟩,put4_below hB H3 _ _ _ _⟩
 | true =>
  have hR:=HR.out.symm
  have hbd:=right_bounds hR
  have k1:=deed_any _ d w3 F.diskV hbd.1 hbd.2
  have HRB:=zh (right_burn hR)
  have HFP:=zh (show flushP d=if downP d then ({ d with fuse:=burnF d,down:=true },9) else (⟨settleN d.secs d.loose (fun _=>true) d.loose.length,[],burnF d,false⟩,0) by simp [flushP,hR])
  clear hR hbd
  go_wp2_with fail
  refine k1.mono ?_
  rintro e w4 ⟨⟨sv,lv,rfl,C,hC1,hC2,O⟩,hb4⟩
  obtain⟨b1,m1,rfl⟩:=O.1.form
  obtain⟨b2,m2,rfl⟩:=O.2.2.form
  have F:=F.below hb4 (by omega) (by omega)
  have hB:=hB.trans (hb4.mono hB.size)
  have hle:=Nat.le_trans hle hb4.size
  clear k1 C0 C1 C2 C3 D0 D1 D2 D3 Z hb4
  obtain⟨D,hD⟩:∃ D,D=downP d:=⟨_,rfl⟩
  obtain⟨f,hf⟩:∃ f,f=burnF d:=⟨_,rfl⟩
  have HRB:=HRB.out
  have HFP:=HFP.out
  rw [← hD,← hf] at HFP HRB ⊢
  obtain⟨w5,hw5⟩:∃ w5,w5=w4.alloc (.cells #[.slice b1 d.secs.length m1,.slice b2 d.loose.length m2,.int .i64 f,.bool D] 38):=⟨_,rfl⟩
  have hb5:Below w4.heap.size w4 w5:=by rw [hw5];exact Below.alloc (Below.refl _ _) (Nat.le_refl _) _
  have G:=heap_alloc_new w4 (.cells #[.slice b1 d.secs.length m1,.slice b2 d.loose.length m2,.int .i64 f,.bool D] 38)
  rw [← hw5] at G
  have F:=F.below hb5 (by omega) (by omega)
  have hdv:=(O.diskV f D).below hb5
  have O5:DiskO w3.heap.size C w5 _ _ d:=⟨O.1.keep hb5 (Nat.le_refl _),O.2.1.below (hb5.mono hC2),O.2.2.keep hb5 (Nat.le_refl _)⟩
  have hl3:w.heap.size+1<w3.heap.size:=by have:=hle3.out;omega
  have hB:=hB.trans (hb5.mono hB.size)
  have C0:=cR w5 _ 0 _ _ _ G
  have C1:=cR w5 _ 1 _ _ _ G
  have C2:=cR w5 _ 2 _ _ _ G
  have C3:=cR w5 _ 3 _ _ _ G
  have hs5:w4.heap.size+1≤w5.heap.size:=by have:=zB G;omega
  have HP:=zh HFP
  have HRB:=zh HRB
  have HW5:=zh hw5
  clear HFP hD hf hw5 O hb5
  have hld:=run_loadVar_row (P:=Tryz.prog) w5 w4.heap.size 38 38 _ (0,0) _ G Tryz.underlying38 rfl zQ
  cases D with
  | true =>
   go_wp2_with (refine wp_load_to (w':=w5) (.tmp 4) 38 rfl rfl ?_ rfl hld ?_;(exact HW5.out);refine Halt.in ?_)
   refine Halt.out ?_
   clear hld
   have D0:=cR w5 _ 0 _ _ _ F.g2
   have D1:=cR w5 _ 1 _ _ _ F.g2
   have D2:=cR w5 _ 2 _ _ _ F.g2
   have D3:=cR w5 _ 3 _ _ _ F.g2
   have Z:=zF F.g2
   go_wp2_with fail
   refine bodyPost_ret (results_ct rfl _ _ (w.heap.size+1) _ _ _ _ rfl (put4_heap F.g2 _ _ _ _) Tryz.underlying38 rfl zQ) rfl ?_
   rw [HP.out]
   exact⟨⟨_,rfl,(O5.put4 hl3 hC1 _ _ _ _).diskV f true⟩,put4_below hB H3 _ _ _ _⟩
  | false =>
   have k2:=done_any _ _ 18446744073709551615 w5 hdv HRB.out (by decide) (by decide)
   rw [stay_all] at k2
   go_wp2_with (refine wp_load_to (w':=w5) (.tmp 4) 38 rfl rfl ?_ rfl hld ?_;(exact HW5.out);refine Halt.in ?_)
   refine Halt.out ?_
   clear hld
   go_wp2_with fail
   refine k2.mono ?_
   rintro e w6 ⟨⟨sv,rfl,ho⟩,hb6⟩
   obtain⟨b3,m3,hsv⟩:=ho.form
   subst hsv
   have F:=F.below hb6 (by omega) (by omega)
   have hB:=hB.trans (hb6.mono hB.size)
   have hl6:w.heap.size+1<w5.heap.size:=by omega
   clear k2 C0 C1 C2 C3 hb6
   have D0:=cR w6 _ 0 _ _ _ F.g2
   have D1:=cR w6 _ 1 _ _ _ F.g2
   have D2:=cR w6 _ 2 _ _ _ F.g2
   have D3:=cR w6 _ 3 _ _ _ F.g2
   have Z:=zF F.g2
   go_wp2_with fail
   refine bodyPost_ret (results_ct rfl _ _ (w.heap.size+1) _ _ _ _ rfl (put4_heap F.g2 _ _ _ _) Tryz.underlying38 rfl zQ) rfl ?_
   rw [HP.out]
   exact⟨⟨_,rfl,⟨_,_,rfl,(put4_secs ho hl6 _ _ _ _).secs,Loose.nil _ _⟩⟩,put4_below hB H3 _ _ _ _⟩
end
section
open Go.RowKit
theorem RowIn.setAbove {B C:Nat} {w:World} {v:Value} {sz n:Nat} {cs:List Value} (h:RowIn B C w v sz n cs) (p:Addr) (u:Value) (hp:C≤p.block):RowIn B C (w.setCell p u) v sz n cs:=h.below ((Below.refl C w).setCell hp u)
theorem LooseO.setType {B:Nat} {w:World} {v:Value} {ls:List WriteP} {t:TypeId} {cs':Array Value} {fr:Nat×Nat} (h:LooseO B w v ls) (p:Addr) (u:Value) (hp:w.heap[p.block]?=some (.cells cs' t fr)) (ht:t≠96):LooseO B (w.setCell p u) v ls:=⟨h.1,h.2.setType p u hp ht⟩
set_option maxRecDepth 100000 in
set_option maxHeartbeats 2000000 in
theorem refput_any {B:Nat} (v:Value) (d:DiskP) (at_:Int) (data:List UInt8) (w:World) (h:DiskV B w v d) (h64:data.length=64) :
  Calls Tryz.prog 143 #[v,.int .i64 at_,.agg (u8s data).toArray] w fun e w'=>(∃ v',e = .returned (.tuple #[v',.int .i64 (putP d at_ data).2])∧DiskV w'.heap.size w' v' (putP d at_ data).1)∧Below w.heap.size w w':=by
 obtain⟨a1,n1,a2,n2,rfl,hs,hl⟩:=h.tight.parts
 have hAs:(u8s data).toArray.size=64:=by simp [zL,h64]
 obtain⟨A,hA⟩:∃ A,A=(u8s data).toArray:=⟨_,rfl⟩
 rw [← hA] at hAs ⊢
 have HA:=zh hA
 clear hA
 clear h
 have hcs:=hs.2
 obtain⟨_,_,_,hv,q1,p1,_⟩:=hcs
 cases hv
 unfold maxLen at p1
 obtain⟨w2,hw2⟩:∃ w2,w2=((w.alloc (.cells #[.slice a1 d.secs.length n1,.slice a2 d.loose.length n2,.int .i64 d.fuse,.bool d.down] 38)).alloc (.cells A 94)).alloc (.cells #[.slice none 0 0,.slice none 0 0,.int .i64 0,.bool false] 38):=⟨_,rfl⟩
 have hB:Below w.heap.size w w2:=by rw [hw2];exact Below.alloc (Below.alloc (Below.alloc (Below.refl _ _) (Nat.le_refl _) _) (by simp) _) (by simp;omega) _
 have F:Fr w.heap.size w.heap.size w2 (.slice a1 d.secs.length n1) (.slice a2 d.loose.length n2) d A:=by
  refine⟨?_,?_,?_,hs.below hB,hl.below hB⟩
  ·rw [hw2,alloc_old _ _ (by simp;omega)];exact heap_alloc2_old w _ _
  ·rw [hw2,alloc_old _ _ (by simp)];exact heap_alloc2_new w _ _
  ·rw [hw2]
   have h:=heap_alloc_new ((w.alloc (.cells #[.slice a1 d.secs.length n1,.slice a2 d.loose.length n2,.int .i64 d.fuse,.bool d.down] 38)).alloc (.cells A 94)) (.cells #[.slice none 0 0,.slice none 0 0,.int .i64 0,.bool false] 38)
   simpa using h
 clear hs hl
 have hle:w.heap.size+3≤w2.heap.size:=by have:=zB F.g2;omega
 have k1:=refright_any _ d w2 F.diskV
 have C0:=cR w2 _ 0 _ _ _ F.g0
 have C1:=cR w2 _ 1 _ _ _ F.g0
 have C2:=cR w2 _ 2 _ _ _ F.g0
 have C3:=cR w2 _ 3 _ _ _ F.g0
 have H3:w.heap.size≤w.heap.size+1+1:=by omega
 obtain⟨R,hR⟩:∃ R,R=rightB d:=⟨_,rfl⟩
 rw [← hR] at k1
 have HR:=zh hR
 clear hR
 go_enter Tryz.func143,Tryz.ntmps143
 go_wp2_with fail
 rw [← hw2]
 clear hw2
 refine k1.mono ?_
 rintro e w3 ⟨rfl,hb3⟩
 have F:=F.below hb3 (by omega) (by omega)
 have hB:=hB.trans (hb3.mono hB.size)
 have hle:=Nat.le_trans hle hb3.size
 clear k1 C0 C1 C2 C3 hb3
 have C0:=cR w3 _ 0 _ _ _ F.g0
 have C1:=cR w3 _ 1 _ _ _ F.g0
 have C2:=cR w3 _ 2 _ _ _ F.g0
 have C3:=cR w3 _ 3 _ _ _ F.g0
 have D0:=cR w3 _ 0 _ _ _ F.g2
 have D1:=cR w3 _ 1 _ _ _ F.g2
 have D2:=cR w3 _ 2 _ _ _ F.g2
 have D3:=cR w3 _ 3 _ _ _ F.g2
 have Z:=zF F.g2
 cases R with
 | false =>
  have HP:=zh (show putP d at_ data=(d,1) by simp [putP,← HR.out])
  go_wp2_with fail
  refine bodyPost_ret (results_ct rfl _ _ (w.heap.size+1+1) _ _ _ _ rfl (put4_heap F.g2 _ _ _ _) Tryz.underlying38 rfl zQ) rfl ?_
  rw [HP.out]
  exact⟨⟨_,rfl,DiskV.tight ⟨_,_,rfl,put4_secsV F.s H3 _ _ _ _,put4_looseV F.l H3 _ _ _ _⟩⟩,put4_below hB H3 _ _ _ _⟩
 | true =>
 by_cases h1:at_<0
 ·have HP:=zh (show putP d at_ data=(d,1) by simp [putP,thereB,show ¬ (0≤at_) by omega])
  go_wp2_with fail
  refine bodyPost_ret (results_ct rfl _ _ (w.heap.size+1+1) _ _ _ _ rfl (put4_heap F.g2 _ _ _ _) Tryz.underlying38 rfl zQ) rfl ?_
  rw [HP.out]
  exact⟨⟨_,rfl,DiskV.tight ⟨_,_,rfl,put4_secsV F.s H3 _ _ _ _,put4_looseV F.l H3 _ _ _ _⟩⟩,put4_below hB H3 _ _ _ _⟩
 by_cases h2:(d.secs.length:Int)≤at_
 ·have HP:=zh (show putP d at_ data=(d,1) by simp [putP,thereB,show ¬ (at_<(d.secs.length:Int)) by omega])
  go_wp2_with fail
  refine bodyPost_ret (results_ct rfl _ _ (w.heap.size+1+1) _ _ _ _ rfl (put4_heap F.g2 _ _ _ _) Tryz.underlying38 rfl zQ) rfl ?_
  rw [HP.out]
  exact⟨⟨_,rfl,DiskV.tight ⟨_,_,rfl,put4_secsV F.s H3 _ _ _ _,put4_looseV F.l H3 _ _ _ _⟩⟩,put4_below hB H3 _ _ _ _⟩
 have hR:=HR.out.symm
 have hbd:=right_bounds hR
 have k1:=deed_any _ d w3 F.diskV hbd.1 hbd.2
 have HFP:=zh (show putP d at_ data=if downP d then ({ d with fuse:=burnF d,down:=true },9) else ({ d with loose:=d.loose++[⟨at_,data⟩],fuse:=burnF d,down:=false },0) by
  simp [putP,hR,thereB,show (0≤at_) by omega,show at_<(d.secs.length:Int) by omega])
 have hlen:d.loose.length≤100000:=by simp only [rightB,Bool.and_eq_true,decide_eq_true_eq] at hR;omega
 have R1:=zh (show d.loose.length+1≤maxLen by unfold maxLen;omega)
 have R2:=zh (show (d.loose.length+1)*72≤140737488355328 by omega)
 clear hR hbd hlen
 go_wp2_with fail
 refine k1.mono ?_
 rintro e w4 ⟨⟨sv,lv,rfl,C,hC1,hC2,O⟩,hb4⟩
 obtain⟨b1,m1,rfl⟩:=O.1.form
 obtain⟨b2,m2,rfl⟩:=O.2.2.form
 have hl3:w.heap.size+1+1<w3.heap.size:=by omega
 have F:=F.below hb4 (by omega) (by omega)
 have hB:=hB.trans (hb4.mono hB.size)
 have hle:=Nat.le_trans hle hb4.size
 clear k1 C0 C1 C2 C3 D0 D1 D2 D3 Z hb4 h1 h2
 obtain⟨D,hD⟩:∃ D,D=downP d:=⟨_,rfl⟩
 obtain⟨f,hf⟩:∃ f,f=burnF d:=⟨_,rfl⟩
 have HFP:=HFP.out
 rw [← hD,← hf] at HFP
 rw [← hD,← hf]
 obtain⟨w5,hw5⟩:∃ w5,w5=w4.alloc (.cells #[.slice b1 d.secs.length m1,.slice b2 d.loose.length m2,.int .i64 f,.bool D] 38):=⟨_,rfl⟩
 have hb5:Below w4.heap.size w4 w5:=by rw [hw5];exact Below.alloc (Below.refl _ _) (Nat.le_refl _) _
 have G:=heap_alloc_new w4 (.cells #[.slice b1 d.secs.length m1,.slice b2 d.loose.length m2,.int .i64 f,.bool D] 38)
 rw [← hw5] at G
 have F:=F.below hb5 (by omega) (by omega)
 have O5:DiskO w3.heap.size C w5 _ _ d:=⟨O.1.keep hb5 (Nat.le_refl _),O.2.1.below (hb5.mono hC2),O.2.2.keep hb5 (Nat.le_refl _)⟩
 have hB:=hB.trans (hb5.mono hB.size)
 have hs5:w4.heap.size+1≤w5.heap.size:=by have:=zB G;omega
 have HP:=zh HFP
 have HW5:=zh hw5
 clear HFP hD hf hw5 O hb5
 have hld:=run_loadVar_row (P:=Tryz.prog) w5 w4.heap.size 38 38 _ (0,0) _ G Tryz.underlying38 rfl zQ
 cases D with
 | true =>
  go_wp2_with (refine wp_load_to (w':=w5) (.tmp 8) 38 rfl rfl ?_ rfl hld ?_;(exact HW5.out);refine Halt.in ?_)
  refine Halt.out ?_
  clear hld
  have D0:=cR w5 _ 0 _ _ _ F.g2
  have D1:=cR w5 _ 1 _ _ _ F.g2
  have D2:=cR w5 _ 2 _ _ _ F.g2
  have D3:=cR w5 _ 3 _ _ _ F.g2
  have Z:=zF F.g2
  go_wp2_with fail
  refine bodyPost_ret (results_ct rfl _ _ (w.heap.size+1+1) _ _ _ _ rfl (put4_heap F.g2 _ _ _ _) Tryz.underlying38 rfl zQ) rfl ?_
  rw [HP.out]
  exact⟨⟨_,rfl,(O5.put4 hl3 hC1 _ _ _ _).diskV f true⟩,put4_below hB H3 _ _ _ _⟩
 | false =>
  clear hld
  have hlA:=run_loadVar_row (P:=Tryz.prog) w5 (w.heap.size+1) 94 94 A (0,0) _ F.g1 Tryz.underlying94 rfl (by rw [hAs];exact size_sector)
  have hbd:=run_build_write (w:=w5) at_ A hAs
  have hXs:(Value.int .i64 at_ :: A.toList).toArray.size=65:=by simp [hAs]
  obtain⟨X,hX⟩:∃ X,X=(Value.int .i64 at_ :: A.toList).toArray:=⟨_,rfl⟩
  rw [← hX] at hbd hXs
  have hbs:=run_buildSlice_write (w:=w5) X hXs
  have hXw:X.toList=wcells ⟨at_,data⟩:=by rw [hX,HA.out];simp [wcells]
  obtain⟨w8,hw8⟩:∃ w8,w8=w5.alloc (.cells X 96):=⟨_,rfl⟩
  have hb58:Below w5.heap.size w5 w8:=by rw [hw8];exact Below.alloc (Below.refl _ _) (Nat.le_refl _) _
  have hl8:=(O5.2.2.keep hb58 (Nat.le_refl _)).2
  have hsrc:Src Tryz.prog w8 (.slice (some ⟨w5.heap.size,0,none⟩) 1 1) 65 1 (wcells ⟨at_,data⟩):=by
   rw [hw8]
   refine Row.src (Row.fresh (by simp [wcells,zL,h64]) (Nat.le_refl _) (by decide) (fun k u hk=>?_))
   rw [← hXw] at hk
   simpa using hk
  have hle8:C≤w8.heap.size:=by have:=hb58.size;omega
  obtain⟨i0,z0,hi,hz0,hz1,hz2,hz3⟩:=zero_parts infoz_write
  have GT8:=(hb58.block _ (by omega)).trans G
  obtain⟨g5,hg5⟩:∃ g,g=w5.heap.size:=⟨_,rfl⟩
  have hCg:C≤g5:=by omega
  rw [← hw8,← hg5] at hbs
  rw [← hg5] at hsrc
  have hone:=oneCell_w ⟨at_,data⟩
  have HB58:=zh hb58
  clear hXw hX hw8 hg5 hb58
  go_wp2_with (refine wp_load_to (w':=w5) (.tmp 5) 94 rfl rfl ?_ rfl hlA ?_;(exact HW5.out);clear hlA;refine Halt.in ?_)
  refine Halt.out ?_
  refine wp_build_l 96 [(0,.tmp 35),(1,.tmp 36)] rfl rfl rfl hbd ?_
  refine wp_buildSlice_l 36 1 [(0,.tmp 37)] rfl rfl rfl hbs ?_
  refine wp_append2 rfl (.tmp 34) (.tmp 38) 36 36 96 rfl i0 z0 65 72 Tryz.underlying36 (.inl ⟨_,Tryz.underlying36⟩) hi hz0 hz1 hz2 hz3 rfl rfl hl8 hsrc hone R1.out R2.out hle8 ?_
  intro v2 w9 hown9 hb9 hfar
  have hx9:LooseO C w9 v2 (d.loose++[⟨at_,data⟩]):=LooseO.snoc O5.2.2.1 h64 hown9
  obtain⟨b3,m3,hv2⟩:=hx9.form
  rw [List.length_append,List.length_singleton] at hv2
  subst hv2
  have hb59:Below C w5 w9:=(HB58.out.mono (by omega)).trans hb9
  have GT9:=(hfar _ _ _ _ GT8 (by decide)).trans GT8
  have F:=F.below hb59 (by omega) (by omega)
  have r9:=O5.2.1.below hb59
  have hB:=hB.trans (hb59.mono (by omega))
  have hs64:=O5.1.1
  clear hbd hbs hsrc hl8 hi hz0 hz1 hz2 hz3 hone hown9 hb9 hfar GT8
  obtain⟨w10,hw10⟩:∃ w10,w10=w9.setCell ⟨w4.heap.size,1,none⟩ (.slice b3 (d.loose.length+1) m3):=⟨_,rfl⟩
  have GT10:w10.heap[w4.heap.size]?=some (.cells #[.slice b1 d.secs.length m1,.slice b3 (d.loose.length+1) m3,.int .i64 f,.bool false] 38 (0,0)):=by rw [hw10];exact (set_row4 GT9 _).2.2.1
  have r10:RowIn w3.heap.size C w10 (.slice b1 d.secs.length m1) 64 d.secs.length (d.secs.map u8s).flatten:=by rw [hw10];exact r9.setAbove ⟨w4.heap.size,1,none⟩ _ hC2
  have x10:LooseO C w10 (.slice b3 (d.loose.length+1) m3) (d.loose++[⟨at_,data⟩]):=by rw [hw10];exact hx9.setType ⟨w4.heap.size,1,none⟩ _ GT9 (by decide)
  have hb910:Below w4.heap.size w9 w10:=by rw [hw10];exact (Below.refl _ _).setCell (p:=⟨w4.heap.size,1,none⟩) (Nat.le_refl _) _
  have F:=F.below hb910 (by omega) (by omega)
  have hB:=hB.trans (hb910.mono (by omega))
  have hld:=run_loadVar_row (P:=Tryz.prog) w10 w4.heap.size 38 38 _ (0,0) _ GT10 Tryz.underlying38 rfl zQ
  have c1:=cR w9 _ 1 _ _ _ GT9
  have y1:=zF GT9
  have HW10:=zh hw10
  clear hw10 hb910 hx9 r9 hb59
  go_wp2_with (refine wp_load_to (w':=w10) (.tmp 8) 38 rfl rfl ?_ rfl hld ?_;(exact HW10.out);refine Halt.in ?_)
  refine Halt.out ?_
  clear hld c1 y1
  have D0:=cR w10 _ 0 _ _ _ F.g2
  have D1:=cR w10 _ 1 _ _ _ F.g2
  have D2:=cR w10 _ 2 _ _ _ F.g2
  have D3:=cR w10 _ 3 _ _ _ F.g2
  have Z:=zF F.g2
  have hgC:w.heap.size+1+1<C:=by omega
  go_wp2_with fail
  refine bodyPost_ret (results_ct rfl _ _ (w.heap.size+1+1) _ _ _ _ rfl (put4_heap F.g2 _ _ _ _) Tryz.underlying38 rfl zQ) rfl ?_
  rw [HP.out]
  exact⟨⟨_,rfl,DiskV.mk (d:={ d with loose:=d.loose++[⟨at_,data⟩],fuse:=f,down:=false }) ⟨hs64,((((r10.setOther ⟨w.heap.size+1+1,0,none⟩ _ hl3).setOther ⟨w.heap.size+1+1,1,none⟩ _ hl3).setOther ⟨w.heap.size+1+1,2,none⟩ _ hl3).setOther ⟨w.heap.size+1+1,3,none⟩ _ hl3).row⟩ (put4_loose x10 hgC _ _ _ _).loose⟩,put4_below hB H3 _ _ _ _⟩
end
section
open Go.RowKit WalP PackP
set_option maxRecDepth 100000 in
theorem refTakes_any (n:Int) (w:World):Calls Tryz.prog 112 #[.int .i64 n] w fun e w'=>e = .returned (.int .i64 (takesZ n))∧w=w':=by
 by_cases h1:n<1
 ·have hf:takesZ n=0:=by unfold takesZ;rw [if_pos (.inl h1)]
  have t0:decide (n<1)=true:=by simp;omega
  rw [hf]
  clear hf h1
  go_enter Tryz.func112,Tryz.ntmps112
  go_wp2
  go_ret
  exact⟨rfl,rfl⟩
 ·have t0:decide (n<1)=false:=by simp;omega
  by_cases h2:6000<n
  ·have hf:takesZ n=0:=by unfold takesZ;rw [if_pos (.inr h2)]
   have t1:decide (6000<n)=true:=by simp;omega
   rw [hf]
   clear hf h1 h2
   go_enter Tryz.func112,Tryz.ntmps112
   go_wp2
   go_ret
   exact⟨rfl,rfl⟩
  ·have t1:decide (6000<n)=false:=by simp;omega
   have hf:takesZ n=1+(n+63) / 64:=by unfold takesZ;rw [if_neg (by omega)]
   have HF:=zh hf
   clear hf
   go_enter Tryz.func112,Tryz.ntmps112
   go_wp2
   go_ret
   refine⟨ret_int ?_,rfl⟩
   rw [HF.out]
set_option maxRecDepth 100000 in
set_option maxHeartbeats 2000000 in
theorem refRight5_any {B:Nat} (v:Value) (d:DiskP) (l:LogP) (w:World) (h:DiskV B w v d) :
  Calls Tryz.prog 68 #[v,logV l] w fun e w'=>e = .returned (.bool (rightL d l))∧Below w.heap.size w w':=by
 obtain⟨p1,q1,p2,q2,rfl,hs,hl⟩:=h.tight.parts
 clear h
 have p3:=hs.2.2
 obtain⟨_,_,hv,g1,g2,_⟩:=p3
 cases hv
 unfold maxLen at g2
 obtain⟨L,hL⟩:∃ L,L=d.secs.length:=⟨_,rfl⟩
 have hd0:DiskV w.heap.size w (.agg #[.slice p1 d.secs.length q1,.slice p2 d.loose.length q2,.int .i64 d.fuse,.bool d.down]) d:=⟨_,_,rfl,hs,hl⟩
 rw [← hL] at hd0 g1 ⊢
 obtain⟨w2,hw2⟩:∃ w2,w2=(w.alloc (.cells #[.slice p1 L q1,.slice p2 d.loose.length q2,.int .i64 d.fuse,.bool d.down] 38)).alloc (.cells #[.int .i64 l.half,.int .i64 l.gen,.int .i64 l.used,.int .i64 l.count] 41):=⟨_,rfl⟩
 have hB:Below w.heap.size w w2:=by rw [hw2];exact Below.alloc (Below.alloc (Below.refl _ _) (Nat.le_refl _) _) (by simp) _
 have G0:w2.heap[w.heap.size]?=some (.cells #[.slice p1 L q1,.slice p2 d.loose.length q2,.int .i64 d.fuse,.bool d.down] 38 (0,0)):=by rw [hw2];exact heap_alloc2_old w _ _
 have G1:w2.heap[w.heap.size+1]?=some (.cells #[.int .i64 l.half,.int .i64 l.gen,.int .i64 l.used,.int .i64 l.count] 41 (0,0)):=by rw [hw2];exact heap_alloc2_new w _ _
 have kr:=refright_any _ d w2 (hd0.below hB)
 obtain⟨R,hR⟩:∃ R,R=rightB d:=⟨_,rfl⟩
 rw [← hR] at kr
 have hH:((half d:Nat):Int)=(L:Int) / 2:=by unfold half;rw [← hL];omega
 have hr:rightL d l=(R&&((l.half == 0) || (l.half == 1))&&decide (1≤l.gen)&&decide (l.gen≤1099511627776)&&decide (2≤l.used)&&decide (l.used≤(L:Int) / 2)&&decide (1≤l.count)&&decide (l.count≤l.used)):=by
  rw [hR,← hH];rfl
 obtain⟨c0,h0⟩:∃ c,(l.half == 0)=c:=⟨_,rfl⟩
 obtain⟨c1,h1⟩:∃ c,(l.half == 1)=c:=⟨_,rfl⟩
 obtain⟨c2,h2⟩:∃ c,decide (1≤l.gen)=c:=⟨_,rfl⟩
 obtain⟨c3,h3⟩:∃ c,decide (l.gen≤1099511627776)=c:=⟨_,rfl⟩
 obtain⟨c4,h4⟩:∃ c,decide (2≤l.used)=c:=⟨_,rfl⟩
 obtain⟨c5,h5⟩:∃ c,decide (l.used≤(L:Int) / 2)=c:=⟨_,rfl⟩
 obtain⟨c6,h6⟩:∃ c,decide (1≤l.count)=c:=⟨_,rfl⟩
 obtain⟨c7,h7⟩:∃ c,decide (l.count≤l.used)=c:=⟨_,rfl⟩
 rw [h0,h1,h2,h3,h4,h5,h6,h7] at hr
 rw [hr]
 simp only [logV]
 have HW:=zh hw2
 clear hr hR hH hL hd0 hw2 hs hl
 have C0:=cR w2 _ 0 _ _ _ G0
 have C1:=cR w2 _ 1 _ _ _ G0
 have C2:=cR w2 _ 2 _ _ _ G0
 have C3:=cR w2 _ 3 _ _ _ G0
 cases R with
 | false =>
  go_enter Tryz.func68,Tryz.ntmps68
  go_upto_region 1 with (fail)
  rw [← HW.out]
  go_wp2_with fail
  refine kr.mono ?_
  rintro e w3 ⟨rfl,hb3⟩
  clear kr C0 C1 C2 C3
  have G1:=(hb3.block _ (zB G1)).trans G1
  have hbb:=hB.trans (hb3.mono hB.size)
  have E0:=cR w3 _ 0 _ _ _ G1
  have E1:=cR w3 _ 1 _ _ _ G1
  have E2:=cR w3 _ 2 _ _ _ G1
  have E3:=cR w3 _ 3 _ _ _ G1
  go_wp2_with fail
  go_ret
  exact⟨rfl,hbb⟩
 | true =>
  rcases Bool.eq_false_or_eq_true (c0 || c1) with hc | hc
  rotate_left
  ·obtain⟨rfl,rfl⟩:c0=false∧c1=false:=by cases c0 <;> cases c1 <;> first | exact⟨rfl,rfl⟩ | exact absurd hc (by decide)
   clear hc
   go_enter Tryz.func68,Tryz.ntmps68
   go_upto_region 1 with (fail)
   rw [← HW.out]
   go_wp2_with fail
   refine kr.mono ?_
   rintro e w3 ⟨rfl,hb3⟩
   clear kr C0 C1 C2 C3
   have G1:=(hb3.block _ (zB G1)).trans G1
   have hbb:=hB.trans (hb3.mono hB.size)
   have E0:=cR w3 _ 0 _ _ _ G1
   have E1:=cR w3 _ 1 _ _ _ G1
   have E2:=cR w3 _ 2 _ _ _ G1
   have E3:=cR w3 _ 3 _ _ _ G1
   go_wp2_with fail
   go_ret
   exact⟨rfl,hbb⟩
  cases c2 with
  | false =>
   cases c0 with
   | false =>
    cases c1 with
    | false=>exact absurd hc (by decide)
    | true =>
     clear hc
     go_enter Tryz.func68,Tryz.ntmps68
     go_upto_region 1 with (fail)
     rw [← HW.out]
     go_wp2_with fail
     refine kr.mono ?_
     rintro e w3 ⟨rfl,hb3⟩
     clear kr C0 C1 C2 C3
     have G1:=(hb3.block _ (zB G1)).trans G1
     have hbb:=hB.trans (hb3.mono hB.size)
     have E0:=cR w3 _ 0 _ _ _ G1
     have E1:=cR w3 _ 1 _ _ _ G1
     have E2:=cR w3 _ 2 _ _ _ G1
     have E3:=cR w3 _ 3 _ _ _ G1
     go_wp2_with fail
     go_ret
     exact⟨rfl,hbb⟩
   | true =>
    clear hc
    go_enter Tryz.func68,Tryz.ntmps68
    go_upto_region 1 with (fail)
    rw [← HW.out]
    go_wp2_with fail
    refine kr.mono ?_
    rintro e w3 ⟨rfl,hb3⟩
    clear kr C0 C1 C2 C3
    have G1:=(hb3.block _ (zB G1)).trans G1
    have hbb:=hB.trans (hb3.mono hB.size)
    have E0:=cR w3 _ 0 _ _ _ G1
    have E1:=cR w3 _ 1 _ _ _ G1
    have E2:=cR w3 _ 2 _ _ _ G1
    have E3:=cR w3 _ 3 _ _ _ G1
    go_wp2_with fail
    go_ret
    exact⟨rfl,hbb⟩
  | true =>
   cases c3 with
   | false =>
    cases c0 with
    | false =>
     cases c1 with
     | false=>exact absurd hc (by decide)
     | true =>
      clear hc
      go_enter Tryz.func68,Tryz.ntmps68
      go_upto_region 1 with (fail)
      rw [← HW.out]
      go_wp2_with fail
      refine kr.mono ?_
      rintro e w3 ⟨rfl,hb3⟩
      clear kr C0 C1 C2 C3
      have G1:=(hb3.block _ (zB G1)).trans G1
      have hbb:=hB.trans (hb3.mono hB.size)
      have E0:=cR w3 _ 0 _ _ _ G1
      have E1:=cR w3 _ 1 _ _ _ G1
      have E2:=cR w3 _ 2 _ _ _ G1
      have E3:=cR w3 _ 3 _ _ _ G1
      go_wp2_with fail
      go_ret
      exact⟨rfl,hbb⟩
    | true =>
     clear hc
     go_enter Tryz.func68,Tryz.ntmps68
     go_upto_region 1 with (fail)
     rw [← HW.out]
     go_wp2_with fail
     refine kr.mono ?_
     rintro e w3 ⟨rfl,hb3⟩
     clear kr C0 C1 C2 C3
     have G1:=(hb3.block _ (zB G1)).trans G1
     have hbb:=hB.trans (hb3.mono hB.size)
     have E0:=cR w3 _ 0 _ _ _ G1
     have E1:=cR w3 _ 1 _ _ _ G1
     have E2:=cR w3 _ 2 _ _ _ G1
     have E3:=cR w3 _ 3 _ _ _ G1
     go_wp2_with fail
     go_ret
     exact⟨rfl,hbb⟩
   | true =>
    cases c4 with
    | false =>
     cases c0 with
     | false =>
      cases c1 with
      | false=>exact absurd hc (by decide)
      | true =>
       clear hc
       go_enter Tryz.func68,Tryz.ntmps68
       go_upto_region 1 with (fail)
       rw [← HW.out]
       go_wp2_with fail
       refine kr.mono ?_
       rintro e w3 ⟨rfl,hb3⟩
       clear kr C0 C1 C2 C3
       have G1:=(hb3.block _ (zB G1)).trans G1
       have hbb:=hB.trans (hb3.mono hB.size)
       have E0:=cR w3 _ 0 _ _ _ G1
       have E1:=cR w3 _ 1 _ _ _ G1
       have E2:=cR w3 _ 2 _ _ _ G1
       have E3:=cR w3 _ 3 _ _ _ G1
       go_wp2_with fail
       go_ret
       exact⟨rfl,hbb⟩
     | true =>
      clear hc
      go_enter Tryz.func68,Tryz.ntmps68
      go_upto_region 1 with (fail)
      rw [← HW.out]
      go_wp2_with fail
      refine kr.mono ?_
      rintro e w3 ⟨rfl,hb3⟩
      clear kr C0 C1 C2 C3
      have G1:=(hb3.block _ (zB G1)).trans G1
      have hbb:=hB.trans (hb3.mono hB.size)
      have E0:=cR w3 _ 0 _ _ _ G1
      have E1:=cR w3 _ 1 _ _ _ G1
      have E2:=cR w3 _ 2 _ _ _ G1
      have E3:=cR w3 _ 3 _ _ _ G1
      go_wp2_with fail
      go_ret
      exact⟨rfl,hbb⟩
    | true =>
     cases c5 with
     | false =>
      cases c0 with
      | false =>
       cases c1 with
       | false=>exact absurd hc (by decide)
       | true =>
        clear hc
        go_enter Tryz.func68,Tryz.ntmps68
        go_upto_region 1 with (fail)
        rw [← HW.out]
        go_wp2_with fail
        refine kr.mono ?_
        rintro e w3 ⟨rfl,hb3⟩
        clear kr C0 C1 C2 C3
        have G1:=(hb3.block _ (zB G1)).trans G1
        have hbb:=hB.trans (hb3.mono hB.size)
        have E0:=cR w3 _ 0 _ _ _ G1
        have E1:=cR w3 _ 1 _ _ _ G1
        have E2:=cR w3 _ 2 _ _ _ G1
        have E3:=cR w3 _ 3 _ _ _ G1
        go_wp2_with fail
        go_ret
        exact⟨rfl,hbb⟩
      | true =>
       clear hc
       go_enter Tryz.func68,Tryz.ntmps68
       go_upto_region 1 with (fail)
       rw [← HW.out]
       go_wp2_with fail
       refine kr.mono ?_
       rintro e w3 ⟨rfl,hb3⟩
       clear kr C0 C1 C2 C3
       have G1:=(hb3.block _ (zB G1)).trans G1
       have hbb:=hB.trans (hb3.mono hB.size)
       have E0:=cR w3 _ 0 _ _ _ G1
       have E1:=cR w3 _ 1 _ _ _ G1
       have E2:=cR w3 _ 2 _ _ _ G1
       have E3:=cR w3 _ 3 _ _ _ G1
       go_wp2_with fail
       go_ret
       exact⟨rfl,hbb⟩
     | true =>
      cases c6 with
      | false =>
       cases c0 with
       | false =>
        cases c1 with
        | false=>exact absurd hc (by decide)
        | true =>
         clear hc
         go_enter Tryz.func68,Tryz.ntmps68
         go_upto_region 1 with (fail)
         rw [← HW.out]
         go_wp2_with fail
         refine kr.mono ?_
         rintro e w3 ⟨rfl,hb3⟩
         clear kr C0 C1 C2 C3
         have G1:=(hb3.block _ (zB G1)).trans G1
         have hbb:=hB.trans (hb3.mono hB.size)
         have E0:=cR w3 _ 0 _ _ _ G1
         have E1:=cR w3 _ 1 _ _ _ G1
         have E2:=cR w3 _ 2 _ _ _ G1
         have E3:=cR w3 _ 3 _ _ _ G1
         go_wp2_with fail
         go_ret
         exact⟨rfl,hbb⟩
       | true =>
        clear hc
        go_enter Tryz.func68,Tryz.ntmps68
        go_upto_region 1 with (fail)
        rw [← HW.out]
        go_wp2_with fail
        refine kr.mono ?_
        rintro e w3 ⟨rfl,hb3⟩
        clear kr C0 C1 C2 C3
        have G1:=(hb3.block _ (zB G1)).trans G1
        have hbb:=hB.trans (hb3.mono hB.size)
        have E0:=cR w3 _ 0 _ _ _ G1
        have E1:=cR w3 _ 1 _ _ _ G1
        have E2:=cR w3 _ 2 _ _ _ G1
        have E3:=cR w3 _ 3 _ _ _ G1
        go_wp2_with fail
        go_ret
        exact⟨rfl,hbb⟩
      | true =>
       cases c7 with
       | false =>
        cases c0 with
        | false =>
         cases c1 with
         | false=>exact absurd hc (by decide)
         | true =>
          clear hc
          go_enter Tryz.func68,Tryz.ntmps68
          go_upto_region 1 with (fail)
          rw [← HW.out]
          go_wp2_with fail
          refine kr.mono ?_
          rintro e w3 ⟨rfl,hb3⟩
          clear kr C0 C1 C2 C3
          have G1:=(hb3.block _ (zB G1)).trans G1
          have hbb:=hB.trans (hb3.mono hB.size)
          have E0:=cR w3 _ 0 _ _ _ G1
          have E1:=cR w3 _ 1 _ _ _ G1
          have E2:=cR w3 _ 2 _ _ _ G1
          have E3:=cR w3 _ 3 _ _ _ G1
          go_wp2_with fail
          go_ret
          exact⟨rfl,hbb⟩
        | true =>
         clear hc
         go_enter Tryz.func68,Tryz.ntmps68
         go_upto_region 1 with (fail)
         rw [← HW.out]
         go_wp2_with fail
         refine kr.mono ?_
         rintro e w3 ⟨rfl,hb3⟩
         clear kr C0 C1 C2 C3
         have G1:=(hb3.block _ (zB G1)).trans G1
         have hbb:=hB.trans (hb3.mono hB.size)
         have E0:=cR w3 _ 0 _ _ _ G1
         have E1:=cR w3 _ 1 _ _ _ G1
         have E2:=cR w3 _ 2 _ _ _ G1
         have E3:=cR w3 _ 3 _ _ _ G1
         go_wp2_with fail
         go_ret
         exact⟨rfl,hbb⟩
       | true =>
        cases c0 with
        | false =>
         cases c1 with
         | false=>exact absurd hc (by decide)
         | true =>
          clear hc
          go_enter Tryz.func68,Tryz.ntmps68
          go_upto_region 1 with (fail)
          rw [← HW.out]
          go_wp2_with fail
          refine kr.mono ?_
          rintro e w3 ⟨rfl,hb3⟩
          clear kr C0 C1 C2 C3
          have G1:=(hb3.block _ (zB G1)).trans G1
          have hbb:=hB.trans (hb3.mono hB.size)
          have E0:=cR w3 _ 0 _ _ _ G1
          have E1:=cR w3 _ 1 _ _ _ G1
          have E2:=cR w3 _ 2 _ _ _ G1
          have E3:=cR w3 _ 3 _ _ _ G1
          go_wp2_with fail
          go_ret
          exact⟨rfl,hbb⟩
        | true =>
         clear hc
         go_enter Tryz.func68,Tryz.ntmps68
         go_upto_region 1 with (fail)
         rw [← HW.out]
         go_wp2_with fail
         refine kr.mono ?_
         rintro e w3 ⟨rfl,hb3⟩
         clear kr C0 C1 C2 C3
         have G1:=(hb3.block _ (zB G1)).trans G1
         have hbb:=hB.trans (hb3.mono hB.size)
         have E0:=cR w3 _ 0 _ _ _ G1
         have E1:=cR w3 _ 1 _ _ _ G1
         have E2:=cR w3 _ 2 _ _ _ G1
         have E3:=cR w3 _ 3 _ _ _ G1
         go_wp2_with fail
         go_ret
         exact⟨rfl,hbb⟩
end
section
open Go.RowKit WalP PackP
def WorkAt (g:Nat) (w:World) (x:DiskP×Int):Prop :=
 ∃ a0 n0 a1 n1,w.heap[g]?=some (.cells #[.slice a0 x.1.secs.length n0,.slice a1 x.1.loose.length n1,.int .i64 x.1.fuse,.bool x.1.down,.int .i64 x.2] 140 (0,0))∧DiskV w.heap.size w (.agg #[.slice a0 x.1.secs.length n0,.slice a1 x.1.loose.length n1,.int .i64 x.1.fuse,.bool x.1.down]) x.1
theorem WorkAt.below {g:Nat} {w w':World} {x:DiskP×Int} (h:WorkAt g w x) (hb:Below w.heap.size w w'):WorkAt g w' x:=by
 obtain⟨a0,n0,a1,n1,h1,h2⟩:=h
 exact⟨a0,n0,a1,n1,(hb.block _ (zB h1)).trans h1,(h2.below hb).tight⟩
def stepW (x:DiskP×Int) (y:Deed):DiskP×Int:=if x.2=0 then WalP.deed x.1 y else x
theorem stepW_run:∀ (ys:List Deed) (x:DiskP×Int),ys.foldl stepW x=if x.2=0 then WalP.run x.1 ys else x
 | [],x=>by
  simp only [List.foldl_nil,WalP.run]
  split
  ·rename_i h;rw [← h]
  ·rfl
 | y :: ys,x=>by
  rw [List.foldl_cons,stepW_run ys]
  unfold stepW
  by_cases h:x.2=0
  ·simp only [if_pos h,WalP.run]
  ·simp only [if_neg h]
theorem put4_five {w:World} {h:Nat} {a0 b0 c0 d0 e0:Value} {t:TypeId} {fr:Nat×Nat} (hh:w.heap[h]?=some (.cells #[a0,b0,c0,d0,e0] t fr)) (a b c d e:Value):((put4 w h a b c d).setCell ⟨h,4,none⟩ e).heap[h]?=some (.cells #[a,b,c,d,e] t fr):=by
 simp [put4,World.setCell,Array.getElem?_modify,hh]
theorem put5_only {g:Nat} (w:World) (a b c d e:Value):w.grownBy ((put4 w g a b c d).setCell ⟨g,4,none⟩ e) (some g):=by
 have h:=put4_only (g:=g) w a b c d
 exact⟨h.os,h.tape,h.output,by simp,fun k hk hne=>by
  rw [setFar (fun e1=>hne (by rw [e1]))]
  exact h.block k hk hne⟩
theorem work_put {g:Nat} {w:World} {a0 b0 c0 d0 e0 y0 y1 y2 y3:Value} {r:DiskP×Int} (hr:w.heap[g]?=some (.cells #[a0,b0,c0,d0,e0] 140 (0,0))) (hd:DiskV w.heap.size w (.agg #[y0,y1,y2,y3]) r.1):WorkAt g ((put4 w g y0 y1 y2 y3).setCell ⟨g,4,none⟩ (.int .i64 r.2)) r:=by
 obtain⟨p1,q1,p2,q2,hv,_,_⟩:=hd.parts
 have hd':=(hd.kept (w':=(put4 w g y0 y1 y2 y3).setCell ⟨g,4,none⟩ (.int .i64 r.2)) hr (by simp) (fun k hk=>by rw [setFar (fun e1=>hk e1.symm)];exact put4_other (Ne.symm hk) _ _ _ _)).tight
 simp only [Value.agg.injEq,Array.mk.injEq,List.cons.injEq] at hv
 obtain⟨rfl,rfl,rfl,rfl,_⟩:=hv
 exact⟨p1,q1,p2,q2,put4_five hr _ _ _ _ _,hd'⟩
set_option maxRecDepth 100000 in
set_option maxHeartbeats 4000000 in
theorem wflush_any {g:Nat} (x:DiskP×Int) (w:World) (hh:WorkAt g w x) :
  Calls Tryz.prog 115 #[.pointer (some ⟨g,0,none⟩)] w fun e w'=>e = .returned (.tuple #[])∧WorkAt g w' (stepW x .flush)∧w.grownBy w' (some g):=by
 obtain⟨d,e⟩:=x
 have HH:=zh hh
 obtain⟨a0,n0,a1,n1,hr,hd⟩:=hh
 dsimp only at hr hd
 have C0:=cR w _ 0 _ _ _ hr
 have C1:=cR w _ 1 _ _ _ hr
 have C2:=cR w _ 2 _ _ _ hr
 have C3:=cR w _ 3 _ _ _ hr
 have C4:=cR w _ 4 _ _ _ hr
 by_cases he:e=0
 ·subst he
  have kf:=refflush_any _ d w hd
  obtain⟨r,hrr⟩:∃ r,r=flushP d:=⟨_,rfl⟩
  rw [← hrr] at kf
  have HST:=zh (show stepW (d,0) .flush=r by rw [hrr];rfl)
  clear hrr hd
  go_enter Tryz.func115,Tryz.ntmps115
  go_wp2_with fail
  refine kf.mono ?_
  rintro e w1 ⟨⟨v',rfl,hd1⟩,hb1⟩
  clear kf C0 C1 C2 C3 C4
  obtain⟨y1,z1,y2,z2,rfl,_,_⟩:=hd1.parts
  have hr1:=(hb1.block _ (zB hr)).trans hr
  have C0:=cR w1 _ 0 _ _ _ hr1
  have C1:=cR w1 _ 1 _ _ _ hr1
  have C2:=cR w1 _ 2 _ _ _ hr1
  have C3:=cR w1 _ 3 _ _ _ hr1
  have C4:=cR w1 _ 4 _ _ _ hr1
  have Z:=zF hr1
  have HF:=zh (work_put hr1 hd1)
  have HG:=zh (zO (only_of_below (g:=g) hb1) (put5_only w1 (.slice y1 r.1.secs.length z1) (.slice y2 r.1.loose.length z2) (.int .i64 r.1.fuse) (.bool r.1.down) (.int .i64 r.2)))
  clear hb1 hd1 hr hr1
  go_wp2_with fail
  go_end0
  exact⟨rfl,by rw [HST.out];exact HF.out,HG.out⟩
 ·have q0:(e == 0)=false:=by simpa using he
  have HST:=zh (show stepW (d,e) .flush=(d,e) by unfold stepW;rw [if_neg he])
  clear he hd hr
  go_enter Tryz.func115,Tryz.ntmps115
  go_wp2_with fail
  go_end0
  exact⟨rfl,by rw [HST.out];exact HH.out,only_of_below (Below.refl _ _)⟩
def RowIs (g:Nat) (o:Obj) (w:World):Prop:=w.heap[g]?=some o
set_option maxRecDepth 100000 in
set_option maxHeartbeats 4000000 in
theorem wput_any {g:Nat} (x:DiskP×Int) (at_:Int) (s:List UInt8) (w:World) (hh:WorkAt g w x) (h64:s.length=64) :
  Calls Tryz.prog 102 #[.pointer (some ⟨g,0,none⟩),.int .i64 at_,.agg (u8s s).toArray] w fun e w'=>e = .returned (.tuple #[])∧WorkAt g w' (stepW x (.put at_ s))∧w.grownBy w' (some g):=by
 obtain⟨d,e⟩:=x
 obtain⟨X,hX⟩:∃ X,X=(u8s s).toArray:=⟨_,rfl⟩
 have hXs:X.size=64:=by rw [hX];simp [zL,h64]
 obtain⟨w1,hw1⟩:∃ w1,w1=w.alloc (.cells X 94):=⟨_,rfl⟩
 have hb1:Below w.heap.size w w1:=by rw [hw1];exact Below.alloc (Below.refl _ _) (Nat.le_refl _) _
 have hXr:w1.heap[w.heap.size]?=some (.cells X 94 (0,0)):=by rw [hw1];exact heap_alloc_new w _
 have hh1:=hh.below hb1
 have HH:=zh hh1
 obtain⟨a0,n0,a1,n1,hr,hd⟩:=hh1
 have hglt:g<w.heap.size:=by obtain⟨_,_,_,_,h,_⟩:=hh;exact zB h
 dsimp only at hr hd
 have C4:=cR w1 _ 4 _ _ _ hr
 have HW1:=zh hw1
 rw [← hX]
 by_cases he:e=0
 ·subst he
  have kf:=refput_any _ d at_ s w1.drew (hd.below (zD (Below.refl _ _) 1)) h64
  obtain⟨r,hrr⟩:∃ r,r=putP d at_ s:=⟨_,rfl⟩
  rw [← hrr,← hX] at kf
  have HST:=zh (show stepW (d,0) (.put at_ s)=r by rw [hrr];rfl)
  obtain⟨i44,hi44,hs44⟩:=info44
  have hlX:∀ w',RowIs w.heap.size (.cells X 94 (0,0)) w'→(loadVar 94 ⟨w.heap.size,0,none⟩).run Tryz.prog w' = .ok (.agg X) w':=fun w' h=>run_loadVar_row (P:=Tryz.prog) w' w.heap.size 94 94 X (0,0) _ h Tryz.underlying94 rfl (by rw [hXs];exact size_sector)
  obtain⟨i25,hi25,hs25⟩:=info_disk
  have hlD:=run_load_big (P:=Tryz.prog) (t:=38) Tryz.underlying38 (.inr ⟨_,rfl⟩) hi25 (w:=w1.drew) (b:=g) (off:=0) (cs:=[.slice a0 d.secs.length n0,.slice a1 d.loose.length n1,.int .i64 d.fuse,.bool d.down]) hs25 rfl
   (fun j u hj=>by
    show w1.cell? _=_
    rw [Nat.zero_add,cR w1 _ j _ _ _ hr]
    match j,hj with
    | 0,hj=>simpa using hj
    | 1,hj=>simpa using hj
    | 2,hj=>simpa using hj
    | 3,hj=>simpa using hj
    | n+4,hj=>simp at hj)
  have s0:RowIs w.heap.size (.cells X 94 (0,0)) w1.drew:=hXr
  have hb0:Below w1.heap.size w1 w1.drew:=zD (Below.refl _ _) 1
  have hrd:w1.drew.heap[g]?=_:=hr
  have HB1:=zh hb1
  have HB0:=zh hb0
  clear hrr hd hi44 hs44 hi25 hs25 hX hXs hh hw1 hb1 hb0 hXr h64
  go_enter Tryz.func102,Tryz.ntmps102
  go_upto_region 1 with (fail)
  rw [← HW1.out]
  go_upto_region 2 with (fail)
  clear C4
  refine zI [(false,0),(false,1),(false,2),(false,3),(false,4),(false,6),(false,7),(true,5),(true,8),(false,9),(false,10),(false,11),(false,12),(false,13),(true,14),(false,15),(false,16),(true,17)] (RowIs w.heap.size (.cells X 94 (0,0))) (by kernel_rfl) (by kernel_rfl) s0 ?_
  iterate 6 (first | (refine zS rfl rfl ?_;simp only [Act.put,zq1,zq2,zq3]) | (refine zT rfl ?_ rfl (fun w' hw'=>?_) ?_;rotate_left;(go_simp;first | done | with_reducible rfl);(try simp only [Act.put,zq1,zq2,zq3])))
  refine heldI_load rfl (.tmp 5) 94 rfl rfl rfl hlX ?_
  simp only [Act.put,zq1,zq2,zq3]
  refine zA rfl rfl fun K hK=>?_
  refine op_load (.tmp 16) 38 rfl rfl hlD ?_
  refine hK.out _ _ s0 ?_
  clear hK K hlD hlX
  simp only [Act.put,zq1,zq2,zq3]
  refine zA rfl rfl fun K hK=>?_
  go_simp
  refine kf.mono ?_
  rintro e w2 ⟨⟨v',rfl,hd2⟩,hb2⟩
  have s2:RowIs w.heap.size (.cells X 94 (0,0)) w2:=(hb2.block _ (zB s0)).trans s0
  refine hK.out _ _ s2 ?_
  clear hK K kf
  obtain⟨y1,z1,y2,z2,rfl,_,_⟩:=hd2.parts
  have hr2:=(hb2.block _ (zB hrd)).trans hrd
  repeat (first | (refine zS rfl rfl ?_;simp only [Act.put,zq1,zq2,zq3]) | (refine zT rfl ?_ rfl (fun w' hw'=>?_) ?_;rotate_left;(go_simp;first | done | with_reducible rfl);(try simp only [Act.put,zq1,zq2,zq3])))
  have C0:=cR w2 _ 0 _ _ _ hr2
  have C1:=cR w2 _ 1 _ _ _ hr2
  have C2:=cR w2 _ 2 _ _ _ hr2
  have C3:=cR w2 _ 3 _ _ _ hr2
  have Z:=zF hr2
  obtain⟨w3,hw3⟩:∃ w3,w3=put4 w2 g (.slice y1 r.1.secs.length z1) (.slice y2 r.1.loose.length z2) (.int .i64 r.1.fuse) (.bool r.1.down):=⟨_,rfl⟩
  have s3:RowIs w.heap.size (.cells X 94 (0,0)) w3:=by rw [hw3];exact (put4_other (by omega) _ _ _ _).trans s2
  have hr3:w3.heap[g]?=some (.cells #[.slice y1 r.1.secs.length z1,.slice y2 r.1.loose.length z2,.int .i64 r.1.fuse,.bool r.1.down,.int .i64 0] 140 (0,0)):=by
   rw [hw3];simp [put4,World.setCell,Array.getElem?_modify,hr2]
  have HF:=zh (show WorkAt g (w3.setCell ⟨g,4,none⟩ (.int .i64 r.2)) r by rw [hw3];exact work_put hr2 hd2)
  have HG:=zh (show w.grownBy (w3.setCell ⟨g,4,none⟩ (.int .i64 r.2)) (some g) by
   rw [hw3]
   exact zO (only_of_below (HB1.out.trans ((HB0.out.trans (hb2.mono (Nat.le_refl _))).mono HB1.out.size))) (put5_only w2 _ _ _ _ _))
  have s4:RowIs w.heap.size (.cells X 94 (0,0)) (w3.setCell ⟨g,4,none⟩ (.int .i64 r.2)):=(setFar (by omega) _ _).trans s3
  dsimp only [put4] at hw3
  have HW3:=zh hw3
  clear hw3 hd2 hb2 hr2
  refine zA rfl rfl fun K hK=>?_
  go_simp
  rw [← HW3.out]
  refine hK.out _ _ s3 ?_
  clear hK K C0 C1 C2 C3 Z
  repeat (first | (refine zS rfl rfl ?_;simp only [Act.put,zq1,zq2,zq3]) | (refine zT rfl ?_ rfl (fun w' hw'=>?_) ?_;rotate_left;(go_simp;first | done | with_reducible rfl);(try simp only [Act.put,zq1,zq2,zq3])))
  have C4:=cR w3 _ 4 _ _ _ hr3
  have Z:=zF hr3
  clear hr3
  refine zA rfl rfl fun K hK=>?_
  go_simp
  refine hK.out _ _ s4 ?_
  clear hK K C4 Z
  refine zN ?_
  go_wp2_with fail
  go_end0
  exact⟨rfl,by rw [HST.out];exact HF.out,HG.out⟩
 ·have q0:(e == 0)=false:=by simpa using he
  have HST:=zh (show stepW (d,e) (.put at_ s)=(d,e) by unfold stepW;rw [if_neg he])
  have HB1:=zh hb1
  clear he hd hr hb1 hXr hh hX hw1 hXs
  go_enter Tryz.func102,Tryz.ntmps102
  go_upto_region 1 with (fail)
  rw [← HW1.out]
  go_wp2_with fail
  go_end0
  exact⟨rfl,by rw [HST.out];exact HH.out,only_of_below HB1.out⟩
end
section
open Go.RowKit
theorem looseAt {B:Nat} {w:World} {a:Option Addr} {n c:Nat} {ss:List WriteP} (h:Loose B w (.slice a n c) ss) {k:Nat} (hk:k<ss.length) :
  ∃ b off,a=some ⟨b,off,none⟩∧b<B∧n=ss.length∧n≤c∧c≤2^63-1∧∀ w',(∀ p:Addr,p.block<B→w'.cell? p=w.cell? p)→w'.cell? ⟨b,off+k*65,none⟩=some (.int .i64 ss[k].at_)∧(loadVar 94 ⟨b,off+k*65+1,none⟩).run Tryz.prog w' = .ok (.agg (u8s ss[k].data).toArray) w':=by
 obtain⟨h64,_,a',cap,hv,hnc,hcap,hcells⟩:=h
 cases hv
 obtain⟨b,off,rfl,hBb,hc⟩:=hcells (by omega)
 obtain⟨i44,hi44,hs44⟩:=info44
 have hat:=flat_at wcells 65 ss (fun x hx=>by rw [length_wcells,h64 x hx]) k ss[k] (List.getElem?_eq_getElem hk)
 refine⟨b,off,rfl,hBb,rfl,hnc,hcap,fun w' hw=>⟨?_,?_⟩⟩
 ·exact (hw ⟨b,off+k*65,none⟩ hBb).trans (hc _ _ (hat 0 (.int .i64 ss[k].at_) (by simp [wcells])))
 ·exact run_load_big (P:=Tryz.prog) (t:=94) Tryz.underlying94 (.inl ⟨_,_,rfl⟩) hi44 (w:=w') (b:=b) (off:=off+k*65+1) (cs:=u8s ss[k].data) hs44 (by rw [zL,h64 _ (List.getElem_mem hk)])
   (fun j u hj=>by
    have e:off+k*65+1+j=off+(k*65+(j+1)):=by omega
    rw [e]
    exact (hw ⟨b,off+(k*65+(j+1)),none⟩ hBb).trans (hc _ _ (hat (j+1) u (by simpa [wcells] using hj))))
theorem zeroA:∀ w,(zeroValue 94).run Tryz.prog w = .ok (.agg (Array.replicate 64 (.int .u8 0))) w∧(Instr.build 94 #[]).run Tryz.prog w = .ok (.agg (Array.replicate 64 (.int .u8 0))) w:=by
 have h:(Tryz.prog.info? 94).bind (fun i=>i.zero)=some (.agg (Array.replicate 64 (.int .u8 0))):=by kernel_rfl
 obtain⟨i,hi,hz⟩:=Option.bind_eq_some_iff.1 h
 intro w
 have hzv:(zeroValue 94).run Tryz.prog w = .ok (.agg (Array.replicate 64 (.int .u8 0))) w:=by simp [zeroValue,typeInfo,hi,hz]
 refine⟨hzv,?_⟩
 simp [Instr.build,hzv,run_underlying Tryz.underlying94,Instr.fill,cells_agg]
theorem zeroS_cells:(u8s zeroS).toArray=Array.replicate 64 (.int .u8 0):=by rfl
theorem lastW_take {ls:List WriteP} {a:Int} {s:List UInt8} {k:Nat} (hk:k<ls.length):lastW (ls.take (k+1)) a s=if ls[k].at_=a then ls[k].data else lastW (ls.take k) a s:=by
 have e:ls.take (k+1)=ls.take k++[ls[k]]:=by rw [List.take_add_one,List.getElem?_eq_getElem hk];rfl
 rw [e]
 unfold lastW
 rw [List.foldl_append]
 rfl
theorem lastW_64 (at_:Int):∀ (ls:List WriteP) (s:List UInt8),(∀ x∈ls,x.data.length=64)→s.length=64→(lastW ls at_ s).length=64
 | [],_,_,h=>h
 | x :: ls,s,h,hs=>by
  unfold lastW
  rw [List.foldl_cons]
  refine lastW_64 at_ ls _ (fun y hy=>h y (List.mem_cons_of_mem _ hy)) ?_
  split
  ·exact h x (List.mem_cons_self ..)
  ·exact hs
structure RR (w:World) (Z:Array Value) (L n1:Nat) (a1 a2:Option Addr) (M n2:Nat) (f:Int) (g6:Nat) (x:List UInt8) (wr:World):Prop where
 below:Below w.heap.size w wr
 g0:wr.heap[w.heap.size]?=some (.cells #[.slice a1 L n1,.slice a2 M n2,.int .i64 f,.bool false] 38 (0,0))
 g1:wr.heap[w.heap.size+1]?=some (.cells Z 94 (0,0))
 g6:wr.heap[g6]?=some (.cells (u8s x).toArray 94 (0,0))
set_option maxRecDepth 100000 in
set_option maxHeartbeats 8000000 in
theorem refread_any {B:Nat} (v:Value) (d:DiskP) (at_:Int) (w:World) (h:DiskV B w v d) :
  Calls Tryz.prog 154 #[v,.int .i64 at_] w fun e w'=>e = .returned (.tuple #[.agg (u8s (readP d at_).1).toArray,.int .i64 (readP d at_).2])∧Below w.heap.size w w':=by
 obtain⟨Z,hZ⟩:∃ Z:Array Value,Z=Array.replicate 64 (.int .u8 0):=⟨_,rfl⟩
 have HZZ:=zh (show ∀ w,(zeroValue 94).run Tryz.prog w = .ok (.agg Z) w∧(Instr.build 94 #[]).run Tryz.prog w = .ok (.agg Z) w by rw [hZ];exact zeroA)
 have HZC:=zh (show (u8s zeroS).toArray=Z by rw [hZ];exact zeroS_cells)
 have HZS:=zh (show Z.size=64 by rw [hZ];simp)
 have HZO:=zh (show ∀ v∈Z.toList,v.oneCell'=true by rw [hZ];intro v hv;rw [Array.toList_replicate] at hv;rw [(List.mem_replicate.1 hv).2];rfl)
 clear hZ
 obtain⟨a1,n1,a2,n2,rfl,hs,hl⟩:=h.tight.parts
 clear h
 have p3:=hs.2.2
 have p4:=hl.2.2
 obtain⟨_,_,hv,g1,g2,_⟩:=p3
 cases hv
 obtain⟨_,_,hv,g3,g4,_⟩:=p4
 cases hv
 unfold maxLen at g2 g4
 obtain⟨L,hL⟩:∃ L,L=d.secs.length:=⟨_,rfl⟩
 obtain⟨M,hM⟩:∃ M,M=d.loose.length:=⟨_,rfl⟩
 obtain⟨dn,hdn⟩:∃ b,b=d.down:=⟨_,rfl⟩
 rw [← hL] at hs g1 ⊢
 rw [← hM] at hl g3 ⊢
 rw [← hdn]
 obtain⟨w1,hw1⟩:∃ w1,w1=w.alloc (.cells #[.slice a1 L n1,.slice a2 M n2,.int .i64 d.fuse,.bool dn] 38):=⟨_,rfl⟩
 obtain⟨w2,hw2⟩:∃ w2,w2=w1.alloc (.cells (Value.agg Z).cells 94):=⟨_,rfl⟩
 have hb1:Below w.heap.size w w1:=by rw [hw1];exact Below.alloc (Below.refl _ _) (Nat.le_refl _) _
 have hs1:w1.heap.size=w.heap.size+1:=by rw [hw1];simp
 have hb2:Below w1.heap.size w1 w2:=by rw [hw2];exact Below.alloc (Below.refl _ _) (Nat.le_refl _) _
 have G0:w2.heap[w.heap.size]?=some (.cells #[.slice a1 L n1,.slice a2 M n2,.int .i64 d.fuse,.bool dn] 38 (0,0)):=(hb2.block _ (by omega)).trans (by rw [hw1];exact heap_alloc_new w _)
 have G1:w2.heap[w.heap.size+1]?=some (.cells Z 94 (0,0)):=by rw [hw2,← hs1];exact heap_alloc_new w1 _
 have hbb:=hb1.trans (hb2.mono hb1.size)
 have hs2:w2.heap.size=w.heap.size+2:=by rw [hw2];simp [hs1]
 have HS:=zh hs
 have HL:=zh hl
 have HLL:=zh hL
 have HMM:=zh hM
 have HDN:=zh hdn
 have HW1:=zh hw1
 have HW2:=zh hw2
 have HS1:=zh hs1
 have k1:=refright_any _ d w2 (show DiskV w.heap.size w2 (.agg #[.slice a1 L n1,.slice a2 M n2,.int .i64 d.fuse,.bool dn]) d from ⟨_,_,by rw [hdn],hs.below hbb,hl.below hbb⟩)
 obtain⟨R,hR⟩:∃ R,R=rightB d:=⟨_,rfl⟩
 rw [← hR] at k1
 have HR:=zh hR
 have C0:=cR w2 _ 0 _ _ _ G0
 have C1:=cR w2 _ 1 _ _ _ G0
 have C2:=cR w2 _ 2 _ _ _ G0
 have C3:=cR w2 _ 3 _ _ _ G0
 clear hs hl hL hM hdn hw1 hw2 hs1 hb1 hb2 hR
 cases R with
 | false =>
  go_enter Tryz.func154,Tryz.ntmps154
  go_wp2_with (with_reducible refine wp_alloc_to (w':=w2) 94 rfl rfl (HZZ.out _).1 (by rw [← HW1.out];exact HW2.out) ?_;refine Halt.in ?_)
  refine Halt.out ?_
  go_wp2_with fail
  refine k1.mono ?_
  rintro e w3 ⟨rfl,hb3⟩
  clear k1 C0 C1 C2 C3
  have G0:=(hb3.block _ (zB G0)).trans G0
  have G1:=(hb3.block _ (zB G1)).trans G1
  have hbb:=hbb.trans (hb3.mono hbb.size)
  have hs3:w.heap.size+2≤w3.heap.size:=by have:=hb3.size;omega
  clear hb3 hs2
  have C0:=cR w3 _ 0 _ _ _ G0
  have C1:=cR w3 _ 1 _ _ _ G0
  have C2:=cR w3 _ 2 _ _ _ G0
  have C3:=cR w3 _ 3 _ _ _ G0
  have hbz:=(HZZ.out w3).2
  obtain⟨w4,hst,G4,hb4,_,_,_⟩:=store64 G1 HZS.out Z HZS.out HZO.out
  have HF:=zh (show readP d at_=(zeroS,1) from by unfold readP;rw [← HR.out];rfl)
  have HBB:=zh (hbb.trans (hb4.mono (Nat.le_succ _)))
  have HG4:=zh G4
  clear hb4 G4 hbb G0 G1
  go_wp2_with (refine wp_build_l (L':=[]) 94 [] rfl rfl rfl hbz ?_;clear hbz;refine Halt.in ?_)
  refine Halt.out ?_
  refine wp_store_at (.tmp 4) (.tmp 22) 94 rfl rfl rfl rfl hst ?_
  clear hst
  go_wp2_with fail
  refine bodyPost_ret (results_ct rfl _ _ (w.heap.size+1) _ _ _ _ rfl HG4.out Tryz.underlying94 rfl (by rw [HZS.out];exact size_sector)) rfl ?_
  rw [HF.out,HZC.out]
  exact⟨rfl,HBB.out⟩
 | true =>
  by_cases h0:at_<0
  ·have q0:decide (at_<0)=true:=by simpa using h0
   have ht:thereB d at_=false:=by unfold thereB;rw [decide_eq_false (show ¬ 0≤at_ by omega)];rfl
   have HTH:=zh ht
   clear ht
   go_enter Tryz.func154,Tryz.ntmps154
   go_wp2_with (with_reducible refine wp_alloc_to (w':=w2) 94 rfl rfl (HZZ.out _).1 (by rw [← HW1.out];exact HW2.out) ?_;refine Halt.in ?_)
   refine Halt.out ?_
   go_wp2_with fail
   refine k1.mono ?_
   rintro e w3 ⟨rfl,hb3⟩
   clear k1 C0 C1 C2 C3
   have G0:=(hb3.block _ (zB G0)).trans G0
   have G1:=(hb3.block _ (zB G1)).trans G1
   have hbb:=hbb.trans (hb3.mono hbb.size)
   have hs3:w.heap.size+2≤w3.heap.size:=by have:=hb3.size;omega
   clear hb3 hs2
   have C0:=cR w3 _ 0 _ _ _ G0
   have C1:=cR w3 _ 1 _ _ _ G0
   have C2:=cR w3 _ 2 _ _ _ G0
   have C3:=cR w3 _ 3 _ _ _ G0
   have hbz:=(HZZ.out w3).2
   obtain⟨w4,hst,G4,hb4,_,_,_⟩:=store64 G1 HZS.out Z HZS.out HZO.out
   have HF:=zh (show readP d at_=(zeroS,1) from by unfold readP;rw [← HR.out,HTH.out];rfl)
   have HBB:=zh (hbb.trans (hb4.mono (Nat.le_succ _)))
   have HG4:=zh G4
   clear hb4 G4 hbb G0 G1
   go_wp2_with (refine wp_build_l (L':=[]) 94 [] rfl rfl rfl hbz ?_;clear hbz;refine Halt.in ?_)
   refine Halt.out ?_
   refine wp_store_at (.tmp 4) (.tmp 22) 94 rfl rfl rfl rfl hst ?_
   clear hst
   go_wp2_with fail
   refine bodyPost_ret (results_ct rfl _ _ (w.heap.size+1) _ _ _ _ rfl HG4.out Tryz.underlying94 rfl (by rw [HZS.out];exact size_sector)) rfl ?_
   rw [HF.out,HZC.out]
   exact⟨rfl,HBB.out⟩
  obtain⟨k,rfl⟩:=Int.eq_ofNat_of_zero_le (show 0≤at_ by omega)
  clear h0
  have q0:decide ((k:Int)<0)=false:=by simp
  by_cases hkL:k<L
  rotate_left
  ·have q1:decide ((L:Int)≤(k:Int))=true:=by simp;omega
   have ht:thereB d (k:Int)=false:=by unfold thereB;rw [← HLL.out,decide_eq_false (show ¬ (k:Int)<L by omega),Bool.and_false]
   have HTH:=zh ht
   clear ht
   go_enter Tryz.func154,Tryz.ntmps154
   go_wp2_with (with_reducible refine wp_alloc_to (w':=w2) 94 rfl rfl (HZZ.out _).1 (by rw [← HW1.out];exact HW2.out) ?_;refine Halt.in ?_)
   refine Halt.out ?_
   go_wp2_with fail
   refine k1.mono ?_
   rintro e w3 ⟨rfl,hb3⟩
   clear k1 C0 C1 C2 C3
   have G0:=(hb3.block _ (zB G0)).trans G0
   have G1:=(hb3.block _ (zB G1)).trans G1
   have hbb:=hbb.trans (hb3.mono hbb.size)
   have hs3:w.heap.size+2≤w3.heap.size:=by have:=hb3.size;omega
   clear hb3 hs2
   have C0:=cR w3 _ 0 _ _ _ G0
   have C1:=cR w3 _ 1 _ _ _ G0
   have C2:=cR w3 _ 2 _ _ _ G0
   have C3:=cR w3 _ 3 _ _ _ G0
   have hbz:=(HZZ.out w3).2
   obtain⟨w4,hst,G4,hb4,_,_,_⟩:=store64 G1 HZS.out Z HZS.out HZO.out
   have HF:=zh (show readP d (k:Int)=(zeroS,1) from by unfold readP;rw [← HR.out,HTH.out];rfl)
   have HBB:=zh (hbb.trans (hb4.mono (Nat.le_succ _)))
   have HG4:=zh G4
   clear hb4 G4 hbb G0 G1
   go_wp2_with (refine wp_build_l (L':=[]) 94 [] rfl rfl rfl hbz ?_;clear hbz;refine Halt.in ?_)
   refine Halt.out ?_
   refine wp_store_at (.tmp 4) (.tmp 22) 94 rfl rfl rfl rfl hst ?_
   clear hst
   go_wp2_with fail
   refine bodyPost_ret (results_ct rfl _ _ (w.heap.size+1) _ _ _ _ rfl HG4.out Tryz.underlying94 rfl (by rw [HZS.out];exact size_sector)) rfl ?_
   rw [HF.out,HZC.out]
   exact⟨rfl,HBB.out⟩
  have q1:decide ((L:Int)≤(k:Int))=false:=by simp;omega
  have ht:thereB d (k:Int)=true:=by unfold thereB;rw [← HLL.out,decide_eq_true (show (k:Int)<L by omega),decide_eq_true (show (0:Int)≤k by omega)];rfl
  have HTH:=zh ht
  clear ht
  cases dn with
  | true =>
   go_enter Tryz.func154,Tryz.ntmps154
   go_wp2_with (with_reducible refine wp_alloc_to (w':=w2) 94 rfl rfl (HZZ.out _).1 (by rw [← HW1.out];exact HW2.out) ?_;refine Halt.in ?_)
   refine Halt.out ?_
   go_wp2_with fail
   refine k1.mono ?_
   rintro e w3 ⟨rfl,hb3⟩
   clear k1 C0 C1 C2 C3
   have G0:=(hb3.block _ (zB G0)).trans G0
   have G1:=(hb3.block _ (zB G1)).trans G1
   have hbb:=hbb.trans (hb3.mono hbb.size)
   have hs3:w.heap.size+2≤w3.heap.size:=by have:=hb3.size;omega
   clear hb3 hs2
   have C0:=cR w3 _ 0 _ _ _ G0
   have C1:=cR w3 _ 1 _ _ _ G0
   have C2:=cR w3 _ 2 _ _ _ G0
   have C3:=cR w3 _ 3 _ _ _ G0
   have hbz:=(HZZ.out w3).2
   obtain⟨w4,hst,G4,hb4,_,_,_⟩:=store64 G1 HZS.out Z HZS.out HZO.out
   have HF:=zh (show readP d (k:Int)=(zeroS,9) from by unfold readP;rw [← HR.out,HTH.out,← HDN.out];rfl)
   have HBB:=zh (hbb.trans (hb4.mono (Nat.le_succ _)))
   have HG4:=zh G4
   clear hb4 G4 hbb G0 G1
   go_wp2_with (refine wp_build_l (L':=[]) 94 [] rfl rfl rfl hbz ?_;clear hbz;refine Halt.in ?_)
   refine Halt.out ?_
   refine wp_store_at (.tmp 4) (.tmp 25) 94 rfl rfl rfl rfl hst ?_
   clear hst
   go_wp2_with fail
   refine bodyPost_ret (results_ct rfl _ _ (w.heap.size+1) _ _ _ _ rfl HG4.out Tryz.underlying94 rfl (by rw [HZS.out];exact size_sector)) rfl ?_
   rw [HF.out,HZC.out]
   exact⟨rfl,HBB.out⟩
  | false =>
   have hkd:k<d.secs.length:=HLL.out▸hkL
   have hk0:(0:Int)≤(k:Int):=by omega
   have hk1:(k:Int)<(L:Int):=by omega
   obtain⟨s,hsk⟩:∃ s,s=d.secs[k]:=⟨_,rfl⟩
   have hs64:s.length=64:=by rw [hsk];exact HS.out.1 _ (List.getElem_mem hkd)
   have HF:=zh (show readP d (k:Int)=(lastW d.loose (k:Int) s,0) by unfold readP;rw [← HR.out,HTH.out,← HDN.out,hsk];simp [hkd])
   obtain⟨bs,os,rfl,hBs,e1,_,_,hlS⟩:=load_sec HS.out hkd
   rw [← hsk] at hlS
   have HLS:=zh hlS
   have HS64:=zh hs64
   clear e1 hsk hs64 hlS
   go_enter Tryz.func154,Tryz.ntmps154
   go_wp2_with (with_reducible refine wp_alloc_to (w':=w2) 94 rfl rfl (HZZ.out _).1 (by rw [← HW1.out];exact HW2.out) ?_;refine Halt.in ?_)
   refine Halt.out ?_
   go_wp2_with fail
   refine k1.mono ?_
   rintro e w3 ⟨rfl,hb3⟩
   clear k1 C0 C1 C2 C3
   have G0:=(hb3.block _ (zB G0)).trans G0
   have G1:=(hb3.block _ (zB G1)).trans G1
   have hbb:=hbb.trans (hb3.mono hbb.size)
   have hs3:w.heap.size+2≤w3.heap.size:=by have:=hb3.size;omega
   clear hb3 hs2
   have C0:=cR w3 _ 0 _ _ _ G0
   have C1:=cR w3 _ 1 _ _ _ G0
   have C2:=cR w3 _ 2 _ _ _ G0
   have C3:=cR w3 _ 3 _ _ _ G0
   have hld:=HLS.out w3 (fun p hp=>hbb.cell hp)
   obtain⟨w4,hw4⟩:∃ w4,w4=w3.alloc (.cells (Value.agg Z).cells 94):=⟨_,rfl⟩
   have hb4:Below w3.heap.size w3 w4:=by rw [hw4];exact Below.alloc (Below.refl _ _) (Nat.le_refl _) _
   obtain⟨g6,hg6⟩:∃ g,g=w3.heap.size:=⟨_,rfl⟩
   have G6:w4.heap[g6]?=some (.cells Z 94 (0,0)):=by rw [hw4,hg6];exact heap_alloc_new w3 _
   have G0:=(hb4.block _ (zB G0)).trans G0
   have G1:=(hb4.block _ (zB G1)).trans G1
   have hbb:=hbb.trans (hb4.mono hbb.size)
   have hle6:w.heap.size+2≤g6:=by rw [hg6];exact hs3
   obtain⟨w5,hst,G6',hb5,_,hk5,_⟩:=store64 G6 HZS.out (u8s s).toArray (by simp [zL,HS64.out]) (oneCell_u8s _)
   have G0:=(hk5 w.heap.size (by omega)).trans G0
   have G1:=(hk5 (w.heap.size+1) (by omega)).trans G1
   have hbb:=hbb.trans (hb5.mono (by omega))
   have HW4:=zh hw4
   have HG6:=zh hg6
   have HI:=zh (show RR w Z L n1 (some ⟨bs,os,none⟩) a2 M n2 d.fuse g6 (lastW (d.loose.take 0) (k:Int) s) w5 from ⟨hbb,G0,G1,G6'⟩)
   clear hw4 hg6 hb4 hb5 hk5 hbb G0 G1 G6 G6' hs3
   go_wp2_with (refine wp_load_at (.tmp 29) 94 rfl rfl rfl hld ?_;clear hld;refine Halt.in ?_)
   refine Halt.out ?_
   refine wp_alloc_to (w':=w4) 94 rfl rfl (HZZ.out _).1 HW4.out ?_
   rw [← HG6.out]
   refine wp_store_at (.tmp 6) (.tmp 30) 94 rfl rfl rfl rfl hst ?_
   clear hst C0 C1 C2 C3
   go_wp2_with fail
   go_loopw [7] (fun i wr=>∃ j:Nat,j≤M∧i = .int .i64 j∧RR w Z L n1 (some ⟨bs,os,none⟩) a2 M n2 d.fuse g6 (lastW (d.loose.take j) (k:Int) s) wr) (fun i _=>M-(intOf i).toNat)
   case atStart=>exact⟨0,Nat.zero_le _,rfl,HI.out⟩
   case round =>
    obtain⟨j,hj,rfl,hbb,G0,G1,G6⟩:=hrel
    have hln:(lastW (d.loose.take j) (k:Int) s).length=64:=lastW_64 _ _ _ (fun x hx=>HL.out.1 x (List.mem_of_mem_take hx)) HS64.out
    have C1:=cR wr _ 1 _ _ _ G0
    by_cases hjM:j<M
    ·have hjd:j<d.loose.length:=HMM.out▸hjM
     have j0:decide ((j:Int)<(M:Int))=true:=by simp;omega
     have j1:(0:Int)≤(j:Int):=by omega
     have j2:(j:Int)<(M:Int):=by omega
     obtain⟨bb,off,rfl,hBb,e1,_,_,hlA⟩:=looseAt HL.out hjd
     obtain⟨hc,hld⟩:=hlA wr (fun p hp=>hbb.cell hp)
     have htk:=lastW_take (a:=(k:Int)) (s:=s) hjd
     obtain⟨z,hz⟩:∃ z,z=d.loose[j].at_:=⟨_,rfl⟩
     obtain⟨y,hy⟩:∃ y,y=d.loose[j].data:=⟨_,rfl⟩
     have hy64:y.length=64:=by rw [hy];exact HL.out.1 _ (List.getElem_mem hjd)
     rw [← hz] at hc htk
     rw [← hy] at hld htk
     have HTK:=zh htk
     clear e1 hlA htk hz hy
     by_cases hzk:z=(k:Int)
     ·have q5:(z == (k:Int))=true:=by simpa using hzk
      obtain⟨w6,hst,G6',hb6,_,hk6,_⟩:=store64 G6 (by simp [zL,hln]) (u8s y).toArray (by simp [zL,hy64]) (oneCell_u8s _)
      have HI:=zh (show RR w Z L n1 (some ⟨bs,os,none⟩) (some ⟨bb,off,none⟩) M n2 d.fuse g6 (lastW (d.loose.take (j+1)) (k:Int) s) w6 by
       rw [HTK.out,if_pos hzk]
       exact⟨hbb.trans (hb6.mono (by omega)),(hk6 _ (by omega)).trans G0,(hk6 _ (by omega)).trans G1,G6'⟩)
      clear hzk hbb G0 G1 G6 G6' hb6 hk6 hln
      go_wp2_with (refine wp_load_at (.tmp 50) 94 rfl rfl rfl hld ?_;clear hld;refine Halt.in ?_)
      refine Halt.out ?_
      refine wp_store_at (.tmp 6) (.tmp 51) 94 rfl rfl rfl rfl hst ?_
      clear hst C1 hc
      go_wp2_with fail
      go_roundw
      case rel=>exact⟨j+1,by omega,by go_num,HI.out⟩
      case measure=>simp [intOf];omega
     ·have q5:(z == (k:Int))=false:=by simpa using hzk
      have HI:=zh (show RR w Z L n1 (some ⟨bs,os,none⟩) (some ⟨bb,off,none⟩) M n2 d.fuse g6 (lastW (d.loose.take (j+1)) (k:Int) s) wr by
       rw [HTK.out,if_neg hzk]
       exact⟨hbb,G0,G1,G6⟩)
      clear hzk hbb G0 G1 G6 hln hld
      go_wp2_with fail
      go_roundw
      case rel=>exact⟨j+1,by omega,by go_num,HI.out⟩
      case measure=>simp [intOf];omega
    ·have j0:decide ((j:Int)<(M:Int))=false:=by simp;omega
     have hje:lastW (d.loose.take j) (k:Int) s=lastW d.loose (k:Int) s:=by rw [List.take_of_length_le (by rw [← HMM.out];omega)]
     rw [hje] at G6 hln
     have hld:=run_loadVar_row (P:=Tryz.prog) wr g6 94 94 (u8s (lastW d.loose (k:Int) s)).toArray (0,0) _ G6 Tryz.underlying94 rfl (by simp only [List.size_toArray,zL,hln];exact size_sector)
     obtain⟨w6,hst,G4,hb6,_,hk6,_⟩:=store64 G1 HZS.out (u8s (lastW d.loose (k:Int) s)).toArray (by simp [zL,hln]) (oneCell_u8s _)
     have HBB:=zh (hbb.trans (hb6.mono (Nat.le_succ _)))
     have HG4:=zh G4
     have HLN:=zh hln
     clear hbb G0 G1 G6 G4 hb6 hk6 hje hln
     go_wp2_with (refine wp_load_at (.tmp 6) 94 rfl rfl rfl hld ?_;clear hld;refine Halt.in ?_)
     refine Halt.out ?_
     refine wp_store_at (.tmp 4) (.tmp 52) 94 rfl rfl rfl rfl hst ?_
     clear hst C1
     go_wp2_with fail
     refine bodyPost_ret (results_ct rfl _ _ (w.heap.size+1) _ _ _ _ rfl HG4.out Tryz.underlying94 rfl (by simp only [List.size_toArray,zL,HLN.out];exact size_sector)) rfl ?_
     rw [HF.out]
     exact⟨rfl,HBB.out⟩
end
section
open Go.RowKit WalP PackP
def takesL (ls:List (List UInt8)):Int:=match total ls with | some n=>(n:Int) | none=>-1
theorem totalN_take {ls:List (List UInt8)} {k:Nat} (hk:k<ls.length) {m:Nat} (h:totalN (ls.take k)=some m):totalN (ls.take (k+1))=if takes ls[k].length=0 then none else some (m+takes ls[k].length):=by
 have key:∀ (l:List (List UInt8)) (b:List UInt8) (m:Nat),totalN l=some m→totalN (l++[b])=if takes b.length=0 then none else some (m+takes b.length):=by
  intro l
  induction l with
  | nil =>
   intro b m h
   simp only [totalN] at h
   cases h
   simp only [List.nil_append,totalN]
   split <;> simp
  | cons y l ih =>
   intro b m h
   simp only [totalN] at h
   split at h
   ·cases h
   ·rename_i h0
    cases hl:totalN l with
    | none=>rw [hl] at h;cases h
    | some m' =>
     rw [hl] at h
     cases h
     rw [List.cons_append]
     simp only [totalN]
     rw [if_neg h0,ih b m' hl]
     split
     ·rfl
     ·simp [Nat.add_assoc]
 have e:ls.take (k+1)=ls.take k++[ls[k]]:=by rw [List.take_add_one,List.getElem?_eq_getElem hk];rfl
 rw [e]
 exact key _ _ _ h
theorem refTotalBad {ls:List (List UInt8)} {k:Nat} (hk:k<ls.length) (h:takes ls[k].length=0):totalN ls=none:=by
 rcases totalN_eq ls with ⟨_,e⟩ | ⟨h0,_⟩
 ·exact e
 ·exact absurd h (h0 _ (List.getElem_mem hk))
set_option maxRecDepth 100000 in
set_option maxHeartbeats 2000000 in
theorem refTakesL_any {B:Nat} (v:Value) (ls:List (List UInt8)) (w:World) (h:Pieces B w v ls) (hn:ls.length≤2^40) :
  Calls Tryz.prog 101 #[v] w fun e w'=>e = .returned (.int .i64 (takesL ls))∧w=w':=by
 have HS:=zh h
 obtain⟨_,⟨_,a1,n1,rfl,q1,p1,_⟩,_⟩:=h
 unfold maxLen at p1
 obtain⟨L,hL⟩:∃ L,L=ls.length:=⟨_,rfl⟩
 rw [← hL] at q1 hn HS ⊢
 have HL:=zh hL
 clear hL
 go_enter Tryz.func101,Tryz.ntmps101
 go_wp2_with fail
 go_loop [3,4] (fun n i=>∃ k m:Nat,k≤L∧i = .int .i64 k∧n = .int .i64 m∧m≤95*k∧totalN (ls.take k)=some m) (fun _ i=>L-(intOf i).toNat)
 case atStart=>exact⟨0,0,Nat.zero_le _,rfl,rfl,Nat.le_refl _,rfl⟩
 case round =>
  obtain⟨k,m,hk,rfl,rfl,hm,ht⟩:=hrel
  have HT:=zh ht
  clear ht
  by_cases hlt:k<L
  ·have h1:k<ls.length:=HL.out▸hlt
   have k0:decide ((k:Int)<(L:Int))=true:=by simp;omega
   have k1:(0:Int)≤(k:Int):=by omega
   have k2:(k:Int)<(L:Int):=by omega
   obtain⟨ba,oa,a',c',rfl,hBa,-,_,_,hlA,hbA⟩:=load_piece HS.out h1
   replace hlA:=hlA w (fun _ _=>rfl)
   obtain⟨x,hx⟩:∃ x,x=ls[k].length:=⟨_,rfl⟩
   rw [← hx] at hlA
   have kt:=refTakes_any (x:Int) w
   obtain⟨t,htk⟩:∃ t,t=takes x:=⟨_,rfl⟩
   rw [takesZ_nat,← htk] at kt
   have ht95:t≤95:=by rw [htk];exact takes_le x
   have HX:=zh hx
   have HTK:=zh htk
   clear hx htk hbA
   by_cases ht0:t=0
   ·have q0:((t:Int) == 0)=true:=by simp [ht0]
    have HF:=zh (show takesL ls = -1 by
     have h:=refTotalBad h1 (by rw [← HX.out,← HTK.out];exact ht0)
     unfold takesL total
     rw [h]
     by_cases hne:ls=[]
     ·rw [if_pos hne]
     ·rw [if_neg hne])
    clear ht0
    go_wp2_with fail
    refine kt.mono ?_
    rintro e w' ⟨rfl,rfl⟩
    go_wp2_with fail
    go_ret
    exact⟨by rw [HF.out];rfl,rfl⟩
   ·have q0:((t:Int) == 0)=false:=by simp;omega
    have HN:=zh (show totalN (ls.take (k+1))=some (m+t) by
     rw [totalN_take h1 HT.out,← HX.out,← HTK.out,if_neg ht0])
    clear ht0
    go_wp2_with fail
    refine kt.mono ?_
    rintro e w' ⟨rfl,rfl⟩
    go_wp2_with fail
    go_round
    case rel=>exact⟨k+1,m+t,by omega,by go_num,by go_num,by omega,HN.out⟩
    case measure=>simp [intOf];omega
  ·have k0:decide ((k:Int)<(L:Int))=false:=by simp;omega
   have HE:=zh (show totalN ls=some m by
    have h:=HT.out
    rwa [List.take_of_length_le (by rw [← HL.out];omega)] at h)
   by_cases hL0:L=0
   ·have q0:((L:Int) == 0)=true:=by simp [hL0]
    have HF:=zh (show takesL ls = -1 by
     have:ls=[]:=List.eq_nil_of_length_eq_zero (by rw [← HL.out];exact hL0)
     rw [this];rfl)
    clear hL0
    go_wp2_with fail
    go_ret
    exact⟨by rw [HF.out];rfl,rfl⟩
   ·have q0:((L:Int) == 0)=false:=by simp;omega
    have HF:=zh (show takesL ls=(m:Int) by
     have hne:ls≠[]:=fun e=>hL0 (by rw [HL.out,e];rfl)
     unfold takesL total
     rw [if_neg hne,HE.out])
    clear hL0
    go_wp2_with fail
    go_ret
    exact⟨by rw [HF.out];rfl,rfl⟩
end
section
open Go.RowKit WalP PackP
set_option maxRecDepth 100000 in
set_option maxHeartbeats 2000000 in
theorem refSector_any {B:Nat} (v:Value) (d:DiskP) (at_:Int) (w:World) (h:DiskV B w v d) :
  Calls Tryz.prog 137 #[v,.int .i64 at_] w fun e w'=>e = .returned (.agg (u8s (readP d at_).1).toArray)∧Below w.heap.size w w':=by
 have hd:=h.tight
 clear h
 obtain⟨p1,q1,p2,q2,rfl,_,_⟩:=hd.parts
 obtain⟨w1,hw1⟩:∃ w1,w1=w.alloc (.cells #[.slice p1 d.secs.length q1,.slice p2 d.loose.length q2,.int .i64 d.fuse,.bool d.down] 38):=⟨_,rfl⟩
 have hb1:Below w.heap.size w w1:=by rw [hw1];exact Below.alloc (Below.refl _ _) (Nat.le_refl _) _
 have hs1:w1.heap.size=w.heap.size+1:=by rw [hw1];simp
 have hG1:w1.heap[w.heap.size]?=some (.cells #[.slice p1 d.secs.length q1,.slice p2 d.loose.length q2,.int .i64 d.fuse,.bool d.down] 38 (0,0)):=by rw [hw1];exact heap_alloc_new w _
 obtain⟨z0,hz0,hzr⟩:=zero44
 obtain⟨w2,hw2⟩:∃ w2,w2=w1.alloc (.cells z0.cells 94):=⟨_,rfl⟩
 have hb2:Below w1.heap.size w1 w2:=by rw [hw2];exact Below.alloc (Below.refl _ _) (Nat.le_refl _) _
 have hs2:w2.heap.size=w.heap.size+2:=by rw [hw2];simp [hs1]
 have hG2:w2.heap[w.heap.size+1]?=some (.cells (u8s zeroS).toArray 94 (0,0)):=by rw [hw2,← hs1,← hz0];exact heap_alloc_new w1 _
 have hG1:=(hb2.block _ (zB hG1)).trans hG1
 have hb02:=hb1.trans (hb2.mono hb1.size)
 have hd2:=hd.below hb02
 have kr:∀ w':World,Below w2.heap.size w2 w'→Calls Tryz.prog 154 #[.agg #[.slice p1 d.secs.length q1,.slice p2 d.loose.length q2,.int .i64 d.fuse,.bool d.down],.int .i64 at_] w' fun e w''=>e = .returned (.tuple #[.agg (u8s (readP d at_).1).toArray,.int .i64 (readP d at_).2])∧Below w'.heap.size w' w'':=fun w' hb=>refread_any _ d at_ w' (hd2.tight.below hb)
 have hxl:=walReadLen hd at_
 obtain⟨xs,hxs⟩:∃ xs,xs=(readP d at_).1:=⟨_,rfl⟩
 obtain⟨er,her⟩:∃ er,er=(readP d at_).2:=⟨_,rfl⟩
 rw [← hxs] at hxl ⊢
 rw [← hxs,← her] at kr
 obtain⟨X,hX⟩:∃ X,X=(u8s xs).toArray:=⟨_,rfl⟩
 have hXs:X.size=64:=by rw [hX];simp [zL,hxl]
 have hXo:∀ v∈X.toList,v.oneCell'=true:=by rw [hX];simpa using oneCell_u8s xs
 rw [← hX] at kr ⊢
 have HXO:=zh hXo
 have HXZ:=zh hXs
 have KR:=zh kr
 have HW1:=zh hw1
 have HW2:=zh hw2
 have HZ0:=zh hz0
 have HZR:=zh hzr
 have HG2:=zh hG2
 have HB02:=zh hb02
 have HS2:=zh hs2
 have L0:∀ w',Below w2.heap.size w2 w'→w'.cell? ⟨w.heap.size,0,none⟩=some (.slice p1 d.secs.length q1):=fun w' h=>cR w' _ 0 _ _ _ ((h.block _ (zB hG1)).trans hG1)
 have L1:∀ w',Below w2.heap.size w2 w'→w'.cell? ⟨w.heap.size,1,none⟩=some (.slice p2 d.loose.length q2):=fun w' h=>cR w' _ 1 _ _ _ ((h.block _ (zB hG1)).trans hG1)
 have L2:∀ w',Below w2.heap.size w2 w'→w'.cell? ⟨w.heap.size,2,none⟩=some (.int .i64 d.fuse):=fun w' h=>cR w' _ 2 _ _ _ ((h.block _ (zB hG1)).trans hG1)
 have L3:∀ w',Below w2.heap.size w2 w'→w'.cell? ⟨w.heap.size,3,none⟩=some (.bool d.down):=fun w' h=>cR w' _ 3 _ _ _ ((h.block _ (zB hG1)).trans hG1)
 clear hd hd2 hw1 hw2 hb1 hb2 hs1 hs2 hG1 hG2 hb02 hz0 hzr kr hxl hxs her hX hXs hXo
 go_enter Tryz.func137,Tryz.ntmps137
 go_wp2_with (with_reducible refine wp_alloc_to (w':=w2) 94 rfl rfl (HZR.out _) (by rw [← HW1.out];exact HW2.out) ?_;refine Halt.in ?_)
 refine Halt.out ?_
 have C0:=L0 w2 (Below.refl _ _)
 have C1:=L1 w2 (Below.refl _ _)
 have C2:=L2 w2 (Below.refl _ _)
 have C3:=L3 w2 (Below.refl _ _)
 clear L0 L1 L2 L3
 go_wp2_with fail
 refine (KR.out w2 (Below.refl _ _)).mono ?_
 rintro e w6 ⟨rfl,s6⟩
 obtain⟨w7,hw7,s7,g7,l7,hgg⟩:=box_alloc HZ0.out s6
 obtain⟨wc,hst1,hg,hG,hbx⟩:=box_store HXZ.out HXO.out g7 hgg s7
 have HW7:=zh hw7
 clear C0 C1 C2 C3 hw7
 go_wp2_with (with_reducible refine wp_alloc_to (w':=w7) 94 rfl rfl (HZR.out _) HW7.out ?_;refine Halt.in ?_)
 refine Halt.out ?_
 refine wp_store_at (.tmp 5) (.tmp 11) 94 rfl rfl rfl rfl hst1 ?_
 clear hst1
 obtain⟨g,hgd⟩:∃ g,g=w6.heap.size:=⟨_,rfl⟩
 rw [← hgd] at hg hG ⊢
 clear hgd
 have hld:=run_loadVar_row (P:=Tryz.prog) wc g 94 94 X (0,0) _ hG Tryz.underlying94 rfl (by rw [HXZ.out];exact size_sector)
 have hG4:=(hbx.block _ (zB HG2.out)).trans HG2.out
 obtain⟨w8,hst,G8,hb8,_,_,_⟩:=store64 hG4 (by simp [zL,zeroS]) X HXZ.out HXO.out
 have HG8:=zh G8
 have HBB:=zh ((HB02.out.trans (hbx.mono (by rw [HS2.out];omega))).trans (hb8.mono (Nat.le_succ _)))
 clear hbx hG hg hG4 hb8 G8
 go_wp2_with (refine wp_load_at (.tmp 5) 94 rfl rfl rfl hld ?_;clear hld;refine Halt.in ?_)
 refine Halt.out ?_
 refine wp_store_at (.tmp 4) (.tmp 13) 94 rfl rfl rfl rfl hst ?_
 clear hst
 go_wp2_with fail
 refine bodyPost_ret (results_cell_row rfl _ _ (w.heap.size+1) _ _ _ _ rfl HG8.out Tryz.underlying94 rfl (by rw [HXZ.out];exact size_sector)) rfl ?_
 exact⟨rfl,HBB.out⟩
end
section
open Go.RowKit WalP PackP
theorem pad64_nil:pad64 []=zeroS:=rfl
theorem fill_set {b:List UInt8} {k:Nat} (h:k<b.length) (h64:k<64):(pad64 (b.take k)).set k b[k]=pad64 (b.take (k+1)):=by
 unfold pad64
 apply List.ext_getElem?
 intro i
 rw [List.take_take,List.take_take,Nat.min_eq_right (by omega),Nat.min_eq_right (by omega),List.length_take,List.length_take,Nat.min_eq_left (by omega),Nat.min_eq_left (by omega),List.getElem?_set]
 by_cases hi:k=i
 ·subst hi
  rw [if_pos rfl,if_pos (by simp;omega),List.getElem?_append_left (by simp;omega)]
  simp [h]
 ·rw [if_neg hi]
  by_cases h2:i<k
  ·rw [List.getElem?_append_left (by simp;omega),List.getElem?_append_left (by simp;omega)]
   simp [List.getElem?_take,h2,Nat.lt_succ_of_lt h2]
  ·rw [List.getElem?_append_right (by simp;omega),List.getElem?_append_right (by simp;omega)]
   simp only [List.getElem?_replicate,List.length_take,Nat.min_eq_left (show k≤b.length by omega),Nat.min_eq_left (show k+1≤b.length by omega)]
   by_cases h3:i<64
   ·rw [if_pos (by omega),if_pos (by omega)]
   ·rw [if_neg (by omega),if_neg (by omega)]
theorem fill_all {b:List UInt8} {k:Nat} (h:b.length≤k∨64≤k):pad64 (b.take k)=pad64 b:=by
 unfold pad64
 rw [List.take_take,List.length_take]
 rcases h with h | h
 ·rw [Nat.min_eq_right h]
  by_cases h2:k≤64
  ·rw [Nat.min_eq_right h2,List.take_of_length_le h,List.take_of_length_le (show b.length≤64 by omega)]
  ·rw [Nat.min_eq_left (by omega)]
 ·rw [Nat.min_eq_left h]
  congr 2
  omega
theorem fill_old {w:World} {g k:Nat} {b:List UInt8} {t:TypeId} (hg:w.heap[g]?=some (.cells (u8s (pad64 (b.take k))).toArray t (0,0))) (h:k≤b.length) (h64:k<64):w.cell? ⟨g,k,none⟩=some (.int .u8 0):=by
 rw [cR w g k _ _ _ hg]
 have e:(pad64 (b.take k))[k]?=some 0:=by
  unfold pad64
  rw [List.take_take,List.length_take,Nat.min_eq_right (by omega),Nat.min_eq_left h,List.getElem?_append_right (by simp;omega),List.length_take,Nat.min_eq_left h,Nat.sub_self,List.getElem?_replicate,if_pos (by omega)]
 simp [u8s,u8,e]
theorem fill_cell {w:World} {g k:Nat} {b:List UInt8} {t:TypeId} (hg:w.heap[g]?=some (.cells (u8s (pad64 (b.take k))).toArray t (0,0))) (h:k<b.length) (h64:k<64) :
  (w.setCell ⟨g,k,none⟩ (.int .u8 (b[k].toNat:Int))).heap[g]?=some (.cells (u8s (pad64 (b.take (k+1)))).toArray t (0,0)):=by
 rw [← fill_set h h64]
 simp [World.setCell,Array.getElem?_modify,hg,u8s,u8,List.map_set]
end
end Go.Proofs.YtaijompnohkmaaaGreatDoor
