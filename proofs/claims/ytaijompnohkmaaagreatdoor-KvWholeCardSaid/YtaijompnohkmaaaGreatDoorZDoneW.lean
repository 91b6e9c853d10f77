/- Layer 1 (sector), the document's answer: done. -/
import Derived.Test.YtaijompnohkmaaaGreatDoorZRefArmW
import Derived.Test.YtaijompnohkmaaaGreatDoorZStillLoadW
import Derived.StillTailTactics
set_option linter.unusedSimpArgs false
set_option linter.unusedVariables false
namespace Go.Proofs.YtaijompnohkmaaaGreatDoor
open Go.RowKit
set_option maxRecDepth 100000 in
set_option maxHeartbeats 2000000 in
theorem done_any {B : Nat} (v : Value) (d : DiskP) (mask : Int) (w : World) (h : DiskV B w v d) (hr : rightB d = true) (hm0 : 0 ≤ mask) (hm : mask < 2 ^ 64) :
  Calls Tryz.prog 70 #[v,.int .u64 mask] w fun e w'=>(∃ sv,e = .returned (.agg #[sv,.slice none 0 0,.int .i64 d.fuse,.bool d.down]) ∧ SecsO w.heap.size w' sv (settleN d.secs d.loose (stay mask) d.loose.length)) ∧ Below w.heap.size w w':=by
 obtain ⟨a1,n1,a2,n2,rfl,hs,hl⟩:=h.tight.parts
 clear h
 have hl0:=hl
 have F:=Fr2.new (w:=w) hs hl
 obtain ⟨w2,hw2⟩ : ∃ w2,w2 = (w.alloc (.cells #[.slice a1 d.secs.length n1,.slice a2 d.loose.length n2,.int .i64 d.fuse,.bool d.down] 38)).alloc (.cells #[.slice none 0 0,.slice none 0 0,.int .i64 0,.bool false] 38):=⟨_,rfl⟩
 have hB : Below w.heap.size w w2:=by rw [hw2];exact Below.alloc (Below.alloc (Below.refl _ _) (Nat.le_refl _) _) (by simp) _
 have hle : w.heap.size + 2 ≤ w2.heap.size:=by rw [hw2];simp
 rw [← hw2] at F
 have hrs : d.secs.length ≤ 2 ^ 40 ∧ d.loose.length ≤ 2 ^ 40:=by
  simp only [rightB,Bool.and_eq_true,decide_eq_true_eq] at hr
  omega
 have k1:=copy_any _ d w2 F.diskV hrs
 have HT:=Lib.hid (fun k hk=>there_of_right hr k hk)
 have HM:=Lib.hid (And.intro hm0 hm)
 have C0:=cell_of_row w2 _ 0 _ _ _ F.g0
 have C1:=cell_of_row w2 _ 1 _ _ _ F.g0
 have C2:=cell_of_row w2 _ 2 _ _ _ F.g0
 have C3:=cell_of_row w2 _ 3 _ _ _ F.g0
 clear hs hl hr hm0 hm
 obtain ⟨mk,hmk⟩:=Int.eq_ofNat_of_zero_le HM.out.1
 go_enter Tryz.func70,Tryz.ntmps70
 go_wp2_with fail
 rw [← hw2]
 clear hw2
 refine k1.mono ?_
 rintro e w3 ⟨⟨sv,lv,rfl,C,hC1,hC2,ho,r,hlo⟩,hb3⟩
 obtain ⟨b1,m1,rfl⟩:=ho.form
 obtain ⟨b2,m2,rfl⟩:=hlo.form
 have HNE:=Lib.hid (show 0 < d.secs.length → ∀ g,b1 = some ⟨g,0,none⟩ → w3.heap.size ≠ g from fun hp g hg=>by
  obtain ⟨_,a,cap,hv,_,_,h3⟩:=ho.secs.2
  cases hv
  obtain ⟨b,off,hb,hlt,_⟩:=h3 hp
  rw [hg] at hb
  cases hb
  omega)
 have F:=F.below hb3 (by omega) (by omega)
 have hB:=hB.trans (hb3.mono hB.size)
 have hs3 : w.heap.size + 2 ≤ w3.heap.size:=Nat.le_trans hle hb3.size
 clear k1 C0 C1 C2 C3 hb3 r hlo hC1 hC2
 obtain ⟨w4,hw4⟩ : ∃ w4,w4 = w3.alloc (.cells #[.slice b1 d.secs.length m1,.slice none 0 0,.int .i64 d.fuse,.bool d.down] 38):=⟨_,rfl⟩
 have hb4 : Below w3.heap.size w3 w4:=by rw [hw4];exact Below.alloc (Below.refl _ _) (Nat.le_refl _) _
 have G5 : w4.heap[w3.heap.size]? = some (.cells #[.slice b1 d.secs.length m1,.slice none 0 0,.int .i64 d.fuse,.bool d.down] 38 (0,0)):=by rw [hw4];exact heap_alloc_new w3 _
 have F:=F.below hb4 (by omega) (by omega)
 have ho:=ho.keep hb4 (Nat.le_refl _)
 have hB:=hB.trans (hb4.mono hB.size)
 have hs4 : w3.heap.size + 1 ≤ w4.heap.size:=by have:=block_lt G5;omega
 have ho4:=ho.lower hle
 have HW4:=Lib.hid hw4
 clear hw4 ho
 obtain ⟨_,_,_,hv,_,hcap2,_⟩:=hl0.2
 cases hv
 unfold maxLen at hcap2
 obtain ⟨iz,zz,hi46,_,hsz46,_,_⟩:=zero_parts infoz_write
 obtain ⟨i44,hi44,hs44⟩:=info44
 have HL:=Lib.hid hl0
 go_wp2_with fail
 rw [← HW4.out]
 go_loopw [6] (fun i wr=>∃ k : Nat,k ≤ d.loose.length ∧ i = .int .i64 k ∧ SecsO (w.heap.size + 2) wr (.slice b1 d.secs.length m1) (settleN d.secs d.loose (stay mask) k) ∧ Fr2 w.heap.size w.heap.size wr (.slice a1 d.secs.length n1) (.slice a2 d.loose.length n2) d ∧ wr.heap[w3.heap.size]? = some (.cells #[.slice b1 d.secs.length m1,.slice none 0 0,.int .i64 d.fuse,.bool d.down] 38 (0,0)) ∧ Below w.heap.size w wr) (fun i _=>d.loose.length - (intOf i).toNat)
 case atStart=>exact ⟨0,Nat.zero_le _,rfl,ho4,F,G5,hB⟩
 case round =>
  obtain ⟨k,hk,rfl,ho,F,G5,hB⟩:=hrel
  have C1:=cell_of_row wr _ 1 _ _ _ F.g0
  clear ho4
  by_cases hlt : k < d.loose.length
  ·obtain ⟨hls,_,a,cap,hv,hnc,hcap,hcells⟩:=HL.out
   cases hv
   unfold maxLen at hcap
   obtain ⟨b,off,rfl,hBb,hc⟩:=hcells (by omega)
   have hat:=flat_at wcells 65 d.loose (fun x hx=>by rw [length_wcells,hls x hx]) k d.loose[k] (List.getElem?_eq_getElem hlt)
   obtain ⟨x,hx⟩ : ∃ x,x = d.loose[k]:=⟨_,rfl⟩
   rw [← hx] at hat
   have hxl : x.data.length = 64:=by rw [hx];exact hls _ (List.getElem_mem hlt)
   obtain ⟨m,hm,hmlt⟩:=HT.out k hlt
   rw [← hx] at hm
   have hset : settleN d.secs d.loose (stay mask) (k + 1) = if stay mask k then (settleN d.secs d.loose (stay mask) k).set m x.data else settleN d.secs d.loose (stay mask) k:=by
    show (match d.loose[k]? with | some x=>_ | none=>_) = _
    rw [List.getElem?_eq_getElem hlt,← hx]
    simp only [hm,Int.toNat_natCast]
   have HS:=Lib.hid hset
   have hcc : ∀ j u,(wcells x)[j]? = some u → wr.cell? ⟨b,off + (k * 65 + j),none⟩ = some u:=fun j u hj=>(hB.cell (p:=⟨b,off + (k * 65 + j),none⟩) hBb).trans (hc _ _ (hat j u hj))
   have E0:=hcc 0 (.int .i64 (m : Int)) (by simp [wcells,hm])
   rw [Nat.add_zero] at E0
   have hld:=run_load_big (P:=Tryz.prog) (t:=94) Tryz.underlying94 (.inl ⟨_,_,rfl⟩) hi44 (w:=wr.drew) (b:=b) (off:=off + k * 65 + 1) (cs:=u8s x.data) hs44 (by rw [length_u8s,hxl])
    (fun j u hj=>by
     have e : off + k * 65 + 1 + j = off + (k * 65 + (j + 1)):=by omega
     rw [e]
     exact hcc (j + 1) u (by simpa [wcells] using hj))
   obtain ⟨X,hX⟩ : ∃ X,X = (u8s x.data).toArray:=⟨_,rfl⟩
   rw [← hX] at hld
   have HX:=Lib.hid hX
   obtain ⟨q,hq⟩ : ∃ q,q = stay mask k:=⟨_,rfl⟩
   have hqq : (bits BinOp.and IntKind.u64 ((mk : Int) / 2 ^ (k % 64)) 1 == 1) = q:=by rw [hq,hmk];rfl
   have HQ:=Lib.hid hq
   clear hx hset hcc hat hc hcells hX hq
   have hmk1 : mk < 2 ^ 64:=by have:=HM.out;omega
   rw [hmk]
   have HMK:=Lib.hid hmk
   clear hmk
   cases q with
   | false =>
    go_wp2_with fail
    go_roundw
    case rel =>
     refine ⟨k + 1,by omega,by go_num,?_,F,G5,hB⟩
     rw [← HMK.out,HS.out,← HQ.out]
     exact ho
    case measure=>simp [intOf];omega
   | true =>
    have C5:=cell_of_row wr _ 0 _ _ _ G5
    have hl1 : ((m : Int) < (d.secs.length : Int)):=by omega
    obtain ⟨g,rfl,hgB,hgw,w7,hst7,ho7,hb7,hsz7,hoth7⟩:=SecsO.lay (P:=Tryz.prog) (show SecsO (w.heap.size + 2) wr.drew (.slice b1 d.secs.length m1) (settleN d.secs d.loose (stay mask) k) from ho) m x.data (by rw [length_settleN];exact hmlt) hxl hi44 hs44
    rw [← HX.out] at hst7
    have hne : w3.heap.size ≠ g:=HNE.out (by omega) g rfl
    have F7:=(show Fr2 w.heap.size w.heap.size wr.drew _ _ d from ⟨F.g0,F.g2,F.s,F.l⟩).below hb7 (by omega) (by omega)
    have G7:=(hoth7 w3.heap.size hne).trans (show wr.drew.heap[w3.heap.size]? = _ from G5)
    have hB7:=(below_draws hB 1).trans (hb7.mono (by omega))
    go_wp2_with fail
    go_still_tail 15,(by kernel_rfl)
    refine still_load (.tmp 36) 94 rfl rfl rfl hld ?_
    repeat still_step
    refine wpStill_nil ?_
    change wpList _ _ _ _ _ wr.drew
    clear hld
    refine wp_store_at (.tmp 38) (.tmp 37) 94 rfl rfl rfl rfl hst7 ?_
    clear hst7
    go_wp2_with fail
    go_roundw
    case rel =>
     refine ⟨k + 1,by omega,by go_num,?_,F7,G7,hB7⟩
     rw [← HMK.out,HS.out,← HQ.out]
     exact ho7
    case measure=>simp [intOf];omega
  ·obtain rfl : k = d.loose.length:=by omega
   have c0:=cell_of_row wr _ 0 _ _ _ G5
   have c1:=cell_of_row wr _ 1 _ _ _ G5
   have c2:=cell_of_row wr _ 2 _ _ _ G5
   have c3:=cell_of_row wr _ 3 _ _ _ G5
   have D0:=cell_of_row wr _ 0 _ _ _ F.g2
   have D1:=cell_of_row wr _ 1 _ _ _ F.g2
   have D2:=cell_of_row wr _ 2 _ _ _ F.g2
   have D3:=cell_of_row wr _ 3 _ _ _ F.g2
   have Z:=frozen_row F.g2
   have hl2 : w.heap.size + 1 < w.heap.size + 2:=by omega
   go_wp2_with fail
   refine bodyPost_ret (results_cell_row rfl _ _ (w.heap.size + 1) _ _ _ _ rfl (put4_heap F.g2 _ _ _ _) Tryz.underlying38 rfl size_disk) rfl ?_
   exact ⟨⟨_,rfl,(put4_secs ho hl2 _ _ _ _).lower (by omega)⟩,put4_below hB (by omega) _ _ _ _⟩
end Go.Proofs.YtaijompnohkmaaaGreatDoor
