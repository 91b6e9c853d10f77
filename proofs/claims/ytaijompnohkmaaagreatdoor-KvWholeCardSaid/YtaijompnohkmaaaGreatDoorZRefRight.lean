/- Layer 1 (sector), the document's answer: Right. -/
import Derived.Test.YtaijompnohkmaaaGreatDoorMT
set_option linter.unusedSimpArgs false
set_option linter.unusedVariables false
namespace Go.Proofs.YtaijompnohkmaaaGreatDoor
open Go.RowKit
set_option maxRecDepth 100000 in
set_option maxHeartbeats 1000000 in
theorem refright_any {B : Nat} (v : Value) (d : DiskP) (w : World) (h : DiskV B w v d) :
  Calls Tryz.prog 69 #[v] w fun e w'=>e = .returned (.bool (rightB d)) ∧ Below w.heap.size w w':=by
 obtain ⟨a1,n1,a2,n2,rfl,hs,hl⟩:=h.tight.parts
 have hcs:=hs.2
 obtain ⟨_,_,_,hv,hln1,hcap1,_⟩:=hcs
 cases hv
 obtain ⟨hls,_,a,cap,hv,hnc,hcap2,hcells⟩:=hl
 cases hv
 unfold maxLen at hcap1 hcap2
 obtain ⟨w2,hw2⟩ : ∃ w2,w2 = w.alloc (.cells #[.slice a1 d.secs.length n1,.slice a2 d.loose.length n2,.int .i64 d.fuse,.bool d.down] 38):=⟨_,rfl⟩
 have hB : Below w.heap.size w w2:=by rw [hw2];exact Below.alloc (Below.refl _ _) (Nat.le_refl _) _
 have G0 : w2.heap[w.heap.size]? = some (.cells #[.slice a1 d.secs.length n1,.slice a2 d.loose.length n2,.int .i64 d.fuse,.bool d.down] 38 (0,0)):=by rw [hw2];exact heap_alloc_new w _
 have hcl:=fun hp=>hcells hp
 obtain ⟨L,hL⟩ : ∃ L,L = d.secs.length:=⟨_,rfl⟩
 obtain ⟨M,hM⟩ : ∃ M,M = d.loose.length:=⟨_,rfl⟩
 obtain ⟨f,hf⟩ : ∃ f,f = d.fuse:=⟨_,rfl⟩
 have hR : rightB d = (decide (L ≤ 4096) && decide (M ≤ 100000) && (decide (-1 ≤ f) && decide (f ≤ 1099511627776)) && !badAt d d.loose):=by rw [hL,hM,hf];rfl
 rw [← hL,← hM,← hf] at G0
 rw [← hM] at hcells
 rw [← hL,← hM,← hf] at hw2
 have C0:=cell_of_row w2 _ 0 _ _ _ G0
 have C1:=cell_of_row w2 _ 1 _ _ _ G0
 have C2:=cell_of_row w2 _ 2 _ _ _ G0
 have G0':=G0
 rw [hR,← hL,← hM,← hf]
 rw [← hL] at hln1
 rw [← hM] at hnc
 have HW2:=Lib.hid hw2
 have HL:=Lib.hid hL
 have HM:=Lib.hid hM
 have HC:=Lib.hid hcells
 have HG0:=Lib.hid G0'
 clear hw2 hL hM hf hcells hcl h hs G0 hR G0'
 have hBw:=hB
 rw [HW2.out] at hBw
 by_cases h1 : L ≤ 4096
 rotate_left
 ·go_enter Tryz.func69,Tryz.ntmps69
  go_wp2_with fail
  go_ret
  exact ⟨by simp [h1],hBw⟩
 by_cases h2 : M ≤ 100000
 rotate_left
 ·go_enter Tryz.func69,Tryz.ntmps69
  go_wp2_with fail
  go_ret
  exact ⟨by simp [h2],hBw⟩
 by_cases h3 : -1 ≤ f
 rotate_left
 ·go_enter Tryz.func69,Tryz.ntmps69
  go_wp2_with fail
  go_ret
  exact ⟨by simp [show ¬ (-1 ≤ f) by omega],hBw⟩
 by_cases h4 : f ≤ 1099511627776
 rotate_left
 ·go_enter Tryz.func69,Tryz.ntmps69
  go_wp2_with fail
  go_ret
  exact ⟨by simp [show ¬ (f ≤ 1099511627776) by omega],hBw⟩
 go_enter Tryz.func69,Tryz.ntmps69
 go_wp2_with fail
 rw [← HW2.out]
 have G0:=HG0.out
 have H1:=Lib.hid (And.intro h1 (And.intro h2 (And.intro h3 h4)))
 clear h1 h3 h4 C0 C1 C2 hBw
 go_loopw [3] (fun i wr=>∃ k : Nat,k ≤ M ∧ i = .int .i64 k ∧ (∀ j (hj : j < d.loose.length),j < k → thereB d d.loose[j].at_ = true) ∧ Below w.heap.size w wr ∧ wr.heap[w.heap.size]? = some (.cells #[.slice a1 L n1,.slice a2 M n2,.int .i64 f,.bool d.down] 38 (0,0))) (fun i _=>M - (intOf i).toNat)
 case atStart=>exact ⟨0,Nat.zero_le _,rfl,fun j _ h=>absurd h (Nat.not_lt_zero _),hB,G0⟩
 case round =>
  obtain ⟨k,hk,rfl,hpre,hb,hrow⟩:=hrel
  have C0:=cell_of_row wr _ 0 _ _ _ hrow
  have C1:=cell_of_row wr _ 1 _ _ _ hrow
  have HPRE:=Lib.hid hpre
  clear hpre hB G0
  by_cases hlt : k < M
  ·have hlt' : k < d.loose.length:=HM.out ▸ hlt
   obtain ⟨b,off,rfl,hBb,hc⟩:=HC.out (by omega)
   have hat:=flat_at wcells 65 d.loose (fun x hx=>by rw [length_wcells,hls x hx]) k d.loose[k] (List.getElem?_eq_getElem hlt')
   have hc0:=hat 0 (.int .i64 d.loose[k].at_) (by simp [wcells])
   have E0:=(hb.cell (p:=⟨b,off + (k * 65 + 0),none⟩) hBb).trans (hc _ _ hc0)
   rw [Nat.add_zero] at E0
   obtain ⟨x,hx⟩ : ∃ x,x = d.loose[k].at_:=⟨_,rfl⟩
   rw [← hx] at E0
   have ht : thereB d d.loose[k].at_ = (decide (0 ≤ x) && decide (x < L)):=by rw [hx,HL.out];rfl
   have HT:=Lib.hid ht
   clear hat hc hc0 hx ht
   by_cases hx0 : x < 0
   ·have hT : thereB d d.loose[k].at_ = false:=by rw [HT.out];simp [show ¬ (0 ≤ x) by omega]
    have HTF:=Lib.hid hT
    clear hT
    go_wp2_with fail
    go_quiet (fail)
    have hb2:=below_draws hb nq
    go_wp2_with fail
    go_ret
    exact ⟨by rw [badAt_some d d.loose k hlt' HTF.out];simp,hb2⟩
   ·by_cases hx1 : x < L
    ·have hT : thereB d d.loose[k].at_ = true:=by rw [HT.out];simp [show (0 ≤ x) by omega,hx1]
     have HTF:=Lib.hid hT
     clear hT
     go_wp2_with fail
     go_quiet (fail)
     have hb2:=below_draws hb nq
     have hrow2 : (wr.drewN nq).heap[w.heap.size]? = _:=hrow
     go_wp2_with fail
     go_roundw
     case rel =>
      refine ⟨k + 1,by omega,by go_num,fun j hj hjk=>?_,hb2,hrow2⟩
      by_cases hjk2 : j < k
      ·exact HPRE.out j hj hjk2
      ·obtain rfl : j = k:=by omega
       exact HTF.out
     case measure=>simp [intOf];omega
    ·have hT : thereB d d.loose[k].at_ = false:=by rw [HT.out];simp [hx1]
     have HTF:=Lib.hid hT
     clear hT
     go_wp2_with fail
     go_quiet (fail)
     have hb2:=below_draws hb nq
     go_wp2_with fail
     go_ret
     exact ⟨by rw [badAt_some d d.loose k hlt' HTF.out];simp,hb2⟩
  ·go_wp2_with fail
   go_ret
   refine ⟨?_,hb⟩
   rw [badAt_none d d.loose (fun j hj=>HPRE.out j hj (by have:=HM.out;omega))]
   obtain ⟨q1,q2,q3,q4⟩:=H1.out
   simp [q1,q2,q3,q4]
end Go.Proofs.YtaijompnohkmaaaGreatDoor
