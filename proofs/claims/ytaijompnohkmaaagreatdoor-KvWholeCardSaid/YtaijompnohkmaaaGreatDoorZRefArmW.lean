/- Layer 1 (sector), the document's answer: Arm. -/
import Derived.Test.YtaijompnohkmaaaGreatDoorZRefRight
import Derived.Test.YtaijompnohkmaaaGreatDoorZDeedW
set_option linter.unusedSimpArgs false
set_option linter.unusedVariables false
namespace Go.Proofs.YtaijompnohkmaaaGreatDoor
open Go.RowKit
set_option maxRecDepth 100000 in
set_option maxHeartbeats 1000000 in
theorem refarm_any {B : Nat} (v : Value) (d : DiskP) (fuse : Int) (w : World) (h : DiskV B w v d) :
  Calls Tryz.prog 29 #[v,.int .i64 fuse] w fun e w'=>(∃ v',e = .returned (.tuple #[v',.int .i64 (armP d fuse).2]) ∧ DiskV w'.heap.size w' v' (armP d fuse).1) ∧ Below w.heap.size w w':=by
 obtain ⟨a1,n1,a2,n2,rfl,hs,hl⟩:=h.tight.parts
 clear h
 have F:=Fr2.new (w:=w) hs hl
 obtain ⟨w2,hw2⟩ : ∃ w2,w2 = (w.alloc (.cells #[.slice a1 d.secs.length n1,.slice a2 d.loose.length n2,.int .i64 d.fuse,.bool d.down] 38)).alloc (.cells #[.slice none 0 0,.slice none 0 0,.int .i64 0,.bool false] 38):=⟨_,rfl⟩
 have hb2 : Below w.heap.size w w2:=by rw [hw2];exact Below.alloc (Below.alloc (Below.refl _ _) (Nat.le_refl _) _) (by simp) _
 have hle : w.heap.size + 2 ≤ w2.heap.size:=by rw [hw2];simp
 rw [← hw2] at F
 clear hs hl
 have k1:=refright_any _ d w2 F.diskV
 have H3 : w.heap.size ≤ w.heap.size + 1:=by omega
 have C0:=cell_of_row w2 _ 0 _ _ _ F.g0
 have C1:=cell_of_row w2 _ 1 _ _ _ F.g0
 have C2:=cell_of_row w2 _ 2 _ _ _ F.g0
 have C3:=cell_of_row w2 _ 3 _ _ _ F.g0
 obtain ⟨R,hR⟩ : ∃ R,R = rightB d:=⟨_,rfl⟩
 rw [← hR] at k1
 have HR:=Lib.hid hR
 clear hR
 go_enter Tryz.func29,Tryz.ntmps29
 go_wp2_with fail
 rw [← hw2]
 clear hw2
 refine k1.mono ?_
 rintro e w3 ⟨rfl,hb3⟩
 have F:=F.below hb3 (by omega) (by omega)
 have hbb:=hb2.trans (hb3.mono hb2.size)
 clear k1 C0 C1 C2 C3
 have C0:=cell_of_row w3 _ 0 _ _ _ F.g0
 have C1:=cell_of_row w3 _ 1 _ _ _ F.g0
 have C2:=cell_of_row w3 _ 2 _ _ _ F.g0
 have C3:=cell_of_row w3 _ 3 _ _ _ F.g0
 have D0:=cell_of_row w3 _ 0 _ _ _ F.g2
 have D1:=cell_of_row w3 _ 1 _ _ _ F.g2
 have D2:=cell_of_row w3 _ 2 _ _ _ F.g2
 have D3:=cell_of_row w3 _ 3 _ _ _ F.g2
 have Y:=frozen_row F.g0
 have Z:=frozen_row F.g2
 cases R with
 | false =>
  have HP:=Lib.hid (show armP d fuse = (d,1) by simp [armP,← HR.out])
  go_wp2_with fail
  refine bodyPost_ret (results_ct rfl _ _ (w.heap.size + 1) _ _ _ _ rfl (put4_heap F.g2 _ _ _ _) Tryz.underlying38 rfl size_disk) rfl ?_
  rw [HP.out]
  exact ⟨⟨_,rfl,DiskV.tight ⟨_,_,rfl,put4_secsV F.s H3 _ _ _ _,put4_looseV F.l H3 _ _ _ _⟩⟩,put4_below hbb H3 _ _ _ _⟩
 | true =>
  by_cases h1 : fuse < -1
  ·have HP:=Lib.hid (show armP d fuse = (d,1) by simp [armP,← HR.out,fusedB,show ¬ (-1 ≤ fuse) by omega])
   go_wp2_with fail
   refine bodyPost_ret (results_ct rfl _ _ (w.heap.size + 1) _ _ _ _ rfl (put4_heap F.g2 _ _ _ _) Tryz.underlying38 rfl size_disk) rfl ?_
   rw [HP.out]
   exact ⟨⟨_,rfl,DiskV.tight ⟨_,_,rfl,put4_secsV F.s H3 _ _ _ _,put4_looseV F.l H3 _ _ _ _⟩⟩,put4_below hbb H3 _ _ _ _⟩
  by_cases h2 : 1099511627776 < fuse
  ·have HP:=Lib.hid (show armP d fuse = (d,1) by simp [armP,← HR.out,fusedB,show ¬ (fuse ≤ 1099511627776) by omega])
   go_wp2_with fail
   refine bodyPost_ret (results_ct rfl _ _ (w.heap.size + 1) _ _ _ _ rfl (put4_heap F.g2 _ _ _ _) Tryz.underlying38 rfl size_disk) rfl ?_
   rw [HP.out]
   exact ⟨⟨_,rfl,DiskV.tight ⟨_,_,rfl,put4_secsV F.s H3 _ _ _ _,put4_looseV F.l H3 _ _ _ _⟩⟩,put4_below hbb H3 _ _ _ _⟩
  ·have HP:=Lib.hid (show armP d fuse = ({ d with fuse:=fuse },0) by simp [armP,← HR.out,fusedB,show (-1 ≤ fuse) by omega,show (fuse ≤ 1099511627776) by omega])
   go_wp2_with fail
   have hb1:=(Below.refl w.heap.size w3).setCell (p:=⟨w.heap.size,2,none⟩) (Nat.le_refl _) (.int .i64 fuse)
   refine bodyPost_ret (results_ct rfl _ _ (w.heap.size + 1) _ _ _ _ rfl (put4_heap ((setFar (by omega) 2 _).trans F.g2) _ _ _ _) Tryz.underlying38 rfl size_disk) rfl ?_
   rw [HP.out]
   exact ⟨⟨_,rfl,DiskV.mk (d:={ d with fuse:=fuse }) (put4_secsV (F.s.below hb1) H3 _ _ _ _) (put4_looseV (F.l.below hb1) H3 _ _ _ _)⟩,put4_below (hbb.trans hb1) H3 _ _ _ _⟩
end Go.Proofs.YtaijompnohkmaaaGreatDoor
