/- Layer 1 (sector), the document's answer: Start. -/
import Derived.Test.YtaijompnohkmaaaGreatDoorZRefFlushW
set_option linter.unusedSimpArgs false
set_option linter.unusedVariables false
namespace Go.Proofs.YtaijompnohkmaaaGreatDoor
open Go.RowKit
set_option maxRecDepth 100000 in
set_option maxHeartbeats 1000000 in
theorem refstart_any {B : Nat} (v : Value) (d : DiskP) (mask : Int) (w : World) (h : DiskV B w v d) (hm0 : 0 ≤ mask) (hm : mask < 2 ^ 64) :
  Calls Tryz.prog 31 #[v,.int .u64 mask] w fun e w'=>(∃ v',e = .returned (.tuple #[v',.int .i64 (startP d mask).2]) ∧ DiskV w'.heap.size w' v' (startP d mask).1) ∧ Below w.heap.size w w':=by
 obtain ⟨a1,n1,a2,n2,rfl,hs,hl⟩:=h.tight.parts
 have HM:=Lib.hid (And.intro hm0 hm)
 clear h hm0 hm
 have F:=Fr2.new (w:=w) hs hl
 obtain ⟨w2,hw2⟩ : ∃ w2,w2 = (w.alloc (.cells #[.slice a1 d.secs.length n1,.slice a2 d.loose.length n2,.int .i64 d.fuse,.bool d.down] 38)).alloc (.cells #[.slice none 0 0,.slice none 0 0,.int .i64 0,.bool false] 38):=⟨_,rfl⟩
 have hB : Below w.heap.size w w2:=by rw [hw2];exact Below.alloc (Below.alloc (Below.refl _ _) (Nat.le_refl _) _) (by simp) _
 have hle : w.heap.size + 2 ≤ w2.heap.size:=by rw [hw2];simp
 rw [← hw2] at F
 clear hs hl
 have k1:=refright_any _ d w2 F.diskV
 have H3 : w.heap.size ≤ w.heap.size + 1:=by omega
 have C0:=cell_of_row w2 _ 0 _ _ _ F.g0
 have C1:=cell_of_row w2 _ 1 _ _ _ F.g0
 have C2:=cell_of_row w2 _ 2 _ _ _ F.g0
 have C3:=cell_of_row w2 _ 3 _ _ _ F.g0
 obtain ⟨R,hR⟩ : ∃ R,R = rightB d:=⟨_,rfl⟩
 rw [← hR] at k1
 have HR:=Lib.hid hR
 clear hR
 go_enter Tryz.func31,Tryz.ntmps31
 go_wp2_with fail
 rw [← hw2]
 clear hw2
 refine k1.mono ?_
 rintro e w3 ⟨rfl,hb3⟩
 have F:=F.below hb3 (by omega) (by omega)
 have hB:=hB.trans (hb3.mono hB.size)
 have hle:=Nat.le_trans hle hb3.size
 have hle3:=Lib.hid hle
 clear k1 C0 C1 C2 C3 hb3
 have C0:=cell_of_row w3 _ 0 _ _ _ F.g0
 have C1:=cell_of_row w3 _ 1 _ _ _ F.g0
 have C2:=cell_of_row w3 _ 2 _ _ _ F.g0
 have C3:=cell_of_row w3 _ 3 _ _ _ F.g0
 have D0:=cell_of_row w3 _ 0 _ _ _ F.g2
 have D1:=cell_of_row w3 _ 1 _ _ _ F.g2
 have D2:=cell_of_row w3 _ 2 _ _ _ F.g2
 have D3:=cell_of_row w3 _ 3 _ _ _ F.g2
 have Z:=frozen_row F.g2
 cases R with
 | false =>
  have HP:=Lib.hid (show startP d mask = (d,1) by simp [startP,← HR.out])
  go_wp2_with fail
  refine bodyPost_ret (results_ct rfl _ _ (w.heap.size + 1) _ _ _ _ rfl (put4_heap F.g2 _ _ _ _) Tryz.underlying38 rfl size_disk) rfl ?_
  rw [HP.out]
  exact ⟨⟨_,rfl,DiskV.tight ⟨_,_,rfl,put4_secsV F.s H3 _ _ _ _,put4_looseV F.l H3 _ _ _ _⟩⟩,put4_below hB H3 _ _ _ _⟩
 | true =>
  have hR:=HR.out.symm
  have k1:=done_any _ d mask w3 F.diskV hR HM.out.1 HM.out.2
  have HP:=Lib.hid (show startP d mask = (⟨settleN d.secs d.loose (stay mask) d.loose.length,[],-1,false⟩,0) by simp [startP,hR])
  clear hR
  go_wp2_with fail
  refine k1.mono ?_
  rintro e w4 ⟨⟨sv,rfl,ho⟩,hb4⟩
  obtain ⟨b1,m1,hsv⟩:=ho.form
  rw [length_settleN] at hsv
  subst hsv
  have F:=F.below hb4 (by omega) (by omega)
  have hB:=hB.trans (hb4.mono hB.size)
  have hle:=Nat.le_trans hle hb4.size
  clear k1 C0 C1 C2 C3 D0 D1 D2 D3 Z hb4
  have D0:=cell_of_row w4 _ 0 _ _ _ F.g2
  have D1:=cell_of_row w4 _ 1 _ _ _ F.g2
  have D2:=cell_of_row w4 _ 2 _ _ _ F.g2
  have D3:=cell_of_row w4 _ 3 _ _ _ F.g2
  have Z:=frozen_row F.g2
  have hlt4 : w.heap.size + 1 < w4.heap.size:=by omega
  have hl3 : w.heap.size + 1 < w3.heap.size:=by have:=hle3.out;omega
  go_wp2_with fail
  have e1:=put4_heap F.g2 (.slice b1 d.secs.length m1) (.slice none 0 0) (.int .i64 (-1)) (.bool false)
  have hB5:=put4_below hB H3 (.slice b1 d.secs.length m1) (.slice none 0 0) (.int .i64 (-1)) (.bool false)
  have ho5:=put4_secs ho hl3 (.slice b1 d.secs.length m1) (.slice none 0 0) (.int .i64 (-1)) (.bool false)
  refine bodyPost_ret (results_ct rfl _ _ (w.heap.size + 1) _ _ _ _ rfl ((alloc_old _ _ (block_lt e1)).trans e1) Tryz.underlying38 rfl size_disk) rfl ?_
  rw [HP.out]
  exact ⟨⟨_,rfl,⟨_,_,rfl,(ho5.keep (Below.alloc (Below.refl _ _) (Nat.le_refl _) _) (Nat.le_refl _)).secs,Loose.nil _ _⟩⟩,Below.alloc hB5 hB5.size _⟩
end Go.Proofs.YtaijompnohkmaaaGreatDoor
