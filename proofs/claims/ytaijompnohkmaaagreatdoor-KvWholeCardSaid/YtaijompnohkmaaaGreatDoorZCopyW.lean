/- Layer 1 (sector), the document's answer: Copy. -/
import Derived.Test.YtaijompnohkmaaaGreatDoorMT
set_option linter.unusedSimpArgs false
set_option linter.unusedVariables false
namespace Go.Proofs.YtaijompnohkmaaaGreatDoor
open Go.RowKit
/-- An own slice that lay already in an elder world outlives what is written behind that world's end. -/
theorem Own.keepAt {B C : Nat} {w0 w w' : World} {e : TypeId} {v : Value} {sz n : Nat} {cs cs0 : List Value} (h : Own B w e v sz n cs) (h0 : Own B w0 e v sz n cs0) (hb : Below C w w') (hC : w0.heap.size ≤ C) : Own B w' e v sz n cs:=by
 obtain ⟨hl,a,cap,rfl,h1,h2,h3⟩:=h
 refine ⟨hl,a,cap,rfl,h1,h2,?_⟩
 rcases h3 with h3 | ⟨g,cur,rfl,hg,hh,hs,ht⟩
 ·exact .inl h3
 ·obtain ⟨_,a',cap',hv,_,_,h4⟩:=h0
  cases hv
  rcases h4 with h4 | ⟨g',cur',hg',_,hh',_⟩
  ·exact .inl h4
  ·cases hg'
   exact .inr ⟨g,cur,rfl,hg,(hb.block g (Nat.lt_of_lt_of_le (block_lt hh') hC)).trans hh,hs,ht⟩
set_option maxRecDepth 100000 in
theorem run_slice0_secs (w : World) : (Instr.buildSlice 35 0 #[]).run Tryz.prog w = .ok (.slice (some ⟨w.heap.size,0,none⟩) 0 0) (w.alloc (.cells #[] 94)):=by
 obtain ⟨i0,z0,hi,hz0,hz1,hz2,hz3⟩:=zero_parts infoz_sector
 simp [Instr.buildSlice,zeroValue,typeInfo,hi,hz0,hz1,run_underlying Tryz.underlying35,sizeOf,Instr.fill,newRow]
 congr 2
 apply Array.ext'
 simp
set_option maxRecDepth 100000 in
theorem run_slice0_write (w : World) : (Instr.buildSlice 36 0 #[]).run Tryz.prog w = .ok (.slice (some ⟨w.heap.size,0,none⟩) 0 0) (w.alloc (.cells #[] 96)):=by
 obtain ⟨i0,z0,hi,hz0,hz1,hz2,hz3⟩:=zero_parts infoz_write
 simp [Instr.buildSlice,zeroValue,typeInfo,hi,hz0,hz1,run_underlying Tryz.underlying36,sizeOf,Instr.fill,newRow]
 congr 2
 apply Array.ext'
 simp
set_option maxRecDepth 100000 in
set_option maxHeartbeats 1000000 in
theorem copy_any {B : Nat} (v : Value) (d : DiskP) (w : World) (h : DiskV B w v d) (hlen : d.secs.length ≤ 2 ^ 40 ∧ d.loose.length ≤ 2 ^ 40) :
  Calls Tryz.prog 17 #[v] w fun e w'=>(∃ sv lv,e = .returned (.agg #[sv,lv,.int .i64 d.fuse,.bool d.down]) ∧ ∃ C,w.heap.size ≤ C ∧ C ≤ w'.heap.size ∧ SecsO w.heap.size w' sv d.secs ∧ Row C w' sv 64 d.secs.length (d.secs.map u8s).flatten ∧ LooseO C w' lv d.loose) ∧ Below w.heap.size w w':=by
 obtain ⟨a1,n1,a2,n2,rfl,hs,hl⟩:=h.tight.parts
 clear h
 have F:=Fr2.new (w:=w) hs hl
 obtain ⟨w2,hw2⟩ : ∃ w2,w2 = (w.alloc (.cells #[.slice a1 d.secs.length n1,.slice a2 d.loose.length n2,.int .i64 d.fuse,.bool d.down] 38)).alloc (.cells #[.slice none 0 0,.slice none 0 0,.int .i64 0,.bool false] 38):=⟨_,rfl⟩
 have hB : Below w.heap.size w w2:=by rw [hw2];exact Below.alloc (Below.alloc (Below.refl _ _) (Nat.le_refl _) _) (by simp) _
 have hle : w.heap.size + 2 ≤ w2.heap.size:=by rw [hw2];simp
 rw [← hw2] at F
 clear hs hl
 have C0:=cell_of_row w2 _ 0 _ _ _ F.g0
 have C1:=cell_of_row w2 _ 1 _ _ _ F.g0
 obtain ⟨i0,z0,hi,hz0,hz1,hz2,hz3⟩:=zero_parts infoz_sector
 obtain ⟨i1,z1,hi',hz0',hz1',hz2',hz3'⟩:=zero_parts infoz_write
 have R1:=Lib.hid (show 0 + d.secs.length ≤ maxLen by unfold maxLen;omega)
 have R2:=Lib.hid (show (0 + d.secs.length) * 64 ≤ 140737488355328 by omega)
 have R3:=Lib.hid (show 0 + d.loose.length ≤ maxLen by unfold maxLen;omega)
 have R4:=Lib.hid (show (0 + d.loose.length) * 72 ≤ 140737488355328 by omega)
 have hsz2 : w2.heap.size = w.heap.size + 1 + 1:=by rw [hw2];simp
 obtain ⟨wA,hwA⟩ : ∃ wA,wA = w2.alloc (.cells #[] 94):=⟨_,rfl⟩
 have ho : Own (w.heap.size + 1 + 1) wA 94 (.slice (some ⟨w.heap.size + 1 + 1,0,none⟩) 0 0) 64 0 []:=Own.none _ _ _ _ _
 have hbA : Below w2.heap.size w2 wA:=by rw [hwA];exact Below.alloc (Below.refl _ _) (Nat.le_refl _) _
 have F:=F.below hbA (by omega) (by omega)
 have hsrc:=Row.src (P:=Tryz.prog) F.s.2
 have hBA : w.heap.size + 1 + 1 ≤ wA.heap.size:=by have:=hbA.size;omega
 have hB:=hB.trans (hbA.mono hB.size)
 have C0:=cell_of_row wA _ 0 _ _ _ F.g0
 have C1:=cell_of_row wA _ 1 _ _ _ F.g0
 have HW2:=Lib.hid hw2
 have HWA:=Lib.hid hwA
 clear hlen hw2 hwA hle hsz2 hbA
 go_enter Tryz.func17,Tryz.ntmps17
 go_wp2_with (refine wp_buildSlice_l 35 0 [] rfl rfl rfl (run_slice0_secs _) ?_;refine Halt.in ?_)
 refine Halt.out ?_
 rw [← HW2.out,← HWA.out]
 go_wp2_with (at_builtin;refine wp_append rfl (.tmp 3) (.tmp 5) 35 35 94 rfl i0 z0 64 64 Tryz.underlying35 (.inl ⟨_,Tryz.underlying35⟩) hi hz0 hz1 hz2 hz3 rfl rfl ho hsrc (oneCell_secs _) R1.out R2.out hBA ?_;intro v2 w3 hown3 hbw3;refine Halt.in ?_)
 refine Halt.out ?_
 rw [Nat.zero_add,List.nil_append] at hown3
 have hs3 : SecsO (w.heap.size + 1 + 1) w3 v2 d.secs:=⟨F.s.1,hown3⟩
 obtain ⟨b1,m1,rfl⟩:=hs3.form
 have HS3:=Lib.hid hs3
 have F:=F.below hbw3 (by omega) (by omega)
 have hB:=hB.trans (hbw3.mono (by omega))
 clear ho hsrc hBA hbw3 hown3 C0 C1 hi hz0 hz1 hz2 hz3
 obtain ⟨w4,hw4⟩ : ∃ w4,w4 = w3.setCell ⟨w.heap.size,0,none⟩ (.slice b1 d.secs.length m1):=⟨_,rfl⟩
 have hlt : w.heap.size < w.heap.size + 1 + 1:=by omega
 have hs4 : SecsO (w.heap.size + 1 + 1) w4 (.slice b1 d.secs.length m1) d.secs:=by rw [hw4];exact hs3.setOther ⟨w.heap.size,0,none⟩ _ hlt
 have hb34 : Below w.heap.size w3 w4:=by rw [hw4];exact (Below.refl _ _).setCell (p:=⟨w.heap.size,0,none⟩) (Nat.le_refl _) _
 have hl4:=F.l.below hb34
 have G0 : w4.heap[w.heap.size]? = some (.cells #[.slice b1 d.secs.length m1,.slice a2 d.loose.length n2,.int .i64 d.fuse,.bool d.down] 38 (0,0)):=by
  rw [hw4];simp [World.setCell,Array.getElem?_modify,F.g0]
 have G1 : w4.heap[w.heap.size + 1]? = some (.cells #[.slice none 0 0,.slice none 0 0,.int .i64 0,.bool false] 38 (0,0)):=by
  rw [hw4];exact (setFar (by omega) 0 _).trans F.g2
 have hsz4 : w4.heap.size = w3.heap.size:=by rw [hw4];simp
 have hsz3 : w.heap.size + 1 + 1 ≤ w3.heap.size:=by have:=block_lt F.g2;omega
 have hB4:=hB.trans hb34
 have C0:=cell_of_row w3 _ 0 _ _ _ F.g0
 have Y:=frozen_row F.g0
 obtain ⟨wB,hwB⟩ : ∃ wB,wB = w4.alloc (.cells #[] 96):=⟨_,rfl⟩
 have ho : Own w3.heap.size wB 96 (.slice (some ⟨w3.heap.size,0,none⟩) 0 0) 65 0 []:=Own.none _ _ _ _ _
 have hbB : Below w4.heap.size w4 wB:=by rw [hwB];exact Below.alloc (Below.refl _ _) (Nat.le_refl _) _
 have hlB:=hl4.below (hbB.mono (by omega))
 have hsB:=hs4.keep hbB (Nat.le_refl _)
 have rB:=hs4.secs.2.below hbB
 have G0:=(hbB.block _ (by omega)).trans G0
 have G1:=(hbB.block _ (by omega)).trans G1
 have hsrc:=Row.src (P:=Tryz.prog) hlB.2
 have hBB : w3.heap.size ≤ wB.heap.size:=by have:=hbB.size;omega
 have hB:=hB4.trans (hbB.mono hB4.size)
 rw [hsz4] at rB
 have HW:=Lib.hid (show wB = (w3.setCell ⟨w.heap.size,0,none⟩ (.slice b1 d.secs.length m1)).alloc (.cells #[] 96) by rw [hwB,hw4])
 clear hw4 hwB hsz4 hs4 hs3 hbB hb34 hl4 F hB4
 go_wp2_with (refine wp_buildSlice_l 36 0 [] rfl rfl rfl (run_slice0_write _) ?_;refine Halt.in ?_)
 refine Halt.out ?_
 rw [← HW.out]
 clear C0 Y
 have C1:=cell_of_row wB _ 1 _ _ _ G0
 go_wp2_with (at_builtin;refine wp_append rfl (.tmp 8) (.tmp 10) 36 36 96 rfl i1 z1 65 72 Tryz.underlying36 (.inl ⟨_,Tryz.underlying36⟩) hi' hz0' hz1' hz2' hz3' rfl rfl ho hsrc (oneCell_ws _) R3.out R4.out hBB ?_;intro v5 w5 hown5 hbw5;refine Halt.in ?_)
 refine Halt.out ?_
 rw [Nat.zero_add,List.nil_append] at hown5
 have hl5 : LooseO w3.heap.size w5 v5 d.loose:=⟨hlB.1,hown5⟩
 obtain ⟨b2,m2,rfl⟩:=hl5.form
 have r5:=(RowIn.of hsB.2 rB).below hbw5
 have o5:=hsB.2.keepAt HS3.out.2 hbw5 (Nat.le_refl _)
 have h64:=hsB.1
 have G0:=(hbw5.block _ (by omega)).trans G0
 have G1:=(hbw5.block _ (by omega)).trans G1
 have hB:=hB.trans (hbw5.mono (by omega))
 clear ho hsrc hBB hown5 C1 hi' hz0' hz1' hz2' hz3' hlB hsB rB
 have hsz5 : w3.heap.size ≤ w5.heap.size:=Nat.le_trans (show w3.heap.size ≤ wB.heap.size by have:=HW.out;rw [this];simp) hbw5.size
 clear hbw5
 obtain ⟨w6,hw6⟩ : ∃ w6,w6 = w5.setCell ⟨w.heap.size,1,none⟩ (.slice b2 d.loose.length m2):=⟨_,rfl⟩
 have G0' : w6.heap[w.heap.size]? = some (.cells #[.slice b1 d.secs.length m1,.slice b2 d.loose.length m2,.int .i64 d.fuse,.bool d.down] 38 (0,0)):=by
  rw [hw6];simp [World.setCell,Array.getElem?_modify,G0]
 have G1' : w6.heap[w.heap.size + 1]? = some (.cells #[.slice none 0 0,.slice none 0 0,.int .i64 0,.bool false] 38 (0,0)):=by
  rw [hw6];exact (setFar (by omega) 1 _).trans G1
 have hlt3 : w.heap.size < w3.heap.size:=by omega
 have r6 : RowIn (w.heap.size + 1 + 1) w3.heap.size w6 (.slice b1 d.secs.length m1) 64 d.secs.length (d.secs.map u8s).flatten:=by rw [hw6];exact r5.setOther ⟨w.heap.size,1,none⟩ _ hlt
 have s6 : SecsO (w.heap.size + 1 + 1) w6 (.slice b1 d.secs.length m1) d.secs:=⟨h64,by rw [hw6];exact o5.setOther ⟨w.heap.size,1,none⟩ _ hlt⟩
 have hl6 : LooseO w3.heap.size w6 (.slice b2 d.loose.length m2) d.loose:=by rw [hw6];exact hl5.setOther ⟨w.heap.size,1,none⟩ _ hlt3
 have hB6 : Below w.heap.size w w6:=by rw [hw6];exact hB.setCell (p:=⟨w.heap.size,1,none⟩) (Nat.le_refl _) _
 have hld:=run_loadVar_row (P:=Tryz.prog) w6 w.heap.size 38 38 _ (0,0) _ G0' Tryz.underlying38 rfl size_disk
 have C1:=cell_of_row w5 _ 1 _ _ _ G0
 have Y:=frozen_row G0
 have hsz6 : w3.heap.size ≤ w6.heap.size:=by rw [hw6];simpa using hsz5
 have HW6:=Lib.hid hw6
 clear hw6 hl5 r5 G1
 go_wp2_with (refine wp_load_to (w':=w6) (.tmp 1) 38 rfl rfl ?_ rfl hld ?_;(exact HW6.out);refine Halt.in ?_)
 refine Halt.out ?_
 clear hld C1 Y
 have D0:=cell_of_row w6 _ 0 _ _ _ G1'
 have D1:=cell_of_row w6 _ 1 _ _ _ G1'
 have D2:=cell_of_row w6 _ 2 _ _ _ G1'
 have D3:=cell_of_row w6 _ 3 _ _ _ G1'
 have Z:=frozen_row G1'
 go_wp2_with fail
 have hl1 : w.heap.size + 1 < w3.heap.size:=by omega
 have hl2 : w.heap.size + 1 < w.heap.size + 1 + 1:=Nat.lt_succ_self _
 refine bodyPost_ret (results_cell_row rfl _ _ (w.heap.size + 1) _ _ _ _ rfl (put4_heap G1' _ _ _ _) Tryz.underlying38 rfl size_disk) rfl ?_
 exact ⟨⟨_,_,rfl,w3.heap.size,by omega,by simpa [put4] using hsz6,(put4_secs s6 hl2 _ _ _ _).lower (by omega),((((r6.setOther ⟨w.heap.size + 1,0,none⟩ _ hl2).setOther ⟨w.heap.size + 1,1,none⟩ _ hl2).setOther ⟨w.heap.size + 1,2,none⟩ _ hl2).setOther ⟨w.heap.size + 1,3,none⟩ _ hl2).row,put4_loose hl6 hl1 _ _ _ _⟩,put4_below hB6 (by omega) _ _ _ _⟩
end Go.Proofs.YtaijompnohkmaaaGreatDoor
