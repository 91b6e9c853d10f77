/- Layer 6 (kv): what the walk of KvWhole keeps: a disk and a store in variables, and pairs in a slice. -/
import Derived.Test.YtaijompnohkmaaaGreatDoorMT
import Derived.Test.YtaijompnohkmaaaGreatDoorZKvWP
set_option linter.unusedSimpArgs false
set_option linter.unusedVariables false
namespace Go.Proofs.YtaijompnohkmaaaGreatDoor
open Go.RowKit WalP PackP KvP
/-- All that was there stays,but for one block. -/
def BelowBut (D : Nat) (w w' : World) : Prop:=∀ k,k < w.heap.size → k ≠ D → w'.heap[k]? = w.heap[k]?
theorem BelowBut.drew {D : Nat} (w : World) : BelowBut D w w.drew:=fun _ _ _=>rfl
theorem BelowBut.of {D : Nat} {w w' : World} (h : Below w.heap.size w w') : BelowBut D w w':=fun k h1 _=>h.block k h1
theorem BelowBut.further {D : Nat} {w w' w'' : World} (h : BelowBut D w w') (hs : w.heap.size ≤ w'.heap.size) (h2 : Below w'.heap.size w' w'') : BelowBut D w w'':=fun k h1 h3=>(h2.block k (by omega)).trans (h k h1 h3)
theorem BelowBut.stored {D : Nat} {w w' w'' : World} (h : BelowBut D w w') (h2 : ∀ k,k ≠ D → w''.heap[k]? = w'.heap[k]?) : BelowBut D w w'':=fun k h1 h3=>(h2 k h3).trans (h k h1 h3)
theorem BelowBut.row {D k : Nat} {w w' : World} {o : Obj} (h : BelowBut D w w') (hr : w.heap[k]? = some o) (hk : k ≠ D) : w'.heap[k]? = some o:=(h k (block_lt hr) hk).trans hr
/-- A disk is laid into its variable. -/
theorem laid_D {w : World} {D : Nat} {d0 d : DiskP} {a0 a1 : Option Addr} {n0 n1 : Nat} (hD : DAt w D d0) (hd : DiskV w.heap.size w (.agg #[.slice a0 d.secs.length n0,.slice a1 d.loose.length n1,.int .i64 d.fuse,.bool d.down]) d) :
  ∃ wa,(storeVar 38 ⟨D,0,none⟩ (.agg #[.slice a0 d.secs.length n0,.slice a1 d.loose.length n1,.int .i64 d.fuse,.bool d.down])).run Tryz.prog w = .ok () wa ∧
   (∀ k,k ≠ D → wa.heap[k]? = w.heap[k]?) ∧ Hid (DAt wa D d ∧ wa.heap.size = w.heap.size ∧ (∀ k,k ≠ D → wa.heap[k]? = w.heap[k]?) ∧ (∀ B w0,Below B w0 w → B ≤ D → Below B w0 wa)):=by
 obtain ⟨x0,y0,x1,y1,TD,_⟩:=id hD
 obtain ⟨wa,r1,r2,r3,r4,r5,_⟩:=storeBig info_disk TD rfl #[.slice a0 d.secs.length n0,.slice a1 d.loose.length n1,.int .i64 d.fuse,.bool d.down] rfl (ones4 rfl rfl rfl rfl)
 exact ⟨wa,r1,r5,Lib.hid ⟨⟨a0,n0,a1,n1,r2,by rw [r4];exact hd.kept TD (by simp) r5⟩,r4,r5,fun B w0 hb h1=>hb.trans (r3.mono h1)⟩⟩
/-- A disk is loaded whole. -/
theorem load_D {w : World} {D : Nat} {d : DiskP} (h : DAt w D d) : ∃ a0 n0 a1 n1,(loadVar 38 ⟨D,0,none⟩).run Tryz.prog w = .ok (.agg #[.slice a0 d.secs.length n0,.slice a1 d.loose.length n1,.int .i64 d.fuse,.bool d.down]) w ∧ DiskV w.heap.size w (.agg #[.slice a0 d.secs.length n0,.slice a1 d.loose.length n1,.int .i64 d.fuse,.bool d.down]) d:=by
 obtain ⟨a0,n0,a1,n1,hr,hv⟩:=h
 obtain ⟨i25,hi25,hs25⟩:=info_disk
 exact ⟨a0,n0,a1,n1,run_load_big (P:=Tryz.prog) (t:=38) Tryz.underlying38 (.inr ⟨_,rfl⟩) hi25 (w:=w) (b:=D) (off:=0) (cs:=[.slice a0 d.secs.length n0,.slice a1 d.loose.length n1,.int .i64 d.fuse,.bool d.down]) hs25 rfl
   (fun j u hj=>by
    rw [Nat.zero_add,cell_of_row w _ j _ _ _ hr]
    match j,hj with
    | 0,hj=>simpa using hj
    | 1,hj=>simpa using hj
    | 2,hj=>simpa using hj
    | 3,hj=>simpa using hj
    | n + 4,hj=>simp at hj),hv⟩
theorem SVAt.keepD {w w' : World} {D S : Nat} {d : DiskP} {s : StoreP} (hS : SVAt w S s) (hD : DAt w D d) (hne : D ≠ S) (hk : ∀ k,k ≠ D → w'.heap[k]? = w.heap[k]?) : SVAt w' S s:=by
 obtain ⟨x0,y0,x1,y1,TD,_⟩:=id hD
 obtain ⟨a,c,TS,hp⟩:=hS
 exact ⟨a,c,(hk S (Ne.symm hne)).trans TS,PairsV.keptC hp TD TS no_str4 no_str5 (fun k h1 _=>hk k h1)⟩
theorem PairsV.keepD {w w' : World} {D S : Nat} {d : DiskP} {s : StoreP} {v : Value} {l : List PairP} (h : PairsV w.heap.size w v l) (hD : DAt w D d) (hS : SVAt w S s) (hk : ∀ k,k ≠ D → k ≠ S → w'.heap[k]? = w.heap[k]?) : PairsV w'.heap.size w' v l:=by
 obtain ⟨x0,y0,x1,y1,TD,_⟩:=id hD
 obtain ⟨a,c,TS,hp⟩:=hS
 exact PairsV.keptC h TD TS no_str4 no_str5 hk
/-- Disk and store in their variables,and the pairs that are wanted. -/
structure KCore (W : World) (D S : Nat) (w : World) (d : DiskP) (s : StoreP) (want : List PairP) (v : Value) : Prop where
 d : DAt w D d
 s : SVAt w S s
 b : Below W.heap.size W w
 v : PairsV w.heap.size w v want
theorem KCore.below {W : World} {D S : Nat} {w w' : World} {d : DiskP} {s : StoreP} {want : List PairP} {v : Value} (h : KCore W D S w d s want v) (hb : Below w.heap.size w w') : KCore W D S w' d s want v :=
 ⟨h.d.below hb,h.s.below hb,h.b.trans (hb.mono h.b.size),(h.v.below hb).tight⟩
/-- The disk is stored anew,all else stays. -/
theorem KCore.storedD {W : World} {D S : Nat} {w w' : World} {d d' : DiskP} {s : StoreP} {want : List PairP} {v : Value} (h : KCore W D S w d s want v) (hD : W.heap.size ≤ D) (hne : D ≠ S)
  (hs : DAt w' D d' ∧ w'.heap.size = w.heap.size ∧ (∀ k,k ≠ D → w'.heap[k]? = w.heap[k]?) ∧ (∀ B w0,Below B w0 w → B ≤ D → Below B w0 w')) : KCore W D S w' d' s want v :=
 ⟨hs.1,h.s.keepD h.d hne hs.2.2.1,hs.2.2.2 _ _ h.b hD,h.v.keepD h.d h.s (fun k h1 _=>hs.2.2.1 k h1)⟩
/-- What the loop over the turns keeps. -/
def KWInv (W : World) (D S : Nat) (n : Nat) (w : World) (s7 : Value) : Prop :=
 ∃ d s want,KCore W D S w d s want s7 ∧ HoldsK (2 * (n : Int) + 1) d s want ∧ d.fuse = -1
/-- Behind the transaction: what it left in its variables. -/
def KWStep (wq : World) (r : DiskP × StoreP × Int) (s9 s10 s11 : Value) (w : World) : Prop :=
 ∃ X T,s9 = .pointer (some ⟨X,0,none⟩) ∧ s10 = .pointer (some ⟨T,0,none⟩) ∧ s11 = .int .i64 r.2.2 ∧ X ≠ T ∧ wq.heap.size ≤ X ∧ wq.heap.size ≤ T ∧ DAt w X r.1 ∧ SVAt w T r.2.1 ∧ Below wq.heap.size wq w
/-- Behind the switch. -/
def KWEnd (W : World) (D S X T : Nat) (G : Int) (d : DiskP) (s : StoreP) (w : World) (v : Value) : Prop :=
 ∃ d' s' want',KCore W D S w d s want' v ∧ DAt w X d' ∧ SVAt w T s' ∧ HoldsK G d' s' want'
/-- A disk and a store go from their variables into others. -/
theorem move_DS {w : World} {D S X T : Nat} {d0 d : DiskP} {s0 s : StoreP} (hD : DAt w D d0) (hS : SVAt w S s0) (hX : DAt w X d) (hT : SVAt w T s) (hDS : D ≠ S) :
  ∃ a0 n0 a1 n1 pa pc wa wb,w.heap[X]? = some (.cells #[.slice a0 d.secs.length n0,.slice a1 d.loose.length n1,.int .i64 d.fuse,.bool d.down] 38 (0,0)) ∧
   w.heap[T]? = some (.cells #[.int .i64 s.log.half,.int .i64 s.log.gen,.int .i64 s.log.used,.int .i64 s.log.count,.slice pa s.pairs.length pc] 44 (0,0)) ∧
   (storeVar 38 ⟨D,0,none⟩ (.agg #[.slice a0 d.secs.length n0,.slice a1 d.loose.length n1,.int .i64 d.fuse,.bool d.down])).run Tryz.prog w = .ok () wa ∧
   (storeVar 44 ⟨S,0,none⟩ (.agg #[.int .i64 s.log.half,.int .i64 s.log.gen,.int .i64 s.log.used,.int .i64 s.log.count,.slice pa s.pairs.length pc])).run Tryz.prog wa = .ok () wb ∧
   KeptBut D S w wa ∧ KeptBut D S w wb ∧ Hid (DAt wb D d ∧ SVAt wb S s ∧ (∀ B w0,Below B w0 w → B ≤ D → B ≤ S → Below B w0 wb) ∧ (∀ v l,PairsV w.heap.size w v l → PairsV wb.heap.size wb v l)):=by
 obtain ⟨a0,n0,a1,n1,RX,hvX⟩:=hX
 obtain ⟨pa,pc,RT,hpT⟩:=hT
 obtain ⟨x0,y0,x1,y1,TD,_⟩:=id hD
 obtain ⟨sa,sc,TS,_⟩:=id hS
 obtain ⟨wa,r1,r2,r3,r4,r5,_⟩:=storeBig info_disk TD rfl #[.slice a0 d.secs.length n0,.slice a1 d.loose.length n1,.int .i64 d.fuse,.bool d.down] rfl (ones4 rfl rfl rfl rfl)
 have hE2:=(r5 S (Ne.symm hDS)).trans TS
 obtain ⟨wb,t1,t2,t3,t4,t5,_⟩:=storeBig info_store hE2 rfl #[.int .i64 s.log.half,.int .i64 s.log.gen,.int .i64 s.log.used,.int .i64 s.log.count,.slice pa s.pairs.length pc] rfl (ones5 rfl rfl rfl rfl rfl)
 have hk : KeptBut D S w wb:=fun k h1 h2=>(t5 k h2).trans (r5 k h1)
 have hd1:=hvX.kept TD (by simp) r5
 have hd2:=hd1.kept hE2 (by simp) t5
 exact ⟨a0,n0,a1,n1,pa,pc,wa,wb,RX,RT,r1,t1,fun k h1 _=>r5 k h1,hk,Lib.hid ⟨⟨a0,n0,a1,n1,(t5 D hDS).trans r2,by rw [t4,r4];exact hd2⟩,⟨pa,pc,t2,PairsV.keptC hpT TD TS no_str4 no_str5 hk⟩,fun B w0 hb h1 h2=>(hb.trans (r3.mono h1)).trans (t3.mono h2),fun v l hv=>PairsV.keptC hv TD TS no_str4 no_str5 hk⟩⟩
/-- A disk and a store are laid into their variables,with what stands behind the first. -/
theorem pack_DS3 {w : World} {D S : Nat} {d0 d : DiskP} {s0 s : StoreP} {a0 a1 : Option Addr} {n0 n1 : Nat} {sv : Value} (hD : DAt w D d0) (hS : SVAt w S s0) (hne : D ≠ S) (hd : DiskV w.heap.size w (.agg #[.slice a0 d.secs.length n0,.slice a1 d.loose.length n1,.int .i64 d.fuse,.bool d.down]) d) (hs : StoreV w.heap.size w sv s) :
  ∃ wa wb,(storeVar 38 ⟨D,0,none⟩ (.agg #[.slice a0 d.secs.length n0,.slice a1 d.loose.length n1,.int .i64 d.fuse,.bool d.down])).run Tryz.prog w = .ok () wa ∧ (storeVar 44 ⟨S,0,none⟩ sv).run Tryz.prog wa = .ok () wb ∧
   Hid (DAt wb D d ∧ SVAt wb S s ∧ (∀ B w0,Below B w0 w → B ≤ D → Below B w0 wa) ∧ (∀ B w0,Below B w0 w → B ≤ D → B ≤ S → Below B w0 wb)):=by
 obtain ⟨pv,rfl,hp⟩:=hs
 obtain ⟨pa,pc,rfl,hpc⟩:=pairs_len hp
 obtain ⟨x0,y0,x1,y1,TD,_⟩:=id hD
 obtain ⟨sa,sc,TS,_⟩:=id hS
 obtain ⟨wa,r1,r2,r3,r4,r5,_⟩:=storeBig info_disk TD rfl #[.slice a0 d.secs.length n0,.slice a1 d.loose.length n1,.int .i64 d.fuse,.bool d.down] rfl (ones4 rfl rfl rfl rfl)
 have hE2:=(r5 S (Ne.symm hne)).trans TS
 obtain ⟨wb,t1,t2,t3,t4,t5,_⟩:=storeBig info_store hE2 rfl #[.int .i64 s.log.half,.int .i64 s.log.gen,.int .i64 s.log.used,.int .i64 s.log.count,.slice pa s.pairs.length pc] rfl (ones5 rfl rfl rfl rfl rfl)
 have hk : ∀ k,k ≠ D → k ≠ S → wb.heap[k]? = w.heap[k]?:=fun k h1 h2=>(t5 k h2).trans (r5 k h1)
 have hd1:=hd.kept TD (by simp) r5
 have hd2:=hd1.kept hE2 (by simp) t5
 refine ⟨wa,wb,r1,t1,Lib.hid ⟨⟨a0,n0,a1,n1,(t5 D hne).trans r2,by rw [t4,r4];exact hd2⟩,⟨pa,pc,t2,PairsV.keptC hp TD TS no_str4 no_str5 hk⟩,fun B w0 hb h1=>hb.trans (r3.mono h1),fun B w0 hb h1 h2=>(hb.trans (r3.mono h1)).trans (t3.mono h2)⟩⟩
end Go.Proofs.YtaijompnohkmaaaGreatDoor
