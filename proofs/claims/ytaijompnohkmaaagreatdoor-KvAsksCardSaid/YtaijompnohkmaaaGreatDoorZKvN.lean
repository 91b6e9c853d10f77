/- Layer 6 (kv): Get (the document's), Prefix (both), slices.Clone of pairs. -/
import Derived.Test.YtaijompnohkmaaaGreatDoorMT
import Derived.Test.YtaijompnohkmaaaGreatDoorZKvR8
set_option linter.unusedSimpArgs false
set_option linter.unusedVariables false
namespace Go.Proofs.YtaijompnohkmaaaGreatDoor
open Go.RowKit KvP PackP WalP
theorem tw_at {α : Type} (p : α → Bool) : ∀ (l : List α) (n : Nat) (h : n < l.length),n < (l.takeWhile p).length → p l[n] = true
 | [],n,h,_=>by simp at h
 | x :: l,n,h,h2=>by
  rw [List.takeWhile_cons] at h2
  split at h2
  ·rename_i hx
   cases n with
   | zero=>exact hx
   | succ n=>exact tw_at p l n (by simpa using h) (by simpa using h2)
  ·simp at h2
theorem tw_end {α : Type} (p : α → Bool) : ∀ (l : List α) (n : Nat) (h : n < l.length),n = (l.takeWhile p).length → p l[n] = false
 | [],n,h,_=>by simp at h
 | x :: l,n,h,h2=>by
  rw [List.takeWhile_cons] at h2
  split at h2
  ·cases n with
   | zero=>simp at h2
   | succ n=>exact tw_end p l n (by simpa using h) (by simpa using h2)
  ·rename_i hx
   obtain rfl : n = 0:=by simpa using h2
   simpa using hx
theorem tw_take {α : Type} (p : α → Bool) (l : List α) : l.take (l.takeWhile p).length = l.takeWhile p:=(List.prefix_iff_eq_take.1 (List.takeWhile_prefix p)).symm
theorem run_slice_mid {P : Program} {t e : TypeId} {i : TypeInfo} {sz : Nat} (ht : P.underlying t = some (.slice e)) (hi : P.info? e = some i) (hsz : i.size = sz) {B : Nat} {w : World} {a : Option Addr} {n cap : Nat} {cs : List Value} (h : Row B w (.slice a n cap) sz n cs) (k m : Nat) (hk : k ≤ m) (hm : m ≤ n) :
  ∃ a' c',(∀ w',(Instr.slice t (.slice a n cap) (some (.int .i64 k)) (some (.int .i64 m)) none).run P w' = .ok (.slice a' (m - k) c') w') ∧ Row B w (.slice a' (m - k) c') sz (m - k) ((cs.take (m * sz)).drop (k * sz)):=by
 have hc : n ≤ cap:=by obtain ⟨_,a',cap',hv,h2,_⟩:=h;cases hv;exact h2
 refine ⟨if cap = k then a else a.map (·.add (k * sz)),cap - k,fun w'=>?_,Row.drop (Row.take h m hm) k hk⟩
 have h0 : (0 : Int) ≤ (k : Int):=by omega
 have h1 : (k : Int) ≤ (m : Int):=by omega
 have h2 : (0 : Int) ≤ (m : Int):=by omega
 have h3 : (m : Int) ≤ (cap : Int):=by omega
 simp [Instr.slice,run_underlying ht,Instr.sliceBounds,run_sliceBound,sizeOf,typeInfo,hi,hsz,h0,h1,h2,h3]
set_option maxRecDepth 100000 in
set_option maxHeartbeats 400000 in
theorem clonePairs_any {B : Nat} (v : Value) (l : List PairP) (w : World) (hv : PairsV B w v l) (hl : l.length ≤ 2 ^ 20) :
  Calls Tryz.prog 76 #[v] w fun e w'=>∃ x,e = .returned x ∧ PairsO w.heap.size w' x l ∧ Below w.heap.size w w':=by
 have hv:=hv.tight
 obtain ⟨_,a,cap,rfl,hnc,hcap,hcells⟩:=id hv
 have kn:=fun (w : World) (a : Option Addr) (n c n' c' : Nat)=>eql_slice_nil Tryz.underlying42 w a n c n' c'
 obtain ⟨N,hN⟩ : ∃ N,N = l.length:=⟨_,rfl⟩
 rw [← hN] at hv hnc hl hcells ⊢
 cases a with
 | none =>
  have hn : l = []:=by
   cases l with
   | nil=>rfl
   | cons b bs=>obtain ⟨b,off,h,_⟩:=hcells (by rw [hN];simp);cases h
  subst hn
  obtain rfl : N = 0:=hN
  clear hcells hv
  go_enter Tryz.func76,Tryz.ntmps76
  go_wp2
  go_ret
  exact ⟨_,rfl,PairsO.none _ _ _,Below.refl _ _⟩
 | some ad =>
  obtain ⟨w1,hw1⟩ : ∃ x,x = w.alloc (.cells #[] 76):=⟨_,rfl⟩
  obtain ⟨g1,hg1⟩ : ∃ x,x = w.heap.size:=⟨_,rfl⟩
  have hbs:=run_bs0P w
  have hb1 : Below w.heap.size w w1:=by rw [hw1];exact Below.alloc (Below.refl _ _) (Nat.le_refl _) _
  rw [← hw1,← hg1] at hbs
  obtain ⟨i0,z0,hi,hz0,hz1,hz2,hz3⟩:=zero_parts infoz_pair
  have hsrc : Src Tryz.prog w1 (.slice (some ad) N cap) 2 N (l.map pairCells).flatten:=Row.src (by have:=hv.below hb1;unfold PairsV at this;rw [← hN] at this;exact this)
  have R1 : 0 + N ≤ maxLen:=by unfold maxLen;omega
  have R2 : (0 + N) * 32 ≤ 140737488355328:=by omega
  have hs1:=hb1.size
  have HN:=Lib.hid hN
  have HB1:=Lib.hid hb1
  clear hv hw1 hg1 hb1 hcells hN
  go_enter Tryz.func76,Tryz.ntmps76
  go_wp2_with (with_reducible refine wp_buildSlice_r 42 0 [] hbs rfl ?_;refine Halt.in ?_)
  refine Halt.out ?_
  clear hbs
  go_wp2_with (at_builtin;refine wp_append2 rfl (.tmp 5) (.tmp 6) 42 42 76 rfl i0 z0 2 32 Tryz.underlying42 (.inl ⟨_,Tryz.underlying42⟩) hi hz0 hz1 hz2 hz3 rfl rfl (Own.none w.heap.size w1 76 (some ⟨g1,0,none⟩) 2) hsrc (ones_pairs l) R1 R2 hs1 ?_;intro v5 w5 hown5 hb5 _;refine Halt.in ?_)
  refine Halt.out ?_
  rw [Nat.zero_add,List.nil_append,HN.out] at hown5
  have HX:=Lib.hid hown5
  have HB5:=Lib.hid (HB1.out.trans hb5)
  clear hown5 hb5 hsrc hs1 R1 R2 hi hz0 hz1 hz2 hz3
  go_wp2_with fail
  go_ret
  exact ⟨_,rfl,HX.out,HB5.out⟩
/-- A store in a box,and its pairs. -/
theorem store_box (w : World) (lg : LogP) (pv : Value) : ∃ w1 g,Hid (w1 = w.alloc (.cells #[.int .i64 lg.half,.int .i64 lg.gen,.int .i64 lg.used,.int .i64 lg.count,pv] 44)) ∧ Hid (g = w.heap.size) ∧ Below w.heap.size w w1 ∧ w1.heap[g]? = some (.cells #[.int .i64 lg.half,.int .i64 lg.gen,.int .i64 lg.used,.int .i64 lg.count,pv] 44 (0,0)) :=
 ⟨_,_,Lib.hid rfl,Lib.hid rfl,Below.alloc (Below.refl _ _) (Nat.le_refl _) _,heap_alloc_new w _⟩
set_option maxRecDepth 100000 in
set_option maxHeartbeats 4000000 in
theorem prefix_any {B : Nat} (v : Value) (s : StoreP) (key : List UInt8) (w : World) (hv : StoreV B w v s) (hr : Rising s.pairs) (hl : s.pairs.length ≤ 2 ^ 20) :
  Calls Tryz.prog 39 #[v,str key] w fun e w'=>∃ x,e = .returned x ∧ PairsV w'.heap.size w' x (s.pairs.filter (begB key)) ∧ Below w.heap.size w w':=by
 obtain ⟨pv,rfl,hp⟩:=hv
 have hp:=hp.tight
 obtain ⟨l,hll⟩ : ∃ l,l = s.pairs:=⟨_,rfl⟩
 rw [← hll] at hp hr hl ⊢
 obtain ⟨lg,hlg⟩ : ∃ l,l = s.log:=⟨_,rfl⟩
 rw [← hlg]
 clear hll hlg
 obtain ⟨a,c,rfl,hlc⟩:=pairs_len hp
 obtain ⟨N,hN⟩ : ∃ N,N = l.length:=⟨_,rfl⟩
 rw [← hN] at hp hlc ⊢
 obtain ⟨w1,g,HW1,HG,hb1,hbox⟩:=store_box w lg (.slice a N c)
 have C4:=cell_of_row w1 _ 4 _ _ _ hbox
 have kc:=place_any (.slice a N c) l key w1 (hp.below hb1) hr hl
 have hbg:=begs_place hr key
 have hple:=placeN_le l key
 obtain ⟨p,hpp⟩ : ∃ x,x = placeN l key:=⟨_,rfl⟩
 obtain ⟨t,ht⟩ : ∃ x,x = thereN l key:=⟨_,rfl⟩
 rw [← hpp,← ht] at kc
 rw [← hpp] at hbg hple
 obtain ⟨T,hT⟩ : ∃ x,x = ((l.drop p).takeWhile (begB key)).length:=⟨_,rfl⟩
 have hTl : T ≤ N - p:=by
  rw [hT,hN]
  have h:=List.IsPrefix.length_le (List.takeWhile_prefix (begB key) (l:=l.drop p))
  rwa [List.length_drop] at h
 have hat : ∀ i (h : i < l.length),p ≤ i → i < p + T → begB key l[i] = true:=fun i h h1 h2=>by
  have h3 : i - p < (l.drop p).length:=by rw [List.length_drop];omega
  have h4:=tw_at (begB key) (l.drop p) (i - p) h3 (by rw [← hT];omega)
  rw [List.getElem_drop] at h4
  simpa [show p + (i - p) = i by omega] using h4
 have hend : ∀ (h : p + T < l.length),begB key l[p + T] = false:=fun h=>by
  have h3 : T < (l.drop p).length:=by rw [List.length_drop];omega
  have h4:=tw_end (begB key) (l.drop p) T h3 hT
  rwa [List.getElem_drop] at h4
 have hfl : l.filter (begB key) = (l.drop p).take T:=by rw [hbg,hT,tw_take]
 obtain ⟨sk,hsk⟩ : ∃ s,s = ByteArray.mk key.toArray:=⟨_,rfl⟩
 have hsk2 : str key = .string sk:=by rw [hsk];rfl
 have kh : ∀ (q : List UInt8) (w' : World),Calls Tryz.prog 75 #[str q,.string sk] w' fun e w''=>e = .returned (.bool (key.isPrefixOf q)) ∧ w'' = w':=fun q w'=>by rw [hsk];exact hasPrefix_any q key w'
 rw [hsk2] at kc ⊢
 have HN:=Lib.hid hN
 have HV:=Lib.hid hp
 have HAT:=Lib.hid hat
 have HEND:=Lib.hid hend
 have HFL:=Lib.hid hfl
 have KH:=Lib.hid kh
 clear hN hp hat hend hfl kh hsk hsk2 hpp ht hT hbg
 unfold storeV
 go_enter Tryz.func39,Tryz.ntmps39
 go_upto_region 1 with (fail)
 rw [← HW1.out,← HG.out]
 go_wp2_with fail
 refine kc.mono ?_
 rintro e w5 ⟨rfl,hb5⟩
 clear kc C4
 have hbx:=(hb5.block _ (block_lt hbox)).trans hbox
 have HB5:=Lib.hid (hb1.trans (hb5.mono hb1.size))
 have HBX:=Lib.hid hbx
 clear hb1 hb5 hbx hbox
 go_wp2_with fail
 go_loopw [7] (fun i wr=>∃ k : Nat,p ≤ k ∧ k ≤ p + T ∧ i = .int .i64 k ∧ Below w5.heap.size w5 wr) (fun i _=>p + T - (intOf i).toNat)
 case atStart=>exact ⟨p,Nat.le_refl _,Nat.le_add_right _ _,rfl,Below.refl _ _⟩
 case round =>
  obtain ⟨k,hpk,hkT,rfl,hb⟩:=hrel
  have C4:=cell_of_row wr _ 4 _ _ _ ((hb.block _ (block_lt HBX.out)).trans HBX.out)
  by_cases hkN : k < N
  ·have k0 : decide ((k : Int) < (N : Int)) = true:=by simp;omega
   have k1 : (0 : Int) ≤ (k : Int):=by omega
   have k2 : (k : Int) < (N : Int):=by omega
   have hkl : k < l.length:=HN.out ▸ hkN
   obtain ⟨b,off,rfl,hbb,hc⟩:=load_pair HV.out hkl
   have S0:=(hc wr (HB5.out.trans (hb.mono HB5.out.size))).1
   obtain ⟨sq,hsq⟩ : ∃ s,s = ByteArray.mk l[k].key.toArray:=⟨_,rfl⟩
   have kh:=KH.out l[k].key wr
   have e1 : str l[k].key = .string sq:=by rw [hsq];rfl
   obtain ⟨hq,hhq⟩ : ∃ x,x = begB key l[k]:=⟨_,rfl⟩
   change Calls _ _ _ _ (fun e w''=>e = .returned (.bool (begB key l[k])) ∧ w'' = wr) at kh
   rw [e1] at kh S0
   rw [← hhq] at kh
   have HHQ:=Lib.hid hhq
   clear hc hsq e1 hhq
   go_wp2_with fail
   refine kh.mono ?_
   rintro e w6 ⟨rfl,rfl⟩
   clear kh S0
   cases hq with
   | true =>
    have hlt : k < p + T:=by
     refine Nat.lt_of_le_of_ne hkT (fun h=>?_)
     have h2:=HEND.out (by omega)
     simp only [← h] at h2
     rw [← HHQ.out] at h2
     cases h2
    have HBB:=Lib.hid hb
    clear C4 hb
    go_wp2_with fail
    go_roundw
    case rel=>exact ⟨k + 1,by omega,by omega,by go_num,HBB.out⟩
    case measure=>simp [intOf];omega
   | false =>
    have hkp : k = p + T:=by
     refine Nat.le_antisymm hkT (Nat.le_of_not_lt (fun h=>?_))
     have h2:=HAT.out k hkl hpk h
     rw [← HHQ.out] at h2
     cases h2
    obtain ⟨i0,z0,hi,hz0,hz1,hz2,hz3⟩:=zero_parts infoz_pair
    obtain ⟨a',c',sl,hrow⟩:=run_slice_mid (P:=Tryz.prog) Tryz.underlying42 hi hz1 (show Row w.heap.size w (.slice _ N c) 2 N (l.map pairCells).flatten by have:=HV.out;unfold PairsV at this;rw [← HN.out] at this;exact this) p k (by omega) (by omega)
    rw [flat_take,flat_drop] at hrow
    have hlen : ((l.take k).drop p).length = k - p:=by rw [List.length_drop,List.length_take];have:=HN.out;omega
    have hl2 : (l.take k).drop p = (l.drop p).take T:=by rw [List.drop_take,show k - p = T by omega]
    have hpv : PairsV w.heap.size w (.slice a' (k - p) c') (l.filter (begB key)):=by
     unfold PairsV
     rw [HFL.out,← hl2,hlen]
     exact hrow
    have hb0:=HB5.out.trans (hb.mono HB5.out.size)
    have kcl:=clonePairs_any _ _ w6 (hpv.below hb0) (by rw [HFL.out,List.length_take,List.length_drop];have:=HN.out;omega)
    have HB0:=Lib.hid hb0
    clear hi hz0 hz1 hz2 hz3 hrow hlen hl2 hpv hb0 hkp
    go_wp2_with fail
    refine kcl.mono ?_
    rintro e w7 ⟨x,rfl,hx,hb7⟩
    clear kcl C4 sl
    have HB7:=Lib.hid (HB0.out.trans (hb7.mono HB0.out.size))
    have HX:=Lib.hid (PairsO.v hx)
    clear hb7 hx
    go_wp2_with fail
    go_ret
    exact ⟨_,rfl,HX.out,HB7.out⟩
  ·obtain rfl : k = N:=by have:=HN.out;have:=hTl;omega
   have k0 : decide ((k : Int) < (k : Int)) = false:=by simp
   have hkp : k = p + T:=by omega
   obtain ⟨i0,z0,hi,hz0,hz1,hz2,hz3⟩:=zero_parts infoz_pair
   obtain ⟨a',c',sl,hrow⟩:=run_slice_mid (P:=Tryz.prog) Tryz.underlying42 hi hz1 (show Row w.heap.size w (.slice _ k c) 2 k (l.map pairCells).flatten by have:=HV.out;unfold PairsV at this;rw [← HN.out] at this;exact this) p k (by omega) (by omega)
   rw [flat_take,flat_drop] at hrow
   have hlen : ((l.take k).drop p).length = k - p:=by rw [List.length_drop,List.length_take];have:=HN.out;omega
   have hl2 : (l.take k).drop p = (l.drop p).take T:=by rw [List.drop_take,show k - p = T by omega]
   have hpv : PairsV w.heap.size w (.slice a' (k - p) c') (l.filter (begB key)):=by
    unfold PairsV
    rw [HFL.out,← hl2,hlen]
    exact hrow
   have hb0:=HB5.out.trans (hb.mono HB5.out.size)
   have kcl:=clonePairs_any _ _ wr (hpv.below hb0) (by rw [HFL.out,List.length_take,List.length_drop];have:=HN.out;omega)
   have HB0:=Lib.hid hb0
   clear hi hz0 hz1 hz2 hz3 hrow hlen hl2 hpv hb0 hkp
   go_wp2_with fail
   refine kcl.mono ?_
   rintro e w7 ⟨x,rfl,hx,hb7⟩
   clear kcl C4 sl
   have HB7:=Lib.hid (HB0.out.trans (hb7.mono HB0.out.size))
   have HX:=Lib.hid (PairsO.v hx)
   clear hb7 hx
   go_wp2_with fail
   go_ret
   exact ⟨_,rfl,HX.out,HB7.out⟩
end Go.Proofs.YtaijompnohkmaaaGreatDoor
