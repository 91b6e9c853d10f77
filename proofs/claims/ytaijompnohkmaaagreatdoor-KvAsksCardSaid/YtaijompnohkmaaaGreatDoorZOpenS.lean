/- What disks and writes that come in as arguments give the walk. -/
import Derived.Test.YtaijompnohkmaaaGreatDoorMT
import Derived.ChangeSame
import Derived.OpenShut
set_option linter.unusedSimpArgs false
set_option linter.unusedVariables false
namespace Go.Proofs.YtaijompnohkmaaaGreatDoor
open Go.RowKit Go.ChangeShapes Go.WideShapes
theorem flatten_chunks {α : Type} (sz : Nat) : ∀ (n : Nat) (cs : List α),cs.length = n * sz → ((List.range n).map (fun i=>(cs.drop (i * sz)).take sz)).flatten = cs
 | 0,cs,h=>by
  rw [Nat.zero_mul] at h
  simp [List.length_eq_zero_iff.1 h]
 | n + 1,cs,h=>by
  rw [List.range_succ_eq_map,List.map_cons,List.flatten_cons,List.map_map]
  have h' : (cs.drop sz).length = n * sz:=by rw [List.length_drop,h,Nat.succ_mul];omega
  have ih:=flatten_chunks sz n (cs.drop sz) h'
  have e : ((fun i=>(cs.drop (i * sz)).take sz) ∘ Nat.succ) = (fun i=>((cs.drop sz).drop (i * sz)).take sz):=by
   funext i
   simp only [Function.comp,List.drop_drop]
   rw [Nat.succ_mul,Nat.add_comm]
  rw [e,ih]
  simp
theorem flatten_f {α : Type} (f : α → List Value) : ∀ (css : List (List Value)) (xs : List α),css.length = xs.length → (∀ (i : Nat) (a : α) (c : List Value),xs[i]? = some a → css[i]? = some c → c = f a) → css.flatten = (xs.map f).flatten:=by
 intro css
 induction css with
 | nil=>intro xs h _;cases xs <;> simp_all
 | cons c css ih =>
  intro xs h h2
  cases xs with
  | nil=>simp at h
  | cons x xs =>
   rw [List.flatten_cons,h2 0 x c rfl rfl,ih xs (by simpa using h) (fun i a c ha hc=>h2 (i + 1) a c (by simpa using ha) (by simpa using hc))]
   rfl
section
variable {P : Program} {W : World} {t : TypeId}
theorem opens_arr {α : Type} {n : Nat} {e : TypeId} {R : α → List Value → Prop} (ht : P.underlying t = some (.array n e)) (hc : P.cellsOf t = n * P.cellsOf e) (he : Opens P W e R) :
  Opens P W t (fun (xs : List α) cs=>xs.length = n ∧ ∃ css : List (List Value),css.length = n ∧ cs = css.flatten ∧ ∀ (i : Nat) (a : α) (c : List Value),xs[i]? = some a → css[i]? = some c → R a c):=fun H enc fuel cs x h hwt=>by
 obtain ⟨xs,m,_,rfl,hl,hn,hel⟩:=DataW.trod_array ht h
 have hw1 : DataW.weights P t (DataW.agg (xs.map (·.1))) = DataW.weightsAll P e (xs.map (·.1)):=by
  rw [DataW.weights];simp [ht]
 simp only [hw1] at hwt
 obtain ⟨bs,css,h1,h2,h3⟩:=choose_list n (fun i (b : α) c=>c = (cs.drop (i * P.cellsOf e)).take (P.cellsOf e) ∧ R b c) (fun i hi=>by
  have h1:=hel i hi
  rw [List.getElem?_eq_getElem (by omega)] at h1
  obtain ⟨b,hb⟩:=he H enc m _ _ h1 (fun k hk=>hwt k (mem_weightsAll _ i _ (by rw [List.getElem?_map,List.getElem?_eq_getElem (by omega)];rfl) k hk))
  exact ⟨b,_,rfl,hb⟩)
 refine ⟨bs,h1,css,h2,?_,fun i a c ha hc=>(h3 i a c ha hc).2⟩
 have e1 : css = (List.range n).map (fun i=>(cs.drop (i * P.cellsOf e)).take (P.cellsOf e)):=by
  apply List.ext_getElem
  ·simp [h2]
  ·intro i hi _
   rw [List.getElem_map,List.getElem_range]
   exact (h3 i _ _ (List.getElem?_eq_getElem (by omega)) (List.getElem?_eq_getElem hi)).1
 rw [e1,flatten_chunks _ _ _ (by rw [hl,hc])]
end
set_option maxRecDepth 100000 in
theorem opens_sector (W : World) : Opens Tryz.prog W 94 (fun (s : List UInt8) cs=>s.length = 64 ∧ cs = u8s s):=fun H enc fuel cs x h hwt=>by
 obtain ⟨s,h1,css,h2,h3,h4⟩:=opens_arr Tryz.underlying94 (by kernel_rfl) (opens_u8 Tryz.underlying5) H enc fuel cs x h hwt
 exact ⟨s,h1,by rw [h3];exact flatten_u8 css s (by omega) h4⟩
set_option maxRecDepth 100000 in
theorem opens_write (W : World) : Opens Tryz.prog W 96 (fun (x : WriteP) cs=>x.data.length = 64 ∧ cs = wcells x):=fun H enc fuel cs x h hwt=>by
 obtain ⟨y0,y1,n,rfl,hl,h0,h1⟩:=trod_struct2 Tryz.underlying96 h
 have hw1 : DataW.weights Tryz.prog 96 (DataW.agg [y0.1,y1.1]) = DataW.weightsEach Tryz.prog [3,94] [y0.1,y1.1]:=by
  rw [DataW.weights];simp [Tryz.underlying96]
 simp only [hw1] at hwt
 obtain ⟨z,hz,_⟩:=opens_int (W:=W) Tryz.underlying3 H enc n _ _ h0 (fun m hm=>hwt m (mem_weightsEach _ _ 0 _ _ rfl rfl m hm))
 obtain ⟨s,hs,hs2⟩:=opens_sector W H enc n _ _ h1 (fun m hm=>hwt m (mem_weightsEach _ _ 1 _ _ rfl rfl m hm))
 have e1 : Tryz.prog.cellsOf 3 = 1:=by kernel_rfl
 have e2 : Tryz.prog.cellsOf 94 = 64:=by kernel_rfl
 have e3 : Tryz.prog.cellsOf 96 = 65:=by kernel_rfl
 rw [e3] at hl
 simp only [e1,e2] at hz hs2
 refine ⟨⟨z,s⟩,hs,?_⟩
 match cs,hl,hz,hs2 with
 | c :: cs,hl,hz,hs2 =>
  simp at hz hs2 hl
  rw [List.take_of_length_le (by omega)] at hs2
  rw [hz,hs2]
  rfl
set_option maxRecDepth 100000 in
theorem opens_disk (W : World) : Opens Tryz.prog W 38 (fun (d : DiskP) cs=>DiskV W.heap.size W (.agg cs.toArray) d ∧ -9223372036854775808 ≤ d.fuse ∧ d.fuse ≤ 9223372036854775807):=fun H enc fuel cs x h hwt=>by
 obtain ⟨xs,n,_,rfl,hl,hlen,hf⟩:=DataW.trod_struct Tryz.underlying38 h
 match xs,hlen with
 | [y0,y1,y2,y3],_ =>
  have h0:=hf 0 _ rfl
  have h1:=hf 1 _ rfl
  have h2:=hf 2 _ rfl
  have h3:=hf 3 _ rfl
  change _ = some y0 at h0
  change _ = some y1 at h1
  change _ = some y2 at h2
  change _ = some y3 at h3
  have hw1 : DataW.weights Tryz.prog 38 (DataW.agg [y0.1,y1.1,y2.1,y3.1]) = DataW.weightsEach Tryz.prog [35,36,3,4] [y0.1,y1.1,y2.1,y3.1]:=by
   rw [DataW.weights];simp [Tryz.underlying38]
  change ∀ n ∈ DataW.weights Tryz.prog 38 (DataW.agg [y0.1,y1.1,y2.1,y3.1]),n ≤ reachBytes at hwt
  rw [hw1] at hwt
  obtain ⟨ss,hss⟩:=opens_slice (W:=W) Tryz.underlying35 (of_decide_eq_true (by kernel_rfl)) (opens_sector W) H enc n _ _ h0 (fun m hm=>hwt m (mem_weightsEach _ _ 0 _ _ rfl rfl m hm))
  obtain ⟨ls,hls⟩:=opens_slice (W:=W) Tryz.underlying36 (of_decide_eq_true (by kernel_rfl)) (opens_write W) H enc n _ _ h1 (fun m hm=>hwt m (mem_weightsEach _ _ 1 _ _ rfl rfl m hm))
  obtain ⟨z,hz,hzw⟩:=opens_int (W:=W) Tryz.underlying3 H enc n _ _ h2 (fun m hm=>hwt m (mem_weightsEach _ _ 2 _ _ rfl rfl m hm))
  obtain ⟨b,hb⟩:=opens_bool (W:=W) Tryz.underlying4 H enc n _ _ h3 (fun m hm=>hwt m (mem_weightsEach _ _ 3 _ _ rfl rfl m hm))
  have e0 : Tryz.prog.cellsOf 35 = 1:=by kernel_rfl
  have e1 : Tryz.prog.cellsOf 36 = 1:=by kernel_rfl
  have e2 : Tryz.prog.cellsOf 3 = 1:=by kernel_rfl
  have e3 : Tryz.prog.cellsOf 4 = 1:=by kernel_rfl
  have e4 : Tryz.prog.cellsOf 38 = 4:=by kernel_rfl
  have e5 : Tryz.prog.cellsOf 94 = 64:=by kernel_rfl
  have e6 : Tryz.prog.cellsOf 96 = 65:=by kernel_rfl
  rw [e4] at hl
  rw [e5] at hss
  rw [e6] at hls
  obtain ⟨_,v0,css0,hv0,k1,_,k3,k4⟩:=hss
  obtain ⟨_,v1,css1,hv1,l1,_,l3,l4⟩:=hls
  change (cs.drop 0).take (Tryz.prog.cellsOf 35) = _ at hv0
  change (cs.drop 1).take (Tryz.prog.cellsOf 36) = _ at hv1
  change (cs.drop 2).take (Tryz.prog.cellsOf 3) = _ at hz
  change (cs.drop 3).take (Tryz.prog.cellsOf 4) = _ at hb
  rw [e0] at hv0
  rw [e1] at hv1
  rw [e2] at hz
  rw [e3] at hb
  have f0 : css0.flatten = (ss.map u8s).flatten:=flatten_f u8s css0 ss k1 (fun i a c ha hc=>(k4 i a c ha hc).2)
  have f1 : css1.flatten = (ls.map wcells).flatten:=flatten_f wcells css1 ls l1 (fun i a c ha hc=>(l4 i a c ha hc).2)
  rw [f0] at k3
  rw [f1] at l3
  have hsec : Secs W.heap.size W v0 ss:=⟨fun s hs=>by
   obtain ⟨i,hi,rfl⟩:=List.getElem_of_mem hs
   exact (k4 i _ _ (List.getElem?_eq_getElem hi) (List.getElem?_eq_getElem (by omega))).1,k3⟩
  have hloo : Loose W.heap.size W v1 ls:=⟨fun s hs=>by
   obtain ⟨i,hi,rfl⟩:=List.getElem_of_mem hs
   exact (l4 i _ _ (List.getElem?_eq_getElem hi) (List.getElem?_eq_getElem (by omega))).1,l3⟩
  have hw:=wf_i64 hzw
  match cs,hl,hv0,hv1,hz,hb with
  | [c0,c1,c2,c3],_,hv0,hv1,hz,hb =>
   simp at hv0 hv1 hz hb
   subst hv0;subst hv1;subst hz;subst hb
   exact ⟨⟨ss,ls,z,b⟩,⟨_,_,rfl,hsec,hloo⟩,hw⟩
/-- A struct argument's value. -/
theorem open_struct_val {P : Program} {W : World} {t : TypeId} {α : Type} {fs : Array Field} {R : α → List Value → Prop} {H : Type} {enc : TypeId × Value → H} {base : Nat} {v : Value} {d : DataW H} {ps : List MemPlace} (ht : P.underlying t = some (.struct fs))
  (ho : Opens P W t R) (hval : Value.okWide P W .any base t v) (h : DataW.Trod enc P W 0 (fun _=>true) true t v d ps) (hw : ∀ n ∈ DataW.weights P t d,n ≤ reachBytes) : ∃ (x : α) (cs : List Value),v = .agg cs.toArray ∧ R x cs:=by
 obtain ⟨cs,rfl,_⟩:=okWide_struct ht hval
 obtain ⟨fuel,hf⟩:=h
 obtain ⟨x,hx⟩:=ho H enc fuel _ _ hf hw
 exact ⟨x,cs.toList,by simp,hx⟩
end Go.Proofs.YtaijompnohkmaaaGreatDoor
