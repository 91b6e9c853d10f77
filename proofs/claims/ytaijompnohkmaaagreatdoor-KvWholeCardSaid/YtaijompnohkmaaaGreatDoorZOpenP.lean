/- Layer 6 (kv): what pairs and changes that come in give the walk. -/
import Derived.Test.YtaijompnohkmaaaGreatDoorZOpenS
import Derived.Test.YtaijompnohkmaaaGreatDoorMT
set_option linter.unusedSimpArgs false
set_option linter.unusedVariables false
namespace Go.Proofs.YtaijompnohkmaaaGreatDoor
open Go.RowKit Go.ChangeShapes Go.WideShapes KvP
theorem str_len (s : ByteArray) : s.data.toList.length = s.size:=by
 rw [Array.length_toList]
 rfl
def ChangeR (c : ChangeP) (cs : List Value) : Prop:=(c.key.length ≤ reachBytes ∧ c.val.length ≤ reachBytes) ∧ cs = changeCells c
set_option maxRecDepth 100000 in
theorem opens_change (W : World) : Opens Tryz.prog W 33 ChangeR:=fun H enc fuel cs x h hwt=>by
 obtain ⟨xs,n,_,rfl,hl,hlen,hf⟩:=DataW.trod_struct Tryz.underlying33 h
 match xs,hlen with
 | [y0,y1,y2],_ =>
  have h0:=hf 0 _ rfl
  have h1:=hf 1 _ rfl
  have h2:=hf 2 _ rfl
  change _ = some y0 at h0
  change _ = some y1 at h1
  change _ = some y2 at h2
  have hw1 : DataW.weights Tryz.prog 33 (DataW.agg [y0.1,y1.1,y2.1]) = DataW.weightsEach Tryz.prog [9,9,4] [y0.1,y1.1,y2.1]:=by
   rw [DataW.weights];simp [Tryz.underlying33]
  change ∀ n ∈ DataW.weights Tryz.prog 33 (DataW.agg [y0.1,y1.1,y2.1]),n ≤ reachBytes at hwt
  rw [hw1] at hwt
  obtain ⟨k,hk,hk2⟩:=opens_string (W:=W) Tryz.underlying9 H enc n _ _ h0 (fun m hm=>hwt m (mem_weightsEach _ _ 0 _ _ rfl rfl m hm))
  obtain ⟨v,hv,hv2⟩:=opens_string (W:=W) Tryz.underlying9 H enc n _ _ h1 (fun m hm=>hwt m (mem_weightsEach _ _ 1 _ _ rfl rfl m hm))
  obtain ⟨g,hg⟩:=opens_bool (W:=W) Tryz.underlying4 H enc n _ _ h2 (fun m hm=>hwt m (mem_weightsEach _ _ 2 _ _ rfl rfl m hm))
  have e1 : Tryz.prog.cellsOf 9 = 1:=by kernel_rfl
  have e2 : Tryz.prog.cellsOf 4 = 1:=by kernel_rfl
  have e3 : Tryz.prog.cellsOf 33 = 3:=by kernel_rfl
  rw [e3] at hl
  change (cs.drop 0).take (Tryz.prog.cellsOf 9) = _ at hk
  change (cs.drop 1).take (Tryz.prog.cellsOf 9) = _ at hv
  change (cs.drop 2).take (Tryz.prog.cellsOf 4) = _ at hg
  rw [e1] at hk hv
  rw [e2] at hg
  refine ⟨⟨k.data.toList,v.data.toList,g⟩,⟨by rw [str_len];exact hk2,by rw [str_len];exact hv2⟩,?_⟩
  match cs,hl,hk,hv,hg with
  | [c0,c1,c2],_,hk,hv,hg =>
   simp at hk hv hg
   subst hk;subst hv;subst hg
   rw [str_of,str_of]
   rfl
def ChangesR (W : World) (l : List ChangeP) (cs : List Value) : Prop:=(∀ p ∈ l,p.key.length ≤ reachBytes ∧ p.val.length ≤ reachBytes) ∧ ∃ v,cs = [v] ∧ ChangesV W.heap.size W v l
theorem opens_changes (W : World) : Opens Tryz.prog W 22 (ChangesR W):=fun H enc fuel cs x h hwt=>by
 obtain ⟨l,hls⟩:=opens_slice (W:=W) Tryz.underlying22 (of_decide_eq_true (by kernel_rfl)) (opens_change W) H enc fuel cs x h hwt
 have e1 : Tryz.prog.cellsOf 33 = 3:=by kernel_rfl
 rw [e1] at hls
 obtain ⟨_,v,css,rfl,h1,h2,h3,h4⟩:=hls
 rw [flatten_f changeCells css l h1 (fun i a c ha hc=>(h4 i a c ha hc).2)] at h3
 refine ⟨l,fun p hp=>?_,v,rfl,h3⟩
 obtain ⟨i,hi,rfl⟩:=List.getElem_of_mem hp
 exact (h4 i _ _ (List.getElem?_eq_getElem hi) (List.getElem?_eq_getElem (by omega))).1
end Go.Proofs.YtaijompnohkmaaaGreatDoor
