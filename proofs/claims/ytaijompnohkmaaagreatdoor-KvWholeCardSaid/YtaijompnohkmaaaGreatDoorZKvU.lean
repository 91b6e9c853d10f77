/- Layer 6 (kv): the turns that come in to KvWhole. -/
import Derived.Test.YtaijompnohkmaaaGreatDoorZOpenP
set_option linter.unusedSimpArgs false
set_option linter.unusedVariables false
namespace Go.Proofs.YtaijompnohkmaaaGreatDoor
open Go.RowKit Go.ChangeShapes Go.WideShapes KvP
structure TurnP where
 changes : List ChangeP
 fuse : Int
 mask : Int
def TurnP.wf (t : TurnP) : Prop:=-128 ≤ t.fuse ∧ t.fuse ≤ 127 ∧ 0 ≤ t.mask ∧ t.mask < 2 ^ 64
def turnCells (u : Value) (t : TurnP) : List Value:=[u,.int .i8 t.fuse,.int .u64 t.mask]
/-- Turns,in a slice. -/
def TurnsV (B : Nat) (w : World) (v : Value) (ts : List TurnP) : Prop :=
 ∃ css : List (List Value),Row B w v 3 ts.length css.flatten ∧ (∀ c ∈ css,c.length = 3) ∧ css.length = ts.length ∧ ∀ (k : Nat) (h : k < ts.length),∃ u,css[k]? = some (turnCells u ts[k]) ∧ ChangesV B w u ts[k].changes
theorem flat3 {css : List (List Value)} (h3 : ∀ c ∈ css,c.length = 3) {k : Nat} {c : List Value} (hc : css[k]? = some c) (j : Nat) (hj : j < 3) : css.flatten[k * 3 + j]? = c[j]?:=by
 induction css generalizing k with
 | nil=>simp at hc
 | cons x css ih =>
  have hx:=h3 x (List.mem_cons_self ..)
  rw [List.flatten_cons]
  cases k with
  | zero =>
   simp only [List.getElem?_cons_zero,Option.some.injEq] at hc
   subst hc
   rw [List.getElem?_append_left (by omega)]
   congr 1
   omega
  | succ k =>
   rw [List.getElem?_append_right (by omega),hx]
   have:=ih (fun y hy=>h3 y (List.mem_cons_of_mem _ hy)) (k:=k) (by simpa using hc)
   rw [← this]
   congr 1
   omega
theorem load_turn {B : Nat} {w : World} {a : Option Addr} {n c : Nat} {ts : List TurnP} (h : TurnsV B w (.slice a n c) ts) {k : Nat} (hk : k < ts.length) :
  ∃ b off ra rc,a = some ⟨b,off,none⟩ ∧ b < B ∧ (∀ w' : World,w'.heap[b]? = w.heap[b]? → w'.cell? ⟨b,off + k * 3,none⟩ = some (.slice ra ts[k].changes.length rc) ∧ w'.cell? ⟨b,off + k * 3 + 1,none⟩ = some (.int .i8 ts[k].fuse) ∧ w'.cell? ⟨b,off + k * 3 + 2,none⟩ = some (.int .u64 ts[k].mask)) ∧ ChangesV B w (.slice ra ts[k].changes.length rc) ts[k].changes:=by
 obtain ⟨css,⟨hl,a0,cap,hv,hnc,hcap,hcells⟩,h3,hcl,hel⟩:=h
 cases hv
 obtain ⟨b,off,rfl,hBb,hc⟩:=hcells (by omega)
 obtain ⟨u,hu,hb⟩:=hel k hk
 obtain ⟨_,ra,rc,rfl,_,_,_⟩:=id hb
 refine ⟨b,off,ra,rc,rfl,hBb,fun w' hw=>?_,hb⟩
 have one : ∀ j (x : Value),j < 3 → (turnCells (.slice ra ts[k].changes.length rc) ts[k])[j]? = some x → w'.cell? ⟨b,off + k * 3 + j,none⟩ = some x:=fun j x hj hx=>by
  have e:=flat3 h3 hu j hj
  rw [hx] at e
  have:=hc (k * 3 + j) x e
  rw [Nat.add_assoc,World.cell?_of_block hw]
  exact this
 exact ⟨by simpa using one 0 _ (by decide) rfl,one 1 _ (by decide) rfl,one 2 _ (by decide) rfl⟩
theorem wf_int8 {z : Int} (h : (Lit.int .i8 z).wf = true) : -128 ≤ z ∧ z ≤ 127:=by
 have h':=h
 simp [Lit.wf,IntKind.min,IntKind.max,IntKind.signed,IntKind.bits] at h'
 omega
set_option maxRecDepth 100000 in
theorem opens_turn (W : World) : Opens Tryz.prog W 59 (fun (s : TurnP) cs=>s.wf ∧ ∃ u,cs = turnCells u s ∧ ChangesV W.heap.size W u s.changes):=fun H enc fuel cs x h hwt=>by
 obtain ⟨xs,n,_,rfl,hl,hlen,hf⟩:=DataW.trod_struct Tryz.underlying59 h
 match xs,hlen with
 | [y0,y1,y2],_ =>
  have h0:=hf 0 _ rfl
  have h1:=hf 1 _ rfl
  have h2:=hf 2 _ rfl
  change _ = some y0 at h0
  change _ = some y1 at h1
  change _ = some y2 at h2
  have hw1 : DataW.weights Tryz.prog 59 (DataW.agg [y0.1,y1.1,y2.1]) = DataW.weightsEach Tryz.prog [22,56,57] [y0.1,y1.1,y2.1]:=by
   rw [DataW.weights];simp [Tryz.underlying59]
  change ∀ n ∈ DataW.weights Tryz.prog 59 (DataW.agg [y0.1,y1.1,y2.1]),n ≤ reachBytes at hwt
  rw [hw1] at hwt
  obtain ⟨l,_,u,hu,hb⟩:=opens_changes W H enc n _ _ h0 (fun m hm=>hwt m (mem_weightsEach _ _ 0 _ _ rfl rfl m hm))
  obtain ⟨z1,hz1,hx1⟩:=opens_int (W:=W) Tryz.underlying56 H enc n _ _ h1 (fun m hm=>hwt m (mem_weightsEach _ _ 1 _ _ rfl rfl m hm))
  obtain ⟨z2,hz2,hx2⟩:=opens_int (W:=W) Tryz.underlying57 H enc n _ _ h2 (fun m hm=>hwt m (mem_weightsEach _ _ 2 _ _ rfl rfl m hm))
  have e0 : Tryz.prog.cellsOf 22 = 1:=by kernel_rfl
  have e1 : Tryz.prog.cellsOf 56 = 1:=by kernel_rfl
  have e2 : Tryz.prog.cellsOf 57 = 1:=by kernel_rfl
  have e4 : Tryz.prog.cellsOf 59 = 3:=by kernel_rfl
  rw [e4] at hl
  change (cs.drop 0).take (Tryz.prog.cellsOf 22) = _ at hu
  change (cs.drop 1).take (Tryz.prog.cellsOf 56) = _ at hz1
  change (cs.drop 2).take (Tryz.prog.cellsOf 57) = _ at hz2
  rw [e0] at hu
  rw [e1] at hz1
  rw [e2] at hz2
  have hw:=wf_int8 hx1
  have hw2:=wf_u64 hx2
  match cs,hl,hu,hz1,hz2 with
  | [c0,c1,c2],_,hu,hz1,hz2 =>
   simp at hu hz1 hz2
   subst hu;subst hz1;subst hz2
   exact ⟨⟨l,z1,z2⟩,⟨hw.1,hw.2,hw2.1,by have:=hw2.2;show z2 < 2 ^ 64;omega⟩,_,rfl,hb⟩
/-- What turns in a slice that came in are. -/
def TurnsR (W : World) (ss : List TurnP) (cs : List Value) : Prop:=(∀ s ∈ ss,s.wf) ∧ ∃ v,cs = [v] ∧ TurnsV W.heap.size W v ss
set_option maxRecDepth 100000 in
theorem opens_turns (W : World) : Opens Tryz.prog W 53 (TurnsR W):=fun H enc fuel cs x h hwt=>by
 obtain ⟨ss,hss⟩:=opens_slice (W:=W) Tryz.underlying53 (of_decide_eq_true (by kernel_rfl)) (opens_turn W) H enc fuel cs x h hwt
 have e4 : Tryz.prog.cellsOf 59 = 3:=by kernel_rfl
 rw [e4] at hss
 obtain ⟨_,v,css,rfl,h1,h2,h3,h4⟩:=hss
 refine ⟨ss,fun s hs=>?_,v,rfl,css,h3,h2,h1,fun k hk=>?_⟩
 ·obtain ⟨i,hi,rfl⟩:=List.getElem_of_mem hs
  exact (h4 i _ _ (List.getElem?_eq_getElem hi) (List.getElem?_eq_getElem (by omega))).1
 ·obtain ⟨_,u,h5,h6⟩:=h4 k _ _ (List.getElem?_eq_getElem hk) (List.getElem?_eq_getElem (by omega))
  exact ⟨u,(List.getElem?_eq_getElem (by omega)).trans (congrArg some h5),h6⟩
end Go.Proofs.YtaijompnohkmaaaGreatDoor
