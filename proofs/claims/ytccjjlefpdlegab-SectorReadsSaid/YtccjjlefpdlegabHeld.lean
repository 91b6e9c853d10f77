/- Regions that draw their order: what only reads is taken first, under one condition on the world; the rest is carried out where it alone may come up. -/
import Derived.Test.YtccjjlefpdlegabBig
import Derived.Deep.RegionHeld3
import Derived.Laws.CopyOwn
namespace Go.Proofs.Ytccjjlefpdlegab
open Go.RowKit
section
variable {P : Program} {ops : Array Oper} {l : List Oper} {Q : Exit → Act → World → Prop} {md : Region.Mode} {S : World → Prop} {w : World} {L : Act → World → Prop} {i : Nat} {r : List (Bool × Nat)} {o : Oper} {a : Act}
/-- Operation number i. -/
def nth : List Oper → Nat → Option Oper
  | [], _ => none
  | o :: _, 0 => some o
  | _ :: l, n + 1 => nth l n
theorem nth_eq : ∀ (l : List Oper) (i : Nat), nth l i = l.toArray[i]?
  | [], i => by simp [nth]
  | o :: l, 0 => by simp [nth]
  | o :: l, i + 1 => by
    have := nth_eq l i
    simp only [nth, this]
    simp
/-- A region's operations in an order of ours: 'false': what only reads, under S; 'true': what is carried out when it alone may come up. -/
def heldI (P : Program) (l : List Oper) (Q : Exit → Act → World → Prop) (S : World → Prop) (L : Act → World → Prop) : List (Bool × Nat) → Act → World → Prop
  | [], a, w => L a w
  | (false, i) :: r, a, w => ∃ o v, nth l i = some o ∧ YieldsIf P l.toArray S o v a ∧ heldI P l Q S L r (a.put o.dst v) w
  | (true, i) :: r, a, w => ∃ o, nth l i = some o ∧ ∀ K' : Act → World → Prop, (∀ a' w', S w' → heldI P l Q S L r a' w' → K' a' w') → if Region.wanted o (yielded l.toArray a.tmps) = true then Oper.wp P o a w K' Q else K' (a.put o.dst undef) w
theorem heldI_nil (h : L a w) : heldI P l Q S L [] a w := h
theorem heldI_take (ho : nth l i = some o) (v : Value) (hw : Region.wanted o (yielded l.toArray a.tmps) = true) (h : ∀ w, S w → (execOp a.eval o).run P w = .ok (.value v) w)
    (k : heldI P l Q S L r (a.put o.dst v) w) : heldI P l Q S L ((false, i) :: r) a w := ⟨o, v, ho, .inl ⟨hw, h⟩, k⟩
theorem heldI_skip (ho : nth l i = some o) (hw : Region.wanted o (yielded l.toArray a.tmps) = false)
    (k : heldI P l Q S L r (a.put o.dst undef) w) : heldI P l Q S L ((false, i) :: r) a w := ⟨o, undef, ho, .inr ⟨hw, rfl⟩, k⟩
theorem run_load_op (x : Operand) (t : TypeId) (ho : o.op = .load t x) {ad : Addr} {v : Value} (hx : a.eval x = .pointer (some ad)) (hl : (loadVar t ad).run P w = .ok v w) : (execOp a.eval o).run P w = .ok (.value v) w := by
  unfold execOp
  simp only [ho, hx, Instr.loadAt, Instr.sureAddr, Sem.run_bind, Sem.run_pure, Result.andThen_ok, hl]
/-- A load of many cells. -/
theorem heldI_load (ho : nth l i = some o) (x : Operand) (t : TypeId) (hw : Region.wanted o (yielded l.toArray a.tmps) = true) (hop : o.op = .load t x) {ad : Addr} {v : Value} (hx : a.eval x = .pointer (some ad))
    (hl : ∀ w, S w → (loadVar t ad).run P w = .ok v w) (k : heldI P l Q S L r (a.put o.dst v) w) : heldI P l Q S L ((false, i) :: r) a w :=
  heldI_take ho v hw (fun w hS => run_load_op x t hop hx (hl w hS)) k
theorem heldI_pass (ho : nth l i = some o) (hw : Region.wanted o (yielded l.toArray a.tmps) = false) (hS : S w)
    (k : heldI P l Q S L r (a.put o.dst undef) w) : heldI P l Q S L ((true, i) :: r) a w := ⟨o, ho, fun K' hK => by
  rw [if_neg (by rw [hw]; simp)]
  exact hK _ _ hS k⟩
theorem heldI_act (ho : nth l i = some o) (hw : Region.wanted o (yielded l.toArray a.tmps) = true)
    (h : ∀ K' : Act → World → Prop, Shut (∀ a' w', S w' → heldI P l Q S L r a' w' → K' a' w') → Oper.wp P o a w K' Q) : heldI P l Q S L ((true, i) :: r) a w := ⟨o, ho, fun K' hK => by
  rw [if_pos hw]
  exact h K' hK⟩
/-- May they come up so? Which have come up behind them. -/
def checkI (md : Region.Mode) (ops : Array Oper) : List (Bool × Nat) → Array Bool → Option (Array Bool)
  | [], listed => some listed
  | (false, i) :: r, listed => if (Region.ready md ops listed).contains i && Region.free md ops listed i then checkI md ops r (listed.setIfInBounds i true) else none
  | (true, i) :: r, listed => if Region.ready md ops listed = [i] then checkI md ops r (listed.setIfInBounds i true) else none
theorem wpAnyH_I {fuel : Nat} (hs : Region.noSelect l.toArray = true) (hQ : ∀ c d v a w, Q (.panic c) (Act.put a d v) w → Q (.panic c) a w) {listed' : Array Bool} (hL : ∀ a w, S w → L a w → wpAnyH P md l.toArray Q S fuel listed' a w)
    (is : List (Bool × Nat)) : ∀ (listed : Array Bool) (a : Act) (w : World), checkI md l.toArray is listed = some listed' → S w →
    heldI P l Q S L is a w → wpAnyH P md l.toArray Q S (is.length + fuel) listed a w := by
  induction is with
  | nil =>
    intro listed a w hB hS h
    simp only [checkI, Option.some.injEq] at hB
    subst hB
    simpa using hL a w hS h
  | cons x is ih =>
    intro listed a w hB hS h
    have e : (x :: is).length + fuel = (is.length + fuel) + 1 := by simp; omega
    rw [e]
    obtain ⟨b, i⟩ := x
    cases b with
    | false =>
      obtain ⟨o, v, h0, hy, hk⟩ := h
      rw [nth_eq] at h0
      simp only [checkI] at hB
      split at hB
      · rename_i hc
        simp only [Bool.and_eq_true] at hc
        exact wpAnyH_take h0 hs hc.2 hc.1 (fun c a w => hQ c _ _ a w) hy hS (ih _ _ _ hB hS hk)
      · cases hB
    | true =>
      obtain ⟨o, h0, h⟩ := h
      rw [nth_eq] at h0
      simp only [checkI] at hB
      split at hB
      · rename_i hr
        refine wpAnyH_ready (fuel := is.length + fuel) hr (by simp) (.cons h0 (fun K' hK => h K' fun a' w' hS' hr' => ?_) .nil)
        exact hK.out a' w' hS' fun _ => ih _ a' w' hB hS' hr'
      · cases hB
/-- To the region's end. -/
theorem wpAnyH_end {fuel : Nat} {listed : Array Bool} (is : List (Bool × Nat)) (hB : (Region.noSelect l.toArray && decide (is.length ≤ fuel) && (checkI md l.toArray is listed).any fun x => (Region.ready md l.toArray x).isEmpty) = true) (hS : S w)
    (h : heldI P l (NoPanic Q) S (fun a w => Q .normal a w) is a w) : wpAnyH P md l.toArray (NoPanic Q) S fuel listed a w := by
  simp only [Bool.and_eq_true, decide_eq_true_eq, Option.any_eq_true] at hB
  obtain ⟨⟨h1, h2⟩, x, hx, h3⟩ := hB
  have := wpAnyH_I (P := P) (l := l) (Q := NoPanic Q) (md := md) (S := S) (fuel := fuel - is.length) h1 (fun _ _ _ _ _ h => h) (listed' := x)
    (L := fun a w => Q .normal a w) (fun a w _ hq => wpAnyH_done (by simpa [List.isEmpty_iff] using h3) (NoPanic.normal hq) _) is listed a w hx hS h
  rwa [show is.length + (fuel - is.length) = fuel by omega] at this
/-- Up to a place where several may come up. -/
theorem wpAnyH_part {fuel : Nat} {listed : Array Bool} (is : List (Bool × Nat)) (hB : (Region.noSelect l.toArray && decide (is.length ≤ fuel) && (checkI md l.toArray is listed).isSome) = true) (hS : S w)
    (h : heldI P l (NoPanic Q) S (fun a w => wpAnyH P md l.toArray (NoPanic Q) S (fuel - is.length) ((checkI md l.toArray is listed).getD #[]) a w) is a w) : wpAnyH P md l.toArray (NoPanic Q) S fuel listed a w := by
  simp only [Bool.and_eq_true, decide_eq_true_eq, Option.isSome_iff_exists] at hB
  obtain ⟨⟨h1, h2⟩, x, hx⟩ := hB
  rw [hx] at h
  have := wpAnyH_I (P := P) (l := l) (Q := NoPanic Q) (md := md) (S := S) (fuel := fuel - is.length) h1 (fun _ _ _ _ _ h => h) (listed' := x)
    (L := fun a w => wpAnyH P md l.toArray (NoPanic Q) S (fuel - is.length) x a w) (fun a w _ hq => hq) is listed a w hx hS h
  rwa [show is.length + (fuel - is.length) = fuel by omega] at this
theorem wp_region_start {id : Nat} (S : World → Prop) (hm : P.follows .mixedOrders = true) (hS : S w.drew)
    (h : wpAnyH P .any l.toArray (NoPanic Q) S l.length (Array.replicate l.length false) a w.drew) : (Code.region id l.toArray true).wp P Q a w :=
  wp_region_noPanic (wp_region_held_drew (S := S) hm hS fun _ => by simpa using h)
/-- A region in an order of ours, from its head to its end. -/
theorem wp_region_I {id : Nat} (is : List (Bool × Nat)) (S : World → Prop) (hm : P.follows .mixedOrders = true) (hB : (Region.noSelect l.toArray && decide (is.length ≤ l.length) && (checkI .any l.toArray is (Array.replicate l.length false)).any fun x => (Region.ready .any l.toArray x).isEmpty) = true)
    (hS : S w.drew) (h : heldI P l (NoPanic Q) S (fun a w => Q .normal a w) is a w.drew) : (Code.region id l.toArray true).wp P Q a w :=
  wp_region_start S hm hS (wpAnyH_end is hB hS h)
/-- One of several that may come up. -/
theorem ready_cons {fuel : Nat} {listed : Array Bool} {rs : List Nat} (ho : nth l i = some o) (hw : Region.wanted o (yielded l.toArray a.tmps) = true)
    (h : ∀ K' : Act → World → Prop, Shut (∀ a w, S w → wpAnyH P md l.toArray Q S fuel (listed.setIfInBounds i true) a w → K' a w) → Oper.wp P o a w K' Q)
    (hs : AllReadyH P md l.toArray Q S fuel listed a w rs) : AllReadyH P md l.toArray Q S fuel listed a w (i :: rs) := by
  rw [nth_eq] at ho
  refine .cons ho (fun K' hK => ?_) hs
  rw [if_pos hw]
  exact h K' fun a w hS hr => hK.out a w hS fun _ => hr
/-- The same where a panic may come out of the region: the post says nothing of the temporaries behind one. -/
theorem wp_region_P {id : Nat} (is : List (Bool × Nat)) (S : World → Prop) (hm : P.follows .mixedOrders = true) (hB : (Region.noSelect l.toArray && decide (is.length = l.length) && (checkI .any l.toArray is (Array.replicate l.length false)).any fun x => (Region.ready .any l.toArray x).isEmpty) = true)
    (hQ : ∀ c d v a w, Q (.panic c) (Act.put a d v) w → Q (.panic c) a w)
    (hS : S w.drew) (h : heldI P l Q S (fun a w => Q .normal a w) is a w.drew) : (Code.region id l.toArray true).wp P Q a w := by
  simp only [Bool.and_eq_true, decide_eq_true_eq, Option.any_eq_true] at hB
  obtain ⟨⟨h1, h2⟩, x, hx, h3⟩ := hB
  refine wp_region_held_drew (S := S) hm hS fun _ => ?_
  have := wpAnyH_I (P := P) (l := l) (Q := Q) (md := .any) (S := S) (fuel := 0) h1 hQ (listed' := x)
    (L := fun a w => Q .normal a w) (fun a w _ hq => wpAnyH_done (by simpa [List.isEmpty_iff] using h3) hq _) is (Array.replicate l.length false) a w.drew hx hS h
  rw [h2] at this
  simpa using this
/-- copy into a row that is known whole, as one operation. -/
theorem op_copy {K : Act → World → Prop} (hgd : o.guard = none) (d s : Operand) (dT sT : TypeId)
    (ho : o.op = .call { callee := .builtin .copy, args := #[d, s], argTypes := #[dT, sT] }) (elem : TypeId) (hu : P.underlying dT = some (.slice elem)) (hsz : (P.info? elem).map (·.size) = some 1)
    (dp sp : Option Addr) (dLen dCap sLen sCap : Nat) (hd : a.eval d = .slice dp dLen dCap) (hs : a.eval s = .slice sp sLen sCap)
    (g off : Nat) (cur : List Value) (t : TypeId) (hg : w.heap[g]? = some (.cells cur.toArray t (0, 0))) (cs : List Value) (hn : cs.length = Nat.min sLen dLen)
    (hpos : 0 < cs.length → dp = some ⟨g, off, none⟩ ∧ ∃ ad, sp = some ad ∧ ∀ j v, cs[j]? = some v → w.cell? (ad.add j) = some v)
    (hfit : off + cs.length ≤ cur.length) (h1 : ∀ v ∈ cs, v.oneCell' = true)
    (h : ∀ w', w'.heap[g]? = some (.cells (splice cur off cs).toArray t (0, 0)) → Below g w w' → w'.heap.size = w.heap.size → (∀ k, k ≠ g → w'.heap[k]? = w.heap[k]?) → K (a.put o.dst (goInt cs.length)) w') : Oper.wp P o a w K Q := by
  by_cases h0 : cs.length = 0
  · obtain rfl : cs = [] := List.eq_nil_of_length_eq_zero h0
    have hrun := run_copy_none (P := P) w dT sT o.type elem dp sp dLen dCap sLen sCap hu hsz (by simpa using hn.symm)
    unfold Oper.wp
    simp [execOp, ho, resolve, invoke, builtin, hd, hs, hrun, Result.andThen]
    exact h w (by simpa [splice] using hg) (Below.refl _ _) rfl (fun _ _ => rfl)
  · obtain ⟨rfl, ad, rfl, hsrc⟩ := hpos (by omega)
    have hrun := run_copy_row (P := P) w dT sT o.type elem g off dLen dCap ad sLen sCap cur.toArray t cs hu hsz hg hn hsrc (by simpa using hfit) h1
    unfold Oper.wp
    simp [execOp, ho, resolve, invoke, builtin, hd, hs, hrun, Result.andThen]
    exact h _ (by simpa [splice] using setRow_heap w g _ _ t _ hg) (below_setRow (Below.refl _ _) (Nat.le_refl _) _) (by simp [World.setRow]) (fun k hk => setRow_other w g k _ hk)
/-- To the region's end, with whatever post that says nothing of the temporaries behind a panic. -/
theorem wpAnyH_endQ {fuel : Nat} {listed : Array Bool} (is : List (Bool × Nat)) (hB : (Region.noSelect l.toArray && decide (is.length ≤ fuel) && (checkI md l.toArray is listed).any fun x => (Region.ready md l.toArray x).isEmpty) = true) (hQ : ∀ c d v a w, Q (.panic c) (Act.put a d v) w → Q (.panic c) a w) (hS : S w)
    (h : heldI P l Q S (fun a w => Q .normal a w) is a w) : wpAnyH P md l.toArray Q S fuel listed a w := by
  simp only [Bool.and_eq_true, decide_eq_true_eq, Option.any_eq_true] at hB
  obtain ⟨⟨h1, h2⟩, x, hx, h3⟩ := hB
  have := wpAnyH_I (P := P) (l := l) (Q := Q) (md := md) (S := S) (fuel := fuel - is.length) h1 hQ (listed' := x)
    (L := fun a w => Q .normal a w) (fun a w _ hq => wpAnyH_done (by simpa [List.isEmpty_iff] using h3) hq _) is listed a w hx hS h
  rwa [show is.length + (fuel - is.length) = fuel by omega] at this
theorem wpAnyH_partQ {fuel : Nat} {listed : Array Bool} (is : List (Bool × Nat)) (hB : (Region.noSelect l.toArray && decide (is.length ≤ fuel) && (checkI md l.toArray is listed).isSome) = true) (hQ : ∀ c d v a w, Q (.panic c) (Act.put a d v) w → Q (.panic c) a w) (hS : S w)
    (h : heldI P l Q S (fun a w => wpAnyH P md l.toArray Q S (fuel - is.length) ((checkI md l.toArray is listed).getD #[]) a w) is a w) : wpAnyH P md l.toArray Q S fuel listed a w := by
  simp only [Bool.and_eq_true, decide_eq_true_eq, Option.isSome_iff_exists] at hB
  obtain ⟨⟨h1, h2⟩, x, hx⟩ := hB
  rw [hx] at h
  have := wpAnyH_I (P := P) (l := l) (Q := Q) (md := md) (S := S) (fuel := fuel - is.length) h1 hQ (listed' := x)
    (L := fun a w => wpAnyH P md l.toArray Q S (fuel - is.length) x a w) (fun a w _ hq => hq) is listed a w hx hS h
  rwa [show is.length + (fuel - is.length) = fuel by omega] at this
theorem wp_region_startQ {id : Nat} (S : World → Prop) (hm : P.follows .mixedOrders = true) (hS : S w.drew)
    (h : wpAnyH P .any l.toArray Q S l.length (Array.replicate l.length false) a w.drew) : (Code.region id l.toArray true).wp P Q a w :=
  wp_region_held_drew (S := S) hm hS fun _ => by simpa using h
theorem op_load {K : Act → World → Prop} (x : Operand) (t : TypeId) (ho : o.op = .load t x) {ad : Addr} {v : Value} (hx : a.eval x = .pointer (some ad)) (hl : (loadVar t ad).run P w = .ok v w) (h : K (a.put o.dst v) w) : Oper.wp P o a w K Q := by
  unfold Oper.wp
  rw [run_load_op x t ho hx hl]
  exact h
end
end Go.Proofs.Ytccjjlefpdlegab
