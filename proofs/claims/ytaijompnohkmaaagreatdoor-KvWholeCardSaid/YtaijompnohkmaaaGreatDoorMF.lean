/- Regions that draw their order: what only reads is taken first, under one condition on the world; the rest is carried out where it alone may come up. -/
import Derived.Test.YtaijompnohkmaaaGreatDoorME
import Derived.Deep.RegionHeld3
import Derived.Laws.CopyOwn
import Derived.Test.YtaijompnohkmaaaGreatDoorProg
import Derived.KernelRfl
import Derived.Lib.Hide
import Derived.Lib.SlBytesConst
import Derived.Deep.QuietTactic
import Derived.BigQuiet
import Derived.Deep.CutRange
import Derived.WalkKit
import Derived.ChangeKeysEq
set_option linter.unusedSimpArgs false
set_option linter.unusedVariables false
namespace Go.Proofs.YtaijompnohkmaaaGreatDoor
open Go.RowKit
section
variable {P : Program} {ops : Array Oper} {l : List Oper} {Q : Exit → Act → World → Prop} {md : Region.Mode} {S : World → Prop} {w : World} {L : Act → World → Prop} {i : Nat} {r : List (Bool × Nat)} {o : Oper} {a : Act}
/-- Operation number i. -/
def nth : List Oper → Nat → Option Oper
  | [], _ => none
  | o :: _, 0 => some o
  | _ :: l, n + 1 => nth l n
theorem nth_eq : ∀ (l : List Oper) (i : Nat), nth l i = l.toArray[i]?
  | [], i => by simp [nth]
  | o :: l, 0 => by simp [nth]
  | o :: l, i + 1 => by
    have := nth_eq l i
    simp only [nth, this]
    simp
/-- A region's operations in an order of ours: 'false': what only reads, under S; 'true': what is carried out when it alone may come up. -/
def heldI (P : Program) (l : List Oper) (Q : Exit → Act → World → Prop) (S : World → Prop) (L : Act → World → Prop) : List (Bool × Nat) → Act → World → Prop
  | [], a, w => L a w
  | (false, i) :: r, a, w => ∃ o v, nth l i = some o ∧ YieldsIf P l.toArray S o v a ∧ heldI P l Q S L r (a.put o.dst v) w
  | (true, i) :: r, a, w => ∃ o, nth l i = some o ∧ ∀ K' : Act → World → Prop, (∀ a' w', S w' → heldI P l Q S L r a' w' → K' a' w') → if Region.wanted o (yielded l.toArray a.tmps) = true then Oper.wp P o a w K' Q else K' (a.put o.dst undef) w
theorem heldI_nil (h : L a w) : heldI P l Q S L [] a w := h
theorem heldI_take (ho : nth l i = some o) (v : Value) (hw : Region.wanted o (yielded l.toArray a.tmps) = true) (h : ∀ w, S w → (execOp a.eval o).run P w = .ok (.value v) w)
    (k : heldI P l Q S L r (a.put o.dst v) w) : heldI P l Q S L ((false, i) :: r) a w := ⟨o, v, ho, .inl ⟨hw, h⟩, k⟩
theorem heldI_skip (ho : nth l i = some o) (hw : Region.wanted o (yielded l.toArray a.tmps) = false)
    (k : heldI P l Q S L r (a.put o.dst undef) w) : heldI P l Q S L ((false, i) :: r) a w := ⟨o, undef, ho, .inr ⟨hw, rfl⟩, k⟩
theorem run_load_op (x : Operand) (t : TypeId) (ho : o.op = .load t x) {ad : Addr} {v : Value} (hx : a.eval x = .pointer (some ad)) (hl : (loadVar t ad).run P w = .ok v w) : (execOp a.eval o).run P w = .ok (.value v) w := by
  unfold execOp
  simp only [ho, hx, Instr.loadAt, Instr.sureAddr, Sem.run_bind, Sem.run_pure, Result.andThen_ok, hl]
/-- A load of many cells. -/
theorem heldI_load (ho : nth l i = some o) (x : Operand) (t : TypeId) (hw : Region.wanted o (yielded l.toArray a.tmps) = true) (hop : o.op = .load t x) {ad : Addr} {v : Value} (hx : a.eval x = .pointer (some ad))
    (hl : ∀ w, S w → (loadVar t ad).run P w = .ok v w) (k : heldI P l Q S L r (a.put o.dst v) w) : heldI P l Q S L ((false, i) :: r) a w :=
  heldI_take ho v hw (fun w hS => run_load_op x t hop hx (hl w hS)) k
theorem heldI_pass (ho : nth l i = some o) (hw : Region.wanted o (yielded l.toArray a.tmps) = false) (hS : S w)
    (k : heldI P l Q S L r (a.put o.dst undef) w) : heldI P l Q S L ((true, i) :: r) a w := ⟨o, ho, fun K' hK => by
  rw [if_neg (by rw [hw]; simp)]
  exact hK _ _ hS k⟩
theorem heldI_act (ho : nth l i = some o) (hw : Region.wanted o (yielded l.toArray a.tmps) = true)
    (h : ∀ K' : Act → World → Prop, Shut (∀ a' w', S w' → heldI P l Q S L r a' w' → K' a' w') → Oper.wp P o a w K' Q) : heldI P l Q S L ((true, i) :: r) a w := ⟨o, ho, fun K' hK => by
  rw [if_pos hw]
  exact h K' hK⟩
/-- May they come up so? Which have come up behind them. -/
def checkI (md : Region.Mode) (ops : Array Oper) : List (Bool × Nat) → Array Bool → Option (Array Bool)
  | [], listed => some listed
  | (false, i) :: r, listed => if (Region.ready md ops listed).contains i && Region.free md ops listed i then checkI md ops r (listed.setIfInBounds i true) else none
  | (true, i) :: r, listed => if Region.ready md ops listed = [i] then checkI md ops r (listed.setIfInBounds i true) else none
theorem wpAnyH_I {fuel : Nat} (hs : Region.noSelect l.toArray = true) (hQ : ∀ c d v a w, Q (.panic c) (Act.put a d v) w → Q (.panic c) a w) {listed' : Array Bool} (hL : ∀ a w, S w → L a w → wpAnyH P md l.toArray Q S fuel listed' a w)
    (is : List (Bool × Nat)) : ∀ (listed : Array Bool) (a : Act) (w : World), checkI md l.toArray is listed = some listed' → S w →
    heldI P l Q S L is a w → wpAnyH P md l.toArray Q S (is.length + fuel) listed a w := by
  induction is with
  | nil =>
    intro listed a w hB hS h
    simp only [checkI, Option.some.injEq] at hB
    subst hB
    simpa using hL a w hS h
  | cons x is ih =>
    intro listed a w hB hS h
    have e : (x :: is).length + fuel = (is.length + fuel) + 1 := by simp; omega
    rw [e]
    obtain ⟨b, i⟩ := x
    cases b with
    | false =>
      obtain ⟨o, v, h0, hy, hk⟩ := h
      rw [nth_eq] at h0
      simp only [checkI] at hB
      split at hB
      · rename_i hc
        simp only [Bool.and_eq_true] at hc
        exact wpAnyH_take h0 hs hc.2 hc.1 (fun c a w => hQ c _ _ a w) hy hS (ih _ _ _ hB hS hk)
      · cases hB
    | true =>
      obtain ⟨o, h0, h⟩ := h
      rw [nth_eq] at h0
      simp only [checkI] at hB
      split at hB
      · rename_i hr
        refine wpAnyH_ready (fuel := is.length + fuel) hr (by simp) (.cons h0 (fun K' hK => h K' fun a' w' hS' hr' => ?_) .nil)
        exact hK.out a' w' hS' fun _ => ih _ a' w' hB hS' hr'
      · cases hB
/-- To the region's end. -/
theorem wpAnyH_end {fuel : Nat} {listed : Array Bool} (is : List (Bool × Nat)) (hB : (Region.noSelect l.toArray && decide (is.length ≤ fuel) && (checkI md l.toArray is listed).any fun x => (Region.ready md l.toArray x).isEmpty) = true) (hS : S w)
    (h : heldI P l (NoPanic Q) S (fun a w => Q .normal a w) is a w) : wpAnyH P md l.toArray (NoPanic Q) S fuel listed a w := by
  simp only [Bool.and_eq_true, decide_eq_true_eq, Option.any_eq_true] at hB
  obtain ⟨⟨h1, h2⟩, x, hx, h3⟩ := hB
  have := wpAnyH_I (P := P) (l := l) (Q := NoPanic Q) (md := md) (S := S) (fuel := fuel - is.length) h1 (fun _ _ _ _ _ h => h) (listed' := x)
    (L := fun a w => Q .normal a w) (fun a w _ hq => wpAnyH_done (by simpa [List.isEmpty_iff] using h3) (NoPanic.normal hq) _) is listed a w hx hS h
  rwa [show is.length + (fuel - is.length) = fuel by omega] at this
/-- Up to a place where several may come up. -/
theorem wpAnyH_part {fuel : Nat} {listed : Array Bool} (is : List (Bool × Nat)) (hB : (Region.noSelect l.toArray && decide (is.length ≤ fuel) && (checkI md l.toArray is listed).isSome) = true) (hS : S w)
    (h : heldI P l (NoPanic Q) S (fun a w => wpAnyH P md l.toArray (NoPanic Q) S (fuel - is.length) ((checkI md l.toArray is listed).getD #[]) a w) is a w) : wpAnyH P md l.toArray (NoPanic Q) S fuel listed a w := by
  simp only [Bool.and_eq_true, decide_eq_true_eq, Option.isSome_iff_exists] at hB
  obtain ⟨⟨h1, h2⟩, x, hx⟩ := hB
  rw [hx] at h
  have := wpAnyH_I (P := P) (l := l) (Q := NoPanic Q) (md := md) (S := S) (fuel := fuel - is.length) h1 (fun _ _ _ _ _ h => h) (listed' := x)
    (L := fun a w => wpAnyH P md l.toArray (NoPanic Q) S (fuel - is.length) x a w) (fun a w _ hq => hq) is listed a w hx hS h
  rwa [show is.length + (fuel - is.length) = fuel by omega] at this
theorem wp_region_start {id : Nat} (S : World → Prop) (hm : P.follows .mixedOrders = true) (hS : S w.drew)
    (h : wpAnyH P .any l.toArray (NoPanic Q) S l.length (Array.replicate l.length false) a w.drew) : (Code.region id l.toArray true).wp P Q a w :=
  wp_region_noPanic (wp_region_held_drew (S := S) hm hS fun _ => by simpa using h)
/-- A region in an order of ours, from its head to its end. -/
theorem wp_region_I {id : Nat} (is : List (Bool × Nat)) (S : World → Prop) (hm : P.follows .mixedOrders = true) (hB : (Region.noSelect l.toArray && decide (is.length ≤ l.length) && (checkI .any l.toArray is (Array.replicate l.length false)).any fun x => (Region.ready .any l.toArray x).isEmpty) = true)
    (hS : S w.drew) (h : heldI P l (NoPanic Q) S (fun a w => Q .normal a w) is a w.drew) : (Code.region id l.toArray true).wp P Q a w :=
  wp_region_start S hm hS (wpAnyH_end is hB hS h)
/-- One of several that may come up. -/
theorem ready_cons {fuel : Nat} {listed : Array Bool} {rs : List Nat} (ho : nth l i = some o) (hw : Region.wanted o (yielded l.toArray a.tmps) = true)
    (h : ∀ K' : Act → World → Prop, Shut (∀ a w, S w → wpAnyH P md l.toArray Q S fuel (listed.setIfInBounds i true) a w → K' a w) → Oper.wp P o a w K' Q)
    (hs : AllReadyH P md l.toArray Q S fuel listed a w rs) : AllReadyH P md l.toArray Q S fuel listed a w (i :: rs) := by
  rw [nth_eq] at ho
  refine .cons ho (fun K' hK => ?_) hs
  rw [if_pos hw]
  exact h K' fun a w hS hr => hK.out a w hS fun _ => hr
/-- The same where a panic may come out of the region: the post says nothing of the temporaries behind one. -/
theorem wp_region_P {id : Nat} (is : List (Bool × Nat)) (S : World → Prop) (hm : P.follows .mixedOrders = true) (hB : (Region.noSelect l.toArray && decide (is.length = l.length) && (checkI .any l.toArray is (Array.replicate l.length false)).any fun x => (Region.ready .any l.toArray x).isEmpty) = true)
    (hQ : ∀ c d v a w, Q (.panic c) (Act.put a d v) w → Q (.panic c) a w)
    (hS : S w.drew) (h : heldI P l Q S (fun a w => Q .normal a w) is a w.drew) : (Code.region id l.toArray true).wp P Q a w := by
  simp only [Bool.and_eq_true, decide_eq_true_eq, Option.any_eq_true] at hB
  obtain ⟨⟨h1, h2⟩, x, hx, h3⟩ := hB
  refine wp_region_held_drew (S := S) hm hS fun _ => ?_
  have := wpAnyH_I (P := P) (l := l) (Q := Q) (md := .any) (S := S) (fuel := 0) h1 hQ (listed' := x)
    (L := fun a w => Q .normal a w) (fun a w _ hq => wpAnyH_done (by simpa [List.isEmpty_iff] using h3) hq _) is (Array.replicate l.length false) a w.drew hx hS h
  rw [h2] at this
  simpa using this
/-- copy into a row that is known whole, as one operation. -/
theorem op_copy {K : Act → World → Prop} (hgd : o.guard = none) (d s : Operand) (dT sT : TypeId)
    (ho : o.op = .call { callee := .builtin .copy, args := #[d, s], argTypes := #[dT, sT] }) (elem : TypeId) (hu : P.underlying dT = some (.slice elem)) (hsz : (P.info? elem).map (·.size) = some 1)
    (dp sp : Option Addr) (dLen dCap sLen sCap : Nat) (hd : a.eval d = .slice dp dLen dCap) (hs : a.eval s = .slice sp sLen sCap)
    (g off : Nat) (cur : List Value) (t : TypeId) (hg : w.heap[g]? = some (.cells cur.toArray t (0, 0))) (cs : List Value) (hn : cs.length = Nat.min sLen dLen)
    (hpos : 0 < cs.length → dp = some ⟨g, off, none⟩ ∧ ∃ ad, sp = some ad ∧ ∀ j v, cs[j]? = some v → w.cell? (ad.add j) = some v)
    (hfit : off + cs.length ≤ cur.length) (h1 : ∀ v ∈ cs, v.oneCell' = true)
    (h : ∀ w', w'.heap[g]? = some (.cells (splice cur off cs).toArray t (0, 0)) → Below g w w' → w'.heap.size = w.heap.size → (∀ k, k ≠ g → w'.heap[k]? = w.heap[k]?) → K (a.put o.dst (goInt cs.length)) w') : Oper.wp P o a w K Q := by
  by_cases h0 : cs.length = 0
  · obtain rfl : cs = [] := List.eq_nil_of_length_eq_zero h0
    have hrun := run_copy_none (P := P) w dT sT o.type elem dp sp dLen dCap sLen sCap hu hsz (by simpa using hn.symm)
    unfold Oper.wp
    simp [execOp, ho, resolve, invoke, builtin, hd, hs, hrun, Result.andThen]
    exact h w (by simpa [splice] using hg) (Below.refl _ _) rfl (fun _ _ => rfl)
  · obtain ⟨rfl, ad, rfl, hsrc⟩ := hpos (by omega)
    have hrun := run_copy_row (P := P) w dT sT o.type elem g off dLen dCap ad sLen sCap cur.toArray t cs hu hsz hg hn hsrc (by simpa using hfit) h1
    unfold Oper.wp
    simp [execOp, ho, resolve, invoke, builtin, hd, hs, hrun, Result.andThen]
    exact h _ (by simpa [splice] using setRow_heap w g _ _ t _ hg) (below_setRow (Below.refl _ _) (Nat.le_refl _) _) (by simp [World.setRow]) (fun k hk => setRow_other w g k _ hk)
/-- To the region's end, with whatever post that says nothing of the temporaries behind a panic. -/
theorem wpAnyH_endQ {fuel : Nat} {listed : Array Bool} (is : List (Bool × Nat)) (hB : (Region.noSelect l.toArray && decide (is.length ≤ fuel) && (checkI md l.toArray is listed).any fun x => (Region.ready md l.toArray x).isEmpty) = true) (hQ : ∀ c d v a w, Q (.panic c) (Act.put a d v) w → Q (.panic c) a w) (hS : S w)
    (h : heldI P l Q S (fun a w => Q .normal a w) is a w) : wpAnyH P md l.toArray Q S fuel listed a w := by
  simp only [Bool.and_eq_true, decide_eq_true_eq, Option.any_eq_true] at hB
  obtain ⟨⟨h1, h2⟩, x, hx, h3⟩ := hB
  have := wpAnyH_I (P := P) (l := l) (Q := Q) (md := md) (S := S) (fuel := fuel - is.length) h1 hQ (listed' := x)
    (L := fun a w => Q .normal a w) (fun a w _ hq => wpAnyH_done (by simpa [List.isEmpty_iff] using h3) hq _) is listed a w hx hS h
  rwa [show is.length + (fuel - is.length) = fuel by omega] at this
theorem wpAnyH_partQ {fuel : Nat} {listed : Array Bool} (is : List (Bool × Nat)) (hB : (Region.noSelect l.toArray && decide (is.length ≤ fuel) && (checkI md l.toArray is listed).isSome) = true) (hQ : ∀ c d v a w, Q (.panic c) (Act.put a d v) w → Q (.panic c) a w) (hS : S w)
    (h : heldI P l Q S (fun a w => wpAnyH P md l.toArray Q S (fuel - is.length) ((checkI md l.toArray is listed).getD #[]) a w) is a w) : wpAnyH P md l.toArray Q S fuel listed a w := by
  simp only [Bool.and_eq_true, decide_eq_true_eq, Option.isSome_iff_exists] at hB
  obtain ⟨⟨h1, h2⟩, x, hx⟩ := hB
  rw [hx] at h
  have := wpAnyH_I (P := P) (l := l) (Q := Q) (md := md) (S := S) (fuel := fuel - is.length) h1 hQ (listed' := x)
    (L := fun a w => wpAnyH P md l.toArray Q S (fuel - is.length) x a w) (fun a w _ hq => hq) is listed a w hx hS h
  rwa [show is.length + (fuel - is.length) = fuel by omega] at this
theorem wp_region_startQ {id : Nat} (S : World → Prop) (hm : P.follows .mixedOrders = true) (hS : S w.drew)
    (h : wpAnyH P .any l.toArray Q S l.length (Array.replicate l.length false) a w.drew) : (Code.region id l.toArray true).wp P Q a w :=
  wp_region_held_drew (S := S) hm hS fun _ => by simpa using h
theorem op_load {K : Act → World → Prop} (x : Operand) (t : TypeId) (ho : o.op = .load t x) {ad : Addr} {v : Value} (hx : a.eval x = .pointer (some ad)) (hl : (loadVar t ad).run P w = .ok v w) (h : K (a.put o.dst v) w) : Oper.wp P o a w K Q := by
  unfold Oper.wp
  rw [run_load_op x t ho hx hl]
  exact h
end
end Go.Proofs.YtaijompnohkmaaaGreatDoor
/- Layer 2 (sum): what each function of the code computes. -/
namespace Go.Proofs.YtaijompnohkmaaaGreatDoor
open Go.RowKit SumP
/-- The table lies where it lies. -/
def TabAt (w : World) : Prop := ∀ x : BitVec 32, x.toNat < 16 → w.cell? ⟨1, x.toNat, none⟩ = some (.int .u32 (toI (tab x)))
theorem TabAt.below {B : Nat} {w w' : World} (h : TabAt w) (hb : Below B w w') (hB : 1 < B) : TabAt w' :=
  fun x hx => (hb.cell (p := ⟨1, x.toNat, none⟩) hB).trans (h x hx)
set_option maxHeartbeats 400000 in
theorem half_raw (s v q t : Int) (w : World) (h0 : 0 ≤ s) (h1 : s < 4294967296) (hq : bits .and .u32 s 15 = q) (hq0 : 0 ≤ q) (hq1 : q < 16)
    (ht : w.cell? ⟨1, q.toNat, none⟩ = some (.int .u32 t)) (hv : bits .xor .u32 (s / 16) t = v) :
    Calls Tryz.prog 172 #[.int .u32 s] w fun e w' => e = .returned (.int .u32 v) ∧ w = w' := by
  go_enter Tryz.func172, Tryz.ntmps172
  go_wp2
  go_ret
  exact ⟨rfl, rfl⟩
theorem half_any (x : BitVec 32) (w : World) (ht : TabAt w) :
    Calls Tryz.prog 172 #[.int .u32 (toI x)] w fun e w' => e = .returned (.int .u32 (toI (half x))) ∧ w = w' := by
  have hx := toI_hi x
  have h15 := and15_lt x
  refine half_raw (toI x) _ (toI (x &&& 15#32)) (toI (tab (x &&& 15#32))) w (toI_lo x) hx ?_ (toI_lo _) (by unfold toI; omega) ?_ ?_
  · exact bits_and x 15#32
  · exact ht (x &&& 15#32) h15
  · rw [shr4, bits_xor]; rfl
theorem more_snoc (s : BitVec 32) (l : List UInt8) (b : UInt8) : (l ++ [b]).foldl step1 s = half (half (l.foldl step1 s ^^^ byte b)) := by
  rw [List.foldl_append]; rfl
theorem u32_u8 (b : UInt8) : (b.toNat : Int) % 4294967296 = toI (byte b) := by
  have := b.toNat_lt; unfold toI; rw [byte_toNat]; omega
set_option maxHeartbeats 400000 in
theorem more_any (s : BitVec 32) (v : Value) (bs : List UInt8) (w : World) (B : Nat) (ht : TabAt w) (hr : Bytes B w v bs) :
    Calls Tryz.prog 152 #[.int .u32 (toI s), v] w fun e w' => e = .returned (.int .u32 (toI (more s bs))) ∧ w = w' := by
  obtain ⟨_, a, cap, rfl, hnc, hcap, hcells⟩ := hr
  unfold maxLen at hcap
  obtain ⟨S0, hS0⟩ : ∃ S0, S0 = ~~~ s := ⟨_, rfl⟩
  have hn0 := not_eq s
  rw [← hS0] at hn0
  have HM : Hid (more s bs = ~~~ (bs.foldl step1 S0)) := by rw [hS0]; exact rfl
  clear hS0
  have sgn : IntKind.u32.signed = false := rfl
  go_enter Tryz.func152, Tryz.ntmps152
  go_wp2
  clear hn0
  go_loop [5, 12] (fun t i => ∃ k : Nat, k ≤ bs.length ∧ i = .int .i64 k ∧ t = .int .u32 (toI ((bs.take k).foldl step1 S0))) (fun _ i => bs.length - (intOf i).toNat)
  case atStart => exact ⟨0, Nat.zero_le _, rfl, rfl⟩
  case round =>
    obtain ⟨k, hk, rfl, rfl⟩ := hrel
    by_cases hlt : k < bs.length
    · obtain ⟨b, off, rfl, hB, hc⟩ := hcells (by omega)
      have hcell := hc k _ (u8s_at hlt)
      obtain ⟨S, hS⟩ : ∃ S, S = (bs.take k).foldl step1 S0 := ⟨_, rfl⟩
      obtain ⟨X, hX⟩ : ∃ X, X = S ^^^ byte bs[k] := ⟨_, rfl⟩
      have hx := bits_xor S (byte bs[k])
      rw [← hX] at hx
      have hz := u32_u8 bs[k]
      have HS : Hid ((bs.take (k + 1)).foldl step1 S0 = half (half X)) := by
        rw [hX, hS, ← more_snoc, ← List.take_succ_eq_append_getElem hlt]; exact rfl
      rw [← hS]
      clear hS hc hcells hX
      go_wp2_with (go_at_call 172; ((with_reducible refine (half_any _ _ ht).mono ?_); rintro e w' ⟨rfl, rfl⟩))
      all_goals
        go_round
        case rel => exact ⟨k + 1, by omega, by go_num, by rw [HS.out]⟩
        case measure => simp [intOf]; omega
    · have hke : k = bs.length := by omega
      subst hke
      rw [List.take_length]
      have hn1 := not_eq (bs.foldl step1 S0)
      go_wp2
      go_ret
      exact ⟨ret_int (by rw [HM.out]), rfl⟩
theorem toI_0 : toI 0#32 = 0 := by decide
theorem more0_any (v : Value) (bs : List UInt8) (w : World) (B : Nat) (ht : TabAt w) (hr : Bytes B w v bs) :
    Calls Tryz.prog 152 #[.int .u32 0, v] w fun e w' => e = .returned (.int .u32 (toI (more 0#32 bs))) ∧ w = w' := by
  have h := more_any 0#32 v bs w B ht hr
  rwa [toI_0] at h
set_option maxHeartbeats 400000 in
theorem sum_any (v : Value) (bs : List UInt8) (w : World) (B : Nat) (ht : TabAt w) (hr : Bytes B w v bs) :
    Calls Tryz.prog 133 #[v] w fun e w' => e = .returned (.int .u32 (toI (sum bs))) ∧ w = w' := by
  go_enter Tryz.func133, Tryz.ntmps133
  go_wp2_with (go_at_call 152; ((with_reducible refine (more0_any _ bs _ B ht hr).mono ?_); rintro e w' ⟨rfl, rfl⟩))
  go_ret
  exact ⟨rfl, rfl⟩
theorem bit_snoc (k : Nat) (s : BitVec 32) : bitN (k + 1) s = bit (bitN k s) := by
  rw [← bitN_add k 1]; rfl
theorem low_bit (s : BitVec 32) : bits .and .u32 (toI s) 1 = (if s.getLsbD 0 = true then 1 else 0) := by
  have h : (1 : Int) = toI 1#32 := by decide
  have e : (s &&& 1#32).toNat = s.toNat % 2 := by rw [BitVec.toNat_and]; exact Nat.and_one_is_mod _
  have e2 : s.getLsbD 0 = decide (s.toNat % 2 = 1) := by rw [← BitVec.testBit_toNat, Nat.testBit_zero]
  conv => lhs; rw [h]
  rw [bits_and, e2]; unfold toI; rw [e]
  by_cases h1 : s.toNat % 2 = 1
  · simp [h1]
  · simp [h1]; omega
set_option maxHeartbeats 1000000 in
theorem refMore_any (s : BitVec 32) (v : Value) (bs : List UInt8) (w : World) (B : Nat) (hr : Bytes B w v bs) :
    Calls Tryz.prog 155 #[.int .u32 (toI s), v] w fun e w' => e = .returned (.int .u32 (toI (more s bs))) ∧ w = w' := by
  obtain ⟨_, a, cap, rfl, hnc, hcap, hcells⟩ := hr
  unfold maxLen at hcap
  obtain ⟨S0, hS0⟩ : ∃ S0, S0 = ~~~ s := ⟨_, rfl⟩
  have hn0 := not_eq s
  rw [← hS0] at hn0
  have HM : Hid (more s bs = ~~~ (bs.foldl step1 S0)) := by rw [hS0]; exact rfl
  clear hS0
  have sgn : IntKind.u32.signed = false := rfl
  go_enter Tryz.func155, Tryz.ntmps155
  go_wp2
  clear hn0
  go_loop [5, 6] (fun t i => ∃ k : Nat, k ≤ bs.length ∧ i = .int .i64 k ∧ t = .int .u32 (toI ((bs.take k).foldl step1 S0))) (fun _ i => bs.length - (intOf i).toNat)
  case atStart => exact ⟨0, Nat.zero_le _, rfl, rfl⟩
  case round =>
    obtain ⟨k, hk, rfl, rfl⟩ := hrel
    by_cases hlt : k < bs.length
    · obtain ⟨b, off, rfl, hB, hc⟩ := hcells (by omega)
      have hcell := hc k _ (u8s_at hlt)
      obtain ⟨S, hS⟩ : ∃ S, S = (bs.take k).foldl step1 S0 := ⟨_, rfl⟩
      obtain ⟨X, hX⟩ : ∃ X, X = S ^^^ byte bs[k] := ⟨_, rfl⟩
      have hx := bits_xor S (byte bs[k])
      rw [← hX] at hx
      have hz := u32_u8 bs[k]
      have HS : Hid ((bs.take (k + 1)).foldl step1 S0 = bitN 8 X) := by
        rw [hX, hS, List.take_succ_eq_append_getElem hlt, List.foldl_append, List.foldl_cons, List.foldl_nil, step1_eq]; exact rfl
      rw [← hS]
      clear hS hc hcells hX
      go_wp2
      clear hx hz hcell
      go_loop [5, 7] (fun t i => ∃ j : Nat, j ≤ 8 ∧ i = .int .i64 j ∧ t = .int .u32 (toI (bitN j X))) (fun _ i => 8 - (intOf i).toNat)
      case atStart => exact ⟨0, Nat.zero_le _, rfl, rfl⟩
      case round =>
        obtain ⟨j, hj, rfl, rfl⟩ := hrel
        by_cases hjl : j < 8
        · obtain ⟨Y, hY⟩ : ∃ Y, Y = bitN j X := ⟨_, rfl⟩
          have HY : Hid (bitN (j + 1) X = bit Y) := by rw [hY, bit_snoc]; exact rfl
          rw [← hY]
          clear hY
          have hl := low_bit Y
          have hs := shr1 Y
          have hlo := toI_lo Y
          obtain ⟨Z, hZ⟩ : ∃ Z, Z = (Y >>> 1) ^^^ 0xedb88320#32 := ⟨_, rfl⟩
          have hp := bits_xor (Y >>> 1) 0xedb88320#32
          rw [show toI 0xedb88320#32 = 3988292384 by decide, ← hZ] at hp
          obtain ⟨V, hV⟩ : ∃ V, V = Y >>> 1 := ⟨_, rfl⟩
          rw [← hV] at hp hs
          have HB : Hid (bit Y = if Y.getLsbD 0 = true then Z else V) := by
            unfold bit; rw [hZ, hV]; cases Y.getLsbD 0 <;> simp <;> exact trivial
          clear hZ hV
          cases hg : Y.getLsbD 0 with
          | true =>
            rw [hg, if_pos rfl] at hl
            have HB' : Hid (bit Y = Z) := by rw [HB.out, hg, if_pos rfl]; exact rfl
            clear HB hg
            go_wp2
            all_goals
              go_round
              case rel => exact ⟨j + 1, by omega, by go_num, by rw [HY.out, HB'.out]⟩
              case measure => simp [intOf]; omega
          | false =>
            rw [hg, if_neg (by decide)] at hl
            have HB' : Hid (bit Y = V) := by rw [HB.out, hg, if_neg (by decide)]; exact rfl
            clear HB hg
            go_wp2
            all_goals
              go_round
              case rel => exact ⟨j + 1, by omega, by go_num, by rw [HY.out, HB'.out]⟩
              case measure => simp [intOf]; omega
        · have hje : j = 8 := by omega
          subst hje
          go_wp2
          all_goals
            go_round
            case rel => exact ⟨k + 1, by omega, by go_num, by rw [HS.out]⟩
            case measure => simp [intOf]; omega
    · have hke : k = bs.length := by omega
      subst hke
      rw [List.take_length]
      have hn1 := not_eq (bs.foldl step1 S0)
      go_wp2
      go_ret
      exact ⟨ret_int (by rw [HM.out]), rfl⟩
theorem refMore0_any (v : Value) (bs : List UInt8) (w : World) (B : Nat) (hr : Bytes B w v bs) :
    Calls Tryz.prog 155 #[.int .u32 0, v] w fun e w' => e = .returned (.int .u32 (toI (more 0#32 bs))) ∧ w = w' := by
  have h := refMore_any 0#32 v bs w B hr
  rwa [toI_0] at h
theorem refSum_any (v : Value) (bs : List UInt8) (w : World) (B : Nat) (hr : Bytes B w v bs) :
    Calls Tryz.prog 138 #[v] w fun e w' => e = .returned (.int .u32 (toI (sum bs))) ∧ w = w' := by
  go_enter Tryz.func138, Tryz.ntmps138
  go_wp2_with (go_at_call 155; ((with_reducible refine (refMore0_any _ bs _ B hr).mono ?_); rintro e w' ⟨rfl, rfl⟩))
  go_ret
  exact ⟨rfl, rfl⟩
end Go.Proofs.YtaijompnohkmaaaGreatDoor
/- Layer 5 (wal): the small functions of the code. -/
namespace Go.Proofs.YtaijompnohkmaaaGreatDoor
open Go.RowKit WalP
set_option maxRecDepth 100000 in
theorem takes_any (n : Int) (w : World) : Calls Tryz.prog 104 #[.int .i64 n] w fun e w' => e = .returned (.int .i64 (takesZ n)) ∧ w = w' := by
  by_cases h1 : n < 1
  · have hf : takesZ n = 0 := by unfold takesZ; rw [if_pos (.inl h1)]
    have t0 : decide (n < 1) = true := by simp; omega
    rw [hf]
    clear hf h1
    go_enter Tryz.func104, Tryz.ntmps104
    go_wp2
    go_ret
    exact ⟨rfl, rfl⟩
  · have t0 : decide (n < 1) = false := by simp; omega
    by_cases h2 : 6000 < n
    · have hf : takesZ n = 0 := by unfold takesZ; rw [if_pos (.inr h2)]
      have t1 : decide (6000 < n) = true := by simp; omega
      rw [hf]
      clear hf h1 h2
      go_enter Tryz.func104, Tryz.ntmps104
      go_wp2
      go_ret
      exact ⟨rfl, rfl⟩
    · have t1 : decide (6000 < n) = false := by simp; omega
      have hf : takesZ n = 1 + (n + 63) / 64 := by unfold takesZ; rw [if_neg (by omega)]
      have HF := Lib.hid hf
      clear hf
      go_enter Tryz.func104, Tryz.ntmps104
      go_wp2
      go_ret
      refine ⟨ret_int ?_, rfl⟩
      rw [HF.out]
      omega
set_option maxRecDepth 100000 in
theorem walHalf_any {B : Nat} (v : Value) (d : DiskP) (w : World) (h : DiskV B w v d) :
    Calls Tryz.prog 96 #[v] w fun e w' => e = .returned (.int .i64 (half d : Nat)) ∧ Below w.heap.size w w' := by
  obtain ⟨a1, n1, a2, n2, rfl, hs, hl⟩ := h.parts
  have hcs := hs.2
  obtain ⟨_, _, _, hv, hnc, hcap1, _⟩ := hcs
  cases hv
  unfold maxLen at hcap1
  have hb : Below w.heap.size w (w.alloc (.cells #[.slice a1 d.secs.length n1, .slice a2 d.loose.length n2, .int .i64 d.fuse, .bool d.down] 38)) := Below.alloc (Below.refl _ _) (Nat.le_refl _) _
  obtain ⟨L, hL⟩ : ∃ L, L = d.secs.length := ⟨_, rfl⟩
  have hh : half d = L / 2 := by unfold half; rw [hL]
  rw [hh]
  rw [← hL] at hb hnc ⊢
  have HL := Lib.hid hL
  clear hL hh hs hl h
  go_enter Tryz.func96, Tryz.ntmps96
  go_wp2
  go_ret
  exact ⟨ret_int (by omega), hb⟩
/-- A log as a value. -/
def logV (l : LogP) : Value := .agg #[.int .i64 l.half, .int .i64 l.gen, .int .i64 l.used, .int .i64 l.count]
end Go.Proofs.YtaijompnohkmaaaGreatDoor
/- A number without its lowest bit. -/
namespace Go.Proofs.YtaijompnohkmaaaGreatDoor
open Go.RowKit
theorem andNot1 (x : BitVec 64) : x &&& ~~~1#64 = (x >>> 1) <<< 1 := by
  apply BitVec.eq_of_getLsbD_eq
  intro i hi
  simp only [BitVec.getLsbD_and, BitVec.getLsbD_not, BitVec.getLsbD_shiftLeft, BitVec.getLsbD_ushiftRight, BitVec.getLsbD_one, hi, decide_true, Bool.true_and]
  by_cases h0 : i = 0
  · subst h0; simp
  · have e : 1 + (i - 1) = i := by omega
    simp [h0, e]
theorem half_bit (h : Int) (h0 : -9223372036854775808 ≤ h) (h1 : h ≤ 9223372036854775807) : (bits .andNot .i64 h 1 == 0) = (decide (h = 0) || decide (h = 1)) := by
  have e1 : BitVec.ofInt 64 1 = 1#64 := by decide
  simp only [bits, IntKind.bits, e1, andNot1]
  have ex : (BitVec.ofInt 64 h).toNat = (h % 18446744073709551616).toNat := by simp [BitVec.toNat_ofInt]
  have e2 : (((BitVec.ofInt 64 h) >>> 1) <<< 1).toNat = (h % 18446744073709551616).toNat / 2 * 2 := by
    rw [BitVec.toNat_shiftLeft, BitVec.toNat_ushiftRight, ex, Nat.shiftRight_eq_div_pow, Nat.shiftLeft_eq]
    omega
  have e3 : ∀ x : Nat, x = (((BitVec.ofInt 64 h) >>> 1) <<< 1).toNat → (IntKind.i64.wrap (x : Int) == 0) = (decide (h = 0) || decide (h = 1)) := by
    intro x hx
    rw [e2] at hx
    subst hx
    simp only [IntKind.wrap, IntKind.bits, IntKind.signed]
    rw [Bool.eq_iff_iff]
    simp
    omega
  exact e3 _ (congrArg BitVec.toNat (andNot1 (BitVec.ofInt 64 h)))
end Go.Proofs.YtaijompnohkmaaaGreatDoor
/- Layer 5 (wal): Right and Room. -/
namespace Go.Proofs.YtaijompnohkmaaaGreatDoor
open Go.RowKit WalP
/-- The boxes of a disk and of a log, behind one another. -/
def boxes (w : World) (A : Array Value) (l : LogP) : World := (w.alloc (.cells A 38)).alloc (.cells #[.int .i64 l.half, .int .i64 l.gen, .int .i64 l.used, .int .i64 l.count] 41)
theorem boxes_below (w : World) (A : Array Value) (l : LogP) : Below w.heap.size w (boxes w A l) := Below.alloc (Below.alloc (Below.refl _ _) (Nat.le_refl _) _) (by simp) _
theorem boxes_cells {w w' : World} {A : Array Value} {l : LogP} (hb : Below (boxes w A l).heap.size (boxes w A l) w') : w'.heap[w.heap.size]? = some (.cells A 38 (0, 0)) ∧
    w'.heap[w.heap.size + 1]? = some (.cells #[.int .i64 l.half, .int .i64 l.gen, .int .i64 l.used, .int .i64 l.count] 41 (0, 0)) := by
  have e : (boxes w A l).heap.size = w.heap.size + 2 := by simp [boxes]
  exact ⟨(hb.block _ (by omega)).trans (heap_alloc2_old w _ _), (hb.block _ (by omega)).trans (heap_alloc2_new w _ _)⟩
set_option maxRecDepth 100000 in
set_option maxHeartbeats 1000000 in
theorem walRight_any {B : Nat} (v : Value) (d : DiskP) (l : LogP) (w : World) (h : DiskV B w v d) (hl0 : -9223372036854775808 ≤ l.half ∧ l.half ≤ 9223372036854775807) :
    Calls Tryz.prog 67 #[v, logV l] w fun e w' => e = .returned (.bool (rightL d l)) ∧ Below w.heap.size w w' := by
  obtain ⟨a1, n1, a2, n2, rfl, hs, hl⟩ := h.tight.parts
  have hbit := half_bit l.half hl0.1 hl0.2
  obtain ⟨w2, hw2⟩ : ∃ w2, w2 = boxes w #[.slice a1 d.secs.length n1, .slice a2 d.loose.length n2, .int .i64 d.fuse, .bool d.down] l := ⟨_, rfl⟩
  have hdv : DiskV w.heap.size w (.agg #[.slice a1 d.secs.length n1, .slice a2 d.loose.length n2, .int .i64 d.fuse, .bool d.down]) d := ⟨_, _, rfl, hs, hl⟩
  have hb2 : Below w.heap.size w w2 := by rw [hw2]; exact boxes_below w _ l
  have hD : ∀ w', Below w2.heap.size w2 w' → DiskV w2.heap.size w' (.agg #[.slice a1 d.secs.length n1, .slice a2 d.loose.length n2, .int .i64 d.fuse, .bool d.down]) d := fun w' hb => (hdv.below hb2).tight.below hb
  have hC : ∀ w', Below w2.heap.size w2 w' → _ := fun w' hb => boxes_cells (w := w) (w' := w') (l := l) (by rw [← hw2]; exact hb)
  have hA0 : ∀ w', Below w2.heap.size w2 w' → _ := fun w' hb => cell_of_row w' _ 0 _ _ _ (hC w' hb).1
  have hA1 : ∀ w', Below w2.heap.size w2 w' → _ := fun w' hb => cell_of_row w' _ 1 _ _ _ (hC w' hb).1
  have hA2 : ∀ w', Below w2.heap.size w2 w' → _ := fun w' hb => cell_of_row w' _ 2 _ _ _ (hC w' hb).1
  have hA3 : ∀ w', Below w2.heap.size w2 w' → _ := fun w' hb => cell_of_row w' _ 3 _ _ _ (hC w' hb).1
  have hB0 : ∀ w', Below w2.heap.size w2 w' → _ := fun w' hb => cell_of_row w' _ 0 _ _ _ (hC w' hb).2
  have hB1 : ∀ w', Below w2.heap.size w2 w' → _ := fun w' hb => cell_of_row w' _ 1 _ _ _ (hC w' hb).2
  have hB2 : ∀ w', Below w2.heap.size w2 w' → _ := fun w' hb => cell_of_row w' _ 2 _ _ _ (hC w' hb).2
  have hB3 : ∀ w', Below w2.heap.size w2 w' → _ := fun w' hb => cell_of_row w' _ 3 _ _ _ (hC w' hb).2
  have hF : ∀ w', Below w2.heap.size w2 w' → Below w.heap.size w w' := fun w' hb => hb2.trans (hb.mono hb2.size)
  have HD := Lib.hid hD
  have HF := Lib.hid hF
  obtain ⟨R, hR⟩ : ∃ R, R = rightB d := ⟨_, rfl⟩
  have kR : ∀ w', Below w2.heap.size w2 w' → Calls Tryz.prog 90 #[.agg #[.slice a1 d.secs.length n1, .slice a2 d.loose.length n2, .int .i64 d.fuse, .bool d.down]] w' fun e w'' => e = .returned (.bool R) ∧ Below w2.heap.size w2 w'' :=
    fun w' hb => (right_any _ d w' (hD w' hb)).mono fun e w'' hx => ⟨by rw [hR]; exact hx.1, hb.trans (hx.2.mono hb.size)⟩
  have kH : ∀ w', Below w2.heap.size w2 w' → Calls Tryz.prog 96 #[.agg #[.slice a1 d.secs.length n1, .slice a2 d.loose.length n2, .int .i64 d.fuse, .bool d.down]] w' fun e w'' => e = .returned (.int .i64 (half d : Nat)) ∧ Below w2.heap.size w2 w'' :=
    fun w' hb => (walHalf_any _ d w' (hD w' hb)).mono fun e w'' hx => ⟨hx.1, hb.trans (hx.2.mono hb.size)⟩
  have KR := Lib.hid kR
  have KH := Lib.hid kH
  have HB := Lib.hid hbit
  have h00 : Below w2.heap.size w2 w2.drew := below_draws (Below.refl _ _) 1
  unfold boxes at hw2
  have HW := Lib.hid hw2
  clear hC hD hF kR kH hbit hdv hb2 hs hl h hl0 hw2
  unfold logV
  have hr : rightL d l = (R && (bits BinOp.andNot IntKind.i64 l.half 1 == 0) && decide (1 ≤ l.gen) && decide (l.gen ≤ 1099511627776) && decide (2 ≤ l.used) && decide (l.used ≤ (half d : Nat)) && decide (1 ≤ l.count) && decide (l.count ≤ l.used)) := by rw [HB.out, hR]; rfl
  obtain ⟨c1, h1⟩ : ∃ c, (bits BinOp.andNot IntKind.i64 l.half 1 == 0) = c := ⟨_, rfl⟩
  obtain ⟨c2, h2⟩ : ∃ c, decide (1 ≤ l.gen) = c := ⟨_, rfl⟩
  obtain ⟨c3, h3⟩ : ∃ c, decide (l.gen ≤ 1099511627776) = c := ⟨_, rfl⟩
  obtain ⟨c4, h4⟩ : ∃ c, decide (2 ≤ l.used) = c := ⟨_, rfl⟩
  obtain ⟨c5, h5⟩ : ∃ c, decide (l.used ≤ (half d : Nat)) = c := ⟨_, rfl⟩
  obtain ⟨c6, h6⟩ : ∃ c, decide (1 ≤ l.count) = c := ⟨_, rfl⟩
  obtain ⟨c7, h7⟩ : ∃ c, decide (l.count ≤ l.used) = c := ⟨_, rfl⟩
  rw [h1, h2, h3, h4, h5, h6, h7] at hr
  rw [hr]
  clear hr hR HB
  cases R with
  | false =>
    go_enter Tryz.func67, Tryz.ntmps67
    go_wp2_with fail
    rw [← HW.out]
    refine wp_region_I [(false, 0), (true, 1), (false, 2), (false, 3), (false, 4), (false, 5), (false, 6), (false, 7), (false, 8), (false, 9), (false, 10), (false, 11), (false, 12), (false, 13), (false, 14), (false, 15), (false, 16), (false, 17), (false, 18), (false, 19), (false, 20), (false, 21), (false, 22), (false, 23), (false, 24), (false, 25), (false, 26), (true, 27), (false, 28), (false, 29), (false, 30), (false, 31), (false, 32), (false, 33), (false, 34), (false, 35), (false, 36), (false, 37), (false, 38), (false, 39), (false, 40), (false, 41), (false, 42)] (fun w' => Below w2.heap.size w2 w') (by kernel_rfl) (by kernel_rfl) h00 ?_
    repeat (first | (refine heldI_skip rfl rfl ?_; simp only [Act.put, List.setIfInBounds_toArray, List.set_cons_zero, List.set_cons_succ]) | (refine heldI_take rfl ?_ rfl (fun w' hw' => ?_) ?_; rotate_left; (go_simp; first | done | with_reducible rfl); (try simp only [Act.put, List.setIfInBounds_toArray, List.set_cons_zero, List.set_cons_succ])))
    refine heldI_act rfl rfl fun K hK => ?_
    go_simp
    refine (KR.out _ ‹_›).mono ?_
    rintro e w5 ⟨rfl, hb5⟩
    refine hK.out _ _ hb5 ?_
    clear hK K h00
    repeat (first | (refine heldI_skip rfl rfl ?_; simp only [Act.put, List.setIfInBounds_toArray, List.set_cons_zero, List.set_cons_succ]) | (refine heldI_take rfl ?_ rfl (fun w' hw' => ?_) ?_; rotate_left; (go_simp; first | done | with_reducible rfl); (try simp only [Act.put, List.setIfInBounds_toArray, List.set_cons_zero, List.set_cons_succ])))
    refine heldI_pass rfl rfl hb5 ?_
    simp only [Act.put, List.setIfInBounds_toArray, List.set_cons_zero, List.set_cons_succ]
    repeat (first | (refine heldI_skip rfl rfl ?_; simp only [Act.put, List.setIfInBounds_toArray, List.set_cons_zero, List.set_cons_succ]) | (refine heldI_take rfl ?_ rfl (fun w' hw' => ?_) ?_; rotate_left; (go_simp; first | done | with_reducible rfl); (try simp only [Act.put, List.setIfInBounds_toArray, List.set_cons_zero, List.set_cons_succ])))
    refine heldI_nil ?_
    go_wp2_with fail
    go_ret
    exact ⟨rfl, HF.out _ hb5⟩
  | true =>
    cases c1 with
    | false =>
      go_enter Tryz.func67, Tryz.ntmps67
      go_wp2_with fail
      rw [← HW.out]
      refine wp_region_I [(false, 0), (true, 1), (false, 2), (false, 3), (false, 4), (false, 5), (false, 6), (false, 7), (false, 8), (false, 9), (false, 10), (false, 11), (false, 12), (false, 13), (false, 14), (false, 15), (false, 16), (false, 17), (false, 18), (false, 19), (false, 20), (false, 21), (false, 22), (false, 23), (false, 24), (false, 25), (false, 26), (true, 27), (false, 28), (false, 29), (false, 30), (false, 31), (false, 32), (false, 33), (false, 34), (false, 35), (false, 36), (false, 37), (false, 38), (false, 39), (false, 40), (false, 41), (false, 42)] (fun w' => Below w2.heap.size w2 w') (by kernel_rfl) (by kernel_rfl) h00 ?_
      repeat (first | (refine heldI_skip rfl rfl ?_; simp only [Act.put, List.setIfInBounds_toArray, List.set_cons_zero, List.set_cons_succ]) | (refine heldI_take rfl ?_ rfl (fun w' hw' => ?_) ?_; rotate_left; (go_simp; first | done | with_reducible rfl); (try simp only [Act.put, List.setIfInBounds_toArray, List.set_cons_zero, List.set_cons_succ])))
      refine heldI_act rfl rfl fun K hK => ?_
      go_simp
      refine (KR.out _ ‹_›).mono ?_
      rintro e w5 ⟨rfl, hb5⟩
      refine hK.out _ _ hb5 ?_
      clear hK K h00
      repeat (first | (refine heldI_skip rfl rfl ?_; simp only [Act.put, List.setIfInBounds_toArray, List.set_cons_zero, List.set_cons_succ]) | (refine heldI_take rfl ?_ rfl (fun w' hw' => ?_) ?_; rotate_left; (go_simp; first | done | with_reducible rfl); (try simp only [Act.put, List.setIfInBounds_toArray, List.set_cons_zero, List.set_cons_succ])))
      refine heldI_pass rfl rfl hb5 ?_
      simp only [Act.put, List.setIfInBounds_toArray, List.set_cons_zero, List.set_cons_succ]
      repeat (first | (refine heldI_skip rfl rfl ?_; simp only [Act.put, List.setIfInBounds_toArray, List.set_cons_zero, List.set_cons_succ]) | (refine heldI_take rfl ?_ rfl (fun w' hw' => ?_) ?_; rotate_left; (go_simp; first | done | with_reducible rfl); (try simp only [Act.put, List.setIfInBounds_toArray, List.set_cons_zero, List.set_cons_succ])))
      refine heldI_nil ?_
      go_wp2_with fail
      go_ret
      exact ⟨rfl, HF.out _ hb5⟩
    | true =>
      cases c2 with
      | false =>
        go_enter Tryz.func67, Tryz.ntmps67
        go_wp2_with fail
        rw [← HW.out]
        refine wp_region_I [(false, 0), (true, 1), (false, 2), (false, 3), (false, 4), (false, 5), (false, 6), (false, 7), (false, 8), (false, 9), (false, 10), (false, 11), (false, 12), (false, 13), (false, 14), (false, 15), (false, 16), (false, 17), (false, 18), (false, 19), (false, 20), (false, 21), (false, 22), (false, 23), (false, 24), (false, 25), (false, 26), (true, 27), (false, 28), (false, 29), (false, 30), (false, 31), (false, 32), (false, 33), (false, 34), (false, 35), (false, 36), (false, 37), (false, 38), (false, 39), (false, 40), (false, 41), (false, 42)] (fun w' => Below w2.heap.size w2 w') (by kernel_rfl) (by kernel_rfl) h00 ?_
        repeat (first | (refine heldI_skip rfl rfl ?_; simp only [Act.put, List.setIfInBounds_toArray, List.set_cons_zero, List.set_cons_succ]) | (refine heldI_take rfl ?_ rfl (fun w' hw' => ?_) ?_; rotate_left; (go_simp; first | done | with_reducible rfl); (try simp only [Act.put, List.setIfInBounds_toArray, List.set_cons_zero, List.set_cons_succ])))
        refine heldI_act rfl rfl fun K hK => ?_
        go_simp
        refine (KR.out _ ‹_›).mono ?_
        rintro e w5 ⟨rfl, hb5⟩
        refine hK.out _ _ hb5 ?_
        clear hK K h00
        repeat (first | (refine heldI_skip rfl rfl ?_; simp only [Act.put, List.setIfInBounds_toArray, List.set_cons_zero, List.set_cons_succ]) | (refine heldI_take rfl ?_ rfl (fun w' hw' => ?_) ?_; rotate_left; (go_simp; first | done | with_reducible rfl); (try simp only [Act.put, List.setIfInBounds_toArray, List.set_cons_zero, List.set_cons_succ])))
        refine heldI_pass rfl rfl hb5 ?_
        simp only [Act.put, List.setIfInBounds_toArray, List.set_cons_zero, List.set_cons_succ]
        repeat (first | (refine heldI_skip rfl rfl ?_; simp only [Act.put, List.setIfInBounds_toArray, List.set_cons_zero, List.set_cons_succ]) | (refine heldI_take rfl ?_ rfl (fun w' hw' => ?_) ?_; rotate_left; (go_simp; first | done | with_reducible rfl); (try simp only [Act.put, List.setIfInBounds_toArray, List.set_cons_zero, List.set_cons_succ])))
        refine heldI_nil ?_
        go_wp2_with fail
        go_ret
        exact ⟨rfl, HF.out _ hb5⟩
      | true =>
        cases c3 with
        | false =>
          go_enter Tryz.func67, Tryz.ntmps67
          go_wp2_with fail
          rw [← HW.out]
          refine wp_region_I [(false, 0), (true, 1), (false, 2), (false, 3), (false, 4), (false, 5), (false, 6), (false, 7), (false, 8), (false, 9), (false, 10), (false, 11), (false, 12), (false, 13), (false, 14), (false, 15), (false, 16), (false, 17), (false, 18), (false, 19), (false, 20), (false, 21), (false, 22), (false, 23), (false, 24), (false, 25), (false, 26), (true, 27), (false, 28), (false, 29), (false, 30), (false, 31), (false, 32), (false, 33), (false, 34), (false, 35), (false, 36), (false, 37), (false, 38), (false, 39), (false, 40), (false, 41), (false, 42)] (fun w' => Below w2.heap.size w2 w') (by kernel_rfl) (by kernel_rfl) h00 ?_
          repeat (first | (refine heldI_skip rfl rfl ?_; simp only [Act.put, List.setIfInBounds_toArray, List.set_cons_zero, List.set_cons_succ]) | (refine heldI_take rfl ?_ rfl (fun w' hw' => ?_) ?_; rotate_left; (go_simp; first | done | with_reducible rfl); (try simp only [Act.put, List.setIfInBounds_toArray, List.set_cons_zero, List.set_cons_succ])))
          refine heldI_act rfl rfl fun K hK => ?_
          go_simp
          refine (KR.out _ ‹_›).mono ?_
          rintro e w5 ⟨rfl, hb5⟩
          refine hK.out _ _ hb5 ?_
          clear hK K h00
          repeat (first | (refine heldI_skip rfl rfl ?_; simp only [Act.put, List.setIfInBounds_toArray, List.set_cons_zero, List.set_cons_succ]) | (refine heldI_take rfl ?_ rfl (fun w' hw' => ?_) ?_; rotate_left; (go_simp; first | done | with_reducible rfl); (try simp only [Act.put, List.setIfInBounds_toArray, List.set_cons_zero, List.set_cons_succ])))
          refine heldI_pass rfl rfl hb5 ?_
          simp only [Act.put, List.setIfInBounds_toArray, List.set_cons_zero, List.set_cons_succ]
          repeat (first | (refine heldI_skip rfl rfl ?_; simp only [Act.put, List.setIfInBounds_toArray, List.set_cons_zero, List.set_cons_succ]) | (refine heldI_take rfl ?_ rfl (fun w' hw' => ?_) ?_; rotate_left; (go_simp; first | done | with_reducible rfl); (try simp only [Act.put, List.setIfInBounds_toArray, List.set_cons_zero, List.set_cons_succ])))
          refine heldI_nil ?_
          go_wp2_with fail
          go_ret
          exact ⟨rfl, HF.out _ hb5⟩
        | true =>
          cases c4 with
          | false =>
            go_enter Tryz.func67, Tryz.ntmps67
            go_wp2_with fail
            rw [← HW.out]
            refine wp_region_I [(false, 0), (true, 1), (false, 2), (false, 3), (false, 4), (false, 5), (false, 6), (false, 7), (false, 8), (false, 9), (false, 10), (false, 11), (false, 12), (false, 13), (false, 14), (false, 15), (false, 16), (false, 17), (false, 18), (false, 19), (false, 20), (false, 21), (false, 22), (false, 23), (false, 24), (false, 25), (false, 26), (true, 27), (false, 28), (false, 29), (false, 30), (false, 31), (false, 32), (false, 33), (false, 34), (false, 35), (false, 36), (false, 37), (false, 38), (false, 39), (false, 40), (false, 41), (false, 42)] (fun w' => Below w2.heap.size w2 w') (by kernel_rfl) (by kernel_rfl) h00 ?_
            repeat (first | (refine heldI_skip rfl rfl ?_; simp only [Act.put, List.setIfInBounds_toArray, List.set_cons_zero, List.set_cons_succ]) | (refine heldI_take rfl ?_ rfl (fun w' hw' => ?_) ?_; rotate_left; (go_simp; first | done | with_reducible rfl); (try simp only [Act.put, List.setIfInBounds_toArray, List.set_cons_zero, List.set_cons_succ])))
            refine heldI_act rfl rfl fun K hK => ?_
            go_simp
            refine (KR.out _ ‹_›).mono ?_
            rintro e w5 ⟨rfl, hb5⟩
            refine hK.out _ _ hb5 ?_
            clear hK K h00
            repeat (first | (refine heldI_skip rfl rfl ?_; simp only [Act.put, List.setIfInBounds_toArray, List.set_cons_zero, List.set_cons_succ]) | (refine heldI_take rfl ?_ rfl (fun w' hw' => ?_) ?_; rotate_left; (go_simp; first | done | with_reducible rfl); (try simp only [Act.put, List.setIfInBounds_toArray, List.set_cons_zero, List.set_cons_succ])))
            refine heldI_pass rfl rfl hb5 ?_
            simp only [Act.put, List.setIfInBounds_toArray, List.set_cons_zero, List.set_cons_succ]
            repeat (first | (refine heldI_skip rfl rfl ?_; simp only [Act.put, List.setIfInBounds_toArray, List.set_cons_zero, List.set_cons_succ]) | (refine heldI_take rfl ?_ rfl (fun w' hw' => ?_) ?_; rotate_left; (go_simp; first | done | with_reducible rfl); (try simp only [Act.put, List.setIfInBounds_toArray, List.set_cons_zero, List.set_cons_succ])))
            refine heldI_nil ?_
            go_wp2_with fail
            go_ret
            exact ⟨rfl, HF.out _ hb5⟩
          | true =>
            cases c5 with
            | false =>
              go_enter Tryz.func67, Tryz.ntmps67
              go_wp2_with fail
              rw [← HW.out]
              refine wp_region_I [(false, 0), (true, 1), (false, 2), (false, 3), (false, 4), (false, 5), (false, 6), (false, 7), (false, 8), (false, 9), (false, 10), (false, 11), (false, 12), (false, 13), (false, 14), (false, 15), (false, 16), (false, 17), (false, 18), (false, 19), (false, 20), (false, 21), (false, 22), (false, 23), (false, 24), (false, 25), (false, 26), (true, 27), (false, 28), (false, 29), (false, 30), (false, 31), (false, 32), (false, 33), (false, 34), (false, 35), (false, 36), (false, 37), (false, 38), (false, 39), (false, 40), (false, 41), (false, 42)] (fun w' => Below w2.heap.size w2 w') (by kernel_rfl) (by kernel_rfl) h00 ?_
              repeat (first | (refine heldI_skip rfl rfl ?_; simp only [Act.put, List.setIfInBounds_toArray, List.set_cons_zero, List.set_cons_succ]) | (refine heldI_take rfl ?_ rfl (fun w' hw' => ?_) ?_; rotate_left; (go_simp; first | done | with_reducible rfl); (try simp only [Act.put, List.setIfInBounds_toArray, List.set_cons_zero, List.set_cons_succ])))
              refine heldI_act rfl rfl fun K hK => ?_
              go_simp
              refine (KR.out _ ‹_›).mono ?_
              rintro e w5 ⟨rfl, hb5⟩
              refine hK.out _ _ hb5 ?_
              clear hK K h00
              repeat (first | (refine heldI_skip rfl rfl ?_; simp only [Act.put, List.setIfInBounds_toArray, List.set_cons_zero, List.set_cons_succ]) | (refine heldI_take rfl ?_ rfl (fun w' hw' => ?_) ?_; rotate_left; (go_simp; first | done | with_reducible rfl); (try simp only [Act.put, List.setIfInBounds_toArray, List.set_cons_zero, List.set_cons_succ])))
              refine heldI_act rfl rfl fun K hK => ?_
              go_simp
              refine (KH.out _ ‹_›).mono ?_
              rintro e w6 ⟨rfl, hb6⟩
              refine hK.out _ _ hb6 ?_
              clear hK K hb5
              repeat (first | (refine heldI_skip rfl rfl ?_; simp only [Act.put, List.setIfInBounds_toArray, List.set_cons_zero, List.set_cons_succ]) | (refine heldI_take rfl ?_ rfl (fun w' hw' => ?_) ?_; rotate_left; (go_simp; first | done | with_reducible rfl); (try simp only [Act.put, List.setIfInBounds_toArray, List.set_cons_zero, List.set_cons_succ])))
              refine heldI_nil ?_
              go_wp2_with fail
              go_ret
              exact ⟨rfl, HF.out _ hb6⟩
            | true =>
              cases c6 with
              | false =>
                go_enter Tryz.func67, Tryz.ntmps67
                go_wp2_with fail
                rw [← HW.out]
                refine wp_region_I [(false, 0), (true, 1), (false, 2), (false, 3), (false, 4), (false, 5), (false, 6), (false, 7), (false, 8), (false, 9), (false, 10), (false, 11), (false, 12), (false, 13), (false, 14), (false, 15), (false, 16), (false, 17), (false, 18), (false, 19), (false, 20), (false, 21), (false, 22), (false, 23), (false, 24), (false, 25), (false, 26), (true, 27), (false, 28), (false, 29), (false, 30), (false, 31), (false, 32), (false, 33), (false, 34), (false, 35), (false, 36), (false, 37), (false, 38), (false, 39), (false, 40), (false, 41), (false, 42)] (fun w' => Below w2.heap.size w2 w') (by kernel_rfl) (by kernel_rfl) h00 ?_
                repeat (first | (refine heldI_skip rfl rfl ?_; simp only [Act.put, List.setIfInBounds_toArray, List.set_cons_zero, List.set_cons_succ]) | (refine heldI_take rfl ?_ rfl (fun w' hw' => ?_) ?_; rotate_left; (go_simp; first | done | with_reducible rfl); (try simp only [Act.put, List.setIfInBounds_toArray, List.set_cons_zero, List.set_cons_succ])))
                refine heldI_act rfl rfl fun K hK => ?_
                go_simp
                refine (KR.out _ ‹_›).mono ?_
                rintro e w5 ⟨rfl, hb5⟩
                refine hK.out _ _ hb5 ?_
                clear hK K h00
                repeat (first | (refine heldI_skip rfl rfl ?_; simp only [Act.put, List.setIfInBounds_toArray, List.set_cons_zero, List.set_cons_succ]) | (refine heldI_take rfl ?_ rfl (fun w' hw' => ?_) ?_; rotate_left; (go_simp; first | done | with_reducible rfl); (try simp only [Act.put, List.setIfInBounds_toArray, List.set_cons_zero, List.set_cons_succ])))
                refine heldI_act rfl rfl fun K hK => ?_
                go_simp
                refine (KH.out _ ‹_›).mono ?_
                rintro e w6 ⟨rfl, hb6⟩
                refine hK.out _ _ hb6 ?_
                clear hK K hb5
                repeat (first | (refine heldI_skip rfl rfl ?_; simp only [Act.put, List.setIfInBounds_toArray, List.set_cons_zero, List.set_cons_succ]) | (refine heldI_take rfl ?_ rfl (fun w' hw' => ?_) ?_; rotate_left; (go_simp; first | done | with_reducible rfl); (try simp only [Act.put, List.setIfInBounds_toArray, List.set_cons_zero, List.set_cons_succ])))
                refine heldI_nil ?_
                go_wp2_with fail
                go_ret
                exact ⟨rfl, HF.out _ hb6⟩
              | true =>
                cases c7 with
                | false =>
                  go_enter Tryz.func67, Tryz.ntmps67
                  go_wp2_with fail
                  rw [← HW.out]
                  refine wp_region_I [(false, 0), (true, 1), (false, 2), (false, 3), (false, 4), (false, 5), (false, 6), (false, 7), (false, 8), (false, 9), (false, 10), (false, 11), (false, 12), (false, 13), (false, 14), (false, 15), (false, 16), (false, 17), (false, 18), (false, 19), (false, 20), (false, 21), (false, 22), (false, 23), (false, 24), (false, 25), (false, 26), (true, 27), (false, 28), (false, 29), (false, 30), (false, 31), (false, 32), (false, 33), (false, 34), (false, 35), (false, 36), (false, 37), (false, 38), (false, 39), (false, 40), (false, 41), (false, 42)] (fun w' => Below w2.heap.size w2 w') (by kernel_rfl) (by kernel_rfl) h00 ?_
                  repeat (first | (refine heldI_skip rfl rfl ?_; simp only [Act.put, List.setIfInBounds_toArray, List.set_cons_zero, List.set_cons_succ]) | (refine heldI_take rfl ?_ rfl (fun w' hw' => ?_) ?_; rotate_left; (go_simp; first | done | with_reducible rfl); (try simp only [Act.put, List.setIfInBounds_toArray, List.set_cons_zero, List.set_cons_succ])))
                  refine heldI_act rfl rfl fun K hK => ?_
                  go_simp
                  refine (KR.out _ ‹_›).mono ?_
                  rintro e w5 ⟨rfl, hb5⟩
                  refine hK.out _ _ hb5 ?_
                  clear hK K h00
                  repeat (first | (refine heldI_skip rfl rfl ?_; simp only [Act.put, List.setIfInBounds_toArray, List.set_cons_zero, List.set_cons_succ]) | (refine heldI_take rfl ?_ rfl (fun w' hw' => ?_) ?_; rotate_left; (go_simp; first | done | with_reducible rfl); (try simp only [Act.put, List.setIfInBounds_toArray, List.set_cons_zero, List.set_cons_succ])))
                  refine heldI_act rfl rfl fun K hK => ?_
                  go_simp
                  refine (KH.out _ ‹_›).mono ?_
                  rintro e w6 ⟨rfl, hb6⟩
                  refine hK.out _ _ hb6 ?_
                  clear hK K hb5
                  repeat (first | (refine heldI_skip rfl rfl ?_; simp only [Act.put, List.setIfInBounds_toArray, List.set_cons_zero, List.set_cons_succ]) | (refine heldI_take rfl ?_ rfl (fun w' hw' => ?_) ?_; rotate_left; (go_simp; first | done | with_reducible rfl); (try simp only [Act.put, List.setIfInBounds_toArray, List.set_cons_zero, List.set_cons_succ])))
                  refine heldI_nil ?_
                  go_wp2_with fail
                  go_ret
                  exact ⟨rfl, HF.out _ hb6⟩
                | true =>
                  go_enter Tryz.func67, Tryz.ntmps67
                  go_wp2_with fail
                  rw [← HW.out]
                  refine wp_region_I [(false, 0), (true, 1), (false, 2), (false, 3), (false, 4), (false, 5), (false, 6), (false, 7), (false, 8), (false, 9), (false, 10), (false, 11), (false, 12), (false, 13), (false, 14), (false, 15), (false, 16), (false, 17), (false, 18), (false, 19), (false, 20), (false, 21), (false, 22), (false, 23), (false, 24), (false, 25), (false, 26), (true, 27), (false, 28), (false, 29), (false, 30), (false, 31), (false, 32), (false, 33), (false, 34), (false, 35), (false, 36), (false, 37), (false, 38), (false, 39), (false, 40), (false, 41), (false, 42)] (fun w' => Below w2.heap.size w2 w') (by kernel_rfl) (by kernel_rfl) h00 ?_
                  repeat (first | (refine heldI_skip rfl rfl ?_; simp only [Act.put, List.setIfInBounds_toArray, List.set_cons_zero, List.set_cons_succ]) | (refine heldI_take rfl ?_ rfl (fun w' hw' => ?_) ?_; rotate_left; (go_simp; first | done | with_reducible rfl); (try simp only [Act.put, List.setIfInBounds_toArray, List.set_cons_zero, List.set_cons_succ])))
                  refine heldI_act rfl rfl fun K hK => ?_
                  go_simp
                  refine (KR.out _ ‹_›).mono ?_
                  rintro e w5 ⟨rfl, hb5⟩
                  refine hK.out _ _ hb5 ?_
                  clear hK K h00
                  repeat (first | (refine heldI_skip rfl rfl ?_; simp only [Act.put, List.setIfInBounds_toArray, List.set_cons_zero, List.set_cons_succ]) | (refine heldI_take rfl ?_ rfl (fun w' hw' => ?_) ?_; rotate_left; (go_simp; first | done | with_reducible rfl); (try simp only [Act.put, List.setIfInBounds_toArray, List.set_cons_zero, List.set_cons_succ])))
                  refine heldI_act rfl rfl fun K hK => ?_
                  go_simp
                  refine (KH.out _ ‹_›).mono ?_
                  rintro e w6 ⟨rfl, hb6⟩
                  refine hK.out _ _ hb6 ?_
                  clear hK K hb5
                  repeat (first | (refine heldI_skip rfl rfl ?_; simp only [Act.put, List.setIfInBounds_toArray, List.set_cons_zero, List.set_cons_succ]) | (refine heldI_take rfl ?_ rfl (fun w' hw' => ?_) ?_; rotate_left; (go_simp; first | done | with_reducible rfl); (try simp only [Act.put, List.setIfInBounds_toArray, List.set_cons_zero, List.set_cons_succ])))
                  refine heldI_nil ?_
                  go_wp2_with fail
                  go_ret
                  exact ⟨rfl, HF.out _ hb6⟩
end Go.Proofs.YtaijompnohkmaaaGreatDoor
/- Layer 1 (sector): sectors and writes compared. -/
namespace Go.Proofs.YtaijompnohkmaaaGreatDoor
open Go.RowKit
theorem list_two {α : Type} : ∀ (l : List α), l.length = 2 → ∃ a b, l = [a, b]
  | [], h => by simp at h
  | [a], h => by simp at h
  | [a, b], _ => ⟨a, b, rfl⟩
  | a :: b :: c :: l, h => by simp at h
theorem run_part_u8 (xs : Array Value) (off : Nat) {v : Value} (hx : xs[off]? = some v) (w : World) : (part 5 xs off).run Tryz.prog w = .ok v w := by
  simp [part, isAgg, run_underlying Tryz.underlying5, hx]
theorem run_equalIn_u8 (d : Nat) (a b : UInt8) (w : World) : (Op.equalIn (d + 1) 5 (u8 a) (u8 b)).run Tryz.prog w = .ok (decide (a = b)) w := by
  simp [Op.equalIn, run_underlying Tryz.underlying5, u8]
  by_cases h : a = b
  · simp [h]
  · have : ¬ ((a.toNat : Int) = (b.toNat : Int)) := fun e => h (UInt8.toNat_inj.1 (Int.ofNat_inj.1 e))
    simp [h, this]
theorem eqItems_u8 (d : Nat) (x y : List UInt8) (w : World) : ∀ (is : List Nat), (∀ i ∈ is, i < x.length ∧ i < y.length) →
    (Op.eqItems (d + 1) 5 1 (u8s x).toArray (u8s y).toArray is).run Tryz.prog w = .ok (decide (∀ i ∈ is, x[i]? = y[i]?)) w
  | [], _ => by simp [Op.eqItems]
  | i :: is, h => by
    obtain ⟨h1, h2⟩ := h i (List.mem_cons_self ..)
    have e1 : (u8s x).toArray[i * 1]? = some (u8 x[i]) := by simp [u8s, h1]
    have e2 : (u8s y).toArray[i * 1]? = some (u8 y[i]) := by simp [u8s, h2]
    have ih := eqItems_u8 d x y w is (fun j hj => h j (List.mem_cons_of_mem _ hj))
    unfold Op.eqItems
    simp only [Sem.run_bind, run_part_u8 _ _ e1, run_part_u8 _ _ e2, Result.andThen_ok, run_equalIn_u8]
    by_cases he : x[i] = y[i]
    · simp [he, ih, List.getElem?_eq_getElem h1, List.getElem?_eq_getElem h2]
    · simp [he, List.getElem?_eq_getElem h1, List.getElem?_eq_getElem h2]
set_option maxRecDepth 100000 in
theorem equal44_in (d : Nat) {x y : List UInt8} (hx : x.length = 64) (hy : y.length = 64) (w : World) : (Op.equalIn (d + 2) 94 (.agg (u8s x).toArray) (.agg (u8s y).toArray)).run Tryz.prog w = .ok (decide (x = y)) w := by
  obtain ⟨i, hi, hs⟩ := Option.map_eq_some_iff.1 (show (Tryz.prog.info? 5).map (fun i => i.size) = some 1 by kernel_rfl)
  rw [run_equalIn_array (w := w) (d + 1) _ _ Tryz.underlying94 hi, show Tryz.prog.cellsOf 5 = 1 by kernel_rfl, eqItems_u8 d x y w _ (fun i hi => by rw [List.mem_range] at hi; omega)]
  congr 1
  by_cases h : x = y
  · simp [h]
  · have : ¬ ∀ i ∈ List.range 64, x[i]? = y[i]? := fun hh => h (List.ext_getElem? fun i => by
      by_cases hi : i < 64
      · exact hh i (List.mem_range.2 hi)
      · rw [List.getElem?_eq_none (by omega), List.getElem?_eq_none (by omega)])
    simp only [h, decide_false]
    exact decide_eq_false this
def eqW (x y : WriteP) : Bool := decide (x.at_ = y.at_) && decide (x.data = y.data)
theorem eqFields_two (d : Nat) (P : Program) (xs ys : Array Value) (f1 f2 : Field) (w : World) (a1 b1 a2 b2 : Value) (r1 r2 : Bool) (h1 : f1.name ≠ "_") (h2 : f2.name ≠ "_")
    (p1 : (part f1.type xs f1.offset).run P w = .ok a1 w) (p2 : (part f1.type ys f1.offset).run P w = .ok b1 w) (p3 : (part f2.type xs f2.offset).run P w = .ok a2 w) (p4 : (part f2.type ys f2.offset).run P w = .ok b2 w)
    (q1 : (Op.equalIn d f1.type a1 b1).run P w = .ok r1 w) (q2 : (Op.equalIn d f2.type a2 b2).run P w = .ok r2 w) : (Op.eqFields d xs ys [f1, f2]).run P w = .ok (r1 && r2) w := by
  simp only [Op.eqFields, if_pos h1, if_pos h2, Sem.run_bind, p1, p2, p3, p4, q1, q2, Result.andThen_ok]
  cases r1 <;> cases r2 <;> simp [p3, p4, q2]
theorem fields46 : ∃ f1 f2 : Field, (Tryz.prog.fieldsOf 96).toList = [f1, f2] ∧ f1.name ≠ "_" ∧ f2.name ≠ "_" ∧ f1.type = 3 ∧ f1.offset = 0 ∧ f2.type = 94 ∧ f2.offset = 1 := by
  simp only [Program.fieldsOf, Tryz.underlying96]
  exact ⟨_, _, rfl, by decide, by decide, rfl, rfl, rfl, rfl⟩
set_option maxRecDepth 100000 in
theorem equal46_in (d : Nat) {x y : WriteP} (hx : x.data.length = 64) (hy : y.data.length = 64) (w : World) : (Op.equalIn (d + 3) 96 (.agg (wcells x).toArray) (.agg (wcells y).toArray)).run Tryz.prog w = .ok (eqW x y) w := by
  rw [run_equalIn_struct w (d + 2) _ _ _ (by rw [Tryz.underlying96]; rfl) (by kernel_rfl)]
  have e1 : (wcells x).toArray[0]? = some (.int .i64 x.at_) := by simp [wcells]
  have e2 : (wcells y).toArray[0]? = some (.int .i64 y.at_) := by simp [wcells]
  obtain ⟨i44, hi44, hs44⟩ := info44
  have x1 : (wcells x).toArray.extract 1 (1 + i44.size) = (u8s x.data).toArray := by
    rw [hs44]; simp [wcells, ← hx, length_u8s]
    rw [List.take_of_length_le (by rw [length_u8s]; omega)]
  have x2 : (wcells y).toArray.extract 1 (1 + i44.size) = (u8s y.data).toArray := by
    rw [hs44]; simp [wcells, ← hy, length_u8s]
    rw [List.take_of_length_le (by rw [length_u8s]; omega)]
  obtain ⟨V1, hV1⟩ : ∃ V, V = (wcells x).toArray := ⟨_, rfl⟩
  obtain ⟨V2, hV2⟩ : ∃ V, V = (wcells y).toArray := ⟨_, rfl⟩
  rw [← hV1] at e1 x1 ⊢
  rw [← hV2] at e2 x2 ⊢
  have p1 : (part 3 V1 0).run Tryz.prog w = .ok (.int .i64 x.at_) w := by simp [part, isAgg, run_underlying Tryz.underlying3, e1]
  have p2 : (part 3 V2 0).run Tryz.prog w = .ok (.int .i64 y.at_) w := by simp [part, isAgg, run_underlying Tryz.underlying3, e2]
  have p3 : (part 94 V1 1).run Tryz.prog w = .ok (.agg (u8s x.data).toArray) w := by simp [part, isAgg, run_underlying Tryz.underlying94, sizeOf, typeInfo, hi44, x1]
  have p4 : (part 94 V2 1).run Tryz.prog w = .ok (.agg (u8s y.data).toArray) w := by simp [part, isAgg, run_underlying Tryz.underlying94, sizeOf, typeInfo, hi44, x2]
  have q1 : (Op.equalIn (d + 2) 3 (.int .i64 x.at_) (.int .i64 y.at_)).run Tryz.prog w = .ok (decide (x.at_ = y.at_)) w := by
    simp [Op.equalIn, run_underlying Tryz.underlying3]
    by_cases h : x.at_ = y.at_ <;> simp [h]
  have q2 := equal44_in d hx hy w
  obtain ⟨f1, f2, hf, n1, n2, t1, o1, t2, o2⟩ := fields46
  rw [hf]
  exact eqFields_two (d + 2) _ _ _ f1 f2 w _ _ _ _ _ _ n1 n2 (by rw [t1, o1]; exact p1) (by rw [t1, o1]; exact p2) (by rw [t2, o2]; exact p3) (by rw [t2, o2]; exact p4) (by rw [t1]; exact q1) (by rw [t2]; exact q2)
theorem equal46 {x y : WriteP} (hx : x.data.length = 64) (hy : y.data.length = 64) (w : World) : (Op.equalIn 10000 96 (.agg (wcells x).toArray) (.agg (wcells y).toArray)).run Tryz.prog w = .ok (eqW x y) w := equal46_in 9997 hx hy w
theorem equal44 {x y : List UInt8} (hx : x.length = 64) (hy : y.length = 64) (w : World) : (Op.equalIn 10000 94 (.agg (u8s x).toArray) (.agg (u8s y).toArray)).run Tryz.prog w = .ok (decide (x = y)) w := equal44_in 9998 hx hy w
end Go.Proofs.YtaijompnohkmaaaGreatDoor
