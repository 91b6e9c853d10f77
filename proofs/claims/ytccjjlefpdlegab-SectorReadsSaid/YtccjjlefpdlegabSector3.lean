/- Layer 1 (sector): copies of slices of disks; a disk ahead of a deed. -/
import Derived.Test.YtccjjlefpdlegabSector2
import Derived.Deep.QuietTactic
import Derived.BigQuiet
import Derived.Deep.RegionHeld3
namespace Go.Proofs.Ytccjjlefpdlegab
open Go.RowKit
theorem infoz_write : (Try.prog.info? 46).bind (fun i => i.zero.map fun z => (i.size, i.bytes, z.cells.size)) = some (65, 72, 65) := by kernel_rfl
theorem infoz_sector : (Try.prog.info? 33).bind (fun i => i.zero.map fun z => (i.size, i.bytes, z.cells.size)) = some (64, 64, 64) := by kernel_rfl
theorem zero_parts {P : Program} {e : TypeId} {a b c : Nat} (h : (P.info? e).bind (fun i => i.zero.map fun z => (i.size, i.bytes, z.cells.size)) = some (a, b, c)) : ∃ i z, P.info? e = some i ∧ i.zero = some z ∧ i.size = a ∧ i.bytes = b ∧ z.cells.size = c := by
  obtain ⟨i, hi, h⟩ := Option.bind_eq_some_iff.1 h
  obtain ⟨z, hz, h⟩ := Option.map_eq_some_iff.1 h
  simp only [Prod.mk.injEq] at h
  exact ⟨i, z, hi, hz, h.1, h.2.1, h.2.2⟩
def SecsO (B : Nat) (w : World) (v : Value) (ss : List (List UInt8)) : Prop := (∀ s ∈ ss, s.length = 64) ∧ Own B w 33 v 64 ss.length (ss.map u8s).flatten
def LooseO (B : Nat) (w : World) (v : Value) (ls : List WriteP) : Prop := (∀ x ∈ ls, x.data.length = 64) ∧ Own B w 46 v 65 ls.length (ls.map wcells).flatten
theorem SecsO.secs {B : Nat} {w : World} {v : Value} {ss : List (List UInt8)} (h : SecsO B w v ss) : Secs w.heap.size w v ss := ⟨h.1, h.2.row⟩
theorem LooseO.loose {B : Nat} {w : World} {v : Value} {ls : List WriteP} (h : LooseO B w v ls) : Loose w.heap.size w v ls := ⟨h.1, h.2.row⟩
theorem oneCell_secs (ss : List (List UInt8)) : ∀ u ∈ (ss.map u8s).flatten, u.oneCell' = true := by
  intro u hu
  obtain ⟨l, hl, hu⟩ := List.mem_flatten.1 hu
  obtain ⟨s, _, rfl⟩ := List.mem_map.1 hl
  exact oneCell_u8s s u hu
theorem oneCell_w (x : WriteP) : ∀ u ∈ wcells x, u.oneCell' = true := by
  intro u hu
  rcases List.mem_cons.1 hu with rfl | hu
  · rfl
  · exact oneCell_u8s _ u hu
theorem oneCell_ws (ls : List WriteP) : ∀ u ∈ (ls.map wcells).flatten, u.oneCell' = true := by
  intro u hu
  obtain ⟨l, hl, hu⟩ := List.mem_flatten.1 hu
  obtain ⟨s, _, rfl⟩ := List.mem_map.1 hl
  exact oneCell_w s u hu
theorem length_flat {α : Type} (f : α → List Value) (sz : Nat) : ∀ (xs : List α), (∀ x ∈ xs, (f x).length = sz) → (xs.map f).flatten.length = xs.length * sz
  | [], _ => by simp
  | y :: ys, h => by
    rw [List.map_cons, List.flatten_cons, List.length_append, h y (List.mem_cons_self ..), length_flat f sz ys (fun x hx => h x (List.mem_cons_of_mem _ hx)), List.length_cons, Nat.succ_mul, Nat.add_comm]
/-- An own slice outlives what is written elsewhere. -/
theorem Own.setOther {B : Nat} {w : World} {e : TypeId} {v : Value} {sz n : Nat} {cs : List Value} (h : Own B w e v sz n cs) (p : Addr) (u : Value) (hp : p.block < B) : Own B (w.setCell p u) e v sz n cs := by
  obtain ⟨h1, a, cap, rfl, h2, h3, h4⟩ := h
  refine ⟨h1, a, cap, rfl, h2, h3, ?_⟩
  rcases h4 with h4 | ⟨g, cur, rfl, hg, hh, hs, ht⟩
  · exact .inl h4
  · refine .inr ⟨g, cur, rfl, hg, ?_, hs, ht⟩
    simp only [World.setCell, Array.getElem?_modify]
    rw [if_neg (by omega)]
    exact hh
theorem SecsO.setOther {B : Nat} {w : World} {v : Value} {ss : List (List UInt8)} (h : SecsO B w v ss) (p : Addr) (u : Value) (hp : p.block < B) : SecsO B (w.setCell p u) v ss := ⟨h.1, h.2.setOther p u hp⟩
theorem LooseO.setOther {B : Nat} {w : World} {v : Value} {ls : List WriteP} (h : LooseO B w v ls) (p : Addr) (u : Value) (hp : p.block < B) : LooseO B (w.setCell p u) v ls := ⟨h.1, h.2.setOther p u hp⟩
theorem SecsO.keep {B B' : Nat} {w w' : World} {v : Value} {ss : List (List UInt8)} (h : SecsO B w v ss) (hb : Below B' w w') (hB : w.heap.size ≤ B') : SecsO B w' v ss := ⟨h.1, h.2.below hb hB⟩
theorem LooseO.keep {B B' : Nat} {w w' : World} {v : Value} {ls : List WriteP} (h : LooseO B w v ls) (hb : Below B' w w') (hB : w.heap.size ≤ B') : LooseO B w' v ls := ⟨h.1, h.2.below hb hB⟩
set_option maxRecDepth 100000 in
set_option maxHeartbeats 400000 in
theorem clone64_any {B : Nat} (v : Value) (ss : List (List UInt8)) (w : World) (hr : Secs B w v ss) (hlen : ss.length ≤ 2 ^ 40) :
    Calls Try.prog 30 #[v] w fun e w' => ∃ v', e = .returned v' ∧ SecsO w.heap.size w' v' ss ∧ Below w.heap.size w w' := by
  have hr := hr.tight
  have hR := hr
  obtain ⟨h64, h1, a, cap, rfl, hnc, hcap, hcells⟩ := hr
  have kn := fun (w : World) (a : Option Addr) (n c n' c' : Nat) => eql_slice_nil Try.underlying24 w a n c n' c'
  cases a with
  | none =>
    have hn : ss = [] := by
      cases ss with
      | nil => rfl
      | cons b bs => obtain ⟨b, off, h, _⟩ := hcells (by simp); cases h
    subst hn
    clear hcells h1 hR
    go_enter Try.func30, Try.ntmps30
    go_wp2
    go_ret
    exact ⟨_, rfl, ⟨h64, Own.none _ _ _ _ _⟩, Below.refl _ _⟩
  | some ad =>
    obtain ⟨i0, z0, hi, hz0, hz1, hz2, hz3⟩ := zero_parts infoz_sector
    have ho : Own w.heap.size (w.alloc (.cells #[] 33)) 33 (.slice (some ⟨w.heap.size, 0, none⟩) 0 0) 64 0 [] := Own.none _ _ _ _ _
    have hb : Below w.heap.size w (w.alloc (.cells #[] 33)) := Below.alloc (Below.refl _ _) (Nat.le_refl _) _
    have hs := Row.src (P := Try.prog) (hR.below hb).2
    have hB : w.heap.size ≤ (w.alloc (.cells #[] 33)).heap.size := hb.size
    have hl1 : 0 + ss.length ≤ maxLen := by unfold maxLen; omega
    have hl2 : (0 + ss.length) * 64 ≤ 140737488355328 := by omega
    have H1 := Lib.hid hl1
    have H2 := Lib.hid hl2
    clear hR h1 hcells hcap hl1 hl2 hlen
    go_enter Try.func30, Try.ntmps30
    go_wp2_with (at_builtin; refine wp_append rfl (.tmp 5) (.tmp 6) 24 24 33 rfl i0 z0 64 64 Try.underlying24 (.inl ⟨_, Try.underlying24⟩) hi hz0 hz1 hz2 hz3 rfl rfl ho hs (oneCell_secs _) H1.out H2.out hB ?_; intro v2 w2 hown2 hb2)
    go_ret
    refine ⟨_, rfl, ⟨h64, ?_⟩, hb.trans hb2⟩
    rw [Nat.zero_add, List.nil_append] at hown2
    exact hown2
set_option maxRecDepth 100000 in
set_option maxHeartbeats 400000 in
theorem cloneW_any {B : Nat} (v : Value) (ls : List WriteP) (w : World) (hr : Loose B w v ls) (hlen : ls.length ≤ 2 ^ 40) :
    Calls Try.prog 31 #[v] w fun e w' => ∃ v', e = .returned v' ∧ LooseO w.heap.size w' v' ls ∧ Below w.heap.size w w' := by
  have hr := hr.tight
  have hR := hr
  obtain ⟨h64, h1, a, cap, rfl, hnc, hcap, hcells⟩ := hr
  have kn := fun (w : World) (a : Option Addr) (n c n' c' : Nat) => eql_slice_nil Try.underlying25 w a n c n' c'
  cases a with
  | none =>
    have hn : ls = [] := by
      cases ls with
      | nil => rfl
      | cons b bs => obtain ⟨b, off, h, _⟩ := hcells (by simp); cases h
    subst hn
    clear hcells h1 hR
    go_enter Try.func31, Try.ntmps31
    go_wp2
    go_ret
    exact ⟨_, rfl, ⟨h64, Own.none _ _ _ _ _⟩, Below.refl _ _⟩
  | some ad =>
    obtain ⟨i0, z0, hi, hz0, hz1, hz2, hz3⟩ := zero_parts infoz_write
    have ho : Own w.heap.size (w.alloc (.cells #[] 46)) 46 (.slice (some ⟨w.heap.size, 0, none⟩) 0 0) 65 0 [] := Own.none _ _ _ _ _
    have hb : Below w.heap.size w (w.alloc (.cells #[] 46)) := Below.alloc (Below.refl _ _) (Nat.le_refl _) _
    have hs := Row.src (P := Try.prog) (hR.below hb).2
    have hB : w.heap.size ≤ (w.alloc (.cells #[] 46)).heap.size := hb.size
    have hl1 : 0 + ls.length ≤ maxLen := by unfold maxLen; omega
    have hl2 : (0 + ls.length) * 72 ≤ 140737488355328 := by omega
    have H1 := Lib.hid hl1
    have H2 := Lib.hid hl2
    clear hR h1 hcells hcap hl1 hl2 hlen
    go_enter Try.func31, Try.ntmps31
    go_wp2_with (at_builtin; refine wp_append rfl (.tmp 5) (.tmp 6) 25 25 46 rfl i0 z0 65 72 Try.underlying25 (.inl ⟨_, Try.underlying25⟩) hi hz0 hz1 hz2 hz3 rfl rfl ho hs (oneCell_ws _) H1.out H2.out hB ?_; intro v2 w2 hown2 hb2)
    go_ret
    refine ⟨_, rfl, ⟨h64, ?_⟩, hb.trans hb2⟩
    rw [Nat.zero_add, List.nil_append] at hown2
    exact hown2
end Go.Proofs.Ytccjjlefpdlegab
