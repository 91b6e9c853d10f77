/- Building values of many cells: writes of layer 1. -/
import Derived.Test.YtccjjlefpdlegabSector4
namespace Go.Proofs.Ytccjjlefpdlegab
open Go.RowKit
theorem fold_put (off : Nat) : ∀ (cs : List Value) (n : Nat) (A : Array Value), off + n + cs.length ≤ A.size →
    ((cs.zipIdx n).foldl (fun (a : Array Value) (x : Value × Nat) => a.setIfInBounds (off + x.2) x.1) A).toList = A.toList.take (off + n) ++ cs ++ A.toList.drop (off + n + cs.length)
  | [], n, A, _ => by simp
  | c :: cs, n, A, h => by
    rw [List.zipIdx_cons, List.foldl_cons, fold_put off cs (n + 1) _ (by simp only [Array.size_setIfInBounds, List.length_cons] at h ⊢; omega)]
    simp only [List.length_cons] at h
    have hlt : off + n < A.toList.length := by simp; omega
    simp only [Array.toList_setIfInBounds, List.length_cons]
    have e1 : off + (n + 1) = off + n + 1 := by omega
    have e2 : off + n + 1 + cs.length = off + n + (cs.length + 1) := by omega
    rw [e1, e2, List.take_add_one, List.take_set_of_le (Nat.le_refl _), List.getElem?_set_self hlt, List.drop_set_of_lt (by omega)]
    simp
theorem fold_put_arr (off : Nat) (C A : Array Value) (h : off + C.size ≤ A.size) :
    (C.zipIdx.foldl (fun (a : Array Value) (x : Value × Nat) => a.setIfInBounds (off + x.2) x.1) A) = (A.toList.take off ++ C.toList ++ A.toList.drop (off + C.size)).toArray := by
  have h1 := fold_put off C.toList 0 A (by simpa using h)
  apply Array.ext'
  rw [← Array.foldl_toList, Array.toList_zipIdx]
  simpa using h1
theorem cells_agg (A : Array Value) : (Value.agg A).cells = A := rfl
theorem cells_int (k : IntKind) (n : Int) : (Value.int k n).cells = #[.int k n] := rfl
theorem infoz_u8s : (Try.prog.info? 3).map (fun i => i.size) = some 1 := by kernel_rfl
theorem run_build_write {w : World} (at_ : Int) (A : Array Value) (hA : A.size = 64) :
    (Instr.build 46 #[(0, .int .i64 at_), (1, .agg A)]).run Try.prog w = .ok (.agg (.int .i64 at_ :: A.toList).toArray) w := by
  obtain ⟨i0, z0, hi, hz0, hz1, hz2, hz3⟩ := zero_parts infoz_write
  obtain ⟨i1, hi1, hs1⟩ := Option.map_eq_some_iff.1 infoz_u8s
  obtain ⟨i2, z2, hi2, _, hs2, _, _⟩ := zero_parts infoz_sector
  have e : (z0.cells.setIfInBounds 0 (Value.int .i64 at_)).size = 65 := by simpa using hz3
  have e1 := fold_put_arr 1 A (z0.cells.setIfInBounds 0 (Value.int .i64 at_)) (by rw [e, hA]; exact Nat.le_refl _)
  have e2 : (List.take 1 (z0.cells.setIfInBounds 0 (Value.int .i64 at_)).toList ++ A.toList ++ List.drop (1 + A.size) (z0.cells.setIfInBounds 0 (Value.int .i64 at_)).toList) = .int .i64 at_ :: A.toList := by
    rw [List.drop_eq_nil_of_le (by simp [hz3, hA]), List.append_nil]
    cases hl : z0.cells.toList with
    | nil => have := congrArg List.length hl; simp [hz3] at this
    | cons a l => simp [hl]
  rw [e2] at e1
  have e4 : z0.cells ≠ #[] := by intro h; rw [h] at hz3; simp at hz3
  simp [Instr.build, zeroValue, typeInfo, hi, hz0, run_underlying Try.underlying46, sizeOf, hi1, hi2, hs1, hs2, Instr.fill, cells_agg, cells_int, hA, hz3, e4]
  simpa [hA] using e1
set_option maxRecDepth 100000 in
theorem run_buildSlice_write {w : World} (A : Array Value) (hA : A.size = 65) :
    (Instr.buildSlice 25 1 #[(0, .agg A)]).run Try.prog w = .ok (.slice (some ⟨w.heap.size, 0, none⟩) 1 1) (w.alloc (.cells A 46)) := by
  obtain ⟨i0, z0, hi, hz0, hz1, hz2, hz3⟩ := zero_parts infoz_write
  have e1 := fold_put_arr 0 A ((Array.range 65).map (z0.cells[· % z0.cells.size]!)) (by simp [hA])
  have e2 : (List.take 0 ((Array.range 65).map (z0.cells[· % z0.cells.size]!)).toList ++ A.toList ++ List.drop (0 + A.size) ((Array.range 65).map (z0.cells[· % z0.cells.size]!)).toList) = A.toList := by
    rw [List.drop_eq_nil_of_le (by simp [hA])]; simp
  rw [e2] at e1
  simp only [Nat.zero_add] at e1
  simp [Instr.buildSlice, zeroValue, typeInfo, hi, hz0, hz1, run_underlying Try.underlying25, sizeOf, Instr.fill, cells_agg, cells_int, hA, hz3, newRow]
  congr 2
  simpa [hA, hz3] using e1
section
variable {P : Program} {ops : Array Oper} {rest : List Oper} {o : Oper} {a : Act} {w : World} {Q : Exit → Act → World → Prop}
/-- A load at a world that bears a name. -/
theorem wp_load_to (x : Operand) (t : TypeId) (hgd : o.guard = none) (ho : o.op = .load t x) {ad : Addr} {v : Value} {w' : World} (hw : w' = w) (hx : a.eval x = .pointer (some ad)) (hl : (loadVar t ad).run P w' = .ok v w')
    (h : wpList P ops Q rest (a.put o.dst v) w') : wpList P ops Q (o :: rest) a w := by
  subst hw
  exact wp_load_at x t hgd ho hx hl h
theorem wp_build_l (t : TypeId) (L : List (Nat × Operand)) (hgd : o.guard = none) (ho : o.op = .build t L.toArray) {v : Value} {L' : List (Nat × Value)} (hL : L.map (fun x => (x.1, a.eval x.2)) = L') (hb : (Instr.build t L'.toArray).run P w = .ok v w)
    (h : wpList P ops Q rest (a.put o.dst v) w) : wpList P ops Q (o :: rest) a w := by
  refine wpList_plain hgd fun K hK => ?_
  subst hL
  unfold Oper.wp execOp
  simp only [ho, Sem.run_bind, Sem.run_pure, Result.andThen_ok, List.map_toArray, hb]
  exact hK _ _ h
theorem wp_buildSlice_l (t : TypeId) (n : Nat) (L : List (Nat × Operand)) (hgd : o.guard = none) (ho : o.op = .buildSlice t n L.toArray) {v : Value} {w' : World} {L' : List (Nat × Value)} (hL : L.map (fun x => (x.1, a.eval x.2)) = L') (hb : (Instr.buildSlice t n L'.toArray).run P w = .ok v w')
    (h : wpList P ops Q rest (a.put o.dst v) w') : wpList P ops Q (o :: rest) a w := by
  refine wpList_plain hgd fun K hK => ?_
  subst hL
  unfold Oper.wp execOp
  simp only [ho, Sem.run_bind, Sem.run_pure, Result.andThen_ok, List.map_toArray, hb]
  exact hK _ _ h
/-! The same with the operation written out: so they fail at once, under with_reducible, where another operation stands. -/
variable {dst : Option Tmp} {ty : TypeId} {pos : String} {after : Array Edge}
theorem wp_load_r (x : Operand) (t : TypeId) {ad : Addr} {v : Value} {w' : World} (hw : w' = w) (hl : (loadVar t ad).run P w' = .ok v w') (hx : a.eval x = .pointer (some ad))
    (h : wpList P ops Q rest (a.put dst v) w') : wpList P ops Q (⟨dst, .load t x, ty, pos, after, none⟩ :: rest) a w := wp_load_to x t rfl rfl hw hx hl h
theorem wp_build_r (t : TypeId) (L : List (Nat × Operand)) {v : Value} {L' : List (Nat × Value)} (hb : (Instr.build t L'.toArray).run P w = .ok v w) (hL : L.map (fun x => (x.1, a.eval x.2)) = L')
    (h : wpList P ops Q rest (a.put dst v) w) : wpList P ops Q (⟨dst, .build t L.toArray, ty, pos, after, none⟩ :: rest) a w := wp_build_l t L rfl rfl hL hb h
theorem wp_buildSlice_r (t : TypeId) (n : Nat) (L : List (Nat × Operand)) {v : Value} {w' : World} {L' : List (Nat × Value)} (hb : (Instr.buildSlice t n L'.toArray).run P w = .ok v w') (hL : L.map (fun x => (x.1, a.eval x.2)) = L')
    (h : wpList P ops Q rest (a.put dst v) w') : wpList P ops Q (⟨dst, .buildSlice t n L.toArray, ty, pos, after, none⟩ :: rest) a w := wp_buildSlice_l t n L rfl rfl hL hb h
theorem wp_store_r (x y : Operand) (t : TypeId) {ad : Addr} {v : Value} {w' : World} (hl : (storeVar t ad v).run P w = .ok () w') (hx : a.eval x = .pointer (some ad)) (hy : a.eval y = v)
    (h : wpList P ops Q rest (a.put dst undef) w') : wpList P ops Q (⟨dst, .store t x y, ty, pos, after, none⟩ :: rest) a w := wp_store_at x y t rfl rfl hx hy hl h
end
end Go.Proofs.Ytccjjlefpdlegab
