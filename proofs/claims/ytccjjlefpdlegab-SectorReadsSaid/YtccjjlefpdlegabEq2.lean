/- Layer 1 (sector): sectors and writes compared. -/
import Derived.Test.YtccjjlefpdlegabRead
import Derived.ChangeKeysEq
namespace Go.Proofs.Ytccjjlefpdlegab
open Go.RowKit
theorem list_two {α : Type} : ∀ (l : List α), l.length = 2 → ∃ a b, l = [a, b]
  | [], h => by simp at h
  | [a], h => by simp at h
  | [a, b], _ => ⟨a, b, rfl⟩
  | a :: b :: c :: l, h => by simp at h
theorem run_part_u8 (xs : Array Value) (off : Nat) {v : Value} (hx : xs[off]? = some v) (w : World) : (part 5 xs off).run Try.prog w = .ok v w := by
  simp [part, isAgg, run_underlying Try.underlying5, hx]
theorem run_equalIn_u8 (d : Nat) (a b : UInt8) (w : World) : (Op.equalIn (d + 1) 5 (u8 a) (u8 b)).run Try.prog w = .ok (decide (a = b)) w := by
  simp [Op.equalIn, run_underlying Try.underlying5, u8]
  by_cases h : a = b
  · simp [h]
  · have : ¬ ((a.toNat : Int) = (b.toNat : Int)) := fun e => h (UInt8.toNat_inj.1 (Int.ofNat_inj.1 e))
    simp [h, this]
theorem eqItems_u8 (d : Nat) (x y : List UInt8) (w : World) : ∀ (is : List Nat), (∀ i ∈ is, i < x.length ∧ i < y.length) →
    (Op.eqItems (d + 1) 5 1 (u8s x).toArray (u8s y).toArray is).run Try.prog w = .ok (decide (∀ i ∈ is, x[i]? = y[i]?)) w
  | [], _ => by simp [Op.eqItems]
  | i :: is, h => by
    obtain ⟨h1, h2⟩ := h i (List.mem_cons_self ..)
    have e1 : (u8s x).toArray[i * 1]? = some (u8 x[i]) := by simp [u8s, h1]
    have e2 : (u8s y).toArray[i * 1]? = some (u8 y[i]) := by simp [u8s, h2]
    have ih := eqItems_u8 d x y w is (fun j hj => h j (List.mem_cons_of_mem _ hj))
    unfold Op.eqItems
    simp only [Sem.run_bind, run_part_u8 _ _ e1, run_part_u8 _ _ e2, Result.andThen_ok, run_equalIn_u8]
    by_cases he : x[i] = y[i]
    · simp [he, ih, List.getElem?_eq_getElem h1, List.getElem?_eq_getElem h2]
    · simp [he, List.getElem?_eq_getElem h1, List.getElem?_eq_getElem h2]
set_option maxRecDepth 100000 in
theorem equal44_in (d : Nat) {x y : List UInt8} (hx : x.length = 64) (hy : y.length = 64) (w : World) : (Op.equalIn (d + 2) 33 (.agg (u8s x).toArray) (.agg (u8s y).toArray)).run Try.prog w = .ok (decide (x = y)) w := by
  obtain ⟨i, hi, hs⟩ := Option.map_eq_some_iff.1 (show (Try.prog.info? 5).map (fun i => i.size) = some 1 by kernel_rfl)
  rw [run_equalIn_array (w := w) (d + 1) _ _ Try.underlying33 hi, show Try.prog.cellsOf 5 = 1 by kernel_rfl, eqItems_u8 d x y w _ (fun i hi => by rw [List.mem_range] at hi; omega)]
  congr 1
  by_cases h : x = y
  · simp [h]
  · have : ¬ ∀ i ∈ List.range 64, x[i]? = y[i]? := fun hh => h (List.ext_getElem? fun i => by
      by_cases hi : i < 64
      · exact hh i (List.mem_range.2 hi)
      · rw [List.getElem?_eq_none (by omega), List.getElem?_eq_none (by omega)])
    simp only [h, decide_false]
    exact decide_eq_false this
def eqW (x y : WriteP) : Bool := decide (x.at_ = y.at_) && decide (x.data = y.data)
theorem eqFields_two (d : Nat) (P : Program) (xs ys : Array Value) (f1 f2 : Field) (w : World) (a1 b1 a2 b2 : Value) (r1 r2 : Bool) (h1 : f1.name ≠ "_") (h2 : f2.name ≠ "_")
    (p1 : (part f1.type xs f1.offset).run P w = .ok a1 w) (p2 : (part f1.type ys f1.offset).run P w = .ok b1 w) (p3 : (part f2.type xs f2.offset).run P w = .ok a2 w) (p4 : (part f2.type ys f2.offset).run P w = .ok b2 w)
    (q1 : (Op.equalIn d f1.type a1 b1).run P w = .ok r1 w) (q2 : (Op.equalIn d f2.type a2 b2).run P w = .ok r2 w) : (Op.eqFields d xs ys [f1, f2]).run P w = .ok (r1 && r2) w := by
  simp only [Op.eqFields, if_pos h1, if_pos h2, Sem.run_bind, p1, p2, p3, p4, q1, q2, Result.andThen_ok]
  cases r1 <;> cases r2 <;> simp [p3, p4, q2]
theorem fields46 : ∃ f1 f2 : Field, (Try.prog.fieldsOf 46).toList = [f1, f2] ∧ f1.name ≠ "_" ∧ f2.name ≠ "_" ∧ f1.type = 3 ∧ f1.offset = 0 ∧ f2.type = 33 ∧ f2.offset = 1 := by
  simp only [Program.fieldsOf, Try.underlying46]
  exact ⟨_, _, rfl, by decide, by decide, rfl, rfl, rfl, rfl⟩
set_option maxRecDepth 100000 in
theorem equal46_in (d : Nat) {x y : WriteP} (hx : x.data.length = 64) (hy : y.data.length = 64) (w : World) : (Op.equalIn (d + 3) 46 (.agg (wcells x).toArray) (.agg (wcells y).toArray)).run Try.prog w = .ok (eqW x y) w := by
  rw [run_equalIn_struct w (d + 2) _ _ _ (by rw [Try.underlying46]; rfl) (by kernel_rfl)]
  have e1 : (wcells x).toArray[0]? = some (.int .i64 x.at_) := by simp [wcells]
  have e2 : (wcells y).toArray[0]? = some (.int .i64 y.at_) := by simp [wcells]
  obtain ⟨i44, hi44, hs44⟩ := info44
  have x1 : (wcells x).toArray.extract 1 (1 + i44.size) = (u8s x.data).toArray := by
    rw [hs44]; simp [wcells, ← hx, length_u8s]
    rw [List.take_of_length_le (by rw [length_u8s]; omega)]
  have x2 : (wcells y).toArray.extract 1 (1 + i44.size) = (u8s y.data).toArray := by
    rw [hs44]; simp [wcells, ← hy, length_u8s]
    rw [List.take_of_length_le (by rw [length_u8s]; omega)]
  obtain ⟨V1, hV1⟩ : ∃ V, V = (wcells x).toArray := ⟨_, rfl⟩
  obtain ⟨V2, hV2⟩ : ∃ V, V = (wcells y).toArray := ⟨_, rfl⟩
  rw [← hV1] at e1 x1 ⊢
  rw [← hV2] at e2 x2 ⊢
  have p1 : (part 3 V1 0).run Try.prog w = .ok (.int .i64 x.at_) w := by simp [part, isAgg, run_underlying Try.underlying3, e1]
  have p2 : (part 3 V2 0).run Try.prog w = .ok (.int .i64 y.at_) w := by simp [part, isAgg, run_underlying Try.underlying3, e2]
  have p3 : (part 33 V1 1).run Try.prog w = .ok (.agg (u8s x.data).toArray) w := by simp [part, isAgg, run_underlying Try.underlying33, sizeOf, typeInfo, hi44, x1]
  have p4 : (part 33 V2 1).run Try.prog w = .ok (.agg (u8s y.data).toArray) w := by simp [part, isAgg, run_underlying Try.underlying33, sizeOf, typeInfo, hi44, x2]
  have q1 : (Op.equalIn (d + 2) 3 (.int .i64 x.at_) (.int .i64 y.at_)).run Try.prog w = .ok (decide (x.at_ = y.at_)) w := by
    simp [Op.equalIn, run_underlying Try.underlying3]
    by_cases h : x.at_ = y.at_ <;> simp [h]
  have q2 := equal44_in d hx hy w
  obtain ⟨f1, f2, hf, n1, n2, t1, o1, t2, o2⟩ := fields46
  rw [hf]
  exact eqFields_two (d + 2) _ _ _ f1 f2 w _ _ _ _ _ _ n1 n2 (by rw [t1, o1]; exact p1) (by rw [t1, o1]; exact p2) (by rw [t2, o2]; exact p3) (by rw [t2, o2]; exact p4) (by rw [t1]; exact q1) (by rw [t2]; exact q2)
theorem equal46 {x y : WriteP} (hx : x.data.length = 64) (hy : y.data.length = 64) (w : World) : (Op.equalIn 10000 46 (.agg (wcells x).toArray) (.agg (wcells y).toArray)).run Try.prog w = .ok (eqW x y) w := equal46_in 9997 hx hy w
theorem equal44 {x y : List UInt8} (hx : x.length = 64) (hy : y.length = 64) (w : World) : (Op.equalIn 10000 33 (.agg (u8s x).toArray) (.agg (u8s y).toArray)).run Try.prog w = .ok (decide (x = y)) w := equal44_in 9998 hx hy w
end Go.Proofs.Ytccjjlefpdlegab
