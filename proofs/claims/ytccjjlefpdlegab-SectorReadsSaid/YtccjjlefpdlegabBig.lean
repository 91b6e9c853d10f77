/- Operations on values of many cells, as arms for a walk: the value's cells stay behind one name. -/
import Derived.Test.YtccjjlefpdlegabDisk
namespace Go.Proofs.Ytccjjlefpdlegab
open Go.RowKit
section
variable {P : Program} {ops : Array Oper} {rest : List Oper} {o : Oper} {a : Act} {w : World} {Q : Exit → Act → World → Prop}
theorem wp_load_at (x : Operand) (t : TypeId) (hgd : o.guard = none) (ho : o.op = .load t x) {ad : Addr} {v : Value} (hx : a.eval x = .pointer (some ad)) (hl : (loadVar t ad).run P w = .ok v w)
    (h : wpList P ops Q rest (a.put o.dst v) w) : wpList P ops Q (o :: rest) a w := by
  refine wpList_plain hgd fun K hK => ?_
  unfold Oper.wp execOp
  simp only [ho, hx, Instr.loadAt, Instr.sureAddr, Sem.run_bind, Sem.run_pure, Result.andThen_ok, hl]
  exact hK _ _ h
theorem wp_store_at (x y : Operand) (t : TypeId) (hgd : o.guard = none) (ho : o.op = .store t x y) {ad : Addr} {v : Value} {w' : World} (hx : a.eval x = .pointer (some ad)) (hy : a.eval y = v) (hl : (storeVar t ad v).run P w = .ok () w')
    (h : wpList P ops Q rest (a.put o.dst undef) w') : wpList P ops Q (o :: rest) a w := by
  refine wpList_plain hgd fun K hK => ?_
  unfold Oper.wp execOp
  simp only [ho, hx, hy, Instr.storeAt, Instr.sureAddr, Sem.run_bind, Sem.run_pure, Result.andThen_ok, hl]
  exact hK _ _ h
theorem wp_alloc_at (t : TypeId) (hgd : o.guard = none) (ho : o.op = .alloc t) {z : Value} (hz : (zeroValue t).run P w = .ok z w)
    (h : wpList P ops Q rest (a.put o.dst (.pointer (some ⟨w.heap.size, 0, none⟩))) (w.alloc (.cells z.cells t))) : wpList P ops Q (o :: rest) a w := by
  refine wpList_plain hgd fun K hK => ?_
  unfold Oper.wp execOp
  have hr : (Instr.alloc t true (.tuple #[])).run P w = .ok (.pointer (some ⟨w.heap.size, 0, none⟩)) (w.alloc (.cells z.cells t)) := by
    simp only [Instr.alloc, Sem.run_bind, hz, Result.andThen_ok]
    rfl
  simp only [ho, Sem.run_bind, Sem.run_pure, Result.andThen_ok, hr]
  exact hK _ _ h
theorem wp_build_at (t : TypeId) (parts : Array (Nat × Operand)) (hgd : o.guard = none) (ho : o.op = .build t parts) {v : Value} (hb : (Instr.build t (parts.map fun (i, x) => (i, a.eval x))).run P w = .ok v w)
    (h : wpList P ops Q rest (a.put o.dst v) w) : wpList P ops Q (o :: rest) a w := by
  refine wpList_plain hgd fun K hK => ?_
  unfold Oper.wp execOp
  simp only [ho, Sem.run_bind, Sem.run_pure, Result.andThen_ok, hb]
  exact hK _ _ h
/-- A value laid over the cells of a row that is known whole. -/
theorem run_store_big {t : TypeId} {i : TypeInfo} (hi : P.info? t = some i) {w : World} {g off : Nat} {cur : Array Value} {e : TypeId} {cs : List Value} (hg : w.heap[g]? = some (.cells cur e (0, 0)))
    (hsz : i.size = cs.length) (hfit : off + cs.length ≤ cur.size) (h1 : ∀ v ∈ cs, v.oneCell' = true) :
    (storeVar t ⟨g, off, none⟩ (.agg cs.toArray)).run P w = .ok () (w.setRow g (cur.toList.take off ++ cs ++ cur.toList.drop (off + cs.length)).toArray) := by
  have h := run_storeCells_at P g off e cs 0 cur w hg (by simpa using hfit) h1
  simp only [Nat.add_zero] at h
  simp [storeVar, Value.cells, sizeOf, typeInfo, hi, hsz, h]
end
end Go.Proofs.Ytccjjlefpdlegab
