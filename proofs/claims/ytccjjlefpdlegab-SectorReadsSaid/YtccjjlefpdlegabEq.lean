/- Tests of slices and pointers against nil, as equations for a walk. -/
import Derived.WalkKit
import Derived.WalkSpells
namespace Go.Proofs.Ytccjjlefpdlegab
section
variable {P : Program}
theorem eql_slice_nil {t e : TypeId} (h : P.underlying t = some (.slice e)) (w : World) (a : Option Addr) (n c n' c' : Nat) :
    (binOp .eql t (.slice a n c) (.slice none n' c')).run P w = .ok (.bool a.isNone) w := by
  simp only [binOp]
  simp [Op.equal, Op.maxDepth, Lib.run_equalIn_slice_nil w 9999 t e a n c n' c' h]
theorem eqIn_ptr_nil {t e : TypeId} (h : P.underlying t = some (.pointer e)) (w : World) (d : Nat) (a : Option Addr) :
    (Op.equalIn (d + 1) t (.pointer a) (.pointer none)).run P w = .ok a.isNone w := by
  cases a <;> simp [Op.equalIn, run_underlying h]
theorem eql_ptr_nil {t e : TypeId} (h : P.underlying t = some (.pointer e)) (w : World) (a : Option Addr) :
    (binOp .eql t (.pointer a) (.pointer none)).run P w = .ok (.bool a.isNone) w := by
  have k := eqIn_ptr_nil h w 9999 a
  cases a <;> (simp only [binOp]; simp [Op.equal, Op.maxDepth, k])
theorem neq_ptr_nil {t e : TypeId} (h : P.underlying t = some (.pointer e)) (w : World) (a : Option Addr) :
    (binOp .neq t (.pointer a) (.pointer none)).run P w = .ok (.bool (!a.isNone)) w := by
  have k := eqIn_ptr_nil h w 9999 a
  cases a <;> (simp only [binOp]; simp [Op.equal, Op.maxDepth, k])
end
end Go.Proofs.Ytccjjlefpdlegab
