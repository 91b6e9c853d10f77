/- Layer 6 (kv): pairs and changes compared. -/
import Derived.Test.YtaijompnohkmaaaGreatDoorMT
set_option linter.unusedSimpArgs false
set_option linter.unusedVariables false
namespace Go.Proofs.YtaijompnohkmaaaGreatDoor
open Go.RowKit KvP
theorem beq_ba (a b : ByteArray) : (a == b) = decide (a = b):=by
 have e : (a == b) = (a.data == b.data):=by
  cases a
  cases b
  rfl
 rw [e]
 by_cases h : a = b
 ·subst h
  simp
 ·have h2 : a.data ≠ b.data:=fun h'=>h (by
   cases a
   cases b
   cases h'
   rfl)
  simp [h,h2]
theorem run_equalIn_str (d : Nat) (a b : ByteArray) (w : World) : (Op.equalIn (d + 1) 9 (.string a) (.string b)).run Tryz.prog w = .ok (decide (a = b)) w:=by
 simp [Op.equalIn,run_underlying Tryz.underlying9]
 exact beq_ba a b
theorem fieldsPair : ∃ f1 f2 : Field, (Tryz.prog.fieldsOf 76).toList = [f1, f2] ∧ f1.name ≠ "_" ∧ f2.name ≠ "_" ∧ f1.type = 9 ∧ f1.offset = 0 ∧ f2.type = 9 ∧ f2.offset = 1 := by
 simp only [Program.fieldsOf,Tryz.underlying76]
 exact ⟨_,_,rfl,by decide,by decide,rfl,rfl,rfl,rfl⟩
set_option maxRecDepth 100000 in
theorem equalPair (a b c d : ByteArray) (w : World) : (Op.equalIn 10000 76 (.agg #[.string a,.string b]) (.agg #[.string c,.string d])).run Tryz.prog w = .ok (decide (a = c) && decide (b = d)) w:=by
 rw [run_equalIn_struct w 9999 _ _ _ (by rw [Tryz.underlying76];rfl) (by kernel_rfl)]
 obtain ⟨f1,f2,hf,n1,n2,t1,o1,t2,o2⟩:=fieldsPair
 rw [hf]
 have p : ∀ (V : Array Value) (k : Nat) (x : ByteArray),V[k]? = some (.string x) → (part 9 V k).run Tryz.prog w = .ok (.string x) w:=fun V k x h=>by simp [part,isAgg,run_underlying Tryz.underlying9,h]
 exact eqFields_two 9999 _ _ _ f1 f2 w _ _ _ _ _ _ n1 n2 (by rw [t1,o1];exact p _ _ a rfl) (by rw [t1,o1];exact p _ _ c rfl) (by rw [t2,o2];exact p _ _ b rfl) (by rw [t2,o2];exact p _ _ d rfl) (by rw [t1];exact run_equalIn_str _ _ _ _) (by rw [t2];exact run_equalIn_str _ _ _ _)
theorem neqPair (a b c d : ByteArray) (w : World) : (binOp .neq 76 (.agg #[.string a,.string b]) (.agg #[.string c,.string d])).run Tryz.prog w = .ok (.bool (!(decide (a = c) && decide (b = d)))) w:=by
 have k:=equalPair a b c d w
 simp only [binOp]
 simp [Op.equal,Op.maxDepth,k]
end Go.Proofs.YtaijompnohkmaaaGreatDoor
