/- Layer 6 (kv): pairs and changes compared. -/
import Derived.Test.YtaijompnohkmaaaGreatDoorMT
set_option linter.unusedSimpArgs false
set_option linter.unusedVariables false
namespace Go.Proofs.YtaijompnohkmaaaGreatDoor
open Go.RowKit KvP
theorem beq_ba (a b : ByteArray) : (a == b) = decide (a = b):=by
 have e : (a == b) = (a.data == b.data):=by
  cases a
  cases b
  rfl
 rw [e]
 by_cases h : a = b
 ·subst h
  simp
 ·have h2 : a.data ≠ b.data:=fun h'=>h (by
   cases a
   cases b
   cases h'
   rfl)
  simp [h,h2]
theorem run_equalIn_str (d : Nat) (a b : ByteArray) (w : World) : (Op.equalIn (d + 1) 9 (.string a) (.string b)).run Tryz.prog w = .ok (decide (a = b)) w:=by
 simp [Op.equalIn,run_underlying Tryz.underlying9]
 exact beq_ba a b
theorem run_equalIn_bool (d : Nat) (a b : Bool) (w : World) : (Op.equalIn (d + 1) 4 (.bool a) (.bool b)).run Tryz.prog w = .ok (decide (a = b)) w:=by
 simp [Op.equalIn,run_underlying Tryz.underlying4]
 cases a <;> cases b <;> rfl
theorem eqFields_three (d : Nat) (P : Program) (xs ys : Array Value) (f1 f2 f3 : Field) (w : World) (a1 b1 a2 b2 a3 b3 : Value) (r1 r2 r3 : Bool) (h1 : f1.name ≠ "_") (h2 : f2.name ≠ "_") (h3 : f3.name ≠ "_")
  (p1 : (part f1.type xs f1.offset).run P w = .ok a1 w) (p2 : (part f1.type ys f1.offset).run P w = .ok b1 w) (p3 : (part f2.type xs f2.offset).run P w = .ok a2 w) (p4 : (part f2.type ys f2.offset).run P w = .ok b2 w)
  (p5 : (part f3.type xs f3.offset).run P w = .ok a3 w) (p6 : (part f3.type ys f3.offset).run P w = .ok b3 w)
  (q1 : (Op.equalIn d f1.type a1 b1).run P w = .ok r1 w) (q2 : (Op.equalIn d f2.type a2 b2).run P w = .ok r2 w) (q3 : (Op.equalIn d f3.type a3 b3).run P w = .ok r3 w) : (Op.eqFields d xs ys [f1,f2,f3]).run P w = .ok (r1 && (r2 && r3)) w:=by
 simp only [Op.eqFields,if_pos h1,if_pos h2,if_pos h3,Sem.run_bind,p1,p2,p3,p4,p5,p6,q1,q2,q3,Result.andThen_ok]
 cases r1 <;> cases r2 <;> cases r3 <;> simp [p3,p4,p5,p6,q2,q3]
theorem fieldsPair : ∃ f1 f2 : Field, (Tryz.prog.fieldsOf 76).toList = [f1, f2] ∧ f1.name ≠ "_" ∧ f2.name ≠ "_" ∧ f1.type = 9 ∧ f1.offset = 0 ∧ f2.type = 9 ∧ f2.offset = 1 := by
 simp only [Program.fieldsOf,Tryz.underlying76]
 exact ⟨_,_,rfl,by decide,by decide,rfl,rfl,rfl,rfl⟩
theorem fieldsChange : ∃ f1 f2 f3 : Field, (Tryz.prog.fieldsOf 33).toList = [f1, f2, f3] ∧ f1.name ≠ "_" ∧ f2.name ≠ "_" ∧ f3.name ≠ "_" ∧ f1.type = 9 ∧ f1.offset = 0 ∧ f2.type = 9 ∧ f2.offset = 1 ∧ f3.type = 4 ∧ f3.offset = 2 := by
 simp only [Program.fieldsOf,Tryz.underlying33]
 exact ⟨_,_,_,rfl,by decide,by decide,by decide,rfl,rfl,rfl,rfl,rfl,rfl⟩
set_option maxRecDepth 100000 in
theorem equalPair (a b c d : ByteArray) (w : World) : (Op.equalIn 10000 76 (.agg #[.string a,.string b]) (.agg #[.string c,.string d])).run Tryz.prog w = .ok (decide (a = c) && decide (b = d)) w:=by
 rw [run_equalIn_struct w 9999 _ _ _ (by rw [Tryz.underlying76];rfl) (by kernel_rfl)]
 obtain ⟨f1,f2,hf,n1,n2,t1,o1,t2,o2⟩:=fieldsPair
 rw [hf]
 have p : ∀ (V : Array Value) (k : Nat) (x : ByteArray),V[k]? = some (.string x) → (part 9 V k).run Tryz.prog w = .ok (.string x) w:=fun V k x h=>by simp [part,isAgg,run_underlying Tryz.underlying9,h]
 exact eqFields_two 9999 _ _ _ f1 f2 w _ _ _ _ _ _ n1 n2 (by rw [t1,o1];exact p _ _ a rfl) (by rw [t1,o1];exact p _ _ c rfl) (by rw [t2,o2];exact p _ _ b rfl) (by rw [t2,o2];exact p _ _ d rfl) (by rw [t1];exact run_equalIn_str _ _ _ _) (by rw [t2];exact run_equalIn_str _ _ _ _)
set_option maxRecDepth 100000 in
theorem equalChange (a b c d : ByteArray) (x y : Bool) (w : World) : (Op.equalIn 10000 33 (.agg #[.string a,.string b,.bool x]) (.agg #[.string c,.string d,.bool y])).run Tryz.prog w = .ok (decide (a = c) && (decide (b = d) && decide (x = y))) w:=by
 rw [run_equalIn_struct w 9999 _ _ _ (by rw [Tryz.underlying33];rfl) (by kernel_rfl)]
 obtain ⟨f1,f2,f3,hf,n1,n2,n3,t1,o1,t2,o2,t3,o3⟩:=fieldsChange
 rw [hf]
 have p : ∀ (V : Array Value) (k : Nat) (x : ByteArray),V[k]? = some (.string x) → (part 9 V k).run Tryz.prog w = .ok (.string x) w:=fun V k x h=>by simp [part,isAgg,run_underlying Tryz.underlying9,h]
 have pb : ∀ (V : Array Value) (k : Nat) (x : Bool),V[k]? = some (.bool x) → (part 4 V k).run Tryz.prog w = .ok (.bool x) w:=fun V k x h=>by simp [part,isAgg,run_underlying Tryz.underlying4,h]
 exact eqFields_three 9999 _ _ _ f1 f2 f3 w _ _ _ _ _ _ _ _ _ n1 n2 n3 (by rw [t1,o1];exact p _ _ a rfl) (by rw [t1,o1];exact p _ _ c rfl) (by rw [t2,o2];exact p _ _ b rfl) (by rw [t2,o2];exact p _ _ d rfl) (by rw [t3,o3];exact pb _ _ x rfl) (by rw [t3,o3];exact pb _ _ y rfl) (by rw [t1];exact run_equalIn_str _ _ _ _) (by rw [t2];exact run_equalIn_str _ _ _ _) (by rw [t3];exact run_equalIn_bool _ _ _ _)
theorem neqPair (a b c d : ByteArray) (w : World) : (binOp .neq 76 (.agg #[.string a,.string b]) (.agg #[.string c,.string d])).run Tryz.prog w = .ok (.bool (!(decide (a = c) && decide (b = d)))) w:=by
 have k:=equalPair a b c d w
 simp only [binOp]
 simp [Op.equal,Op.maxDepth,k]
theorem neqChange (a b c d : ByteArray) (x y : Bool) (w : World) : (binOp .neq 33 (.agg #[.string a,.string b,.bool x]) (.agg #[.string c,.string d,.bool y])).run Tryz.prog w = .ok (.bool (!(decide (a = c) && (decide (b = d) && decide (x = y))))) w:=by
 have k:=equalChange a b c d x y w
 simp only [binOp]
 simp [Op.equal,Op.maxDepth,k]
end Go.Proofs.YtaijompnohkmaaaGreatDoor
