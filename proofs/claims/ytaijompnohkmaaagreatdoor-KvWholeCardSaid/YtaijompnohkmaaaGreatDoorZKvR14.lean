/- Layer 6 (kv), the document's answer: Same of a store with itself. -/
import Derived.Test.YtaijompnohkmaaaGreatDoorZKvR7
import Derived.Test.YtaijompnohkmaaaGreatDoorMT
import Derived.Test.YtaijompnohkmaaaGreatDoorZKvN
set_option linter.unusedSimpArgs false
set_option linter.unusedVariables false
namespace Go.Proofs.YtaijompnohkmaaaGreatDoor
open Go.RowKit KvP PackP WalP
theorem equal_intK (d : Nat) (a : Int) (w : World) : (Op.equalIn (d + 1) 3 (.int .i64 a) (.int .i64 a)).run Tryz.prog w = .ok true w:=by
 simp [Op.equalIn,run_underlying Tryz.underlying3]
theorem eqFields_four (d : Nat) (P : Program) (xs : Array Value) (f1 f2 f3 f4 : Field) (w : World) (a1 a2 a3 a4 : Value) (h1 : f1.name ≠ "_") (h2 : f2.name ≠ "_") (h3 : f3.name ≠ "_") (h4 : f4.name ≠ "_")
  (p1 : (part f1.type xs f1.offset).run P w = .ok a1 w) (p2 : (part f2.type xs f2.offset).run P w = .ok a2 w) (p3 : (part f3.type xs f3.offset).run P w = .ok a3 w) (p4 : (part f4.type xs f4.offset).run P w = .ok a4 w)
  (q1 : (Op.equalIn d f1.type a1 a1).run P w = .ok true w) (q2 : (Op.equalIn d f2.type a2 a2).run P w = .ok true w) (q3 : (Op.equalIn d f3.type a3 a3).run P w = .ok true w) (q4 : (Op.equalIn d f4.type a4 a4).run P w = .ok true w) : (Op.eqFields d xs xs [f1,f2,f3,f4]).run P w = .ok true w:=by
 simp only [Op.eqFields,if_pos h1,if_pos h2,if_pos h3,if_pos h4,Sem.run_bind,p1,p2,p3,p4,q1,q2,q3,q4,Result.andThen_ok]
 simp [p2,p3,p4,q2,q3,q4]
theorem fieldsLog : ∃ f1 f2 f3 f4 : Field, (Tryz.prog.fieldsOf 41).toList = [f1, f2, f3, f4] ∧ f1.name ≠ "_" ∧ f2.name ≠ "_" ∧ f3.name ≠ "_" ∧ f4.name ≠ "_" ∧ f1.type = 3 ∧ f1.offset = 0 ∧ f2.type = 3 ∧ f2.offset = 1 ∧ f3.type = 3 ∧ f3.offset = 2 ∧ f4.type = 3 ∧ f4.offset = 3 := by
 simp only [Program.fieldsOf,Tryz.underlying41]
 exact ⟨_,_,_,_,rfl,by decide,by decide,by decide,by decide,rfl,rfl,rfl,rfl,rfl,rfl,rfl,rfl⟩
set_option maxRecDepth 100000 in
theorem equalLog (a b c e : Int) (w : World) : (Op.equalIn 10000 41 (.agg #[.int .i64 a,.int .i64 b,.int .i64 c,.int .i64 e]) (.agg #[.int .i64 a,.int .i64 b,.int .i64 c,.int .i64 e])).run Tryz.prog w = .ok true w:=by
 rw [run_equalIn_struct w 9999 _ _ _ (by rw [Tryz.underlying41];rfl) (by kernel_rfl)]
 obtain ⟨f1,f2,f3,f4,hf,n1,n2,n3,n4,t1,o1,t2,o2,t3,o3,t4,o4⟩:=fieldsLog
 rw [hf]
 have p : ∀ (V : Array Value) (k : Nat) (x : Int),V[k]? = some (.int .i64 x) → (part 3 V k).run Tryz.prog w = .ok (.int .i64 x) w:=fun V k x h=>by simp [part,isAgg,run_underlying Tryz.underlying3,h]
 exact eqFields_four 9999 _ _ f1 f2 f3 f4 w _ _ _ _ n1 n2 n3 n4 (by rw [t1,o1];exact p _ _ a rfl) (by rw [t2,o2];exact p _ _ b rfl) (by rw [t3,o3];exact p _ _ c rfl) (by rw [t4,o4];exact p _ _ e rfl)
  (by rw [t1];exact equal_intK _ _ _) (by rw [t2];exact equal_intK _ _ _) (by rw [t3];exact equal_intK _ _ _) (by rw [t4];exact equal_intK _ _ _)
theorem eqlLog (a b c e : Int) (w : World) : (binOp .eql 41 (.agg #[.int .i64 a,.int .i64 b,.int .i64 c,.int .i64 e]) (.agg #[.int .i64 a,.int .i64 b,.int .i64 c,.int .i64 e])).run Tryz.prog w = .ok (.bool true) w:=by
 have k:=equalLog a b c e w
 simp only [binOp]
 simp [Op.equal,Op.maxDepth,k]
set_option maxRecDepth 100000 in
set_option maxHeartbeats 4000000 in
theorem refsame6_any {B B' : Nat} (u v : Value) (s : StoreP) (w : World) (hu : StoreV B w u s) (hv : StoreV B' w v s) :
  Calls Tryz.prog 23 #[u,v] w fun e w'=>e = .returned (.bool true) ∧ Below w.heap.size w w':=by
 obtain ⟨pu,rfl,hp⟩:=hu
 obtain ⟨pv,rfl,hq⟩:=hv
 have hp:=hp.tight
 have hq:=hq.tight
 obtain ⟨l,hl⟩ : ∃ l,l = s.pairs:=⟨_,rfl⟩
 obtain ⟨lg,hlg⟩ : ∃ l,l = s.log:=⟨_,rfl⟩
 rw [← hl] at hp hq
 rw [← hlg]
 clear hl hlg
 obtain ⟨a,c,rfl,_⟩:=pairs_len hp
 obtain ⟨a',c',rfl,_⟩:=pairs_len hq
 obtain ⟨N,hN⟩ : ∃ N,N = l.length:=⟨_,rfl⟩
 rw [← hN] at hp hq ⊢
 unfold storeV
 obtain ⟨w1,hw1⟩ : ∃ x,x = (w.alloc (.cells #[.int .i64 lg.half,.int .i64 lg.gen,.int .i64 lg.used,.int .i64 lg.count,.slice a N c] 44)).alloc (.cells #[.int .i64 lg.half,.int .i64 lg.gen,.int .i64 lg.used,.int .i64 lg.count,.slice a' N c'] 44):=⟨_,rfl⟩
 have hb1 : Below w.heap.size w w1:=by rw [hw1];exact Below.alloc (Below.alloc (Below.refl _ _) (Nat.le_refl _) _) (by simp) _
 have RA : w1.heap[w.heap.size]? = some (.cells #[.int .i64 lg.half,.int .i64 lg.gen,.int .i64 lg.used,.int .i64 lg.count,.slice a N c] 44 (0,0)):=by rw [hw1];exact heap_alloc2_old w _ _
 have RB : w1.heap[w.heap.size + 1]? = some (.cells #[.int .i64 lg.half,.int .i64 lg.gen,.int .i64 lg.used,.int .i64 lg.count,.slice a' N c'] 44 (0,0)):=by rw [hw1];exact heap_alloc2_new w _ _
 have A0:=cell_of_row w1 _ 0 _ _ _ RA
 have A1:=cell_of_row w1 _ 1 _ _ _ RA
 have A2:=cell_of_row w1 _ 2 _ _ _ RA
 have A3:=cell_of_row w1 _ 3 _ _ _ RA
 have A4:=cell_of_row w1 _ 4 _ _ _ RA
 have B0:=cell_of_row w1 _ 0 _ _ _ RB
 have B1:=cell_of_row w1 _ 1 _ _ _ RB
 have B2:=cell_of_row w1 _ 2 _ _ _ RB
 have B3:=cell_of_row w1 _ 3 _ _ _ RB
 have B4:=cell_of_row w1 _ 4 _ _ _ RB
 have ke:=fun w'=>eqlLog lg.half lg.gen lg.used lg.count w'
 have ks:=samePairs_any _ _ l l w1 (hp.below hb1) (hq.below hb1)
 rw [decide_eq_true rfl] at ks
 have HW1:=Lib.hid hw1
 have HB1:=Lib.hid hb1
 clear hw1 hb1 hp hq hN RA RB
 go_enter Tryz.func23,Tryz.ntmps23
 go_upto_region 1 with (fail)
 rw [← HW1.out]
 go_wp2_with fail
 refine ks.mono ?_
 rintro e w5 ⟨rfl,hb5⟩
 clear ks A0 A1 A2 A3 A4 B0 B1 B2 B3 B4 ke
 have HB5:=Lib.hid (HB1.out.trans (hb5.mono HB1.out.size))
 clear hb5
 go_wp2_with fail
 go_ret
 exact ⟨rfl,HB5.out⟩
end Go.Proofs.YtaijompnohkmaaaGreatDoor
