/- Layer 6 (kv), the document's answer: Snapshot. -/
import Derived.Test.YtaijompnohkmaaaGreatDoorMT
import Derived.Test.YtaijompnohkmaaaGreatDoorZKvR3
set_option linter.unusedSimpArgs false
set_option linter.unusedVariables false
namespace Go.Proofs.YtaijompnohkmaaaGreatDoor
open Go.RowKit KvP PackP
/-- append,as one operation,whatever is appended;blocks of other types are as they were. -/
theorem op_append3 {P : Program} {o : Oper} {a : Act} {w : World} {K : Act → World → Prop} {Q : Exit → Act → World → Prop} (s y : Operand) (t xt e : TypeId)
  (ho : o.op = .call { callee:=.builtin .append,args:=#[s,y],argTypes:=#[t,xt] }) (i : TypeInfo) (z : Value) (sz bytes : Nat)
  (ht : P.underlying t = some (.slice e)) (hxt : (∃ e',P.underlying xt = some (.slice e')) ∨ P.underlying xt = some .string) (hi : P.info? e = some i) (hz : i.zero = some z) (hsz : i.size = sz) (hby : i.bytes = bytes) (hzs : z.cells.size = sz)
  {B : Nat} {v x : Value} {n m : Nat} {cs news : List Value} (hs : a.eval s = v) (hx : a.eval y = x)
  (hown : Own B w e v sz n cs) (hsrc : Src P w x sz m news) (h1 : ∀ u ∈ news,u.oneCell' = true) (h63 : n + m ≤ maxLen) (hroom : (n + m) * bytes ≤ 140737488355328) (hB : B ≤ w.heap.size)
  (h : ∀ v' w',Own B w' e v' sz (n + m) (cs ++ news) → Below B w w' → Typed e w w' → K (a.put o.dst v') w') : Oper.wp P o a w K Q:=by
 obtain ⟨v',w',hr,h2,h3,h4⟩:=run_append2 (P:=P) t xt o.type e i z ht hxt hi hz hsz hby hzs hown hsrc h1 h63 hroom hB
 subst hs
 subst hx
 unfold Oper.wp execOp
 simp only [ho,resolve,invoke,builtin,Sem.run_bind,Sem.run_pure,Result.andThen_ok,List.map_toArray,List.map_cons,List.map_nil,hr]
 exact h v' w' h2 h3 h4
theorem run_slice_rest {P : Program} {t e : TypeId} {i : TypeInfo} {sz : Nat} (ht : P.underlying t = some (.slice e)) (hi : P.info? e = some i) (hsz : i.size = sz) {B : Nat} {w : World} {a : Option Addr} {n cap : Nat} {cs : List Value} (h : Row B w (.slice a n cap) sz n cs) (k : Nat) (hk : k ≤ n) :
  ∃ a' c',(∀ w',(Instr.slice t (.slice a n cap) (some (.int .i64 k)) none none).run P w' = .ok (.slice a' (n - k) c') w') ∧ Row B w (.slice a' (n - k) c') sz (n - k) (cs.drop (k * sz)):=by
 refine ⟨if cap = k then a else a.map (·.add (k * sz)),cap - k,fun w'=>?_,Row.drop h k hk⟩
 have h0 : (0 : Int) ≤ (k : Int):=by omega
 have h1 : (k : Int) ≤ (n : Int):=by omega
 simp [Instr.slice,run_underlying ht,Instr.sliceBounds,run_sliceBound,sizeOf,typeInfo,hi,hsz,h0,h1]
end Go.Proofs.YtaijompnohkmaaaGreatDoor
