/- Layer 1 (sector): helpers of the laws (seat b; on seat a they stand in View). -/
import Derived.Test.YtccjjlefpdlegabAlive
import Derived.Test.YtccjjlefpdlegabEq2
namespace Go.Proofs.Ytccjjlefpdlegab
open Go.RowKit
section
variable {P : Program} {ops : Array Oper} {rest : List Oper} {o : Oper} {a : Act} {w : World} {Q : Exit → Act → World → Prop}
theorem wpList_wanted (hw : Region.wanted o (yielded ops a.tmps) = true)
    (h : ∀ K : Act → World → Prop, (∀ a w, wpList P ops Q rest a w → K a w) → o.wp P a w K Q) : wpList P ops Q (o :: rest) a w :=
  wpList_step fun K hK => by simp only [hw, if_true]; exact h K hK
theorem wp_rem_at (k : IntKind) (x y : Operand) (t u : TypeId) (hgd : o.guard = none) (ho : o.op = .binOp .rem t x y u) {m n : Int} {v : Value} (hx : a.eval x = .int k m) (hy : a.eval y = .int k n) (hl : (Op.intDiv .rem k m n).run P w = .ok v w)
    (h : wpList P ops Q rest (a.put o.dst v) w) : wpList P ops Q (o :: rest) a w := by
  refine wpList_plain hgd fun K hK => ?_
  unfold Oper.wp execOp
  simp only [ho, hx, hy, eqGuard_rem, binOp_rem, Sem.run_bind, Sem.run_pure, Result.andThen_ok, hl]
  exact hK _ _ h
/-- A guarded load that is carried out. -/
theorem wp_load_w (x : Operand) (t : TypeId) (hgd : Region.wanted o (yielded ops a.tmps) = true) (ho : o.op = .load t x) {ad : Addr} {v : Value} {w' : World} (hw : w' = w) (hx : a.eval x = .pointer (some ad)) (hl : (loadVar t ad).run P w' = .ok v w')
    (h : wpList P ops Q rest (a.put o.dst v) w') : wpList P ops Q (o :: rest) a w := by
  subst hw
  refine wpList_wanted hgd fun K hK => ?_
  unfold Oper.wp execOp
  simp only [ho, hx, Instr.loadAt, Instr.sureAddr, Sem.run_bind, Sem.run_pure, Result.andThen_ok, hl]
  exact hK _ _ h
end
theorem lastW_len (at_ : Int) : ∀ (ls : List WriteP) (s : List UInt8), (∀ x ∈ ls, x.data.length = 64) → s.length = 64 → (lastW ls at_ s).length = 64
  | [], _, _, h => h
  | x :: ls, s, h, hs => by
    unfold lastW
    rw [List.foldl_cons]
    refine lastW_len at_ ls _ (fun y hy => h y (List.mem_cons_of_mem _ hy)) ?_
    split
    · exact h x (List.mem_cons_self ..)
    · exact hs
theorem read_len {d : DiskP} (h1 : ∀ s ∈ d.secs, s.length = 64) (h2 : ∀ x ∈ d.loose, x.data.length = 64) (at_ : Int) : (readP d at_).1.length = 64 := by
  unfold readP
  split
  · split
    · rfl
    · refine lastW_len _ _ _ h2 ?_
      cases h : d.secs[at_.toNat]? with
      | none => rfl
      | some s => exact h1 s (List.mem_of_getElem? h)
  · rfl
theorem DiskV.lens {B : Nat} {w : World} {v : Value} {d : DiskP} (h : DiskV B w v d) : (∀ s ∈ d.secs, s.length = 64) ∧ ∀ x ∈ d.loose, x.data.length = 64 := by
  obtain ⟨_, _, _, h1, h2⟩ := h
  exact ⟨h1.1, h2.1⟩
/-- A fresh block, and 64 cells laid into it. -/
theorem fresh64 (w : World) (X : Array Value) (hX : X.size = 64) (h1 : ∀ v ∈ X.toList, v.oneCell' = true) : ∃ z w1 w2, (∀ w, (zeroValue 33).run Try.prog w = .ok z w) ∧ w1 = w.alloc (.cells z.cells 33) ∧ (storeVar 33 ⟨w.heap.size, 0, none⟩ (.agg X)).run Try.prog w1 = .ok () w2 ∧ w2.heap[w.heap.size]? = some (.cells X 33 (0, 0)) ∧ Below w.heap.size w w2 := by
  obtain ⟨z, hz, hzr⟩ := zero44
  obtain ⟨w1, hw1⟩ : ∃ w1, w1 = w.alloc (.cells z.cells 33) := ⟨_, rfl⟩
  have hn1 : w1.heap[w.heap.size]? = some (.cells z.cells 33 (0, 0)) := by rw [hw1]; exact heap_alloc_new w _
  have hb1 : Below w.heap.size w w1 := by rw [hw1]; exact Below.alloc (Below.refl _ _) (Nat.le_refl _) _
  obtain ⟨w2, hst, hn2, hb2, _, _, _⟩ := store64 hn1 (by rw [hz]; rfl) X hX h1
  exact ⟨z, w1, w2, hzr, hw1, hst, hn2, hb1.trans hb2⟩
theorem run_rem (P : Program) (m n : Nat) (hm : m < 2 ^ 16) (hn : n ≠ 0) (w : World) : (Op.intDiv .rem .i64 m n).run P w = .ok (.int .i64 ((m % n : Nat) : Int)) w := by
  simp [Op.intDiv, hn]
  exact Int.ofNat_tmod m n
theorem putP_e (d : DiskP) (at_ : Int) (data : List UInt8) : (putP d at_ data).2 = 0 ∨ (putP d at_ data).2 = 1 ∨ (putP d at_ data).2 = 9 := by
  unfold putP
  split
  · split <;> simp
  · simp
end Go.Proofs.Ytccjjlefpdlegab
