/- Layer 5 (wal): what the walk of WalWhole keeps: a disk and a log in variables, and lists of records in slices. -/
import Derived.Test.YtaijompnohkmaaaDoorZWholeP
import Derived.Test.YtaijompnohkmaaaDoorMR
namespace Go.Proofs.YtaijompnohkmaaaDoor
open Go.RowKit WalP PackP
theorem op_append2 {P : Program} {o : Oper} {a : Act} {w : World} {K : Act → World → Prop} {Q : Exit → Act → World → Prop} (s y : Operand) (t xt e : TypeId)
    (ho : o.op = .call { callee := .builtin .append, args := #[s, y], argTypes := #[t, xt] }) (i : TypeInfo) (z : Value) (sz bytes : Nat)
    (ht : P.underlying t = some (.slice e)) (hxt : (∃ e', P.underlying xt = some (.slice e')) ∨ P.underlying xt = some .string) (hi : P.info? e = some i) (hz : i.zero = some z) (hsz : i.size = sz) (hby : i.bytes = bytes) (hzs : z.cells.size = sz)
    {B : Nat} {v x : Value} {n m : Nat} {cs news : List Value} (hs : a.eval s = v) (hx : a.eval y = x)
    (hown : Own B w e v sz n cs) (hsrc : Src P w x sz m news) (h1 : ∀ u ∈ news, u.oneCell' = true) (h63 : n + m ≤ maxLen) (hroom : (n + m) * bytes ≤ 140737488355328) (hB : B ≤ w.heap.size) (hm : 0 < m)
    (h : ∀ v' w', Own B w' e v' sz (n + m) (cs ++ news) → Below B w w' → Grew w w' v v' → K (a.put o.dst v') w') : Oper.wp P o a w K Q := by
  obtain ⟨v', w', hr, h2, h3, h4⟩ := run_append_apart (P := P) t xt o.type e i z ht hxt hi hz hsz hby hzs hown hsrc h1 h63 hroom hB hm
  subst hs
  subst hx
  unfold Oper.wp execOp
  simp only [ho, resolve, invoke, builtin, Sem.run_bind, Sem.run_pure, Result.andThen_ok, List.map_toArray, List.map_cons, List.map_nil, hr]
  exact h v' w' h2 h3 h4
theorem grew_empty {w w' : World} {a : Option Addr} {v' : Value} (h : Grew w w' (.slice a 0 0) v') : Below w.heap.size w w' := by
  rcases h with ⟨x, n, c, n', hv, _, hc, _⟩ | ⟨_, _, _, hb⟩
  · cases hv
    omega
  · exact hb
theorem op_buildSlice {P : Program} {o : Oper} {a : Act} {w w' : World} {K : Act → World → Prop} {Q : Exit → Act → World → Prop} (t : TypeId) (n : Nat) (L : List (Nat × Operand)) (ho : o.op = .buildSlice t n L.toArray) {v : Value} {L' : List (Nat × Value)} (hL : L.map (fun x => (x.1, a.eval x.2)) = L') (hb : (Instr.buildSlice t n L'.toArray).run P w = .ok v w')
    (h : K (a.put o.dst v) w') : Oper.wp P o a w K Q := by
  subst hL
  unfold Oper.wp execOp
  simp only [ho, Sem.run_bind, Sem.run_pure, Result.andThen_ok, List.map_toArray, hb]
  exact h
theorem run_build0_recs (w : World) : (Instr.buildSlice 31 0 #[]).run Tryd.prog w = .ok (.slice (some ⟨w.heap.size, 0, none⟩) 0 0) (w.alloc (.cells #[] 43)) := by kernel_rfl
section
variable {P : Program} {ops : Array Oper} {rest : List Oper} {o : Oper} {a : Act} {w : World} {Q : Exit → Act → World → Prop}
theorem wp_remW (k : IntKind) (x y : Operand) (t u : TypeId) (hgd : o.guard = none) (ho : o.op = .binOp .rem t x y u) {m n : Int} {v : Value} (hx : a.eval x = .int k m) (hy : a.eval y = .int k n) (hl : (Op.intDiv .rem k m n).run P w = .ok v w)
    (h : wpList P ops Q rest (a.put o.dst v) w) : wpList P ops Q (o :: rest) a w := by
  refine wpList_plain hgd fun K hK => ?_
  unfold Oper.wp execOp
  simp only [ho, hx, hy, eqGuard_rem, binOp_rem, Sem.run_bind, Sem.run_pure, Result.andThen_ok, hl]
  exact hK _ _ h
theorem run_remW (P : Program) (m n : Nat) (hn : n ≠ 0) (w : World) : (Op.intDiv .rem .i64 m n).run P w = .ok (.int .i64 ((m % n : Nat) : Int)) w := by
  simp [Op.intDiv, hn]
  exact Int.ofNat_tmod m n
end
/-- Records in a slice whose blocks are none of two. -/
def LS (D L : Nat) (w : World) (v : Value) (ls : List (List UInt8)) : Prop := ∃ a c, v = .slice a ls.length c ∧ PiecesS (fun b => b ≠ D ∧ b ≠ L) w.heap.size w (.slice a ls.length c) ls
theorem LS.below {D L : Nat} {w w' : World} {v : Value} {ls : List (List UInt8)} (h : LS D L w v ls) (hb : Below w.heap.size w w') : LS D L w' v ls := by
  obtain ⟨a, c, rfl, h⟩ := h
  exact ⟨a, c, rfl, (h.below hb).tight⟩
theorem LS.keep {D L : Nat} {w w' : World} {v : Value} {ls : List (List UInt8)} (h : LS D L w v ls) (hk : ∀ k, k ≠ D → k ≠ L → w'.heap[k]? = w.heap[k]?) : LS D L w' v ls := by
  obtain ⟨a, c, rfl, h⟩ := h
  exact ⟨a, c, rfl, (h.keep (fun k hk' _ => hk k hk'.1 hk'.2)).tight⟩
theorem LS.pieces {D L : Nat} {w : World} {a : Option Addr} {n c : Nat} {ls : List (List UInt8)} (h : LS D L w (.slice a n c) ls) : Pieces w.heap.size w (.slice a n c) ls := by
  obtain ⟨_, _, hv, h⟩ := h
  rw [hv]
  exact h.pieces
/-- Disk and log in their variables, and the records that are wanted. -/
structure Core (W : World) (D L : Nat) (w : World) (d : DiskP) (l : LogP) (want : List (List UInt8)) (v : Value) : Prop where
  d : DAt w D d
  l : LAt w L l
  b : Below W.heap.size W w
  v : LS D L w v want
theorem Core.below {W : World} {D L : Nat} {w w' : World} {d : DiskP} {l : LogP} {want : List (List UInt8)} {v : Value} (h : Core W D L w d l want v) (hb : Below w.heap.size w w') : Core W D L w' d l want v :=
  ⟨h.d.below hb, h.l.below hb, h.b.trans (hb.mono h.b.size), h.v.below hb⟩
/-- Disk and log are stored, the records stay. -/
theorem Core.stored {W : World} {D L : Nat} {w w9 : World} {d d' : DiskP} {l l' : LogP} {want : List (List UInt8)} {v : Value} (h : Core W D L w d l want v) (hD : W.heap.size ≤ D) (hL : W.heap.size ≤ L)
    (hs : DAt w9 D d' ∧ LAt w9 L l' ∧ w9.heap.size = w.heap.size ∧ (∀ k, k ≠ D → k ≠ L → w9.heap[k]? = w.heap[k]?) ∧ (∀ B w0, Below B w0 w → B ≤ D → B ≤ L → Below B w0 w9)) : Core W D L w9 d' l' want v :=
  ⟨hs.1, hs.2.1, hs.2.2.2.2 _ _ h.b hD hL, h.v.keep hs.2.2.2.1⟩
theorem Core.storedD {W : World} {D L : Nat} {w w9 : World} {d d' : DiskP} {l : LogP} {want : List (List UInt8)} {v : Value} (h : Core W D L w d l want v) (hD : W.heap.size ≤ D) (hne : D ≠ L)
    (hs : DAt w9 D d' ∧ w9.heap.size = w.heap.size ∧ (∀ k, k ≠ D → w9.heap[k]? = w.heap[k]?) ∧ (∀ B w0, Below B w0 w → B ≤ D → Below B w0 w9)) : Core W D L w9 d' l want v :=
  ⟨hs.1, (hs.2.2.1 L (Ne.symm hne)).trans h.l, hs.2.2.2 _ _ h.b hD, h.v.keep (fun k h1 _ => hs.2.2.1 k h1)⟩
theorem row_other {w w9 : World} {D L g : Nat} {o : Obj} (h : w.heap[g]? = some o) (h1 : g ≠ D) (h2 : g ≠ L) (hk : ∀ k, k ≠ D → k ≠ L → w9.heap[k]? = w.heap[k]?) : w9.heap[g]? = some o := (hk g h1 h2).trans h
end Go.Proofs.YtaijompnohkmaaaDoor
