/- append, once more: what is of another type stays. -/
import Derived.Test.YtccjjlefpdlegaaOwn
namespace Go.Proofs.Ytccjjlefpdlegaa
open Go.RowKit
theorem run_append2 {P : Program} {B : Nat} {w : World} {v x : Value} {sz n m bytes : Nat} {cs news : List Value} (t xt ty e : TypeId) (i : TypeInfo) (z : Value)
    (ht : P.underlying t = some (.slice e)) (hxt : (∃ e', P.underlying xt = some (.slice e')) ∨ P.underlying xt = some .string) (hi : P.info? e = some i) (hz : i.zero = some z) (hsz : i.size = sz) (hby : i.bytes = bytes) (hzs : z.cells.size = sz)
    (hown : Own B w e v sz n cs) (hsrc : Src P w x sz m news) (h1 : ∀ u ∈ news, u.oneCell' = true) (h63 : n + m ≤ maxLen) (hroom : (n + m) * bytes ≤ 140737488355328) (hB : B ≤ w.heap.size) :
    ∃ v' w', (Builtin.append_ #[t, xt] ty #[v, x]).run P w = .ok v' w' ∧ Own B w' e v' sz (n + m) (cs ++ news) ∧ Below B w w' ∧ (∀ (T : Nat) (cs' : Array Value) (t' : TypeId) (fr : Nat × Nat), w.heap[T]? = some (.cells cs' t' fr) → t' ≠ e → w'.heap[T]? = w.heap[T]?) := by
  subst hsz
  subst hby
  obtain ⟨hl, a, cap, rfl, hnc, hcap, halt⟩ := hown
  obtain ⟨hnl, hlen, hfirst⟩ := hsrc
  have hf0 := hfirst w (fun _ => rfl)
  have hf1 := hfirst w.drew (fun p => by simp)
  have hll : (cs ++ news).length = (n + m) * i.size := by rw [List.length_append, hl, hnl, Nat.add_mul]
  by_cases hfit : n + m ≤ cap
  · rcases halt with h0 | ⟨g, cur, rfl, hg, hh, hs, htake⟩
    · subst h0
      obtain ⟨rfl, rfl⟩ : n = 0 ∧ m = 0 := by omega
      have e1 : cs = [] := List.eq_nil_of_length_eq_zero (by simpa using hl)
      have e2 : news = [] := List.eq_nil_of_length_eq_zero (by simpa using hnl)
      subst e1; subst e2
      refine ⟨.slice a 0 0, w, ?_, Own.none _ _ _ _ _, Below.refl _ _, fun _ _ _ _ _ _ => rfl⟩
      rcases hxt with ⟨e', hxt⟩ | hxt <;> cases a <;> simp [Builtin.append_, run_underlying ht, run_underlying hxt, sizeOf, typeInfo, hi, hlen, hf0, storeCells]
    · have hst := run_storeCells_at P g (n * i.size) e news 0 cur w hh (by rw [hs, hnl, Nat.add_zero, ← Nat.add_mul]; exact Nat.mul_le_mul_right _ hfit) h1
      simp only [Nat.add_zero] at hst
      refine ⟨.slice (some ⟨g, 0, Option.none⟩) (n + m) cap, w.setRow g (cur.toList.take (n * i.size) ++ news ++ cur.toList.drop (n * i.size + news.length)).toArray, ?_, ⟨hll, _, cap, rfl, hfit, hcap, .inr ⟨g, _, rfl, hg, setRow_heap w g cur _ e _ hh, ?_, ?_⟩⟩, ?_, ?_⟩
      · rcases hxt with ⟨e', hxt⟩ | hxt <;> simp [Builtin.append_, run_underlying ht, run_underlying hxt, sizeOf, typeInfo, hi, hlen, hf0, hfit, Addr.add_lit, hst]
      · have : n * i.size + news.length ≤ cap * i.size := by rw [hnl, ← Nat.add_mul]; exact Nat.mul_le_mul_right _ hfit
        simp only [List.size_toArray, List.length_append, List.length_take, List.length_drop, Array.length_toList]
        omega
      · rw [htake, ← hll]
        exact List.take_left
      · exact ⟨rfl, rfl, rfl, by simp [World.setRow], fun k hk => setRow_other w g k _ (by omega)⟩
      · intro T cs' t' fr hT hne
        refine setRow_other w g T _ (fun e' => ?_)
        subst e'
        rw [hh] at hT
        cases hT
        exact hne rfl
  · have hfo : (Builtin.firstCells i.size n (.slice a n cap)).run P w.drew = .ok cs.toArray w.drew := by
      have hr : Row w.heap.size w (.slice a n cap) i.size n cs := Own.row ⟨hl, a, cap, rfl, hnc, hcap, halt⟩
      exact hr.src.2.2 w.drew (fun p => by simp)
    have h63' : ¬ (9223372036854775807 < ((n : Int) + (m : Int))) := by unfold maxLen at h63; omega
    have h48' : ¬ (281474976710656 < Builtin.nextslicecap (n + m) cap * i.bytes) := Nat.not_lt.2 (growslice_fits (by omega) hroom)
    have hge := grownCap_ge w (n + m) cap e
    have hcm := grownCap_le_maxLen w (n + m) cap e h63
    refine ⟨.slice (some ⟨w.heap.size, 0, Option.none⟩) (n + m) (grownCap w (n + m) cap e), w.drew.alloc (.cells (cs.toArray ++ news.toArray ++ Builtin.zeroCells z.cells (grownCap w (n + m) cap e - (n + m))) e), ?_,
      ⟨hll, _, _, rfl, hge, hcm, .inr ⟨w.heap.size, _, rfl, hB, heap_alloc_new w.drew _, ?_, ?_⟩⟩, ?_, ?_⟩
    · rcases hxt with ⟨e', hxt⟩ | hxt <;> (simp [Builtin.append_, run_underlying ht, run_underlying hxt, sizeOf, typeInfo, zeroValue, hi, hz, hlen, hfit, h63', h48', Question.forced, hf1, hfo, newRow, grownCap]; (congr 2; apply Array.ext'; simp [List.append_assoc]))
    · simp only [Array.size_append, List.size_toArray, size_zeroCells, hzs, hl, hnl, ← Nat.add_mul]
      congr 1
      omega
    · simp only [Array.toList_append, List.append_assoc]
      rw [← List.append_assoc, ← hll]
      exact List.take_left
    · exact ⟨rfl, rfl, rfl, by simp, fun k hk => Below.heap_alloc w.drew _ k (Nat.lt_of_lt_of_le hk hB)⟩
    · intro T cs' t' fr hT _
      exact Below.heap_alloc w.drew _ T (block_lt hT)
theorem wp_append2 {P : Program} {ops : Array Oper} {rest : List Oper} {o : Oper} {a : Act} {w : World} {Q : Exit → Act → World → Prop} (hgd : o.guard = Option.none) (s y : Operand) (t xt e : TypeId)
    (ho : o.op = .call { callee := .builtin .append, args := #[s, y], argTypes := #[t, xt] }) (i : TypeInfo) (z : Value) (sz bytes : Nat)
    (ht : P.underlying t = some (.slice e)) (hxt : (∃ e', P.underlying xt = some (.slice e')) ∨ P.underlying xt = some .string) (hi : P.info? e = some i) (hz : i.zero = some z) (hsz : i.size = sz) (hby : i.bytes = bytes) (hzs : z.cells.size = sz)
    {B : Nat} {v x : Value} {n m : Nat} {cs news : List Value} (hs : a.eval s = v) (hx : a.eval y = x)
    (hown : Own B w e v sz n cs) (hsrc : Src P w x sz m news) (h1 : ∀ u ∈ news, u.oneCell' = true) (h63 : n + m ≤ maxLen) (hroom : (n + m) * bytes ≤ 140737488355328) (hB : B ≤ w.heap.size)
    (h : ∀ v' w', Own B w' e v' sz (n + m) (cs ++ news) → Below B w w' → (∀ (T : Nat) (cs' : Array Value) (t' : TypeId) (fr : Nat × Nat), w.heap[T]? = some (.cells cs' t' fr) → t' ≠ e → w'.heap[T]? = w.heap[T]?) → wpList P ops Q rest (a.put o.dst v') w') : wpList P ops Q (o :: rest) a w := by
  refine wpList_plain hgd fun K hK => ?_
  obtain ⟨v', w', hr, h2, h3, h4⟩ := run_append2 (P := P) t xt o.type e i z ht hxt hi hz hsz hby hzs hown hsrc h1 h63 hroom hB
  subst hs
  subst hx
  unfold Oper.wp execOp
  simp only [ho, resolve, invoke, builtin, Sem.run_bind, Sem.run_pure, Result.andThen_ok, List.map_toArray, List.map_cons, List.map_nil, hr]
  exact hK _ _ (h v' w' h2 h3 h4)
/-- An own slice outlives a write into a block of another type. -/
theorem Own.setType {B : Nat} {w : World} {e t : TypeId} {v : Value} {sz n : Nat} {cs : List Value} {cs' : Array Value} {fr : Nat × Nat} (h : Own B w e v sz n cs) (p : Addr) (u : Value) (hp : w.heap[p.block]? = some (.cells cs' t fr)) (ht : t ≠ e) : Own B (w.setCell p u) e v sz n cs := by
  obtain ⟨h1, a, cap, rfl, h2, h3, h4⟩ := h
  refine ⟨h1, a, cap, rfl, h2, h3, ?_⟩
  rcases h4 with h4 | ⟨g, cur, rfl, hg, hh, hs, ht'⟩
  · exact .inl h4
  · refine .inr ⟨g, cur, rfl, hg, ?_, hs, ht'⟩
    simp only [World.setCell, Array.getElem?_modify]
    rw [if_neg (fun e' => by rw [e', hh] at hp; cases hp; exact ht rfl)]
    exact hh
end Go.Proofs.Ytccjjlefpdlegaa
