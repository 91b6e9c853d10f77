/- A slice of the call's own that is appended to: any source (nil, empty, a string), any element size. -/
import Derived.Test.YtccjjlefpdlegabLib
namespace Go.Proofs.Ytccjjlefpdlegab
open Go.RowKit
/-- The slice v is the call's own: it has no room at all, or lies at the head of a block from B on, of element type e, that is known to hold what it needs. -/
def Own (B : Nat) (w : World) (e : TypeId) (v : Value) (sz n : Nat) (cs : List Value) : Prop :=
  cs.length = n * sz ∧ ∃ a cap, v = .slice a n cap ∧ n ≤ cap ∧ cap ≤ maxLen ∧
    (cap = 0 ∨ ∃ g cur, a = some ⟨g, 0, none⟩ ∧ B ≤ g ∧ w.heap[g]? = some (.cells cur e (0, 0)) ∧ cur.size = cap * sz ∧ cur.toList.take (n * sz) = cs)
theorem block_lt {w : World} {g : Nat} {o : Obj} (h : w.heap[g]? = some o) : g < w.heap.size := (Array.getElem?_eq_some_iff.1 h).1
theorem Own.row {B : Nat} {w : World} {e : TypeId} {v : Value} {sz n : Nat} {cs : List Value} (h : Own B w e v sz n cs) : Row w.heap.size w v sz n cs := by
  obtain ⟨h1, a, cap, rfl, h2, h3, h4⟩ := h
  refine ⟨h1, a, cap, rfl, h2, h3, fun hn => ?_⟩
  rcases h4 with h4 | ⟨g, cur, rfl, hg, hh, hs, ht⟩
  · omega
  · refine ⟨g, 0, rfl, block_lt hh, fun k u hk => ?_⟩
    rw [Nat.zero_add, cell_of_row w g k cur e (0, 0) hh]
    rw [← ht, List.getElem?_take] at hk
    split at hk
    · simpa using hk
    · cases hk
theorem Own.below {B B' : Nat} {w w' : World} {e : TypeId} {v : Value} {sz n : Nat} {cs : List Value} (h : Own B w e v sz n cs) (hb : Below B' w w') (hB : w.heap.size ≤ B') : Own B w' e v sz n cs := by
  obtain ⟨h1, a, cap, rfl, h2, h3, h4⟩ := h
  refine ⟨h1, a, cap, rfl, h2, h3, ?_⟩
  rcases h4 with h4 | ⟨g, cur, rfl, hg, hh, hs, ht⟩
  · exact .inl h4
  · exact .inr ⟨g, cur, rfl, hg, (hb.block g (Nat.lt_of_lt_of_le (block_lt hh) hB)).trans hh, hs, ht⟩
theorem Own.lower {B B' : Nat} {w : World} {e : TypeId} {v : Value} {sz n : Nat} {cs : List Value} (h : Own B w e v sz n cs) (hB : B' ≤ B) : Own B' w e v sz n cs := by
  obtain ⟨h1, a, cap, rfl, h2, h3, h4⟩ := h
  refine ⟨h1, a, cap, rfl, h2, h3, ?_⟩
  rcases h4 with h4 | ⟨g, cur, rfl, hg, r⟩
  · exact .inl h4
  · exact .inr ⟨g, cur, rfl, by omega, r⟩
theorem Own.none (B : Nat) (w : World) (e : TypeId) (a : Option Addr) (sz : Nat) : Own B w e (.slice a 0 0) sz 0 [] :=
  ⟨by simp, a, 0, rfl, Nat.le_refl _, by simp [maxLen], .inl rfl⟩
/-- An own slice with elements: its block; a cell of it may be written, and then it is the slice with that cell another one. -/
theorem Own.form {B : Nat} {w : World} {e : TypeId} {a : Option Addr} {cap sz n : Nat} {cs : List Value} (h : Own B w e (.slice a n cap) sz n cs) (hn : 0 < n) :
    ∃ g, a = some ⟨g, 0, Option.none⟩ ∧ B ≤ g ∧ g < w.heap.size ∧ (∀ k u, cs[k]? = some u → w.cell? ⟨g, k, Option.none⟩ = some u) ∧ (∀ k, w.frozen? ⟨g, k, Option.none⟩ = false) ∧
      ∀ k u, k < n * sz → Own B (w.setCell ⟨g, k, Option.none⟩ u) e (.slice a n cap) sz n (cs.set k u) := by
  obtain ⟨h1, a', cap', hv, h2, h3, h4⟩ := h
  obtain ⟨rfl, rfl⟩ : a = a' ∧ cap = cap' := by cases hv; exact ⟨rfl, rfl⟩
  rcases h4 with h4 | ⟨g, cur, rfl, hg, hh, hs, ht⟩
  · omega
  · refine ⟨g, rfl, hg, block_lt hh, fun k u hk => ?_, fun k => by simp [World.frozen?, hh], fun k u hk => ?_⟩
    · rw [cell_of_row w g k cur e (0, 0) hh]
      rw [← ht, List.getElem?_take] at hk
      split at hk
      · simpa using hk
      · cases hk
    · have hks : k < cur.size := Nat.lt_of_lt_of_le hk (by rw [hs]; exact Nat.mul_le_mul_right _ h2)
      refine ⟨by simpa using h1, _, cap, rfl, h2, h3, .inr ⟨g, cur.setIfInBounds k u, rfl, hg, ?_, by simpa using hs, ?_⟩⟩
      · simp [World.setCell, Array.getElem?_modify, hh]
      · rw [Array.toList_setIfInBounds, ← ht, List.take_set]
/-- What is appended: so many elements, these cells, in every world whose cells read the same. -/
def Src (P : Program) (w : World) (x : Value) (sz m : Nat) (news : List Value) : Prop :=
  news.length = m * sz ∧ (Builtin.lenOf x).run P w = .ok m w ∧ ∀ w' : World, (∀ p, w'.cell? p = w.cell? p) → (Builtin.firstCells sz m x).run P w' = .ok news.toArray w'
theorem Row.src {P : Program} {B : Nat} {w : World} {x : Value} {sz m : Nat} {news : List Value} (h : Row B w x sz m news) : Src P w x sz m news := by
  obtain ⟨h1, a, cap, rfl, h2, h3, h4⟩ := h
  refine ⟨h1, by simp [Builtin.lenOf], fun w' hw' => ?_⟩
  by_cases hm : 0 < m
  · obtain ⟨b, off, rfl, _, hc⟩ := h4 hm
    refine run_firstCells_some w' sz m _ m cap news h1 (fun j u hu => ?_)
    have : (⟨b, off, Option.none⟩ : Addr).add j = ⟨b, off + j, Option.none⟩ := by unfold Addr.add; split <;> simp_all
    rw [this, hw']
    exact hc j u hu
  · obtain rfl : m = 0 := by omega
    have hn : news = [] := List.eq_nil_of_length_eq_zero (by simpa using h1)
    subst hn
    cases a with
    | none => exact run_firstCells_none w' sz 0 0 cap
    | some a => exact run_firstCells_some w' sz 0 a 0 cap [] (by simp) (fun j u hu => by simp at hu)
theorem src_string {P : Program} {w : World} (s : ByteArray) : Src P w (.string s) 1 s.size (u8s s.data.toList) := by
  have hsz : s.data.toList.length = s.size := Array.length_toList
  refine ⟨by rw [u8s, List.length_map, hsz, Nat.mul_one], rfl, fun w' _ => ?_⟩
  have hx : (s.extract 0 s.size).data = s.data := by
    rw [ByteArray.data_extract]
    exact Array.extract_size
  simp only [Builtin.firstCells]
  rw [hx]
  have e : Array.map (fun b : UInt8 => Value.int IntKind.u8 (b.toNat : Int)) s.data = (u8s s.data.toList).toArray := by
    apply Array.ext'
    rw [Array.toList_map]
    rfl
  rw [e]
  rfl
theorem oneCell_u8s (bs : List UInt8) : ∀ u ∈ u8s bs, u.oneCell' = true := by
  intro u hu
  obtain ⟨b, _, rfl⟩ := List.mem_map.1 hu
  rfl
theorem run_append {P : Program} {B : Nat} {w : World} {v x : Value} {sz n m bytes : Nat} {cs news : List Value} (t xt ty e : TypeId) (i : TypeInfo) (z : Value)
    (ht : P.underlying t = some (.slice e)) (hxt : (∃ e', P.underlying xt = some (.slice e')) ∨ P.underlying xt = some .string) (hi : P.info? e = some i) (hz : i.zero = some z) (hsz : i.size = sz) (hby : i.bytes = bytes) (hzs : z.cells.size = sz)
    (hown : Own B w e v sz n cs) (hsrc : Src P w x sz m news) (h1 : ∀ u ∈ news, u.oneCell' = true) (h63 : n + m ≤ maxLen) (hroom : (n + m) * bytes ≤ 140737488355328) (hB : B ≤ w.heap.size) :
    ∃ v' w', (Builtin.append_ #[t, xt] ty #[v, x]).run P w = .ok v' w' ∧ Own B w' e v' sz (n + m) (cs ++ news) ∧ Below B w w' := by
  subst hsz
  subst hby
  obtain ⟨hl, a, cap, rfl, hnc, hcap, halt⟩ := hown
  obtain ⟨hnl, hlen, hfirst⟩ := hsrc
  have hf0 := hfirst w (fun _ => rfl)
  have hf1 := hfirst w.drew (fun p => by simp)
  have hll : (cs ++ news).length = (n + m) * i.size := by rw [List.length_append, hl, hnl, Nat.add_mul]
  by_cases hfit : n + m ≤ cap
  · rcases halt with h0 | ⟨g, cur, rfl, hg, hh, hs, htake⟩
    · subst h0
      obtain ⟨rfl, rfl⟩ : n = 0 ∧ m = 0 := by omega
      have e1 : cs = [] := List.eq_nil_of_length_eq_zero (by simpa using hl)
      have e2 : news = [] := List.eq_nil_of_length_eq_zero (by simpa using hnl)
      subst e1; subst e2
      refine ⟨.slice a 0 0, w, ?_, Own.none _ _ _ _ _, Below.refl _ _⟩
      rcases hxt with ⟨e', hxt⟩ | hxt <;> cases a <;> simp [Builtin.append_, run_underlying ht, run_underlying hxt, sizeOf, typeInfo, hi, hlen, hf0, storeCells]
    · have hst := run_storeCells_at P g (n * i.size) e news 0 cur w hh (by rw [hs, hnl, Nat.add_zero, ← Nat.add_mul]; exact Nat.mul_le_mul_right _ hfit) h1
      simp only [Nat.add_zero] at hst
      refine ⟨.slice (some ⟨g, 0, Option.none⟩) (n + m) cap, w.setRow g (cur.toList.take (n * i.size) ++ news ++ cur.toList.drop (n * i.size + news.length)).toArray, ?_, ⟨hll, _, cap, rfl, hfit, hcap, .inr ⟨g, _, rfl, hg, setRow_heap w g cur _ e _ hh, ?_, ?_⟩⟩, ?_⟩
      · rcases hxt with ⟨e', hxt⟩ | hxt <;> simp [Builtin.append_, run_underlying ht, run_underlying hxt, sizeOf, typeInfo, hi, hlen, hf0, hfit, Addr.add_lit, hst]
      · have : n * i.size + news.length ≤ cap * i.size := by rw [hnl, ← Nat.add_mul]; exact Nat.mul_le_mul_right _ hfit
        simp only [List.size_toArray, List.length_append, List.length_take, List.length_drop, Array.length_toList]
        omega
      · rw [htake, ← hll]
        exact List.take_left
      · exact ⟨rfl, rfl, rfl, by simp [World.setRow], fun k hk => setRow_other w g k _ (by omega)⟩
  · have hfo : (Builtin.firstCells i.size n (.slice a n cap)).run P w.drew = .ok cs.toArray w.drew := by
      have hr : Row w.heap.size w (.slice a n cap) i.size n cs := Own.row ⟨hl, a, cap, rfl, hnc, hcap, halt⟩
      exact hr.src.2.2 w.drew (fun p => by simp)
    have h63' : ¬ (9223372036854775807 < ((n : Int) + (m : Int))) := by unfold maxLen at h63; omega
    have h48' : ¬ (281474976710656 < Builtin.nextslicecap (n + m) cap * i.bytes) := Nat.not_lt.2 (growslice_fits (by omega) hroom)
    have hge := grownCap_ge w (n + m) cap e
    have hcm := grownCap_le_maxLen w (n + m) cap e h63
    refine ⟨.slice (some ⟨w.heap.size, 0, Option.none⟩) (n + m) (grownCap w (n + m) cap e), w.drew.alloc (.cells (cs.toArray ++ news.toArray ++ Builtin.zeroCells z.cells (grownCap w (n + m) cap e - (n + m))) e), ?_,
      ⟨hll, _, _, rfl, hge, hcm, .inr ⟨w.heap.size, _, rfl, hB, heap_alloc_new w.drew _, ?_, ?_⟩⟩, ?_⟩
    · rcases hxt with ⟨e', hxt⟩ | hxt <;> (simp [Builtin.append_, run_underlying ht, run_underlying hxt, sizeOf, typeInfo, zeroValue, hi, hz, hlen, hfit, h63', h48', Question.forced, hf1, hfo, newRow, grownCap]; (congr 2; apply Array.ext'; simp [List.append_assoc]))
    · simp only [Array.size_append, List.size_toArray, size_zeroCells, hzs, hl, hnl, ← Nat.add_mul]
      congr 1
      omega
    · simp only [Array.toList_append, List.append_assoc]
      rw [← List.append_assoc, ← hll]
      exact List.take_left
    · exact ⟨rfl, rfl, rfl, by simp, fun k hk => Below.heap_alloc w.drew _ k (Nat.lt_of_lt_of_le hk hB)⟩
/-- The same at the operation, for a walk: '(at_builtin; refine wp_append ..)'. -/
theorem wp_append {P : Program} {ops : Array Oper} {rest : List Oper} {o : Oper} {a : Act} {w : World} {Q : Exit → Act → World → Prop} (hgd : o.guard = Option.none) (s y : Operand) (t xt e : TypeId)
    (ho : o.op = .call { callee := .builtin .append, args := #[s, y], argTypes := #[t, xt] }) (i : TypeInfo) (z : Value) (sz bytes : Nat)
    (ht : P.underlying t = some (.slice e)) (hxt : (∃ e', P.underlying xt = some (.slice e')) ∨ P.underlying xt = some .string) (hi : P.info? e = some i) (hz : i.zero = some z) (hsz : i.size = sz) (hby : i.bytes = bytes) (hzs : z.cells.size = sz)
    {B : Nat} {v x : Value} {n m : Nat} {cs news : List Value} (hs : a.eval s = v) (hx : a.eval y = x)
    (hown : Own B w e v sz n cs) (hsrc : Src P w x sz m news) (h1 : ∀ u ∈ news, u.oneCell' = true) (h63 : n + m ≤ maxLen) (hroom : (n + m) * bytes ≤ 140737488355328) (hB : B ≤ w.heap.size)
    (h : ∀ v' w', Own B w' e v' sz (n + m) (cs ++ news) → Below B w w' → wpList P ops Q rest (a.put o.dst v') w') : wpList P ops Q (o :: rest) a w := by
  refine wpList_plain hgd fun K hK => ?_
  obtain ⟨v', w', hr, h2, h3⟩ := run_append (P := P) t xt o.type e i z ht hxt hi hz hsz hby hzs hown hsrc h1 h63 hroom hB
  subst hs
  subst hx
  unfold Oper.wp execOp
  simp only [ho, resolve, invoke, builtin, Sem.run_bind, Sem.run_pure, Result.andThen_ok, List.map_toArray, List.map_cons, List.map_nil, hr]
  exact hK _ _ (h v' w' h2 h3)
end Go.Proofs.Ytccjjlefpdlegab
