/- General words for the walks: a slice that reads as a row of cells, in whatever program. -/
import Derived.WalkKit
import Derived.ProofKit
import Derived.Deep.Draws
import Derived.OpenShut
import Derived.Lib.Hide
import Derived.WalkSpells
import Derived.Test.YtaijompnohkmaaaDoorProg
import Derived.KernelRfl
import Derived.Deep.QuietTactic
import Derived.BigQuiet
import Derived.Deep.RegionHeld3
namespace Go.Proofs.YtaijompnohkmaaaDoor
open Go.RowKit
/-- The slice value v has n elements of sz cells each; its cells, from its first on, are cs; its block lies below B. -/
def Row (B : Nat) (w : World) (v : Value) (sz n : Nat) (cs : List Value) : Prop :=
  cs.length = n * sz ∧ ∃ a cap, v = .slice a n cap ∧ n ≤ cap ∧ cap ≤ maxLen ∧ (0 < n → ∃ b off, a = some ⟨b, off, none⟩ ∧ b < B ∧ ∀ k u, cs[k]? = some u → w.cell? ⟨b, off + k, none⟩ = some u)

theorem Row.below {B : Nat} {w w' : World} {v : Value} {sz n : Nat} {cs : List Value} (h : Row B w v sz n cs) (hb : Below B w w') : Row B w' v sz n cs := by
  obtain ⟨h1, a, cap, rfl, h2, h3, h4⟩ := h
  refine ⟨h1, a, cap, rfl, h2, h3, fun hn => ?_⟩
  obtain ⟨b, off, rfl, h5, h6⟩ := h4 hn
  exact ⟨b, off, rfl, h5, fun k u hk => (hb.cell (p := ⟨b, off + k, none⟩) h5).trans (h6 k u hk)⟩
theorem Row.mono {B B' : Nat} {w : World} {v : Value} {sz n : Nat} {cs : List Value} (h : Row B w v sz n cs) (hB : B ≤ B') : Row B' w v sz n cs := by
  obtain ⟨h1, a, cap, rfl, h2, h3, h4⟩ := h
  refine ⟨h1, a, cap, rfl, h2, h3, fun hn => ?_⟩
  obtain ⟨b, off, rfl, h5, h6⟩ := h4 hn
  exact ⟨b, off, rfl, by omega, h6⟩
theorem Row.tight {B : Nat} {w : World} {v : Value} {sz n : Nat} {cs : List Value} (h : Row B w v sz n cs) (hsz : 0 < sz) : Row w.heap.size w v sz n cs := by
  obtain ⟨h1, a, cap, rfl, h2, h3, h4⟩ := h
  refine ⟨h1, a, cap, rfl, h2, h3, fun hn => ?_⟩
  obtain ⟨b, off, rfl, h5, h6⟩ := h4 hn
  have hl : 0 < cs.length := by rw [h1]; exact Nat.mul_pos hn hsz
  exact ⟨b, off, rfl, World.block_lt_of_cell? w _ (h6 0 _ (List.getElem?_eq_getElem hl)), h6⟩
theorem Row.nil (B : Nat) (w : World) (sz : Nat) : Row B w (.slice none 0 0) sz 0 [] :=
  ⟨by simp, none, 0, rfl, Nat.le_refl _, by simp [maxLen], fun h => absurd h (Nat.lt_irrefl _)⟩

/-- A row in a block that has just been made. -/
theorem Row.fresh {w : World} {C : Array Value} {e : TypeId} {fz : Nat × Nat} {sz n cap : Nat} {cs : List Value} (hl : cs.length = n * sz) (hnc : n ≤ cap) (hcap : cap ≤ maxLen)
    (hC : ∀ (k : Nat) (u : Value), cs[k]? = some u → C[k]? = some u) : Row (w.heap.size + 1) (w.alloc (.cells C e fz)) (.slice (some ⟨w.heap.size, 0, none⟩) n cap) sz n cs := by
  refine ⟨hl, _, cap, rfl, hnc, hcap, fun _ => ⟨_, 0, rfl, Nat.lt_succ_self _, fun k u hk => ?_⟩⟩
  have hnew : (w.alloc (.cells C e fz)).heap[w.heap.size]? = some (.cells C e fz) := by
    show (w.heap.push (.cells C e fz))[w.heap.size]? = _
    simp
  unfold World.cell?
  simp only [hnew, Nat.zero_add]
  exact hC k u hk
/-- A byte as Go's. -/
def u8 (b : UInt8) : Value := .int .u8 b.toNat
def u8s (bs : List UInt8) : List Value := bs.map u8
theorem u8s_at {bs : List UInt8} {k : Nat} (h : k < bs.length) : (u8s bs)[k]? = some (.int .u8 (bs[k].toNat : Int)) := by
  simp [u8s, h, u8]
/-- A slice of bytes. -/
def Bytes (B : Nat) (w : World) (v : Value) (bs : List UInt8) : Prop := Row B w v 1 bs.length (u8s bs)
theorem Bytes.tight {B : Nat} {w : World} {v : Value} {bs : List UInt8} (h : Bytes B w v bs) : Bytes w.heap.size w v bs := Row.tight h (by decide)
theorem Bytes.below {B : Nat} {w w' : World} {v : Value} {bs : List UInt8} (h : Bytes B w v bs) (hb : Below B w w') : Bytes B w' v bs := Row.below h hb
/-- A slice of slices of bytes. -/
def Pieces (B : Nat) (w : World) (v : Value) (ls : List (List UInt8)) : Prop :=
  ∃ vs : List Value, Row B w v 1 ls.length vs ∧ ∀ (k : Nat) (h : k < ls.length), ∃ u, vs[k]? = some u ∧ Bytes B w u ls[k]
theorem Pieces.below {B : Nat} {w w' : World} {v : Value} {ls : List (List UInt8)} (h : Pieces B w v ls) (hb : Below B w w') : Pieces B w' v ls := by
  obtain ⟨vs, h1, h2⟩ := h
  exact ⟨vs, h1.below hb, fun k hk => let ⟨u, h3, h4⟩ := h2 k hk; ⟨u, h3, h4.below hb⟩⟩
theorem below_draws {B : Nat} {a w : World} (h : Below B a w) (n : Nat) : Below B a (w.drewN n) := ⟨h.os, h.tape, h.output, h.size, h.block⟩
theorem ret_int {k : IntKind} {a b : Int} (h : a = b) : Ending.returned (.int k a) = .returned (.int k b) := by rw [h]
theorem ret_bool {a b : Bool} (h : a = b) : Ending.returned (.bool a) = .returned (.bool b) := by rw [h]
end Go.Proofs.YtaijompnohkmaaaDoor
/- A slice of the call's own that is appended to: any source (nil, empty, a string), any element size. -/
namespace Go.Proofs.YtaijompnohkmaaaDoor
open Go.RowKit
/-- The slice v is the call's own: it has no room at all, or lies at the head of a block from B on, of element type e, that is known to hold what it needs. -/
def Own (B : Nat) (w : World) (e : TypeId) (v : Value) (sz n : Nat) (cs : List Value) : Prop :=
  cs.length = n * sz ∧ ∃ a cap, v = .slice a n cap ∧ n ≤ cap ∧ cap ≤ maxLen ∧
    (cap = 0 ∨ ∃ g cur, a = some ⟨g, 0, none⟩ ∧ B ≤ g ∧ w.heap[g]? = some (.cells cur e (0, 0)) ∧ cur.size = cap * sz ∧ cur.toList.take (n * sz) = cs)
theorem block_lt {w : World} {g : Nat} {o : Obj} (h : w.heap[g]? = some o) : g < w.heap.size := (Array.getElem?_eq_some_iff.1 h).1
theorem Own.row {B : Nat} {w : World} {e : TypeId} {v : Value} {sz n : Nat} {cs : List Value} (h : Own B w e v sz n cs) : Row w.heap.size w v sz n cs := by
  obtain ⟨h1, a, cap, rfl, h2, h3, h4⟩ := h
  refine ⟨h1, a, cap, rfl, h2, h3, fun hn => ?_⟩
  rcases h4 with h4 | ⟨g, cur, rfl, hg, hh, hs, ht⟩
  · omega
  · refine ⟨g, 0, rfl, block_lt hh, fun k u hk => ?_⟩
    rw [Nat.zero_add, cell_of_row w g k cur e (0, 0) hh]
    rw [← ht, List.getElem?_take] at hk
    split at hk
    · simpa using hk
    · cases hk
theorem Own.below {B B' : Nat} {w w' : World} {e : TypeId} {v : Value} {sz n : Nat} {cs : List Value} (h : Own B w e v sz n cs) (hb : Below B' w w') (hB : w.heap.size ≤ B') : Own B w' e v sz n cs := by
  obtain ⟨h1, a, cap, rfl, h2, h3, h4⟩ := h
  refine ⟨h1, a, cap, rfl, h2, h3, ?_⟩
  rcases h4 with h4 | ⟨g, cur, rfl, hg, hh, hs, ht⟩
  · exact .inl h4
  · exact .inr ⟨g, cur, rfl, hg, (hb.block g (Nat.lt_of_lt_of_le (block_lt hh) hB)).trans hh, hs, ht⟩
theorem Own.lower {B B' : Nat} {w : World} {e : TypeId} {v : Value} {sz n : Nat} {cs : List Value} (h : Own B w e v sz n cs) (hB : B' ≤ B) : Own B' w e v sz n cs := by
  obtain ⟨h1, a, cap, rfl, h2, h3, h4⟩ := h
  refine ⟨h1, a, cap, rfl, h2, h3, ?_⟩
  rcases h4 with h4 | ⟨g, cur, rfl, hg, r⟩
  · exact .inl h4
  · exact .inr ⟨g, cur, rfl, by omega, r⟩
theorem Own.none (B : Nat) (w : World) (e : TypeId) (a : Option Addr) (sz : Nat) : Own B w e (.slice a 0 0) sz 0 [] :=
  ⟨by simp, a, 0, rfl, Nat.le_refl _, by simp [maxLen], .inl rfl⟩
/-- An own slice with elements: its block; a cell of it may be written, and then it is the slice with that cell another one. -/
theorem Own.form {B : Nat} {w : World} {e : TypeId} {a : Option Addr} {cap sz n : Nat} {cs : List Value} (h : Own B w e (.slice a n cap) sz n cs) (hn : 0 < n) :
    ∃ g, a = some ⟨g, 0, Option.none⟩ ∧ B ≤ g ∧ g < w.heap.size ∧ (∀ k u, cs[k]? = some u → w.cell? ⟨g, k, Option.none⟩ = some u) ∧ (∀ k, w.frozen? ⟨g, k, Option.none⟩ = false) ∧
      ∀ k u, k < n * sz → Own B (w.setCell ⟨g, k, Option.none⟩ u) e (.slice a n cap) sz n (cs.set k u) := by
  obtain ⟨h1, a', cap', hv, h2, h3, h4⟩ := h
  obtain ⟨rfl, rfl⟩ : a = a' ∧ cap = cap' := by cases hv; exact ⟨rfl, rfl⟩
  rcases h4 with h4 | ⟨g, cur, rfl, hg, hh, hs, ht⟩
  · omega
  · refine ⟨g, rfl, hg, block_lt hh, fun k u hk => ?_, fun k => by simp [World.frozen?, hh], fun k u hk => ?_⟩
    · rw [cell_of_row w g k cur e (0, 0) hh]
      rw [← ht, List.getElem?_take] at hk
      split at hk
      · simpa using hk
      · cases hk
    · have hks : k < cur.size := Nat.lt_of_lt_of_le hk (by rw [hs]; exact Nat.mul_le_mul_right _ h2)
      refine ⟨by simpa using h1, _, cap, rfl, h2, h3, .inr ⟨g, cur.setIfInBounds k u, rfl, hg, ?_, by simpa using hs, ?_⟩⟩
      · simp [World.setCell, Array.getElem?_modify, hh]
      · rw [Array.toList_setIfInBounds, ← ht, List.take_set]
/-- What is appended: so many elements, these cells, in every world whose cells read the same. -/
def Src (P : Program) (w : World) (x : Value) (sz m : Nat) (news : List Value) : Prop :=
  news.length = m * sz ∧ (Builtin.lenOf x).run P w = .ok m w ∧ ∀ w' : World, (∀ p, w'.cell? p = w.cell? p) → (Builtin.firstCells sz m x).run P w' = .ok news.toArray w'
theorem Row.src {P : Program} {B : Nat} {w : World} {x : Value} {sz m : Nat} {news : List Value} (h : Row B w x sz m news) : Src P w x sz m news := by
  obtain ⟨h1, a, cap, rfl, h2, h3, h4⟩ := h
  refine ⟨h1, by simp [Builtin.lenOf], fun w' hw' => ?_⟩
  by_cases hm : 0 < m
  · obtain ⟨b, off, rfl, _, hc⟩ := h4 hm
    refine run_firstCells_some w' sz m _ m cap news h1 (fun j u hu => ?_)
    have : (⟨b, off, Option.none⟩ : Addr).add j = ⟨b, off + j, Option.none⟩ := by unfold Addr.add; split <;> simp_all
    rw [this, hw']
    exact hc j u hu
  · obtain rfl : m = 0 := by omega
    have hn : news = [] := List.eq_nil_of_length_eq_zero (by simpa using h1)
    subst hn
    cases a with
    | none => exact run_firstCells_none w' sz 0 0 cap
    | some a => exact run_firstCells_some w' sz 0 a 0 cap [] (by simp) (fun j u hu => by simp at hu)
theorem src_string {P : Program} {w : World} (s : ByteArray) : Src P w (.string s) 1 s.size (u8s s.data.toList) := by
  have hsz : s.data.toList.length = s.size := Array.length_toList
  refine ⟨by rw [u8s, List.length_map, hsz, Nat.mul_one], rfl, fun w' _ => ?_⟩
  have hx : (s.extract 0 s.size).data = s.data := by
    rw [ByteArray.data_extract]
    exact Array.extract_size
  simp only [Builtin.firstCells]
  rw [hx]
  have e : Array.map (fun b : UInt8 => Value.int IntKind.u8 (b.toNat : Int)) s.data = (u8s s.data.toList).toArray := by
    apply Array.ext'
    rw [Array.toList_map]
    rfl
  rw [e]
  rfl
theorem oneCell_u8s (bs : List UInt8) : ∀ u ∈ u8s bs, u.oneCell' = true := by
  intro u hu
  obtain ⟨b, _, rfl⟩ := List.mem_map.1 hu
  rfl
theorem run_append {P : Program} {B : Nat} {w : World} {v x : Value} {sz n m bytes : Nat} {cs news : List Value} (t xt ty e : TypeId) (i : TypeInfo) (z : Value)
    (ht : P.underlying t = some (.slice e)) (hxt : (∃ e', P.underlying xt = some (.slice e')) ∨ P.underlying xt = some .string) (hi : P.info? e = some i) (hz : i.zero = some z) (hsz : i.size = sz) (hby : i.bytes = bytes) (hzs : z.cells.size = sz)
    (hown : Own B w e v sz n cs) (hsrc : Src P w x sz m news) (h1 : ∀ u ∈ news, u.oneCell' = true) (h63 : n + m ≤ maxLen) (hroom : (n + m) * bytes ≤ 140737488355328) (hB : B ≤ w.heap.size) :
    ∃ v' w', (Builtin.append_ #[t, xt] ty #[v, x]).run P w = .ok v' w' ∧ Own B w' e v' sz (n + m) (cs ++ news) ∧ Below B w w' := by
  subst hsz
  subst hby
  obtain ⟨hl, a, cap, rfl, hnc, hcap, halt⟩ := hown
  obtain ⟨hnl, hlen, hfirst⟩ := hsrc
  have hf0 := hfirst w (fun _ => rfl)
  have hf1 := hfirst w.drew (fun p => by simp)
  have hll : (cs ++ news).length = (n + m) * i.size := by rw [List.length_append, hl, hnl, Nat.add_mul]
  by_cases hfit : n + m ≤ cap
  · rcases halt with h0 | ⟨g, cur, rfl, hg, hh, hs, htake⟩
    · subst h0
      obtain ⟨rfl, rfl⟩ : n = 0 ∧ m = 0 := by omega
      have e1 : cs = [] := List.eq_nil_of_length_eq_zero (by simpa using hl)
      have e2 : news = [] := List.eq_nil_of_length_eq_zero (by simpa using hnl)
      subst e1; subst e2
      refine ⟨.slice a 0 0, w, ?_, Own.none _ _ _ _ _, Below.refl _ _⟩
      rcases hxt with ⟨e', hxt⟩ | hxt <;> cases a <;> simp [Builtin.append_, run_underlying ht, run_underlying hxt, sizeOf, typeInfo, hi, hlen, hf0, storeCells]
    · have hst := run_storeCells_at P g (n * i.size) e news 0 cur w hh (by rw [hs, hnl, Nat.add_zero, ← Nat.add_mul]; exact Nat.mul_le_mul_right _ hfit) h1
      simp only [Nat.add_zero] at hst
      refine ⟨.slice (some ⟨g, 0, Option.none⟩) (n + m) cap, w.setRow g (cur.toList.take (n * i.size) ++ news ++ cur.toList.drop (n * i.size + news.length)).toArray, ?_, ⟨hll, _, cap, rfl, hfit, hcap, .inr ⟨g, _, rfl, hg, setRow_heap w g cur _ e _ hh, ?_, ?_⟩⟩, ?_⟩
      · rcases hxt with ⟨e', hxt⟩ | hxt <;> simp [Builtin.append_, run_underlying ht, run_underlying hxt, sizeOf, typeInfo, hi, hlen, hf0, hfit, Addr.add_lit, hst]
      · have : n * i.size + news.length ≤ cap * i.size := by rw [hnl, ← Nat.add_mul]; exact Nat.mul_le_mul_right _ hfit
        simp only [List.size_toArray, List.length_append, List.length_take, List.length_drop, Array.length_toList]
        omega
      · rw [htake, ← hll]
        exact List.take_left
      · exact ⟨rfl, rfl, rfl, by simp [World.setRow], fun k hk => setRow_other w g k _ (by omega)⟩
  · have hfo : (Builtin.firstCells i.size n (.slice a n cap)).run P w.drew = .ok cs.toArray w.drew := by
      have hr : Row w.heap.size w (.slice a n cap) i.size n cs := Own.row ⟨hl, a, cap, rfl, hnc, hcap, halt⟩
      exact hr.src.2.2 w.drew (fun p => by simp)
    have h63' : ¬ (9223372036854775807 < ((n : Int) + (m : Int))) := by unfold maxLen at h63; omega
    have h48' : ¬ (281474976710656 < Builtin.nextslicecap (n + m) cap * i.bytes) := Nat.not_lt.2 (growslice_fits (by omega) hroom)
    have hge := grownCap_ge w (n + m) cap e
    have hcm := grownCap_le_maxLen w (n + m) cap e h63
    refine ⟨.slice (some ⟨w.heap.size, 0, Option.none⟩) (n + m) (grownCap w (n + m) cap e), w.drew.alloc (.cells (cs.toArray ++ news.toArray ++ Builtin.zeroCells z.cells (grownCap w (n + m) cap e - (n + m))) e), ?_,
      ⟨hll, _, _, rfl, hge, hcm, .inr ⟨w.heap.size, _, rfl, hB, heap_alloc_new w.drew _, ?_, ?_⟩⟩, ?_⟩
    · rcases hxt with ⟨e', hxt⟩ | hxt <;> (simp [Builtin.append_, run_underlying ht, run_underlying hxt, sizeOf, typeInfo, zeroValue, hi, hz, hlen, hfit, h63', h48', Question.forced, hf1, hfo, newRow, grownCap]; (congr 2; apply Array.ext'; simp [List.append_assoc]))
    · simp only [Array.size_append, List.size_toArray, size_zeroCells, hzs, hl, hnl, ← Nat.add_mul]
      congr 1
      omega
    · simp only [Array.toList_append, List.append_assoc]
      rw [← List.append_assoc, ← hll]
      exact List.take_left
    · exact ⟨rfl, rfl, rfl, by simp, fun k hk => Below.heap_alloc w.drew _ k (Nat.lt_of_lt_of_le hk hB)⟩
/-- The same at the operation, for a walk: '(at_builtin; refine wp_append ..)'. -/
theorem wp_append {P : Program} {ops : Array Oper} {rest : List Oper} {o : Oper} {a : Act} {w : World} {Q : Exit → Act → World → Prop} (hgd : o.guard = Option.none) (s y : Operand) (t xt e : TypeId)
    (ho : o.op = .call { callee := .builtin .append, args := #[s, y], argTypes := #[t, xt] }) (i : TypeInfo) (z : Value) (sz bytes : Nat)
    (ht : P.underlying t = some (.slice e)) (hxt : (∃ e', P.underlying xt = some (.slice e')) ∨ P.underlying xt = some .string) (hi : P.info? e = some i) (hz : i.zero = some z) (hsz : i.size = sz) (hby : i.bytes = bytes) (hzs : z.cells.size = sz)
    {B : Nat} {v x : Value} {n m : Nat} {cs news : List Value} (hs : a.eval s = v) (hx : a.eval y = x)
    (hown : Own B w e v sz n cs) (hsrc : Src P w x sz m news) (h1 : ∀ u ∈ news, u.oneCell' = true) (h63 : n + m ≤ maxLen) (hroom : (n + m) * bytes ≤ 140737488355328) (hB : B ≤ w.heap.size)
    (h : ∀ v' w', Own B w' e v' sz (n + m) (cs ++ news) → Below B w w' → wpList P ops Q rest (a.put o.dst v') w') : wpList P ops Q (o :: rest) a w := by
  refine wpList_plain hgd fun K hK => ?_
  obtain ⟨v', w', hr, h2, h3⟩ := run_append (P := P) t xt o.type e i z ht hxt hi hz hsz hby hzs hown hsrc h1 h63 hroom hB
  subst hs
  subst hx
  unfold Oper.wp execOp
  simp only [ho, resolve, invoke, builtin, Sem.run_bind, Sem.run_pure, Result.andThen_ok, List.map_toArray, List.map_cons, List.map_nil, hr]
  exact hK _ _ (h v' w' h2 h3)
end Go.Proofs.YtaijompnohkmaaaDoor
/- Layer 1 (sector): disks as plain data, and how they lie in memory. -/
namespace Go.Proofs.YtaijompnohkmaaaDoor
open Go.RowKit
structure WriteP where
  at_ : Int
  data : List UInt8
structure DiskP where
  secs : List (List UInt8)
  loose : List WriteP
  fuse : Int
  down : Bool
def wcells (x : WriteP) : List Value := .int .i64 x.at_ :: u8s x.data
/-- A slice of sectors; of writes. -/
def Secs (B : Nat) (w : World) (v : Value) (ss : List (List UInt8)) : Prop := (∀ s ∈ ss, s.length = 64) ∧ Row B w v 64 ss.length (ss.map u8s).flatten
def Loose (B : Nat) (w : World) (v : Value) (ls : List WriteP) : Prop := (∀ x ∈ ls, x.data.length = 64) ∧ Row B w v 65 ls.length (ls.map wcells).flatten
theorem Secs.below {B : Nat} {w w' : World} {v : Value} {ss : List (List UInt8)} (h : Secs B w v ss) (hb : Below B w w') : Secs B w' v ss := ⟨h.1, h.2.below hb⟩
theorem Loose.below {B : Nat} {w w' : World} {v : Value} {ls : List WriteP} (h : Loose B w v ls) (hb : Below B w w') : Loose B w' v ls := ⟨h.1, h.2.below hb⟩
theorem Secs.tight {B : Nat} {w : World} {v : Value} {ss : List (List UInt8)} (h : Secs B w v ss) : Secs w.heap.size w v ss := ⟨h.1, h.2.tight (by decide)⟩
theorem Loose.tight {B : Nat} {w : World} {v : Value} {ls : List WriteP} (h : Loose B w v ls) : Loose w.heap.size w v ls := ⟨h.1, h.2.tight (by decide)⟩
/-- A disk as a value. -/
def DiskV (B : Nat) (w : World) (v : Value) (d : DiskP) : Prop := ∃ sv lv, v = .agg #[sv, lv, .int .i64 d.fuse, .bool d.down] ∧ Secs B w sv d.secs ∧ Loose B w lv d.loose
theorem DiskV.below {B : Nat} {w w' : World} {v : Value} {d : DiskP} (h : DiskV B w v d) (hb : Below B w w') : DiskV B w' v d := by
  obtain ⟨sv, lv, h1, h2, h3⟩ := h
  exact ⟨sv, lv, h1, h2.below hb, h3.below hb⟩
theorem DiskV.tight {B : Nat} {w : World} {v : Value} {d : DiskP} (h : DiskV B w v d) : DiskV w.heap.size w v d := by
  obtain ⟨sv, lv, h1, h2, h3⟩ := h
  exact ⟨sv, lv, h1, h2.tight, h3.tight⟩
/-- Some cells that lie behind one another, loaded as one value. -/
theorem run_load_big {P : Program} {t : TypeId} {i : TypeInfo} {d : TypeDesc} (hu : P.underlying t = some d) (hd : (∃ n e, d = .array n e) ∨ ∃ fs, d = .struct fs) (hi : P.info? t = some i) {w : World} {b off n : Nat} {cs : List Value}
    (hsz : i.size = n) (hl : cs.length = n) (hc : ∀ k u, cs[k]? = some u → w.cell? ⟨b, off + k, none⟩ = some u) :
    (loadVar t ⟨b, off, none⟩).run P w = .ok (.agg cs.toArray) w := by
  have h := run_loadCells_list (P := P) w ⟨b, off, none⟩ cs (fun j v hj => by
    have : (⟨b, off, none⟩ : Addr).add j = ⟨b, off + j, none⟩ := by unfold Addr.add; split <;> simp_all
    rw [this]; exact hc j v hj)
  rw [hl] at h
  rcases hd with ⟨n', e, rfl⟩ | ⟨fs, rfl⟩ <;> simp [loadVar, isAgg, run_underlying hu, sizeOf, typeInfo, hi, hsz, h]
theorem flat_at {α : Type} (f : α → List Value) (sz : Nat) : ∀ (xs : List α), (∀ x ∈ xs, (f x).length = sz) → ∀ (k : Nat) (x : α), xs[k]? = some x → ∀ (j : Nat) (u : Value), (f x)[j]? = some u → (xs.map f).flatten[k * sz + j]? = some u
  | [], _, k, x, h, _, _, _ => by simp at h
  | y :: ys, hs, 0, x, h, j, u, hj => by
    simp only [List.getElem?_cons_zero, Option.some.injEq] at h
    subst h
    rw [List.map_cons, List.flatten_cons, Nat.zero_mul, Nat.zero_add, List.getElem?_append_left (List.getElem?_eq_some_iff.1 hj).1]
    exact hj
  | y :: ys, hs, k + 1, x, h, j, u, hj => by
    have h0 := hs y (List.mem_cons_self ..)
    rw [List.map_cons, List.flatten_cons, List.getElem?_append_right (by rw [h0, Nat.succ_mul]; omega), h0]
    have e : (k + 1) * sz + j - sz = k * sz + j := by rw [Nat.succ_mul]; omega
    rw [e]
    exact flat_at f sz ys (fun x hx => hs x (List.mem_cons_of_mem _ hx)) k x (by simpa using h) j u hj
theorem length_u8s (s : List UInt8) : (u8s s).length = s.length := by simp [u8s]
theorem length_wcells (x : WriteP) : (wcells x).length = x.data.length + 1 := by simp [wcells, u8s]
end Go.Proofs.YtaijompnohkmaaaDoor
/- Operations on values of many cells, as arms for a walk: the value's cells stay behind one name. -/
namespace Go.Proofs.YtaijompnohkmaaaDoor
open Go.RowKit
section
variable {P : Program} {ops : Array Oper} {rest : List Oper} {o : Oper} {a : Act} {w : World} {Q : Exit → Act → World → Prop}
theorem wp_load_at (x : Operand) (t : TypeId) (hgd : o.guard = none) (ho : o.op = .load t x) {ad : Addr} {v : Value} (hx : a.eval x = .pointer (some ad)) (hl : (loadVar t ad).run P w = .ok v w)
    (h : wpList P ops Q rest (a.put o.dst v) w) : wpList P ops Q (o :: rest) a w := by
  refine wpList_plain hgd fun K hK => ?_
  unfold Oper.wp execOp
  simp only [ho, hx, Instr.loadAt, Instr.sureAddr, Sem.run_bind, Sem.run_pure, Result.andThen_ok, hl]
  exact hK _ _ h
theorem wp_store_at (x y : Operand) (t : TypeId) (hgd : o.guard = none) (ho : o.op = .store t x y) {ad : Addr} {v : Value} {w' : World} (hx : a.eval x = .pointer (some ad)) (hy : a.eval y = v) (hl : (storeVar t ad v).run P w = .ok () w')
    (h : wpList P ops Q rest (a.put o.dst undef) w') : wpList P ops Q (o :: rest) a w := by
  refine wpList_plain hgd fun K hK => ?_
  unfold Oper.wp execOp
  simp only [ho, hx, hy, Instr.storeAt, Instr.sureAddr, Sem.run_bind, Sem.run_pure, Result.andThen_ok, hl]
  exact hK _ _ h
theorem wp_alloc_at (t : TypeId) (hgd : o.guard = none) (ho : o.op = .alloc t) {z : Value} (hz : (zeroValue t).run P w = .ok z w)
    (h : wpList P ops Q rest (a.put o.dst (.pointer (some ⟨w.heap.size, 0, none⟩))) (w.alloc (.cells z.cells t))) : wpList P ops Q (o :: rest) a w := by
  refine wpList_plain hgd fun K hK => ?_
  unfold Oper.wp execOp
  have hr : (Instr.alloc t true (.tuple #[])).run P w = .ok (.pointer (some ⟨w.heap.size, 0, none⟩)) (w.alloc (.cells z.cells t)) := by
    simp only [Instr.alloc, Sem.run_bind, hz, Result.andThen_ok]
    rfl
  simp only [ho, Sem.run_bind, Sem.run_pure, Result.andThen_ok, hr]
  exact hK _ _ h
theorem wp_build_at (t : TypeId) (parts : Array (Nat × Operand)) (hgd : o.guard = none) (ho : o.op = .build t parts) {v : Value} (hb : (Instr.build t (parts.map fun (i, x) => (i, a.eval x))).run P w = .ok v w)
    (h : wpList P ops Q rest (a.put o.dst v) w) : wpList P ops Q (o :: rest) a w := by
  refine wpList_plain hgd fun K hK => ?_
  unfold Oper.wp execOp
  simp only [ho, Sem.run_bind, Sem.run_pure, Result.andThen_ok, hb]
  exact hK _ _ h
/-- A value laid over the cells of a row that is known whole. -/
theorem run_store_big {t : TypeId} {i : TypeInfo} (hi : P.info? t = some i) {w : World} {g off : Nat} {cur : Array Value} {e : TypeId} {cs : List Value} (hg : w.heap[g]? = some (.cells cur e (0, 0)))
    (hsz : i.size = cs.length) (hfit : off + cs.length ≤ cur.size) (h1 : ∀ v ∈ cs, v.oneCell' = true) :
    (storeVar t ⟨g, off, none⟩ (.agg cs.toArray)).run P w = .ok () (w.setRow g (cur.toList.take off ++ cs ++ cur.toList.drop (off + cs.length)).toArray) := by
  have h := run_storeCells_at P g off e cs 0 cur w hg (by simpa using hfit) h1
  simp only [Nat.add_zero] at h
  simp [storeVar, Value.cells, sizeOf, typeInfo, hi, hsz, h]
end
end Go.Proofs.YtaijompnohkmaaaDoor
/- Tests of slices and pointers against nil, as equations for a walk. -/
namespace Go.Proofs.YtaijompnohkmaaaDoor
section
variable {P : Program}
theorem eql_slice_nil {t e : TypeId} (h : P.underlying t = some (.slice e)) (w : World) (a : Option Addr) (n c n' c' : Nat) :
    (binOp .eql t (.slice a n c) (.slice none n' c')).run P w = .ok (.bool a.isNone) w := by
  simp only [binOp]
  simp [Op.equal, Op.maxDepth, Lib.run_equalIn_slice_nil w 9999 t e a n c n' c' h]
theorem eqIn_ptr_nil {t e : TypeId} (h : P.underlying t = some (.pointer e)) (w : World) (d : Nat) (a : Option Addr) :
    (Op.equalIn (d + 1) t (.pointer a) (.pointer none)).run P w = .ok a.isNone w := by
  cases a <;> simp [Op.equalIn, run_underlying h]
theorem eql_ptr_nil {t e : TypeId} (h : P.underlying t = some (.pointer e)) (w : World) (a : Option Addr) :
    (binOp .eql t (.pointer a) (.pointer none)).run P w = .ok (.bool a.isNone) w := by
  have k := eqIn_ptr_nil h w 9999 a
  cases a <;> (simp only [binOp]; simp [Op.equal, Op.maxDepth, k])
theorem neq_ptr_nil {t e : TypeId} (h : P.underlying t = some (.pointer e)) (w : World) (a : Option Addr) :
    (binOp .neq t (.pointer a) (.pointer none)).run P w = .ok (.bool (!a.isNone)) w := by
  have k := eqIn_ptr_nil h w 9999 a
  cases a <;> (simp only [binOp]; simp [Op.equal, Op.maxDepth, k])
end
end Go.Proofs.YtaijompnohkmaaaDoor
/- Layer 1 (sector): the code's tests of a disk. -/
namespace Go.Proofs.YtaijompnohkmaaaDoor
open Go.RowKit
theorem info_write : (Tryd.prog.info? 75).map (fun i => (i.size, i.bytes)) = some (65, 72) := by kernel_rfl
theorem info_sector : (Tryd.prog.info? 73).map (fun i => (i.size, i.bytes)) = some (64, 64) := by kernel_rfl
theorem size_parts {P : Program} {e : TypeId} {size bytes : Nat} (h : (P.info? e).map (fun i => (i.size, i.bytes)) = some (size, bytes)) : ∃ i, P.info? e = some i ∧ i.size = size ∧ i.bytes = bytes := by
  obtain ⟨i, hi, hzz⟩ := Option.map_eq_some_iff.1 h
  simp only [Prod.mk.injEq] at hzz
  exact ⟨i, hi, hzz.1, hzz.2⟩
def thereB (d : DiskP) (at_ : Int) : Bool := decide (0 ≤ at_) && decide (at_ < d.secs.length)
def fusedB (n : Int) : Bool := decide (-1 ≤ n) && decide (n ≤ 1099511627776)
set_option maxRecDepth 100000 in
theorem fused_any (n : Int) (w : World) : Calls Tryd.prog 56 #[.int .i64 n] w fun e w' => e = .returned (.bool (fusedB n)) ∧ w = w' := by
  by_cases h1 : -1 ≤ n
  · have hf : fusedB n = decide (n ≤ 1099511627776) := by simp [fusedB, h1]
    rw [hf]
    clear hf
    go_enter Tryd.func56, Tryd.ntmps56
    go_wp2
    go_ret
    exact ⟨rfl, rfl⟩
  · have hf : fusedB n = false := by simp [fusedB, h1]
    rw [hf]
    have t0 : decide (-1 ≤ n) = false := by simp; omega
    clear hf h1
    go_enter Tryd.func56, Tryd.ntmps56
    go_wp2
    go_ret
    exact ⟨rfl, rfl⟩
set_option maxRecDepth 100000 in
theorem there_any {B : Nat} (v : Value) (d : DiskP) (at_ : Int) (w : World) (h : DiskV B w v d) :
    Calls Tryd.prog 59 #[v, .int .i64 at_] w fun e w' => e = .returned (.bool (thereB d at_)) ∧ Below w.heap.size w w' := by
  obtain ⟨sv, lv, rfl, ⟨_, _, a, cap, rfl, hnc, hcap, _⟩, ⟨_, _, a2, cap2, rfl, _⟩⟩ := h
  unfold maxLen at hcap
  have hb : Below w.heap.size w (w.alloc (.cells #[.slice a d.secs.length cap, .slice a2 d.loose.length cap2, .int .i64 d.fuse, .bool d.down] 25)) := Below.alloc (Below.refl _ _) (Nat.le_refl _) _
  by_cases h1 : 0 ≤ at_
  · have hf : thereB d at_ = decide (at_ < d.secs.length) := by simp [thereB, h1]
    rw [hf]
    clear hf
    go_enter Tryd.func59, Tryd.ntmps59
    go_wp2
    go_ret
    exact ⟨rfl, hb⟩
  · have hf : thereB d at_ = false := by simp [thereB, h1]
    rw [hf]
    have t0 : decide (0 ≤ at_) = false := by simp; omega
    clear hf h1
    go_enter Tryd.func59, Tryd.ntmps59
    go_wp2
    go_ret
    exact ⟨rfl, hb⟩
/-- A disk lies whole in block g. -/
def DiskAt (B g : Nat) (w : World) (d : DiskP) : Prop := ∃ sv lv, w.heap[g]? = some (.cells #[sv, lv, .int .i64 d.fuse, .bool d.down] 25 (0, 0)) ∧ Secs B w sv d.secs ∧ Loose B w lv d.loose
theorem DiskAt.below {B g B' : Nat} {w w' : World} {d : DiskP} (h : DiskAt B g w d) (hb : Below B' w w') (hg : g < B') (hB : B ≤ B') : DiskAt B g w' d := by
  obtain ⟨sv, lv, h1, h2, h3⟩ := h
  exact ⟨sv, lv, (hb.block g hg).trans h1, h2.below (hb.mono hB), h3.below (hb.mono hB)⟩
set_option maxRecDepth 100000 in
theorem pred_any {B g : Nat} (A : Array Value) (at_ : Int) (d : DiskP) (w : World) (h : DiskAt B g w d) (hA : A[0]? = some (.int .i64 at_)) :
    Calls Tryd.prog 58 #[.agg A, .pointer (some ⟨g, 0, none⟩)] w fun e w' => e = .returned (.bool (!thereB d at_)) ∧ Below w.heap.size w w' := by
  obtain ⟨sv, lv, h1, h2, h3⟩ := h
  have hg : g < w.heap.size := block_lt h1
  have hb : Below w.heap.size w (w.alloc (.cells A 75)) := Below.alloc (Below.refl _ _) (Nat.le_refl _) _
  have c0 := cell_of_row w g 0 _ _ _ h1
  have c1 := cell_of_row w g 1 _ _ _ h1
  have c2 := cell_of_row w g 2 _ _ _ h1
  have c3 := cell_of_row w g 3 _ _ _ h1
  have hd : DiskV w.heap.size w (.agg #[sv, lv, .int .i64 d.fuse, .bool d.down]) d := ⟨sv, lv, rfl, h2.tight, h3.tight⟩
  have hd2 := hd.below hb
  have k1 := there_any _ d at_ _ hd2
  go_enter Tryd.func58, Tryd.ntmps58
  go_wp2_with fail
  refine k1.mono ?_
  rintro e w1 ⟨rfl, hb1⟩
  go_wp2_with fail
  go_ret
  exact ⟨rfl, hb.trans (hb1.mono hb.size)⟩
/-- Which write lies nowhere; -1: none. -/
def badAt (d : DiskP) (ls : List WriteP) : Bool := ls.any fun x => !thereB d x.at_
theorem badAt_none (d : DiskP) (ls : List WriteP) (h : ∀ k (hk : k < ls.length), thereB d ls[k].at_ = true) : badAt d ls = false := by
  unfold badAt
  rw [List.any_eq_false]
  intro x hx
  obtain ⟨k, hk, rfl⟩ := List.getElem_of_mem hx
  simp [h k hk]
theorem badAt_some (d : DiskP) (ls : List WriteP) (k : Nat) (hk : k < ls.length) (h : thereB d ls[k].at_ = false) : badAt d ls = true := by
  unfold badAt
  rw [List.any_eq_true]
  exact ⟨ls[k], List.getElem_mem hk, by simp [h]⟩
set_option maxRecDepth 100000 in
set_option maxHeartbeats 1000000 in
theorem index_any {B g : Nat} (v : Value) (ls : List WriteP) (d : DiskP) (w : World) (h : DiskAt B g w d) (hB : B ≤ g) (hl : Loose B w v ls) :
    Calls Tryd.prog 76 #[v, .func (.func 58) #[] #[.pointer (some ⟨g, 0, none⟩)]] w fun e w' => (∃ z : Int, e = .returned (.int .i64 z) ∧ (decide (0 ≤ z)) = badAt d ls) ∧ Below w.heap.size w w' := by
  obtain ⟨hls, _, a, cap, rfl, hnc, hcap, hcells⟩ := hl
  unfold maxLen at hcap
  have hg : g < w.heap.size := by obtain ⟨_, _, h1, _⟩ := h; exact block_lt h1
  obtain ⟨i0, hi, hsz, _⟩ := size_parts info_write
  go_enter Tryd.func76, Tryd.ntmps76
  go_wp2
  go_loopw [8] (fun i wr => ∃ k : Nat, k ≤ ls.length ∧ i = .int .i64 k ∧ (∀ j (hj : j < ls.length), j < k → thereB d ls[j].at_ = true) ∧ Below w.heap.size w wr) (fun i _ => ls.length - (intOf i).toNat)
  case atStart => exact ⟨0, Nat.zero_le _, rfl, fun j _ h => absurd h (Nat.not_lt_zero _), Below.refl _ _⟩
  case round =>
    obtain ⟨k, hk, rfl, hpre, hb⟩ := hrel
    by_cases hlt : k < ls.length
    · obtain ⟨b, off, rfl, hBb, hc⟩ := hcells (by omega)
      have hBw : b < w.heap.size := Nat.lt_trans (Nat.lt_of_lt_of_le hBb hB) hg
      have hat := flat_at wcells 65 ls (fun x hx => by rw [length_wcells, hls x hx]) k ls[k] (List.getElem?_eq_getElem hlt)
      have hld := run_load_big (P := Tryd.prog) (t := 75) Tryd.underlying75 (.inr ⟨_, rfl⟩) hi (w := wr) (b := b) (off := off + k * 65) (cs := wcells ls[k]) hsz (by rw [length_wcells, hls _ (List.getElem_mem hlt)])
        (fun j u hj => by rw [Nat.add_assoc]; exact (hb.cell (p := ⟨b, off + (k * 65 + j), none⟩) hBw).trans (hc _ _ (hat j u hj)))
      have HP := Lib.hid hpre
      have hA : (wcells ls[k]).toArray[0]? = some (.int .i64 ls[k].at_) := by simp [wcells]
      have hd : DiskAt B g wr d := h.below hb hg (Nat.le_trans hB (Nat.le_of_lt hg))
      have k1 := pred_any _ _ d wr hd hA
      obtain ⟨q, hq⟩ : ∃ q, q = thereB d ls[k].at_ := ⟨_, rfl⟩
      rw [← hq] at k1
      have HQ := Lib.hid hq
      clear hpre hc hat hcells hA hd hq
      obtain ⟨A, hAe⟩ : ∃ A, A = (wcells ls[k]).toArray := ⟨_, rfl⟩
      rw [← hAe] at hld k1
      clear hAe
      cases q with
      | true =>
        go_wp2_with (refine wp_load_at (.tmp 14) 75 rfl rfl rfl hld ?_)
        refine k1.mono ?_
        rintro e w1 ⟨rfl, hb1⟩
        go_wp2_with fail
        go_roundw
        case rel =>
          refine ⟨k + 1, by omega, by go_num, fun j hj hjk => ?_, hb.trans (hb1.mono hb.size)⟩
          by_cases hjk2 : j < k
          · exact HP.out j hj hjk2
          · obtain rfl : j = k := by omega
            exact HQ.out.symm
        case measure => simp [intOf]; omega
      | false =>
        go_wp2_with (refine wp_load_at (.tmp 14) 75 rfl rfl rfl hld ?_)
        refine k1.mono ?_
        rintro e w1 ⟨rfl, hb1⟩
        go_wp2_with fail
        go_ret
        exact ⟨⟨k, rfl, by rw [badAt_some d ls k hlt HQ.out.symm]; simp⟩, hb.trans (hb1.mono hb.size)⟩
    · have hke : k = ls.length := by omega
      subst hke
      have HP := Lib.hid hpre
      clear hpre hcells
      go_wp2_with fail
      go_ret
      exact ⟨⟨-1, rfl, by rw [badAt_none d ls (fun j hj => HP.out j hj hj)]; decide⟩, hb⟩
end Go.Proofs.YtaijompnohkmaaaDoor
/- Layer 1 (sector): which disks may be; copies of slices of disks. -/
namespace Go.Proofs.YtaijompnohkmaaaDoor
open Go.RowKit
set_option maxRecDepth 100000 in
theorem contains_any {B g : Nat} (v : Value) (ls : List WriteP) (d : DiskP) (w : World) (h : DiskAt B g w d) (hB : B ≤ g) (hl : Loose B w v ls) :
    Calls Tryd.prog 57 #[v, .func (.func 58) #[] #[.pointer (some ⟨g, 0, none⟩)]] w fun e w' => e = .returned (.bool (badAt d ls)) ∧ Below w.heap.size w w' := by
  have k1 := index_any v ls d w h hB hl
  obtain ⟨q, hq⟩ : ∃ q, q = badAt d ls := ⟨_, rfl⟩
  rw [← hq] at k1 ⊢
  clear hq hl h
  go_enter Tryd.func57, Tryd.ntmps57
  go_wp2_with fail
  refine k1.mono ?_
  rintro e w1 ⟨⟨z, rfl, hz⟩, hb1⟩
  go_wp2_with fail
  go_ret
  exact ⟨by rw [← hz]; rfl, hb1⟩
def rightB (d : DiskP) : Bool := decide (d.secs.length ≤ 4096) && decide (d.loose.length ≤ 100000) && fusedB d.fuse && !badAt d d.loose
set_option maxRecDepth 100000 in
theorem right_any {B : Nat} (v : Value) (d : DiskP) (w : World) (h : DiskV B w v d) :
    Calls Tryd.prog 31 #[v] w fun e w' => e = .returned (.bool (rightB d)) ∧ Below w.heap.size w w' := by
  have h := h.tight
  obtain ⟨sv, lv, rfl, hs, hl⟩ := h
  have hb : Below w.heap.size w (w.alloc (.cells #[sv, lv, .int .i64 d.fuse, .bool d.down] 25)) := Below.alloc (Below.refl _ _) (Nat.le_refl _) _
  have hg : (w.alloc (.cells #[sv, lv, .int .i64 d.fuse, .bool d.down] 25)).heap[w.heap.size]? = some (.cells #[sv, lv, .int .i64 d.fuse, .bool d.down] 25 (0, 0)) := heap_alloc_new w _
  have hl' := hl.below hb
  have hda : DiskAt w.heap.size w.heap.size (w.alloc (.cells #[sv, lv, .int .i64 d.fuse, .bool d.down] 25)) d := ⟨sv, lv, hg, hs.below hb, hl'⟩
  obtain ⟨_, _, a, cap, hsv, hnc, hcap, _⟩ := hs
  obtain ⟨_, _, a2, cap2, hlv, hnc2, hcap2, _⟩ := hl
  unfold maxLen at hcap hcap2
  have k1 := fun w => fused_any d.fuse w
  have k2 := fun (w' : World) (hw : Below (w.heap.size + 1) (w.alloc (.cells #[sv, lv, .int .i64 d.fuse, .bool d.down] 25)) w') => contains_any lv d.loose d w' (hda.below hw (Nat.lt_succ_self _) (Nat.le_succ _)) (Nat.le_refl _) (hl'.below (hw.mono (Nat.le_succ _)))
  subst hsv hlv
  by_cases h1 : d.secs.length ≤ 4096
  · by_cases h2 : d.loose.length ≤ 100000
    · have e : rightB d = (fusedB d.fuse && !badAt d d.loose) := by simp [rightB, h1, h2]
      rw [e]
      obtain ⟨q, hq⟩ : ∃ q, q = fusedB d.fuse := ⟨_, rfl⟩
      obtain ⟨r, hr⟩ : ∃ r, r = badAt d d.loose := ⟨_, rfl⟩
      simp only [← hq] at k1
      simp only [← hr] at k2
      rw [← hq, ← hr]
      clear hq hr e hda hl'
      cases q with
      | true =>
        go_enter Tryd.func31, Tryd.ntmps31
        go_wp2_with fail
        refine (k1 _).mono ?_
        rintro e w1 ⟨rfl, rfl⟩
        go_wp2_with fail
        refine (k2 _ (Below.refl _ _)).mono ?_
        rintro e w1 ⟨rfl, hb1⟩
        go_wp2_with fail
        go_ret
        exact ⟨rfl, hb.trans (hb1.mono hb.size)⟩
      | false =>
        go_enter Tryd.func31, Tryd.ntmps31
        go_wp2_with fail
        refine (k1 _).mono ?_
        rintro e w1 ⟨rfl, rfl⟩
        go_wp2_with fail
        go_ret
        exact ⟨rfl, hb⟩
    · have e : rightB d = false := by simp [rightB, h2]
      have t0 : decide (((d.loose.length : Nat) : Int) ≤ 100000) = false := by simp; omega
      rw [e]
      clear e k1 k2 hda hl'
      go_enter Tryd.func31, Tryd.ntmps31
      go_wp2_with fail
      go_ret
      exact ⟨rfl, hb⟩
  · have e : rightB d = false := by simp [rightB, h1]
    have t0 : decide (((d.secs.length : Nat) : Int) ≤ 4096) = false := by simp; omega
    rw [e]
    clear e k1 k2 hda hl'
    go_enter Tryd.func31, Tryd.ntmps31
    go_wp2_with fail
    go_ret
    exact ⟨rfl, hb⟩
end Go.Proofs.YtaijompnohkmaaaDoor
/- Layer 1 (sector): copies of slices of disks; a disk ahead of a deed. -/
namespace Go.Proofs.YtaijompnohkmaaaDoor
open Go.RowKit
theorem infoz_write : (Tryd.prog.info? 75).bind (fun i => i.zero.map fun z => (i.size, i.bytes, z.cells.size)) = some (65, 72, 65) := by kernel_rfl
theorem infoz_sector : (Tryd.prog.info? 73).bind (fun i => i.zero.map fun z => (i.size, i.bytes, z.cells.size)) = some (64, 64, 64) := by kernel_rfl
theorem zero_parts {P : Program} {e : TypeId} {a b c : Nat} (h : (P.info? e).bind (fun i => i.zero.map fun z => (i.size, i.bytes, z.cells.size)) = some (a, b, c)) : ∃ i z, P.info? e = some i ∧ i.zero = some z ∧ i.size = a ∧ i.bytes = b ∧ z.cells.size = c := by
  obtain ⟨i, hi, h⟩ := Option.bind_eq_some_iff.1 h
  obtain ⟨z, hz, h⟩ := Option.map_eq_some_iff.1 h
  simp only [Prod.mk.injEq] at h
  exact ⟨i, z, hi, hz, h.1, h.2.1, h.2.2⟩
def SecsO (B : Nat) (w : World) (v : Value) (ss : List (List UInt8)) : Prop := (∀ s ∈ ss, s.length = 64) ∧ Own B w 73 v 64 ss.length (ss.map u8s).flatten
def LooseO (B : Nat) (w : World) (v : Value) (ls : List WriteP) : Prop := (∀ x ∈ ls, x.data.length = 64) ∧ Own B w 75 v 65 ls.length (ls.map wcells).flatten
theorem SecsO.secs {B : Nat} {w : World} {v : Value} {ss : List (List UInt8)} (h : SecsO B w v ss) : Secs w.heap.size w v ss := ⟨h.1, h.2.row⟩
theorem LooseO.loose {B : Nat} {w : World} {v : Value} {ls : List WriteP} (h : LooseO B w v ls) : Loose w.heap.size w v ls := ⟨h.1, h.2.row⟩
theorem oneCell_secs (ss : List (List UInt8)) : ∀ u ∈ (ss.map u8s).flatten, u.oneCell' = true := by
  intro u hu
  obtain ⟨l, hl, hu⟩ := List.mem_flatten.1 hu
  obtain ⟨s, _, rfl⟩ := List.mem_map.1 hl
  exact oneCell_u8s s u hu
theorem oneCell_w (x : WriteP) : ∀ u ∈ wcells x, u.oneCell' = true := by
  intro u hu
  rcases List.mem_cons.1 hu with rfl | hu
  · rfl
  · exact oneCell_u8s _ u hu
theorem oneCell_ws (ls : List WriteP) : ∀ u ∈ (ls.map wcells).flatten, u.oneCell' = true := by
  intro u hu
  obtain ⟨l, hl, hu⟩ := List.mem_flatten.1 hu
  obtain ⟨s, _, rfl⟩ := List.mem_map.1 hl
  exact oneCell_w s u hu
theorem length_flat {α : Type} (f : α → List Value) (sz : Nat) : ∀ (xs : List α), (∀ x ∈ xs, (f x).length = sz) → (xs.map f).flatten.length = xs.length * sz
  | [], _ => by simp
  | y :: ys, h => by
    rw [List.map_cons, List.flatten_cons, List.length_append, h y (List.mem_cons_self ..), length_flat f sz ys (fun x hx => h x (List.mem_cons_of_mem _ hx)), List.length_cons, Nat.succ_mul, Nat.add_comm]
/-- An own slice outlives what is written elsewhere. -/
theorem Own.setOther {B : Nat} {w : World} {e : TypeId} {v : Value} {sz n : Nat} {cs : List Value} (h : Own B w e v sz n cs) (p : Addr) (u : Value) (hp : p.block < B) : Own B (w.setCell p u) e v sz n cs := by
  obtain ⟨h1, a, cap, rfl, h2, h3, h4⟩ := h
  refine ⟨h1, a, cap, rfl, h2, h3, ?_⟩
  rcases h4 with h4 | ⟨g, cur, rfl, hg, hh, hs, ht⟩
  · exact .inl h4
  · refine .inr ⟨g, cur, rfl, hg, ?_, hs, ht⟩
    simp only [World.setCell, Array.getElem?_modify]
    rw [if_neg (by omega)]
    exact hh
theorem SecsO.setOther {B : Nat} {w : World} {v : Value} {ss : List (List UInt8)} (h : SecsO B w v ss) (p : Addr) (u : Value) (hp : p.block < B) : SecsO B (w.setCell p u) v ss := ⟨h.1, h.2.setOther p u hp⟩
theorem LooseO.setOther {B : Nat} {w : World} {v : Value} {ls : List WriteP} (h : LooseO B w v ls) (p : Addr) (u : Value) (hp : p.block < B) : LooseO B (w.setCell p u) v ls := ⟨h.1, h.2.setOther p u hp⟩
theorem SecsO.keep {B B' : Nat} {w w' : World} {v : Value} {ss : List (List UInt8)} (h : SecsO B w v ss) (hb : Below B' w w') (hB : w.heap.size ≤ B') : SecsO B w' v ss := ⟨h.1, h.2.below hb hB⟩
theorem LooseO.keep {B B' : Nat} {w w' : World} {v : Value} {ls : List WriteP} (h : LooseO B w v ls) (hb : Below B' w w') (hB : w.heap.size ≤ B') : LooseO B w' v ls := ⟨h.1, h.2.below hb hB⟩
set_option maxRecDepth 100000 in
set_option maxHeartbeats 400000 in
theorem clone64_any {B : Nat} (v : Value) (ss : List (List UInt8)) (w : World) (hr : Secs B w v ss) (hlen : ss.length ≤ 2 ^ 40) :
    Calls Tryd.prog 99 #[v] w fun e w' => ∃ v', e = .returned v' ∧ SecsO w.heap.size w' v' ss ∧ Below w.heap.size w w' := by
  have hr := hr.tight
  have hR := hr
  obtain ⟨h64, h1, a, cap, rfl, hnc, hcap, hcells⟩ := hr
  have kn := fun (w : World) (a : Option Addr) (n c n' c' : Nat) => eql_slice_nil Tryd.underlying22 w a n c n' c'
  cases a with
  | none =>
    have hn : ss = [] := by
      cases ss with
      | nil => rfl
      | cons b bs => obtain ⟨b, off, h, _⟩ := hcells (by simp); cases h
    subst hn
    clear hcells h1 hR
    go_enter Tryd.func99, Tryd.ntmps99
    go_wp2
    go_ret
    exact ⟨_, rfl, ⟨h64, Own.none _ _ _ _ _⟩, Below.refl _ _⟩
  | some ad =>
    obtain ⟨i0, z0, hi, hz0, hz1, hz2, hz3⟩ := zero_parts infoz_sector
    have ho : Own w.heap.size (w.alloc (.cells #[] 73)) 73 (.slice (some ⟨w.heap.size, 0, none⟩) 0 0) 64 0 [] := Own.none _ _ _ _ _
    have hb : Below w.heap.size w (w.alloc (.cells #[] 73)) := Below.alloc (Below.refl _ _) (Nat.le_refl _) _
    have hs := Row.src (P := Tryd.prog) (hR.below hb).2
    have hB : w.heap.size ≤ (w.alloc (.cells #[] 73)).heap.size := hb.size
    have hl1 : 0 + ss.length ≤ maxLen := by unfold maxLen; omega
    have hl2 : (0 + ss.length) * 64 ≤ 140737488355328 := by omega
    have H1 := Lib.hid hl1
    have H2 := Lib.hid hl2
    clear hR h1 hcells hcap hl1 hl2 hlen
    go_enter Tryd.func99, Tryd.ntmps99
    go_wp2_with (at_builtin; refine wp_append rfl (.tmp 5) (.tmp 6) 22 22 73 rfl i0 z0 64 64 Tryd.underlying22 (.inl ⟨_, Tryd.underlying22⟩) hi hz0 hz1 hz2 hz3 rfl rfl ho hs (oneCell_secs _) H1.out H2.out hB ?_; intro v2 w2 hown2 hb2)
    go_ret
    refine ⟨_, rfl, ⟨h64, ?_⟩, hb.trans hb2⟩
    rw [Nat.zero_add, List.nil_append] at hown2
    exact hown2
set_option maxRecDepth 100000 in
set_option maxHeartbeats 400000 in
theorem cloneW_any {B : Nat} (v : Value) (ls : List WriteP) (w : World) (hr : Loose B w v ls) (hlen : ls.length ≤ 2 ^ 40) :
    Calls Tryd.prog 100 #[v] w fun e w' => ∃ v', e = .returned v' ∧ LooseO w.heap.size w' v' ls ∧ Below w.heap.size w w' := by
  have hr := hr.tight
  have hR := hr
  obtain ⟨h64, h1, a, cap, rfl, hnc, hcap, hcells⟩ := hr
  have kn := fun (w : World) (a : Option Addr) (n c n' c' : Nat) => eql_slice_nil Tryd.underlying23 w a n c n' c'
  cases a with
  | none =>
    have hn : ls = [] := by
      cases ls with
      | nil => rfl
      | cons b bs => obtain ⟨b, off, h, _⟩ := hcells (by simp); cases h
    subst hn
    clear hcells h1 hR
    go_enter Tryd.func100, Tryd.ntmps100
    go_wp2
    go_ret
    exact ⟨_, rfl, ⟨h64, Own.none _ _ _ _ _⟩, Below.refl _ _⟩
  | some ad =>
    obtain ⟨i0, z0, hi, hz0, hz1, hz2, hz3⟩ := zero_parts infoz_write
    have ho : Own w.heap.size (w.alloc (.cells #[] 75)) 75 (.slice (some ⟨w.heap.size, 0, none⟩) 0 0) 65 0 [] := Own.none _ _ _ _ _
    have hb : Below w.heap.size w (w.alloc (.cells #[] 75)) := Below.alloc (Below.refl _ _) (Nat.le_refl _) _
    have hs := Row.src (P := Tryd.prog) (hR.below hb).2
    have hB : w.heap.size ≤ (w.alloc (.cells #[] 75)).heap.size := hb.size
    have hl1 : 0 + ls.length ≤ maxLen := by unfold maxLen; omega
    have hl2 : (0 + ls.length) * 72 ≤ 140737488355328 := by omega
    have H1 := Lib.hid hl1
    have H2 := Lib.hid hl2
    clear hR h1 hcells hcap hl1 hl2 hlen
    go_enter Tryd.func100, Tryd.ntmps100
    go_wp2_with (at_builtin; refine wp_append rfl (.tmp 5) (.tmp 6) 23 23 75 rfl i0 z0 65 72 Tryd.underlying23 (.inl ⟨_, Tryd.underlying23⟩) hi hz0 hz1 hz2 hz3 rfl rfl ho hs (oneCell_ws _) H1.out H2.out hB ?_; intro v2 w2 hown2 hb2)
    go_ret
    refine ⟨_, rfl, ⟨h64, ?_⟩, hb.trans hb2⟩
    rw [Nat.zero_add, List.nil_append] at hown2
    exact hown2
end Go.Proofs.YtaijompnohkmaaaDoor
/- Layer 1 (sector): a disk ahead of a deed. -/
namespace Go.Proofs.YtaijompnohkmaaaDoor
open Go.RowKit
theorem results_ct {P : Program} {fn : Func} {p u : Tmp} {ty : TypeId} (h : fn.results = #[.cell p ty, .tmp u]) (tmps : Array Value) (w : World) (g : Nat) (t : TypeId) (cs : Array Value) (fr : Nat × Nat) (d : TypeDesc)
    (hp : tmps.getD p undef = .pointer (some ⟨g, 0, none⟩)) (hg : w.heap[g]? = some (.cells cs t fr))
    (hu : P.underlying ty = some d) (hd : (match d with | .struct _ | .array _ _ => true | _ => false) = true) (hi : (P.info? ty).map (·.size) = some cs.size) :
    (results fn tmps).run P w = .ok (.tuple #[.agg cs, tmps.getD u undef]) w := by
  have hp' : tmps[p]?.getD undef = .pointer (some ⟨g, 0, none⟩) := by simpa using hp
  simp [results, h, hp', asAddr, run_loadVar_row w g t ty cs fr d hg hu hd hi]
theorem size_disk : (Tryd.prog.info? 25).map (·.size) = some 4 := by kernel_rfl
theorem undrew {w w' : World} {row : Option Nat} (h : w.drew.grownBy w' row) : w.grownBy w' row := ⟨h.os, h.tape, h.output, h.size, h.block⟩
theorem SecsO.form {B : Nat} {w : World} {v : Value} {ss : List (List UInt8)} (h : SecsO B w v ss) : ∃ a cap, v = .slice a ss.length cap := by obtain ⟨_, _, a, cap, rfl, _⟩ := h; exact ⟨a, cap, rfl⟩
theorem LooseO.form {B : Nat} {w : World} {v : Value} {ss : List WriteP} (h : LooseO B w v ss) : ∃ a cap, v = .slice a ss.length cap := by obtain ⟨_, _, a, cap, rfl, _⟩ := h; exact ⟨a, cap, rfl⟩
theorem frozen_row {w : World} {g : Nat} {cs : Array Value} {t : TypeId} (h : w.heap[g]? = some (.cells cs t (0, 0))) (k : Nat) : w.frozen? ⟨g, k, none⟩ = false := by simp [World.frozen?, h]
/-- The value says where a row lies. -/
theorem Row.mix {C C' : Nat} {w w' : World} {v : Value} {sz n : Nat} {cs cs' : List Value} (h1 : Row C w v sz n cs) (h2 : Row C' w' v sz n cs') : Row C w' v sz n cs' := by
  obtain ⟨_, a, cap, rfl, _, _, h1⟩ := h1
  obtain ⟨hl, a', cap', hv, hn, hc, h2⟩ := h2
  obtain ⟨rfl, rfl⟩ : a = a' ∧ cap = cap' := by cases hv; exact ⟨rfl, rfl⟩
  refine ⟨hl, a, cap, rfl, hn, hc, fun hp => ?_⟩
  obtain ⟨b, off, e, hb, _⟩ := h1 hp
  obtain ⟨b', off', e', _, hc'⟩ := h2 hp
  rw [e] at e'
  cases e'
  exact ⟨b, off, e, hb, hc'⟩
/-- A disk ahead of a deed. -/
def downP (d : DiskP) : Bool := d.down || (d.fuse == 0)
def burnF (d : DiskP) : Int := if downP d then d.fuse else if 0 < d.fuse then d.fuse - 1 else d.fuse
def burnE (d : DiskP) : Int := if downP d then 9 else 0
theorem set0 {w : World} {g : Nat} {a b c d : Value} {t : TypeId} {fr : Nat × Nat} (h : w.heap[g]? = some (.cells #[a, b, c, d] t fr)) (u v : Value) : ((w.setCell ⟨g, 0, none⟩ u).setCell ⟨g, 1, none⟩ v).heap[g]? = some (.cells #[u, v, c, d] t fr) := by
  simp [World.setCell, Array.getElem?_modify, h]
theorem setFar {w : World} {g h : Nat} (hne : g ≠ h) (k : Nat) (u : Value) : (w.setCell ⟨g, k, none⟩ u).heap[h]? = w.heap[h]? := by
  simp only [World.setCell, Array.getElem?_modify]
  rw [if_neg hne]
/-- Four cells of one block, written in a row. -/
abbrev put4 (w : World) (h : Nat) (a b c d : Value) : World := (((w.setCell ⟨h, 0, none⟩ a).setCell ⟨h, 1, none⟩ b).setCell ⟨h, 2, none⟩ c).setCell ⟨h, 3, none⟩ d
theorem put4_heap {w : World} {h : Nat} {a0 b0 c0 d0 : Value} {t : TypeId} {fr : Nat × Nat} (hh : w.heap[h]? = some (.cells #[a0, b0, c0, d0] t fr)) (a b c d : Value) : (put4 w h a b c d).heap[h]? = some (.cells #[a, b, c, d] t fr) := by
  simp [put4, World.setCell, Array.getElem?_modify, hh]
theorem put4_secs {B h : Nat} {w : World} {v : Value} {ss : List (List UInt8)} (hs : SecsO B w v ss) (hB : h < B) (a b c d : Value) : SecsO B (put4 w h a b c d) v ss := (((hs.setOther _ _ hB).setOther _ _ hB).setOther _ _ hB).setOther _ _ hB
theorem put4_loose {B h : Nat} {w : World} {v : Value} {ss : List WriteP} (hs : LooseO B w v ss) (hB : h < B) (a b c d : Value) : LooseO B (put4 w h a b c d) v ss := (((hs.setOther _ _ hB).setOther _ _ hB).setOther _ _ hB).setOther _ _ hB
theorem put4_below {B h : Nat} {w w' : World} (hb : Below B w w') (hB : B ≤ h) (a b c d : Value) : Below B w (put4 w' h a b c d) :=
  (((hb.setCell (p := ⟨h, 0, none⟩) hB a).setCell (p := ⟨h, 1, none⟩) hB b).setCell (p := ⟨h, 2, none⟩) hB c).setCell (p := ⟨h, 3, none⟩) hB d
theorem SecsO.lower {B B' : Nat} {w : World} {v : Value} {ss : List (List UInt8)} (h : SecsO B w v ss) (hB : B' ≤ B) : SecsO B' w v ss := ⟨h.1, h.2.lower hB⟩
theorem LooseO.lower {B B' : Nat} {w : World} {v : Value} {ss : List WriteP} (h : LooseO B w v ss) (hB : B' ≤ B) : LooseO B' w v ss := ⟨h.1, h.2.lower hB⟩
set_option maxRecDepth 100000 in
set_option maxHeartbeats 1000000 in
theorem burn_any {B : Nat} (v : Value) (d : DiskP) (w : World) (h : DiskV B w v d) (hr : rightB d = true) :
    Calls Tryd.prog 85 #[v] w fun e w' => (∃ sv lv, e = .returned (.tuple #[.agg #[sv, lv, .int .i64 (burnF d), .bool (downP d)], .int .i64 (burnE d)]) ∧ ∃ C, w.heap.size ≤ C ∧ SecsO w.heap.size w' sv d.secs ∧ Row C w' sv 64 d.secs.length (d.secs.map u8s).flatten ∧ LooseO C w' lv d.loose) ∧ Below w.heap.size w w' := by
  have h := h.tight
  obtain ⟨sv, lv, rfl, hs, hl⟩ := h
  have hrs : d.secs.length ≤ 2 ^ 40 ∧ d.loose.length ≤ 2 ^ 40 ∧ -1 ≤ d.fuse ∧ d.fuse ≤ 2 ^ 40 := by
    simp only [rightB, fusedB, Bool.and_eq_true, decide_eq_true_eq] at hr
    omega
  clear hr
  obtain ⟨r1, r2, r3, r4⟩ := hrs
  have R1 := Lib.hid r1
  have R2 := Lib.hid r2
  obtain ⟨w2, hw2⟩ : ∃ w2, w2 = ((w.alloc (.cells #[sv, lv, .int .i64 d.fuse, .bool d.down] 25)).alloc (.cells #[.slice none 0 0, .slice none 0 0, .int .i64 0, .bool false] 25)) := ⟨_, rfl⟩
  have hb2 : Below w.heap.size w w2 := by rw [hw2]; exact Below.alloc (Below.alloc (Below.refl _ _) (Nat.le_refl _) _) (by simp) _
  have hsz2 : w2.heap.size = w.heap.size + 2 := by rw [hw2]; simp
  have hg0 : w2.heap[w.heap.size]? = some (.cells #[sv, lv, .int .i64 d.fuse, .bool d.down] 25 (0, 0)) := by rw [hw2]; exact heap_alloc2_old w _ _
  have hg1 : w2.heap[w.heap.size + 1]? = some (.cells #[.slice none 0 0, .slice none 0 0, .int .i64 0, .bool false] 25 (0, 0)) := by rw [hw2]; exact heap_alloc2_new w _ _
  have hs2 : Secs w.heap.size w2.drew sv d.secs := (show Secs w.heap.size w2 sv d.secs from hs.below hb2)
  have F1 := Lib.hid (fun (w5 : World) (h : Below w2.drew.heap.size w2.drew w5) => (show Below w2.heap.size w2 w5 from ⟨h.os, h.tape, h.output, h.size, h.block⟩))
  have F2 := Lib.hid (fun (w5 : World) (h : Below w2.drew.heap.size w2.drew w5) => (hl.below hb2).below (((F1.out w5 h).mono hb2.size)))
  have c0 := cell_of_row w2 _ 0 _ _ _ hg0
  have c1 := cell_of_row w2 _ 1 _ _ _ hg0
  have hlt1 : w.heap.size < w2.heap.size := by omega
  have F3 := Lib.hid (fun (w5 : World) (h : Below w2.drew.heap.size w2.drew w5) => ((F1.out w5 h).cell (p := ⟨w.heap.size, 1, none⟩) hlt1).trans c1)
  have F4 := Lib.hid (fun (w5 : World) (h : Below w2.drew.heap.size w2.drew w5) => ((F1.out w5 h).block w.heap.size hlt1).trans hg0)
  clear hs hl
  go_enter Tryd.func85, Tryd.ntmps85
  go_wp2_with fail
  rw [← hw2]
  clear hw2
  go_region_with (first
    | (go_at_call 99; refine (clone64_any sv d.secs _ hs2 R1.out).mono ?_; rintro e w5 ⟨v5, rfl, ho5, hb5⟩; obtain ⟨a5, k5, rfl⟩ := ho5.form; have hl5 := F2.out w5 hb5; have hc5 := F3.out w5 hb5; have hg5 := F4.out w5 hb5)
    | (go_at_call 100; refine (cloneW_any lv d.loose _ hl5 R2.out).mono ?_; rintro e w6 ⟨v6, rfl, ho6, hb6⟩; obtain ⟨a6, k6, rfl⟩ := ho6.form; have hg6 := (hb6.block w.heap.size (block_lt hg5)).trans hg5; have hk0 := cell_of_row w6 _ 0 _ _ _ hg6; have hk1 := cell_of_row w6 _ 1 _ _ _ hg6; have hf0 := frozen_row hg6 0; have hf1 := frozen_row hg6 1))
  all_goals
    clear F1 F2 F3 F4 hc5 hl5 c0 c1 hk0 hk1 hf0 hf1 hs2 h R1 R2
    have hb26 : Below w.heap.size w w6 := hb2.trans ((show Below w.heap.size w2 w5 from ⟨hb5.os, hb5.tape, hb5.output, hb5.size, fun k hk => hb5.block k (Nat.lt_trans hk hlt1)⟩).trans (hb6.mono (by have := hb5.size; simp only [heap_drew] at this; omega)))
    have hs5 : w2.heap.size ≤ w5.heap.size := hb5.size
    have hh6 : w6.heap[w.heap.size + 1]? = some (.cells #[.slice none 0 0, .slice none 0 0, .int .i64 0, .bool false] 25 (0, 0)) := (hb6.block (w.heap.size + 1) (by omega)).trans ((hb5.block (w.heap.size + 1) (by simp only [heap_drew]; omega)).trans hg1)
    have hg7 := set0 hg6 (.slice a5 d.secs.length k5) (.slice a6 d.loose.length k6)
    have hh7 := ((setFar (w := w6.setCell ⟨w.heap.size, 0, none⟩ (.slice a5 d.secs.length k5)) (g := w.heap.size) (h := w.heap.size + 1) (by omega) 1 (.slice a6 d.loose.length k6)).trans (setFar (w := w6) (by omega) 0 (.slice a5 d.secs.length k5))).trans hh6
    have p5 := ((ho5.keep hb6 (Nat.le_refl _)).setOther ⟨w.heap.size, 0, none⟩ (.slice a5 d.secs.length k5) hlt1).setOther ⟨w.heap.size, 1, none⟩ (.slice a6 d.loose.length k6) hlt1
    have p6 := (ho6.setOther ⟨w.heap.size, 0, none⟩ (.slice a5 d.secs.length k5) (Nat.lt_of_lt_of_le hlt1 hs5)).setOther ⟨w.heap.size, 1, none⟩ (.slice a6 d.loose.length k6) (Nat.lt_of_lt_of_le hlt1 hs5)
    have hb7 := (hb26.setCell (p := ⟨w.heap.size, 0, none⟩) (Nat.le_refl _) (.slice a5 d.secs.length k5)).setCell (p := ⟨w.heap.size, 1, none⟩) (Nat.le_refl _) (.slice a6 d.loose.length k6)
    obtain ⟨w7, hw7⟩ : ∃ w7, w7 = (w6.setCell ⟨w.heap.size, 0, none⟩ (.slice a5 d.secs.length k5)).setCell ⟨w.heap.size, 1, none⟩ (.slice a6 d.loose.length k6) := ⟨_, rfl⟩
    rw [← hw7] at hg7 hh7 p5 p6 hb7 ⊢
    clear hw7 hb6 hb5 hg1 hg0 hb2 hg5 ho6 hg6 hh6 hb26 hlt1
    have hb2z : w.heap.size + 2 ≤ w2.heap.size := by omega
    clear hsz2
    have q5 : SecsO (w.heap.size + 2) w7 (.slice a5 d.secs.length k5) d.secs := p5.lower hb2z
    have q6 := p6
    have hC : w.heap.size + 2 ≤ w5.heap.size := Nat.le_trans hb2z hs5
    have r5 := ho5.secs.2
    have c2 := cell_of_row w7 _ 2 _ _ _ hg7
    have c3 := cell_of_row w7 _ 3 _ _ _ hg7
    have c0 := cell_of_row w7 _ 0 _ _ _ hg7
    have c1 := cell_of_row w7 _ 1 _ _ _ hg7
    have f0 := frozen_row hg7
    have e0 := cell_of_row w7 _ 0 _ _ _ hh7
    have e1 := cell_of_row w7 _ 1 _ _ _ hh7
    have e2 := cell_of_row w7 _ 2 _ _ _ hh7
    have e3 := cell_of_row w7 _ 3 _ _ _ hh7
    have f1 := frozen_row hh7
    have H1 : w.heap.size + 1 < w.heap.size + 2 := Nat.lt_succ_self _
    have H2 : w.heap.size ≤ w.heap.size + 2 := Nat.le_add_right _ _
    have H3 : w.heap.size ≤ w.heap.size + 1 := Nat.le_succ _
    have H4 : w.heap.size < w.heap.size + 2 := by omega
    have H5 : w.heap.size ≠ w.heap.size + 1 := by omega
    have H6 : w.heap.size + 1 < w5.heap.size := by omega
    have H7 : w.heap.size < w5.heap.size := by omega
    have H8 : w.heap.size ≤ w5.heap.size := by omega
    clear p5 p6 hs5 hb2z ho5 hC
    by_cases hz : d.fuse = 0
    · have t0 : ((d.fuse : Int) == 0) = true := by rw [beq_iff_eq]; exact hz
      have u1 : downP d = true := by simp [downP, hz]
      have u2 : burnF d = d.fuse := by simp [burnF, u1]
      have u3 : burnE d = 9 := by simp [burnE, u1]
      have U := Lib.hid (And.intro u2 (And.intro u1 u3))
      clear u1 u2 u3 hz
      go_wp2_with fail
      refine bodyPost_ret (results_ct rfl _ _ (w.heap.size + 1) _ _ _ _ rfl (put4_heap ((setFar H5 3 _).trans hh7) _ _ _ _) Tryd.underlying25 rfl size_disk) rfl ?_
      exact ⟨⟨_, _, by rw [U.out.1, U.out.2.1, U.out.2.2] <;> rfl, w5.heap.size, H8, (put4_secs (q5.setOther ⟨w.heap.size, 3, none⟩ _ H4) H1 _ _ _ _).lower H2, r5.mix (put4_secs (q5.setOther ⟨w.heap.size, 3, none⟩ _ H4) H1 _ _ _ _).2.row, put4_loose (q6.setOther ⟨w.heap.size, 3, none⟩ _ H7) H6 _ _ _ _⟩, put4_below (hb7.setCell (p := ⟨w.heap.size, 3, none⟩) (Nat.le_refl _) _) H3 _ _ _ _⟩
    · have t0 : ((d.fuse : Int) == 0) = false := by rw [beq_eq_false_iff_ne]; exact hz
      obtain ⟨D, hD⟩ : ∃ D, D = d.down := ⟨_, rfl⟩
      have c3' := c3
      rw [← hD] at c3' hg7
      clear c3
      cases D with
      | true =>
      have u1 : downP d = true := by simp [downP, ← hD]
      have u2 : burnF d = d.fuse := by simp [burnF, u1]
      have u3 : burnE d = 9 := by simp [burnE, u1]
      have U := Lib.hid (And.intro u2 (And.intro u1 u3))
      clear u1 u2 u3 hz hD
      go_wp2_with fail
      refine bodyPost_ret (results_ct rfl _ _ (w.heap.size + 1) _ _ _ _ rfl (put4_heap hh7 _ _ _ _) Tryd.underlying25 rfl size_disk) rfl ?_
      exact ⟨⟨_, _, by rw [U.out.1, U.out.2.1, U.out.2.2] <;> rfl, w5.heap.size, H8, (put4_secs q5 H1 _ _ _ _).lower H2, r5.mix (put4_secs q5 H1 _ _ _ _).2.row, put4_loose q6 H6 _ _ _ _⟩, put4_below hb7 H3 _ _ _ _⟩
      | false =>
      have u1 : downP d = false := by simp [downP, ← hD, hz]
      have u3 : burnE d = 0 := by simp [burnE, u1]
      by_cases hp : 0 < d.fuse
      · have u2 : burnF d = d.fuse - 1 := by simp [burnF, u1, hp]
        have U := Lib.hid (And.intro u2 (And.intro u1 u3))
        clear u1 u2 u3 hz hD
        have hz := hp
        go_wp2_with fail
        refine bodyPost_ret (results_ct rfl _ _ (w.heap.size + 1) _ _ _ _ rfl (put4_heap ((setFar H5 2 _).trans hh7) _ _ _ _) Tryd.underlying25 rfl size_disk) rfl ?_
        exact ⟨⟨_, _, by rw [U.out.1, U.out.2.1, U.out.2.2] <;> rfl, w5.heap.size, H8, (put4_secs (q5.setOther ⟨w.heap.size, 2, none⟩ _ H4) H1 _ _ _ _).lower H2, r5.mix (put4_secs (q5.setOther ⟨w.heap.size, 2, none⟩ _ H4) H1 _ _ _ _).2.row, put4_loose (q6.setOther ⟨w.heap.size, 2, none⟩ _ H7) H6 _ _ _ _⟩, put4_below (hb7.setCell (p := ⟨w.heap.size, 2, none⟩) (Nat.le_refl _) _) H3 _ _ _ _⟩
      · have u2 : burnF d = d.fuse := by simp [burnF, u1, hp]
        have U := Lib.hid (And.intro u2 (And.intro u1 u3))
        clear u1 u2 u3 hz hD
        go_wp2_with fail
        refine bodyPost_ret (results_ct rfl _ _ (w.heap.size + 1) _ _ _ _ rfl (put4_heap hh7 _ _ _ _) Tryd.underlying25 rfl size_disk) rfl ?_
        exact ⟨⟨_, _, by rw [U.out.1, U.out.2.1, U.out.2.2] <;> rfl, w5.heap.size, H8, (put4_secs q5 H1 _ _ _ _).lower H2, r5.mix (put4_secs q5 H1 _ _ _ _).2.row, put4_loose q6 H6 _ _ _ _⟩, put4_below hb7 H3 _ _ _ _⟩
end Go.Proofs.YtaijompnohkmaaaDoor
/- Building values of many cells: writes of layer 1. -/
namespace Go.Proofs.YtaijompnohkmaaaDoor
open Go.RowKit
theorem fold_put (off : Nat) : ∀ (cs : List Value) (n : Nat) (A : Array Value), off + n + cs.length ≤ A.size →
    ((cs.zipIdx n).foldl (fun (a : Array Value) (x : Value × Nat) => a.setIfInBounds (off + x.2) x.1) A).toList = A.toList.take (off + n) ++ cs ++ A.toList.drop (off + n + cs.length)
  | [], n, A, _ => by simp
  | c :: cs, n, A, h => by
    rw [List.zipIdx_cons, List.foldl_cons, fold_put off cs (n + 1) _ (by simp only [Array.size_setIfInBounds, List.length_cons] at h ⊢; omega)]
    simp only [List.length_cons] at h
    have hlt : off + n < A.toList.length := by simp; omega
    simp only [Array.toList_setIfInBounds, List.length_cons]
    have e1 : off + (n + 1) = off + n + 1 := by omega
    have e2 : off + n + 1 + cs.length = off + n + (cs.length + 1) := by omega
    rw [e1, e2, List.take_add_one, List.take_set_of_le (Nat.le_refl _), List.getElem?_set_self hlt, List.drop_set_of_lt (by omega)]
    simp
theorem fold_put_arr (off : Nat) (C A : Array Value) (h : off + C.size ≤ A.size) :
    (C.zipIdx.foldl (fun (a : Array Value) (x : Value × Nat) => a.setIfInBounds (off + x.2) x.1) A) = (A.toList.take off ++ C.toList ++ A.toList.drop (off + C.size)).toArray := by
  have h1 := fold_put off C.toList 0 A (by simpa using h)
  apply Array.ext'
  rw [← Array.foldl_toList, Array.toList_zipIdx]
  simpa using h1
theorem cells_agg (A : Array Value) : (Value.agg A).cells = A := rfl
theorem cells_int (k : IntKind) (n : Int) : (Value.int k n).cells = #[.int k n] := rfl
theorem infoz_u8s : (Tryd.prog.info? 3).map (fun i => i.size) = some 1 := by kernel_rfl
theorem run_build_write {w : World} (at_ : Int) (A : Array Value) (hA : A.size = 64) :
    (Instr.build 75 #[(0, .int .i64 at_), (1, .agg A)]).run Tryd.prog w = .ok (.agg (.int .i64 at_ :: A.toList).toArray) w := by
  obtain ⟨i0, z0, hi, hz0, hz1, hz2, hz3⟩ := zero_parts infoz_write
  obtain ⟨i1, hi1, hs1⟩ := Option.map_eq_some_iff.1 infoz_u8s
  obtain ⟨i2, z2, hi2, _, hs2, _, _⟩ := zero_parts infoz_sector
  have e : (z0.cells.setIfInBounds 0 (Value.int .i64 at_)).size = 65 := by simpa using hz3
  have e1 := fold_put_arr 1 A (z0.cells.setIfInBounds 0 (Value.int .i64 at_)) (by rw [e, hA]; exact Nat.le_refl _)
  have e2 : (List.take 1 (z0.cells.setIfInBounds 0 (Value.int .i64 at_)).toList ++ A.toList ++ List.drop (1 + A.size) (z0.cells.setIfInBounds 0 (Value.int .i64 at_)).toList) = .int .i64 at_ :: A.toList := by
    rw [List.drop_eq_nil_of_le (by simp [hz3, hA]), List.append_nil]
    cases hl : z0.cells.toList with
    | nil => have := congrArg List.length hl; simp [hz3] at this
    | cons a l => simp [hl]
  rw [e2] at e1
  have e4 : z0.cells ≠ #[] := by intro h; rw [h] at hz3; simp at hz3
  simp [Instr.build, zeroValue, typeInfo, hi, hz0, run_underlying Tryd.underlying75, sizeOf, hi1, hi2, hs1, hs2, Instr.fill, cells_agg, cells_int, hA, hz3, e4]
  simpa [hA] using e1
set_option maxRecDepth 100000 in
theorem run_buildSlice_write {w : World} (A : Array Value) (hA : A.size = 65) :
    (Instr.buildSlice 23 1 #[(0, .agg A)]).run Tryd.prog w = .ok (.slice (some ⟨w.heap.size, 0, none⟩) 1 1) (w.alloc (.cells A 75)) := by
  obtain ⟨i0, z0, hi, hz0, hz1, hz2, hz3⟩ := zero_parts infoz_write
  have e1 := fold_put_arr 0 A ((Array.range 65).map (z0.cells[· % z0.cells.size]!)) (by simp [hA])
  have e2 : (List.take 0 ((Array.range 65).map (z0.cells[· % z0.cells.size]!)).toList ++ A.toList ++ List.drop (0 + A.size) ((Array.range 65).map (z0.cells[· % z0.cells.size]!)).toList) = A.toList := by
    rw [List.drop_eq_nil_of_le (by simp [hA])]; simp
  rw [e2] at e1
  simp only [Nat.zero_add] at e1
  simp [Instr.buildSlice, zeroValue, typeInfo, hi, hz0, hz1, run_underlying Tryd.underlying23, sizeOf, Instr.fill, cells_agg, cells_int, hA, hz3, newRow]
  congr 2
  simpa [hA, hz3] using e1
section
variable {P : Program} {ops : Array Oper} {rest : List Oper} {o : Oper} {a : Act} {w : World} {Q : Exit → Act → World → Prop}
/-- A load at a world that bears a name. -/
theorem wp_load_to (x : Operand) (t : TypeId) (hgd : o.guard = none) (ho : o.op = .load t x) {ad : Addr} {v : Value} {w' : World} (hw : w' = w) (hx : a.eval x = .pointer (some ad)) (hl : (loadVar t ad).run P w' = .ok v w')
    (h : wpList P ops Q rest (a.put o.dst v) w') : wpList P ops Q (o :: rest) a w := by
  subst hw
  exact wp_load_at x t hgd ho hx hl h
theorem wp_build_l (t : TypeId) (L : List (Nat × Operand)) (hgd : o.guard = none) (ho : o.op = .build t L.toArray) {v : Value} {L' : List (Nat × Value)} (hL : L.map (fun x => (x.1, a.eval x.2)) = L') (hb : (Instr.build t L'.toArray).run P w = .ok v w)
    (h : wpList P ops Q rest (a.put o.dst v) w) : wpList P ops Q (o :: rest) a w := by
  refine wpList_plain hgd fun K hK => ?_
  subst hL
  unfold Oper.wp execOp
  simp only [ho, Sem.run_bind, Sem.run_pure, Result.andThen_ok, List.map_toArray, hb]
  exact hK _ _ h
theorem wp_buildSlice_l (t : TypeId) (n : Nat) (L : List (Nat × Operand)) (hgd : o.guard = none) (ho : o.op = .buildSlice t n L.toArray) {v : Value} {w' : World} {L' : List (Nat × Value)} (hL : L.map (fun x => (x.1, a.eval x.2)) = L') (hb : (Instr.buildSlice t n L'.toArray).run P w = .ok v w')
    (h : wpList P ops Q rest (a.put o.dst v) w') : wpList P ops Q (o :: rest) a w := by
  refine wpList_plain hgd fun K hK => ?_
  subst hL
  unfold Oper.wp execOp
  simp only [ho, Sem.run_bind, Sem.run_pure, Result.andThen_ok, List.map_toArray, hb]
  exact hK _ _ h
/-! The same with the operation written out: so they fail at once, under with_reducible, where another operation stands. -/
variable {dst : Option Tmp} {ty : TypeId} {pos : String} {after : Array Edge}
theorem wp_load_r (x : Operand) (t : TypeId) {ad : Addr} {v : Value} {w' : World} (hw : w' = w) (hl : (loadVar t ad).run P w' = .ok v w') (hx : a.eval x = .pointer (some ad))
    (h : wpList P ops Q rest (a.put dst v) w') : wpList P ops Q (⟨dst, .load t x, ty, pos, after, none⟩ :: rest) a w := wp_load_to x t rfl rfl hw hx hl h
theorem wp_build_r (t : TypeId) (L : List (Nat × Operand)) {v : Value} {L' : List (Nat × Value)} (hb : (Instr.build t L'.toArray).run P w = .ok v w) (hL : L.map (fun x => (x.1, a.eval x.2)) = L')
    (h : wpList P ops Q rest (a.put dst v) w) : wpList P ops Q (⟨dst, .build t L.toArray, ty, pos, after, none⟩ :: rest) a w := wp_build_l t L rfl rfl hL hb h
theorem wp_buildSlice_r (t : TypeId) (n : Nat) (L : List (Nat × Operand)) {v : Value} {w' : World} {L' : List (Nat × Value)} (hb : (Instr.buildSlice t n L'.toArray).run P w = .ok v w') (hL : L.map (fun x => (x.1, a.eval x.2)) = L')
    (h : wpList P ops Q rest (a.put dst v) w') : wpList P ops Q (⟨dst, .buildSlice t n L.toArray, ty, pos, after, none⟩ :: rest) a w := wp_buildSlice_l t n L rfl rfl hL hb h
theorem wp_store_r (x y : Operand) (t : TypeId) {ad : Addr} {v : Value} {w' : World} (hl : (storeVar t ad v).run P w = .ok () w') (hx : a.eval x = .pointer (some ad)) (hy : a.eval y = v)
    (h : wpList P ops Q rest (a.put dst undef) w') : wpList P ops Q (⟨dst, .store t x y, ty, pos, after, none⟩ :: rest) a w := wp_store_at x y t rfl rfl hx hy hl h
end
end Go.Proofs.YtaijompnohkmaaaDoor
