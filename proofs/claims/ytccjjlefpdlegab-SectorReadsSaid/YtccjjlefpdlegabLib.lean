/- General words for the walks: a slice that reads as a row of cells, in whatever program. -/
import Derived.WalkKit
import Derived.ProofKit
import Derived.Deep.Draws
import Derived.OpenShut
namespace Go.Proofs.Ytccjjlefpdlegab
open Go.RowKit
/-- The slice value v has n elements of sz cells each; its cells, from its first on, are cs; its block lies below B. -/
def Row (B : Nat) (w : World) (v : Value) (sz n : Nat) (cs : List Value) : Prop :=
  cs.length = n * sz ∧ ∃ a cap, v = .slice a n cap ∧ n ≤ cap ∧ cap ≤ maxLen ∧ (0 < n → ∃ b off, a = some ⟨b, off, none⟩ ∧ b < B ∧ ∀ k u, cs[k]? = some u → w.cell? ⟨b, off + k, none⟩ = some u)

theorem Row.below {B : Nat} {w w' : World} {v : Value} {sz n : Nat} {cs : List Value} (h : Row B w v sz n cs) (hb : Below B w w') : Row B w' v sz n cs := by
  obtain ⟨h1, a, cap, rfl, h2, h3, h4⟩ := h
  refine ⟨h1, a, cap, rfl, h2, h3, fun hn => ?_⟩
  obtain ⟨b, off, rfl, h5, h6⟩ := h4 hn
  exact ⟨b, off, rfl, h5, fun k u hk => (hb.cell (p := ⟨b, off + k, none⟩) h5).trans (h6 k u hk)⟩
theorem Row.mono {B B' : Nat} {w : World} {v : Value} {sz n : Nat} {cs : List Value} (h : Row B w v sz n cs) (hB : B ≤ B') : Row B' w v sz n cs := by
  obtain ⟨h1, a, cap, rfl, h2, h3, h4⟩ := h
  refine ⟨h1, a, cap, rfl, h2, h3, fun hn => ?_⟩
  obtain ⟨b, off, rfl, h5, h6⟩ := h4 hn
  exact ⟨b, off, rfl, by omega, h6⟩
theorem Row.tight {B : Nat} {w : World} {v : Value} {sz n : Nat} {cs : List Value} (h : Row B w v sz n cs) (hsz : 0 < sz) : Row w.heap.size w v sz n cs := by
  obtain ⟨h1, a, cap, rfl, h2, h3, h4⟩ := h
  refine ⟨h1, a, cap, rfl, h2, h3, fun hn => ?_⟩
  obtain ⟨b, off, rfl, h5, h6⟩ := h4 hn
  have hl : 0 < cs.length := by rw [h1]; exact Nat.mul_pos hn hsz
  exact ⟨b, off, rfl, World.block_lt_of_cell? w _ (h6 0 _ (List.getElem?_eq_getElem hl)), h6⟩
theorem Row.nil (B : Nat) (w : World) (sz : Nat) : Row B w (.slice none 0 0) sz 0 [] :=
  ⟨by simp, none, 0, rfl, Nat.le_refl _, by simp [maxLen], fun h => absurd h (Nat.lt_irrefl _)⟩

/-- A row in a block that has just been made. -/
theorem Row.fresh {w : World} {C : Array Value} {e : TypeId} {fz : Nat × Nat} {sz n cap : Nat} {cs : List Value} (hl : cs.length = n * sz) (hnc : n ≤ cap) (hcap : cap ≤ maxLen)
    (hC : ∀ (k : Nat) (u : Value), cs[k]? = some u → C[k]? = some u) : Row (w.heap.size + 1) (w.alloc (.cells C e fz)) (.slice (some ⟨w.heap.size, 0, none⟩) n cap) sz n cs := by
  refine ⟨hl, _, cap, rfl, hnc, hcap, fun _ => ⟨_, 0, rfl, Nat.lt_succ_self _, fun k u hk => ?_⟩⟩
  have hnew : (w.alloc (.cells C e fz)).heap[w.heap.size]? = some (.cells C e fz) := by
    show (w.heap.push (.cells C e fz))[w.heap.size]? = _
    simp
  unfold World.cell?
  simp only [hnew, Nat.zero_add]
  exact hC k u hk
/-- A byte as Go's. -/
def u8 (b : UInt8) : Value := .int .u8 b.toNat
def u8s (bs : List UInt8) : List Value := bs.map u8
theorem u8s_at {bs : List UInt8} {k : Nat} (h : k < bs.length) : (u8s bs)[k]? = some (.int .u8 (bs[k].toNat : Int)) := by
  simp [u8s, h, u8]
/-- A slice of bytes. -/
def Bytes (B : Nat) (w : World) (v : Value) (bs : List UInt8) : Prop := Row B w v 1 bs.length (u8s bs)
theorem Bytes.tight {B : Nat} {w : World} {v : Value} {bs : List UInt8} (h : Bytes B w v bs) : Bytes w.heap.size w v bs := Row.tight h (by decide)
theorem Bytes.below {B : Nat} {w w' : World} {v : Value} {bs : List UInt8} (h : Bytes B w v bs) (hb : Below B w w') : Bytes B w' v bs := Row.below h hb
/-- A slice of slices of bytes. -/
def Pieces (B : Nat) (w : World) (v : Value) (ls : List (List UInt8)) : Prop :=
  ∃ vs : List Value, Row B w v 1 ls.length vs ∧ ∀ (k : Nat) (h : k < ls.length), ∃ u, vs[k]? = some u ∧ Bytes B w u ls[k]
theorem Pieces.below {B : Nat} {w w' : World} {v : Value} {ls : List (List UInt8)} (h : Pieces B w v ls) (hb : Below B w w') : Pieces B w' v ls := by
  obtain ⟨vs, h1, h2⟩ := h
  exact ⟨vs, h1.below hb, fun k hk => let ⟨u, h3, h4⟩ := h2 k hk; ⟨u, h3, h4.below hb⟩⟩
theorem below_draws {B : Nat} {a w : World} (h : Below B a w) (n : Nat) : Below B a (w.drewN n) := ⟨h.os, h.tape, h.output, h.size, h.block⟩
theorem ret_int {k : IntKind} {a b : Int} (h : a = b) : Ending.returned (.int k a) = .returned (.int k b) := by rw [h]
theorem ret_bool {a b : Bool} (h : a = b) : Ending.returned (.bool a) = .returned (.bool b) := by rw [h]
end Go.Proofs.Ytccjjlefpdlegab
