/- Layer 1 (sector): disks as plain data, and how they lie in memory. -/
import Derived.Test.YtccjjlefpdlegabOwn
import Derived.Lib.Hide
namespace Go.Proofs.Ytccjjlefpdlegab
open Go.RowKit
structure WriteP where
  at_ : Int
  data : List UInt8
structure DiskP where
  secs : List (List UInt8)
  loose : List WriteP
  fuse : Int
  down : Bool
def wcells (x : WriteP) : List Value := .int .i64 x.at_ :: u8s x.data
/-- A slice of sectors; of writes. -/
def Secs (B : Nat) (w : World) (v : Value) (ss : List (List UInt8)) : Prop := (∀ s ∈ ss, s.length = 64) ∧ Row B w v 64 ss.length (ss.map u8s).flatten
def Loose (B : Nat) (w : World) (v : Value) (ls : List WriteP) : Prop := (∀ x ∈ ls, x.data.length = 64) ∧ Row B w v 65 ls.length (ls.map wcells).flatten
theorem Secs.below {B : Nat} {w w' : World} {v : Value} {ss : List (List UInt8)} (h : Secs B w v ss) (hb : Below B w w') : Secs B w' v ss := ⟨h.1, h.2.below hb⟩
theorem Loose.below {B : Nat} {w w' : World} {v : Value} {ls : List WriteP} (h : Loose B w v ls) (hb : Below B w w') : Loose B w' v ls := ⟨h.1, h.2.below hb⟩
theorem Secs.tight {B : Nat} {w : World} {v : Value} {ss : List (List UInt8)} (h : Secs B w v ss) : Secs w.heap.size w v ss := ⟨h.1, h.2.tight (by decide)⟩
theorem Loose.tight {B : Nat} {w : World} {v : Value} {ls : List WriteP} (h : Loose B w v ls) : Loose w.heap.size w v ls := ⟨h.1, h.2.tight (by decide)⟩
/-- A disk as a value. -/
def DiskV (B : Nat) (w : World) (v : Value) (d : DiskP) : Prop := ∃ sv lv, v = .agg #[sv, lv, .int .i64 d.fuse, .bool d.down] ∧ Secs B w sv d.secs ∧ Loose B w lv d.loose
theorem DiskV.below {B : Nat} {w w' : World} {v : Value} {d : DiskP} (h : DiskV B w v d) (hb : Below B w w') : DiskV B w' v d := by
  obtain ⟨sv, lv, h1, h2, h3⟩ := h
  exact ⟨sv, lv, h1, h2.below hb, h3.below hb⟩
theorem DiskV.tight {B : Nat} {w : World} {v : Value} {d : DiskP} (h : DiskV B w v d) : DiskV w.heap.size w v d := by
  obtain ⟨sv, lv, h1, h2, h3⟩ := h
  exact ⟨sv, lv, h1, h2.tight, h3.tight⟩
/-- Some cells that lie behind one another, loaded as one value. -/
theorem run_load_big {P : Program} {t : TypeId} {i : TypeInfo} {d : TypeDesc} (hu : P.underlying t = some d) (hd : (∃ n e, d = .array n e) ∨ ∃ fs, d = .struct fs) (hi : P.info? t = some i) {w : World} {b off n : Nat} {cs : List Value}
    (hsz : i.size = n) (hl : cs.length = n) (hc : ∀ k u, cs[k]? = some u → w.cell? ⟨b, off + k, none⟩ = some u) :
    (loadVar t ⟨b, off, none⟩).run P w = .ok (.agg cs.toArray) w := by
  have h := run_loadCells_list (P := P) w ⟨b, off, none⟩ cs (fun j v hj => by
    have : (⟨b, off, none⟩ : Addr).add j = ⟨b, off + j, none⟩ := by unfold Addr.add; split <;> simp_all
    rw [this]; exact hc j v hj)
  rw [hl] at h
  rcases hd with ⟨n', e, rfl⟩ | ⟨fs, rfl⟩ <;> simp [loadVar, isAgg, run_underlying hu, sizeOf, typeInfo, hi, hsz, h]
theorem flat_at {α : Type} (f : α → List Value) (sz : Nat) : ∀ (xs : List α), (∀ x ∈ xs, (f x).length = sz) → ∀ (k : Nat) (x : α), xs[k]? = some x → ∀ (j : Nat) (u : Value), (f x)[j]? = some u → (xs.map f).flatten[k * sz + j]? = some u
  | [], _, k, x, h, _, _, _ => by simp at h
  | y :: ys, hs, 0, x, h, j, u, hj => by
    simp only [List.getElem?_cons_zero, Option.some.injEq] at h
    subst h
    rw [List.map_cons, List.flatten_cons, Nat.zero_mul, Nat.zero_add, List.getElem?_append_left (List.getElem?_eq_some_iff.1 hj).1]
    exact hj
  | y :: ys, hs, k + 1, x, h, j, u, hj => by
    have h0 := hs y (List.mem_cons_self ..)
    rw [List.map_cons, List.flatten_cons, List.getElem?_append_right (by rw [h0, Nat.succ_mul]; omega), h0]
    have e : (k + 1) * sz + j - sz = k * sz + j := by rw [Nat.succ_mul]; omega
    rw [e]
    exact flat_at f sz ys (fun x hx => hs x (List.mem_cons_of_mem _ hx)) k x (by simpa using h) j u hj
theorem length_u8s (s : List UInt8) : (u8s s).length = s.length := by simp [u8s]
theorem length_wcells (x : WriteP) : (wcells x).length = x.data.length + 1 := by simp [wcells, u8s]
end Go.Proofs.Ytccjjlefpdlegab
