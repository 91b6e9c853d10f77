/- Layer 1 (sector): Arm. -/
import Derived.Test.YtccjjlefpdlegabPut
namespace Go.Proofs.Ytccjjlefpdlegab
open Go.RowKit
def armP (d : DiskP) (fuse : Int) : DiskP × Int := if rightB d && fusedB fuse then ({ d with fuse := fuse }, 0) else (d, 1)
/-- Two blocks: the disk, and the result's. -/
structure Fr2 (B G : Nat) (w : World) (sv lv : Value) (d : DiskP) : Prop where
  g0 : w.heap[G]? = some (.cells #[sv, lv, .int .i64 d.fuse, .bool d.down] 27 (0, 0))
  g2 : w.heap[G + 1]? = some (.cells #[.slice none 0 0, .slice none 0 0, .int .i64 0, .bool false] 27 (0, 0))
  s : Secs B w sv d.secs
  l : Loose B w lv d.loose
theorem Fr2.below {B G B' : Nat} {w w' : World} {sv lv : Value} {d : DiskP} (h : Fr2 B G w sv lv d) (hb : Below B' w w') (hB : G + 1 < B') (hB2 : B ≤ B') : Fr2 B G w' sv lv d :=
  ⟨(hb.block _ (by omega)).trans h.g0, (hb.block _ hB).trans h.g2, h.s.below (hb.mono hB2), h.l.below (hb.mono hB2)⟩
theorem Fr2.diskV {B G : Nat} {w : World} {sv lv : Value} {d : DiskP} (h : Fr2 B G w sv lv d) : DiskV B w (.agg #[sv, lv, .int .i64 d.fuse, .bool d.down]) d := ⟨sv, lv, rfl, h.s, h.l⟩
theorem Fr2.new {w : World} {sv lv : Value} {d : DiskP} (hs : Secs w.heap.size w sv d.secs) (hl : Loose w.heap.size w lv d.loose) :
    Fr2 w.heap.size w.heap.size ((w.alloc (.cells #[sv, lv, .int .i64 d.fuse, .bool d.down] 27)).alloc (.cells #[.slice none 0 0, .slice none 0 0, .int .i64 0, .bool false] 27)) sv lv d := by
  have hb : Below w.heap.size w ((w.alloc (.cells #[sv, lv, .int .i64 d.fuse, .bool d.down] 27)).alloc (.cells #[.slice none 0 0, .slice none 0 0, .int .i64 0, .bool false] 27)) := Below.alloc (Below.alloc (Below.refl _ _) (Nat.le_refl _) _) (by simp) _
  exact ⟨heap_alloc2_old w _ _, heap_alloc2_new w _ _, hs.below hb, hl.below hb⟩
end Go.Proofs.Ytccjjlefpdlegab
