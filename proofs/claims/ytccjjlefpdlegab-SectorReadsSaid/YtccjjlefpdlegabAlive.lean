/- Layer 1 (sector): the fixed fact. -/
import Derived.Test.YtccjjlefpdlegabRead
import Derived.Test.YtccjjlefpdlegabStart
import Derived.Test.YtccjjlefpdlegabNew
namespace Go.Proofs.Ytccjjlefpdlegab
open Go.RowKit
def greatB (d : DiskP) : Bool := decide (500 < d.secs.length) || decide (500 < d.loose.length)
set_option maxRecDepth 100000 in
set_option maxHeartbeats 1000000 in
theorem great_any {B : Nat} (v : Value) (d : DiskP) (w : World) (h : DiskV B w v d) :
    Calls Try.prog 11 #[v] w fun e w' => e = .returned (.bool (greatB d)) ∧ Below w.heap.size w w' := by
  obtain ⟨a1, n1, a2, n2, rfl, hs, hl⟩ := h.tight.parts
  have hcs := hs.2
  obtain ⟨_, _, _, hv, _, hcap1, _⟩ := hcs
  cases hv
  have hcl := hl.2
  obtain ⟨_, _, _, hv, _, hcap2, _⟩ := hcl
  cases hv
  unfold maxLen at hcap1 hcap2
  have hb := Below.alloc (Below.refl w.heap.size w) (Nat.le_refl _) (.cells #[.slice a1 d.secs.length n1, .slice a2 d.loose.length n2, .int .i64 d.fuse, .bool d.down] 27)
  by_cases h1 : 500 < d.secs.length
  · go_enter Try.func11, Try.ntmps11
    go_wp2_with fail
    go_ret
    exact ⟨by simp [greatB, h1], hb⟩
  · go_enter Try.func11, Try.ntmps11
    go_wp2_with fail
    go_ret
    have h1' : ¬ (500 < (d.secs.length : Int)) := by omega
    have h2 : (500 < (d.loose.length : Int)) ↔ 500 < d.loose.length := by omega
    exact ⟨by simp [greatB, h1, h1', h2], hb⟩
def lit64 (c : UInt8) : List UInt8 := c :: List.replicate 63 0
theorem run_build44 (c : UInt8) (w : World) : (Instr.build 33 #[(0, .int .u8 c.toNat)]).run Try.prog w = .ok (.agg (u8s (lit64 c)).toArray) w := by
  obtain ⟨z, hz, hzr⟩ := zero44
  obtain ⟨i1, hi1, hs1⟩ := Option.map_eq_some_iff.1 (show (Try.prog.info? 5).map (fun i => i.size) = some 1 by kernel_rfl)
  have e4 : z.cells ≠ #[] := by rw [hz]; simp [u8s, zeroS]
  simp [Instr.build, hzr, run_underlying Try.underlying33, sizeOf, typeInfo, hi1, hs1, Instr.fill, cells_int, e4]
  rw [hz]
  rfl
def aD1 : DiskP := (newP 5).1
def aD2 : DiskP := (putP aD1 3 (lit64 7)).1
def aD3 : DiskP := (flushP aD2).1
def aD4 : DiskP := (putP aD3 3 (lit64 8)).1
def aD5 : DiskP := (startP aD4 0).1
theorem aE : (newP 5).2 = 0 ∧ (putP aD1 3 (lit64 7)).2 = 0 ∧ (flushP aD2).2 = 0 ∧ (putP aD3 3 (lit64 8)).2 = 0 ∧ (startP aD4 0).2 = 0 ∧ readP aD5 3 = (lit64 7, 0) := by decide
theorem put4_disk {B g : Nat} {w : World} {v : Value} {d : DiskP} (h : DiskV B w v d) (hs : DSl (· ≠ g) v) (a b c e : Value) : DiskV B (put4 w g a b c e) v d :=
  (((h.setFar (p := ⟨g, 0, none⟩) hs a).setFar (p := ⟨g, 1, none⟩) hs b).setFar (p := ⟨g, 2, none⟩) hs c).setFar (p := ⟨g, 3, none⟩) hs e
set_option maxRecDepth 100000 in
set_option maxHeartbeats 2000000 in
theorem alive_any (w : World) : Calls Try.prog 5 #[] w fun e w' => e = .returned (.bool true) ∧ Below w.heap.size w w' := by
  obtain ⟨q1, q2, q3, q4, q5, q6⟩ := aE
  have k1 := new_any 5 w (fun _ => True) (fun _ _ => trivial)
  rw [q1] at k1
  have b7 := run_build44 7
  obtain ⟨X7, hX7⟩ : ∃ X, X = (u8s (lit64 7)).toArray := ⟨_, rfl⟩
  rw [← hX7] at b7
  have b8 := run_build44 8
  obtain ⟨X8, hX8⟩ : ∃ X, X = (u8s (lit64 8)).toArray := ⟨_, rfl⟩
  rw [← hX8] at b8
  have HX7 := Lib.hid hX7
  have HX8 := Lib.hid hX8
  have B7 := Lib.hid b7
  have B8 := Lib.hid b8
  have H2 := Lib.hid q2
  have H3 := Lib.hid q3
  have H4 := Lib.hid q4
  have H5 := Lib.hid q5
  have H6 := Lib.hid q6
  clear hX7 hX8 b7 b8 q1 q2 q3 q4 q5 q6
  go_enter Try.func5, Try.ntmps5
  go_wp2_with fail
  refine k1.mono ?_
  rintro e w1 ⟨⟨v1, rfl, hd1, _⟩, hb1⟩
  clear k1
  have hd1 : DiskV w1.heap.size w1 v1 aD1 := hd1
  obtain ⟨a1, n1, a2, n2, rfl, _, _⟩ := hd1.parts
  obtain ⟨T, hT⟩ : ∃ T, T = w1.heap.size := ⟨_, rfl⟩
  obtain ⟨u1, hu1⟩ : ∃ u, u = w1.alloc (.cells #[.slice a1 aD1.secs.length n1, .slice a2 aD1.loose.length n2, .int .i64 aD1.fuse, .bool aD1.down] 27) := ⟨_, rfl⟩
  have hbu : Below w1.heap.size w1 u1 := by rw [hu1]; exact Below.alloc (Below.refl _ _) (Nat.le_refl _) _
  have hsl : DSl (· ≠ T) (.agg #[.slice a1 aD1.secs.length n1, .slice a2 aD1.loose.length n2, .int .i64 aD1.fuse, .bool aD1.down]) := hd1.sl (fun b hb => by show b ≠ T; omega)
  have hd := hd1.below hbu
  have hrow : u1.heap[T]? = some (.cells #[.slice a1 aD1.secs.length n1, .slice a2 aD1.loose.length n2, .int .i64 aD1.fuse, .bool aD1.down] 27 (0, 0)) := by rw [hu1, hT]; exact heap_alloc_new w1 _
  have hlt : T < u1.heap.size := block_lt hrow
  have hB := hb1.trans (hbu.mono hb1.size)
  have hTl : w.heap.size ≤ T := by have := hb1.size; omega
  clear hbu hd1 hb1
  have k2 := put_any _ aD1 3 (lit64 7) u1 hd rfl (· ≠ T) hsl (fun b hb => by show b ≠ T; omega)
  rw [← HX7.out, H2.out] at k2
  have C0 := cell_of_row u1 _ 0 _ _ _ hrow
  have C1 := cell_of_row u1 _ 1 _ _ _ hrow
  have C2 := cell_of_row u1 _ 2 _ _ _ hrow
  have C3 := cell_of_row u1 _ 3 _ _ _ hrow
  go_wp2_with (refine wp_build_l 33 [(0, .const (.int .u8 7))] rfl rfl rfl (B7.out _) ?_; refine Halt.in ?_)
  refine Halt.out ?_
  rw [← hT, ← hu1]
  clear hu1 hT
  go_wp2_with fail
  refine k2.mono ?_
  rintro e w2 ⟨⟨v', rfl, hd', hsl'⟩, hb'⟩
  have hd' : DiskV w2.heap.size w2 v' aD2 := hd'
  obtain ⟨c01, m01, c02, m02, rfl, _, _⟩ := hd'.parts
  have hrow' := (hb'.block T hlt).trans hrow
  have hB' := hB.trans (hb'.mono hB.size)
  have hlt' : T < w2.heap.size := Nat.lt_of_lt_of_le hlt hb'.size
  clear k2 C0 C1 C2 C3 hd hsl hrow hB hlt hb'
  have C0 := cell_of_row w2 _ 0 _ _ _ hrow'
  have C1 := cell_of_row w2 _ 1 _ _ _ hrow'
  have C2 := cell_of_row w2 _ 2 _ _ _ hrow'
  have C3 := cell_of_row w2 _ 3 _ _ _ hrow'
  have Y := frozen_row hrow'
  obtain ⟨u2, hu⟩ : ∃ u, u = put4 w2 T (.slice c01 aD2.secs.length m01) (.slice c02 aD2.loose.length m02) (.int .i64 aD2.fuse) (.bool aD2.down) := ⟨_, rfl⟩
  have hd : DiskV u2.heap.size u2 (.agg #[.slice c01 aD2.secs.length m01, .slice c02 aD2.loose.length m02, .int .i64 aD2.fuse, .bool aD2.down]) aD2 := by rw [hu]; exact (put4_disk hd' hsl' _ _ _ _).tight
  have hrow : u2.heap[T]? = some (.cells #[.slice c01 aD2.secs.length m01, .slice c02 aD2.loose.length m02, .int .i64 aD2.fuse, .bool aD2.down] 27 (0, 0)) := by rw [hu]; exact put4_heap hrow' _ _ _ _
  have hB : Below w.heap.size w u2 := by rw [hu]; exact put4_below hB' hTl _ _ _ _
  have hlt : T < u2.heap.size := block_lt hrow
  have hsl := hsl'
  unfold put4 at hu
  clear hd' hsl' hB' hlt' hrow'
  have E0 := Lib.hid (cell_of_row u2 _ 0 _ _ _ hrow)
  have k2 := flush_any _ aD2 u2 hd (· ≠ T) hsl (fun b hb => by show b ≠ T; omega)
  rw [H3.out] at k2
  have C0 := cell_of_row u2 _ 0 _ _ _ hrow
  have C1 := cell_of_row u2 _ 1 _ _ _ hrow
  have C2 := cell_of_row u2 _ 2 _ _ _ hrow
  have C3 := cell_of_row u2 _ 3 _ _ _ hrow
  go_wp2_with fail
  rw [← hu]
  clear hu
  refine k2.mono ?_
  rintro e w3 ⟨⟨v', rfl, hd', hsl'⟩, hb'⟩
  have hd' : DiskV w3.heap.size w3 v' aD3 := hd'
  obtain ⟨c11, m11, c12, m12, rfl, _, _⟩ := hd'.parts
  have hrow' := (hb'.block T hlt).trans hrow
  have hB' := hB.trans (hb'.mono hB.size)
  have hlt' : T < w3.heap.size := Nat.lt_of_lt_of_le hlt hb'.size
  clear k2 C0 C1 C2 C3 hd hsl hrow hB hlt hb'
  have C0 := cell_of_row w3 _ 0 _ _ _ hrow'
  have C1 := cell_of_row w3 _ 1 _ _ _ hrow'
  have C2 := cell_of_row w3 _ 2 _ _ _ hrow'
  have C3 := cell_of_row w3 _ 3 _ _ _ hrow'
  have Y := frozen_row hrow'
  obtain ⟨u3, hu⟩ : ∃ u, u = put4 w3 T (.slice c11 aD3.secs.length m11) (.slice c12 aD3.loose.length m12) (.int .i64 aD3.fuse) (.bool aD3.down) := ⟨_, rfl⟩
  have hd : DiskV u3.heap.size u3 (.agg #[.slice c11 aD3.secs.length m11, .slice c12 aD3.loose.length m12, .int .i64 aD3.fuse, .bool aD3.down]) aD3 := by rw [hu]; exact (put4_disk hd' hsl' _ _ _ _).tight
  have hrow : u3.heap[T]? = some (.cells #[.slice c11 aD3.secs.length m11, .slice c12 aD3.loose.length m12, .int .i64 aD3.fuse, .bool aD3.down] 27 (0, 0)) := by rw [hu]; exact put4_heap hrow' _ _ _ _
  have hB : Below w.heap.size w u3 := by rw [hu]; exact put4_below hB' hTl _ _ _ _
  have hlt : T < u3.heap.size := block_lt hrow
  have hsl := hsl'
  unfold put4 at hu
  clear hd' hsl' hB' hlt' hrow'
  have E0 := Lib.hid (cell_of_row u3 _ 0 _ _ _ hrow)
  have k2 := put_any _ aD3 3 (lit64 8) u3 hd rfl (· ≠ T) hsl (fun b hb => by show b ≠ T; omega)
  rw [← HX8.out, H4.out] at k2
  have C0 := cell_of_row u3 _ 0 _ _ _ hrow
  have C1 := cell_of_row u3 _ 1 _ _ _ hrow
  have C2 := cell_of_row u3 _ 2 _ _ _ hrow
  have C3 := cell_of_row u3 _ 3 _ _ _ hrow
  go_wp2_with (refine wp_build_l 33 [(0, .const (.int .u8 8))] rfl rfl rfl (B8.out _) ?_; refine Halt.in ?_)
  refine Halt.out ?_
  rw [← hu]
  clear hu
  go_wp2_with fail
  refine k2.mono ?_
  rintro e w4 ⟨⟨v', rfl, hd', hsl'⟩, hb'⟩
  have hd' : DiskV w4.heap.size w4 v' aD4 := hd'
  obtain ⟨c21, m21, c22, m22, rfl, _, _⟩ := hd'.parts
  have hrow' := (hb'.block T hlt).trans hrow
  have hB' := hB.trans (hb'.mono hB.size)
  have hlt' : T < w4.heap.size := Nat.lt_of_lt_of_le hlt hb'.size
  clear k2 C0 C1 C2 C3 hd hsl hrow hB hlt hb'
  have C0 := cell_of_row w4 _ 0 _ _ _ hrow'
  have C1 := cell_of_row w4 _ 1 _ _ _ hrow'
  have C2 := cell_of_row w4 _ 2 _ _ _ hrow'
  have C3 := cell_of_row w4 _ 3 _ _ _ hrow'
  have Y := frozen_row hrow'
  obtain ⟨u4, hu⟩ : ∃ u, u = put4 w4 T (.slice c21 aD4.secs.length m21) (.slice c22 aD4.loose.length m22) (.int .i64 aD4.fuse) (.bool aD4.down) := ⟨_, rfl⟩
  have hd : DiskV u4.heap.size u4 (.agg #[.slice c21 aD4.secs.length m21, .slice c22 aD4.loose.length m22, .int .i64 aD4.fuse, .bool aD4.down]) aD4 := by rw [hu]; exact (put4_disk hd' hsl' _ _ _ _).tight
  have hrow : u4.heap[T]? = some (.cells #[.slice c21 aD4.secs.length m21, .slice c22 aD4.loose.length m22, .int .i64 aD4.fuse, .bool aD4.down] 27 (0, 0)) := by rw [hu]; exact put4_heap hrow' _ _ _ _
  have hB : Below w.heap.size w u4 := by rw [hu]; exact put4_below hB' hTl _ _ _ _
  have hlt : T < u4.heap.size := block_lt hrow
  have hsl := hsl'
  unfold put4 at hu
  clear hd' hsl' hB' hlt' hrow'
  have E0 := Lib.hid (cell_of_row u4 _ 0 _ _ _ hrow)
  have k2 := start_any _ aD4 0 u4 hd (by decide) (by decide) (· ≠ T) hsl (fun b hb => by show b ≠ T; omega)
  rw [H5.out] at k2
  have C0 := cell_of_row u4 _ 0 _ _ _ hrow
  have C1 := cell_of_row u4 _ 1 _ _ _ hrow
  have C2 := cell_of_row u4 _ 2 _ _ _ hrow
  have C3 := cell_of_row u4 _ 3 _ _ _ hrow
  go_wp2_with fail
  rw [← hu]
  clear hu
  refine k2.mono ?_
  rintro e w5 ⟨⟨v', rfl, hd', hsl'⟩, hb'⟩
  have hd' : DiskV w5.heap.size w5 v' aD5 := hd'
  obtain ⟨c31, m31, c32, m32, rfl, _, _⟩ := hd'.parts
  have hrow' := (hb'.block T hlt).trans hrow
  have hB' := hB.trans (hb'.mono hB.size)
  have hlt' : T < w5.heap.size := Nat.lt_of_lt_of_le hlt hb'.size
  clear k2 C0 C1 C2 C3 hd hsl hrow hB hlt hb'
  have C0 := cell_of_row w5 _ 0 _ _ _ hrow'
  have C1 := cell_of_row w5 _ 1 _ _ _ hrow'
  have C2 := cell_of_row w5 _ 2 _ _ _ hrow'
  have C3 := cell_of_row w5 _ 3 _ _ _ hrow'
  have Y := frozen_row hrow'
  obtain ⟨u5, hu⟩ : ∃ u, u = put4 w5 T (.slice c31 aD5.secs.length m31) (.slice c32 aD5.loose.length m32) (.int .i64 aD5.fuse) (.bool aD5.down) := ⟨_, rfl⟩
  have hd : DiskV u5.heap.size u5 (.agg #[.slice c31 aD5.secs.length m31, .slice c32 aD5.loose.length m32, .int .i64 aD5.fuse, .bool aD5.down]) aD5 := by rw [hu]; exact (put4_disk hd' hsl' _ _ _ _).tight
  have hrow : u5.heap[T]? = some (.cells #[.slice c31 aD5.secs.length m31, .slice c32 aD5.loose.length m32, .int .i64 aD5.fuse, .bool aD5.down] 27 (0, 0)) := by rw [hu]; exact put4_heap hrow' _ _ _ _
  have hB : Below w.heap.size w u5 := by rw [hu]; exact put4_below hB' hTl _ _ _ _
  have hlt : T < u5.heap.size := block_lt hrow
  have hsl := hsl'
  unfold put4 at hu
  clear hd' hsl' hB' hlt' hrow'
  have k2 := read_any _ aD5 3 u5 hd
  rw [H6.out] at k2
  simp only [← HX7.out] at k2
  go_wp2_with fail
  rw [← hu]
  clear hu
  refine k2.mono ?_
  rintro e w6 ⟨rfl, hb6⟩
  have hB := hB.trans (hb6.mono hB.size)
  clear k2 C0 C1 C2 C3 Y hd hsl hrow hlt hb6
  obtain ⟨z, hz, hzr⟩ := zero44
  obtain ⟨w7, hw7⟩ : ∃ w7, w7 = w6.alloc (.cells z.cells 33) := ⟨_, rfl⟩
  have hn7 : w7.heap[w6.heap.size]? = some (.cells z.cells 33 (0, 0)) := by rw [hw7]; exact heap_alloc_new w6 _
  have hb7 : Below w6.heap.size w6 w7 := by rw [hw7]; exact Below.alloc (Below.refl _ _) (Nat.le_refl _) _
  have hXs : X7.size = 64 := by rw [HX7.out]; rfl
  obtain ⟨w8, hst, hn8, hb8, _, _, _⟩ := store64 hn7 (by rw [hz]; rfl) X7 hXs (by rw [HX7.out]; exact oneCell_u8s _)
  have C0 := cell_of_row w8 _ 0 _ _ _ hn8
  have e0 : X7[0]? = some (.int .u8 7) := by rw [HX7.out]; rfl
  rw [e0] at C0
  have hB := hB.trans ((hb7.trans hb8).mono hB.size)
  have HZ := Lib.hid hzr
  have HW := Lib.hid hw7
  clear hz hzr hw7 hn7 hb7 hn8 hb8 e0 hXs
  go_wp2_with (refine wp_alloc_to (w' := w7) 33 rfl rfl (HZ.out _) ?_ ?_; (exact HW.out); refine Halt.in ?_)
  refine Halt.out ?_
  go_wp2_with (refine wp_store_at (.tmp 7) (.tmp 38) 33 rfl rfl rfl rfl hst ?_; refine Halt.in ?_)
  refine Halt.out ?_
  clear hst
  go_wp2_with fail
  go_ret
  exact ⟨rfl, hB⟩
end Go.Proofs.Ytccjjlefpdlegab
