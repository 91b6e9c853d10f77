/- Layer 1 (sector): Same, of any two disks. -/
import Derived.Test.YtccjjlefpdlegabEqualW
import Derived.Deep.CutRange
namespace Go.Proofs.Ytccjjlefpdlegab
open Go.RowKit
/-- The same disks? -/
def sameB (d d' : DiskP) : Bool := decide (d.secs = d'.secs) && (decide (d.loose.map pr = d'.loose.map pr) && (decide (d.fuse = d'.fuse) && (d.down == d'.down)))
set_option maxRecDepth 100000 in
set_option maxHeartbeats 2000000 in
theorem sameS_any {B B' : Nat} (v v' : Value) (d d' : DiskP) (w : World) (h : DiskV B w v d) (h' : DiskV B' w v' d') :
    Calls Try.prog 18 #[v, v'] w fun e w' => e = .returned (.bool (sameB d d')) ∧ Below w.heap.size w w' := by
  obtain ⟨a1, n1, a2, n2, rfl, hs, hl⟩ := h.tight.parts
  obtain ⟨c1, m1, c2, m2, rfl, hs', hl'⟩ := h'.tight.parts
  clear h h'
  obtain ⟨L, hL⟩ : ∃ L, L = d.secs.length := ⟨_, rfl⟩
  obtain ⟨M, hM⟩ : ∃ M, M = d.loose.length := ⟨_, rfl⟩
  obtain ⟨L', hL'⟩ : ∃ L, L = d'.secs.length := ⟨_, rfl⟩
  obtain ⟨M', hM'⟩ : ∃ M, M = d'.loose.length := ⟨_, rfl⟩
  rw [← hL] at hs ⊢
  rw [← hM] at hl ⊢
  rw [← hL'] at hs' ⊢
  rw [← hM'] at hl' ⊢
  obtain ⟨w2, hw2⟩ : ∃ w2, w2 = (w.alloc (.cells #[.slice a1 L n1, .slice a2 M n2, .int .i64 d.fuse, .bool d.down] 27)).alloc (.cells #[.slice c1 L' m1, .slice c2 M' m2, .int .i64 d'.fuse, .bool d'.down] 27) := ⟨_, rfl⟩
  have hB : Below w.heap.size w w2 := by rw [hw2]; exact Below.alloc (Below.alloc (Below.refl _ _) (Nat.le_refl _) _) (by simp) _
  have G0 : w2.heap[w.heap.size]? = some (.cells #[.slice a1 L n1, .slice a2 M n2, .int .i64 d.fuse, .bool d.down] 27 (0, 0)) := by rw [hw2]; exact heap_alloc2_old w _ _
  have G1 : w2.heap[w.heap.size + 1]? = some (.cells #[.slice c1 L' m1, .slice c2 M' m2, .int .i64 d'.fuse, .bool d'.down] 27 (0, 0)) := by rw [hw2]; exact heap_alloc2_new w _ _
  have C0 := cell_of_row w2 _ 0 _ _ _ G0
  have E0 := cell_of_row w2 _ 0 _ _ _ G1
  have k1 := equalS_any _ _ d.secs d'.secs w2 (hs.below hB) (hs'.below hB)
  obtain ⟨q1, hq1⟩ : ∃ q, q = decide (d.secs = d'.secs) := ⟨_, rfl⟩
  rw [← hq1] at k1
  have HQ1 := Lib.hid hq1
  have HW2 := Lib.hid hw2
  have HL := Lib.hid hl
  have HL' := Lib.hid hl'
  clear hL hM hL' hM' hq1 hw2 hs hs' hl hl'
  go_enter Try.func18, Try.ntmps18
  go_upto_region 1 with (fail)
  rw [← HW2.out]
  go_wp2_with fail
  refine k1.mono ?_
  rintro e w3 ⟨rfl, hb3⟩
  clear k1 C0 E0
  have G0 := (hb3.block _ (block_lt G0)).trans G0
  have G1 := (hb3.block _ (block_lt G1)).trans G1
  have hbb := hB.trans (hb3.mono hB.size)
  cases q1 with
  | false =>
    have hd : sameB d d' = false := by unfold sameB; rw [← HQ1.out]; rfl
    have HD := Lib.hid hd
    clear hd
    go_wp2_with fail
    go_ret
    exact ⟨by rw [HD.out]; rfl, hbb⟩
  | true =>
    have C1 := cell_of_row w3 _ 1 _ _ _ G0
    have E1 := cell_of_row w3 _ 1 _ _ _ G1
    have k2 := equalW_any _ _ d.loose d'.loose w3 (HL.out.below hbb) (HL'.out.below hbb)
    obtain ⟨q2, hq2⟩ : ∃ q, q = decide (d.loose.map pr = d'.loose.map pr) := ⟨_, rfl⟩
    rw [← hq2] at k2
    have HQ2 := Lib.hid hq2
    clear hq2
    go_wp2_with fail
    refine k2.mono ?_
    rintro e w4 ⟨rfl, hb4⟩
    clear k2 C1 E1
    have G0 := (hb4.block _ (block_lt G0)).trans G0
    have G1 := (hb4.block _ (block_lt G1)).trans G1
    have hbb := hbb.trans (hb4.mono hbb.size)
    have C2 := cell_of_row w4 _ 2 _ _ _ G0
    have E2 := cell_of_row w4 _ 2 _ _ _ G1
    have C3 := cell_of_row w4 _ 3 _ _ _ G0
    have E3 := cell_of_row w4 _ 3 _ _ _ G1
    cases q2 with
    | false =>
      have hd : sameB d d' = false := by unfold sameB; rw [← HQ1.out, ← HQ2.out]; rfl
      have HD := Lib.hid hd
      clear hd
      go_wp2_with fail
      go_ret
      exact ⟨by rw [HD.out]; rfl, hbb⟩
    | true =>
      obtain ⟨f, hf⟩ : ∃ f, f = d.fuse := ⟨_, rfl⟩
      obtain ⟨f', hf'⟩ : ∃ f, f = d'.fuse := ⟨_, rfl⟩
      obtain ⟨b, hb⟩ : ∃ f, f = d.down := ⟨_, rfl⟩
      obtain ⟨b', hb'⟩ : ∃ f, f = d'.down := ⟨_, rfl⟩
      have hd : sameB d d' = (decide (f = f') && (b == b')) := by unfold sameB; rw [← HQ1.out, ← HQ2.out, hf, hf', hb, hb']; rfl
      have HD := Lib.hid hd
      rw [← hf] at C2
      rw [← hf'] at E2
      rw [← hb] at C3
      rw [← hb'] at E3
      clear hd hf hf' hb hb' G0 G1
      by_cases hff : f = f'
      · have q0 : (f == f') = true := by simpa using hff
        cases b <;> cases b' <;>
          (go_wp2_with fail
           go_ret
           exact ⟨by rw [HD.out]; simp [hff], hbb⟩)
      · have q0 : (f == f') = false := by simpa using hff
        go_wp2_with fail
        go_ret
        exact ⟨by rw [HD.out]; simp [hff], hbb⟩
end Go.Proofs.Ytccjjlefpdlegab
