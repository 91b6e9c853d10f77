/- Layer 1 (sector): which disks may be; copies of slices of disks. -/
import Derived.Test.YtccjjlefpdlegabSector
namespace Go.Proofs.Ytccjjlefpdlegab
open Go.RowKit
set_option maxRecDepth 100000 in
theorem contains_any {B g : Nat} (v : Value) (ls : List WriteP) (d : DiskP) (w : World) (h : DiskAt B g w d) (hB : B ≤ g) (hl : Loose B w v ls) :
    Calls Try.prog 26 #[v, .func (.func 27) #[] #[.pointer (some ⟨g, 0, none⟩)]] w fun e w' => e = .returned (.bool (badAt d ls)) ∧ Below w.heap.size w w' := by
  have k1 := index_any v ls d w h hB hl
  obtain ⟨q, hq⟩ : ∃ q, q = badAt d ls := ⟨_, rfl⟩
  rw [← hq] at k1 ⊢
  clear hq hl h
  go_enter Try.func26, Try.ntmps26
  go_wp2_with fail
  refine k1.mono ?_
  rintro e w1 ⟨⟨z, rfl, hz⟩, hb1⟩
  go_wp2_with fail
  go_ret
  exact ⟨by rw [← hz]; rfl, hb1⟩
def rightB (d : DiskP) : Bool := decide (d.secs.length ≤ 4096) && decide (d.loose.length ≤ 100000) && fusedB d.fuse && !badAt d d.loose
set_option maxRecDepth 100000 in
theorem right_any {B : Nat} (v : Value) (d : DiskP) (w : World) (h : DiskV B w v d) :
    Calls Try.prog 16 #[v] w fun e w' => e = .returned (.bool (rightB d)) ∧ Below w.heap.size w w' := by
  have h := h.tight
  obtain ⟨sv, lv, rfl, hs, hl⟩ := h
  have hb : Below w.heap.size w (w.alloc (.cells #[sv, lv, .int .i64 d.fuse, .bool d.down] 27)) := Below.alloc (Below.refl _ _) (Nat.le_refl _) _
  have hg : (w.alloc (.cells #[sv, lv, .int .i64 d.fuse, .bool d.down] 27)).heap[w.heap.size]? = some (.cells #[sv, lv, .int .i64 d.fuse, .bool d.down] 27 (0, 0)) := heap_alloc_new w _
  have hl' := hl.below hb
  have hda : DiskAt w.heap.size w.heap.size (w.alloc (.cells #[sv, lv, .int .i64 d.fuse, .bool d.down] 27)) d := ⟨sv, lv, hg, hs.below hb, hl'⟩
  obtain ⟨_, _, a, cap, hsv, hnc, hcap, _⟩ := hs
  obtain ⟨_, _, a2, cap2, hlv, hnc2, hcap2, _⟩ := hl
  unfold maxLen at hcap hcap2
  have k1 := fun w => fused_any d.fuse w
  have k2 := fun (w' : World) (hw : Below (w.heap.size + 1) (w.alloc (.cells #[sv, lv, .int .i64 d.fuse, .bool d.down] 27)) w') => contains_any lv d.loose d w' (hda.below hw (Nat.lt_succ_self _) (Nat.le_succ _)) (Nat.le_refl _) (hl'.below (hw.mono (Nat.le_succ _)))
  subst hsv hlv
  by_cases h1 : d.secs.length ≤ 4096
  · by_cases h2 : d.loose.length ≤ 100000
    · have e : rightB d = (fusedB d.fuse && !badAt d d.loose) := by simp [rightB, h1, h2]
      rw [e]
      obtain ⟨q, hq⟩ : ∃ q, q = fusedB d.fuse := ⟨_, rfl⟩
      obtain ⟨r, hr⟩ : ∃ r, r = badAt d d.loose := ⟨_, rfl⟩
      simp only [← hq] at k1
      simp only [← hr] at k2
      rw [← hq, ← hr]
      clear hq hr e hda hl'
      cases q with
      | true =>
        go_enter Try.func16, Try.ntmps16
        go_wp2_with fail
        refine (k1 _).mono ?_
        rintro e w1 ⟨rfl, rfl⟩
        go_wp2_with fail
        refine (k2 _ (Below.refl _ _)).mono ?_
        rintro e w1 ⟨rfl, hb1⟩
        go_wp2_with fail
        go_ret
        exact ⟨rfl, hb.trans (hb1.mono hb.size)⟩
      | false =>
        go_enter Try.func16, Try.ntmps16
        go_wp2_with fail
        refine (k1 _).mono ?_
        rintro e w1 ⟨rfl, rfl⟩
        go_wp2_with fail
        go_ret
        exact ⟨rfl, hb⟩
    · have e : rightB d = false := by simp [rightB, h2]
      have t0 : decide (((d.loose.length : Nat) : Int) ≤ 100000) = false := by simp; omega
      rw [e]
      clear e k1 k2 hda hl'
      go_enter Try.func16, Try.ntmps16
      go_wp2_with fail
      go_ret
      exact ⟨rfl, hb⟩
  · have e : rightB d = false := by simp [rightB, h1]
    have t0 : decide (((d.secs.length : Nat) : Int) ≤ 4096) = false := by simp; omega
    rw [e]
    clear e k1 k2 hda hl'
    go_enter Try.func16, Try.ntmps16
    go_wp2_with fail
    go_ret
    exact ⟨rfl, hb⟩
end Go.Proofs.Ytccjjlefpdlegab
