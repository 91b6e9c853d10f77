/- Layer 1 (sector), the document's answer: deed. -/
import Derived.Test.YtccjjlefpdlegaaCopy
namespace Go.Proofs.Ytccjjlefpdlegaa
open Go.RowKit
theorem set_row4 {w : World} {g : Nat} {a b c d : Value} {t : TypeId} (h : w.heap[g]? = some (.cells #[a, b, c, d] t (0, 0))) (v : Value) : (w.setCell ⟨g, 2, none⟩ v).heap[g]? = some (.cells #[a, b, v, d] t (0, 0)) ∧ (w.setCell ⟨g, 3, none⟩ v).heap[g]? = some (.cells #[a, b, c, v] t (0, 0)) ∧ (w.setCell ⟨g, 1, none⟩ v).heap[g]? = some (.cells #[a, v, c, d] t (0, 0)) ∧ (w.setCell ⟨g, 0, none⟩ v).heap[g]? = some (.cells #[v, b, c, d] t (0, 0)) := by
  refine ⟨?_, ?_, ?_, ?_⟩ <;> simp [World.setCell, Array.getElem?_modify, h]
/-- A disk of one's own, in two rows: the sectors below C, the writes from C on. -/
def DiskO (B C : Nat) (w : World) (sv lv : Value) (d : DiskP) : Prop := SecsO B w sv d.secs ∧ RowIn B C w sv 64 d.secs.length (d.secs.map u8s).flatten ∧ LooseO C w lv d.loose
theorem DiskO.setOther {B C : Nat} {w : World} {sv lv : Value} {d : DiskP} (h : DiskO B C w sv lv d) (p : Addr) (u : Value) (hp : p.block < B) (hC : B ≤ C) : DiskO B C (w.setCell p u) sv lv d :=
  ⟨h.1.setOther p u hp, h.2.1.setOther p u hp, h.2.2.setOther p u (Nat.lt_of_lt_of_le hp hC)⟩
theorem DiskO.put4 {B C g : Nat} {w : World} {sv lv : Value} {d : DiskP} (h : DiskO B C w sv lv d) (hp : g < B) (hC : B ≤ C) (a b c e : Value) : DiskO B C (put4 w g a b c e) sv lv d :=
  (((h.setOther ⟨g, 0, none⟩ a hp hC).setOther ⟨g, 1, none⟩ b hp hC).setOther ⟨g, 2, none⟩ c hp hC).setOther ⟨g, 3, none⟩ e hp hC
theorem DiskO.lower {B B' C : Nat} {w : World} {sv lv : Value} {d : DiskP} (h : DiskO B C w sv lv d) (hB : B' ≤ B) : DiskO B' C w sv lv d :=
  ⟨h.1.lower hB, by
    obtain ⟨hl, a, cap, rfl, h1, h2, h3⟩ := h.2.1
    refine ⟨hl, a, cap, rfl, h1, h2, fun hp => ?_⟩
    obtain ⟨b, off, hb, hBb, hc⟩ := h3 hp
    exact ⟨b, off, hb, Nat.le_trans hB hBb, hc⟩, h.2.2⟩
theorem DiskO.of {B C : Nat} {w : World} {sv lv : Value} {d : DiskP} (h1 : SecsO B w sv d.secs) (r : Row C w sv 64 d.secs.length (d.secs.map u8s).flatten) (h2 : LooseO C w lv d.loose) : DiskO B C w sv lv d := ⟨h1, RowIn.of h1.2 r, h2⟩
set_option maxRecDepth 100000 in
set_option maxHeartbeats 1000000 in
theorem deed_any {B : Nat} (v : Value) (d : DiskP) (w : World) (h : DiskV B w v d) (hlen : d.secs.length ≤ 2 ^ 40 ∧ d.loose.length ≤ 2 ^ 40) (hf : -1 ≤ d.fuse ∧ d.fuse ≤ 2 ^ 40) :
    Calls Try.prog 53 #[v] w fun e w' => (∃ sv lv, e = .returned (.tuple #[.agg #[sv, lv, .int .i64 (burnF d), .bool (downP d)], .bool (!downP d)]) ∧ ∃ C, w.heap.size ≤ C ∧ C ≤ w'.heap.size ∧ DiskO w.heap.size C w' sv lv d) ∧ Below w.heap.size w w' := by
  obtain ⟨a1, n1, a2, n2, rfl, hs, hl⟩ := h.tight.parts
  clear h
  have F := Fr2.new (w := w) hs hl
  obtain ⟨w2, hw2⟩ : ∃ w2, w2 = (w.alloc (.cells #[.slice a1 d.secs.length n1, .slice a2 d.loose.length n2, .int .i64 d.fuse, .bool d.down] 43)).alloc (.cells #[.slice none 0 0, .slice none 0 0, .int .i64 0, .bool false] 43) := ⟨_, rfl⟩
  have hB : Below w.heap.size w w2 := by rw [hw2]; exact Below.alloc (Below.alloc (Below.refl _ _) (Nat.le_refl _) _) (by simp) _
  have hle : w.heap.size + 2 ≤ w2.heap.size := by rw [hw2]; simp
  rw [← hw2] at F
  clear hs hl
  have k1 := copy_any _ d w2 F.diskV hlen
  have C0 := cell_of_row w2 _ 0 _ _ _ F.g0
  have C1 := cell_of_row w2 _ 1 _ _ _ F.g0
  have C2 := cell_of_row w2 _ 2 _ _ _ F.g0
  have C3 := cell_of_row w2 _ 3 _ _ _ F.g0
  have HF := Lib.hid hf
  clear hlen hf
  go_enter Try.func53, Try.ntmps53
  go_wp2_with fail
  rw [← hw2]
  clear hw2
  refine k1.mono ?_
  rintro e w3 ⟨⟨sv, lv, rfl, C, hC1, hC2, ho, r, hlo⟩, hb3⟩
  obtain ⟨b1, m1, rfl⟩ := ho.form
  obtain ⟨b2, m2, rfl⟩ := hlo.form
  have O := DiskO.of ho r hlo
  have F := F.below hb3 (by omega) (by omega)
  have hB := hB.trans (hb3.mono hB.size)
  clear k1 C0 C1 C2 C3 hb3 ho r hlo
  have C0 := cell_of_row w3 _ 0 _ _ _ F.g0
  have C1 := cell_of_row w3 _ 1 _ _ _ F.g0
  have C2 := cell_of_row w3 _ 2 _ _ _ F.g0
  have C3 := cell_of_row w3 _ 3 _ _ _ F.g0
  have Y := frozen_row F.g0
  have hg0 : w.heap.size < w2.heap.size := by omega
  have hg1 : w.heap.size + 1 < w2.heap.size := by omega
  obtain ⟨w4, hw4⟩ : ∃ w4, w4 = put4 w3 w.heap.size (.slice b1 d.secs.length m1) (.slice b2 d.loose.length m2) (.int .i64 d.fuse) (.bool d.down) := ⟨_, rfl⟩
  have G0 : w4.heap[w.heap.size]? = some (.cells #[.slice b1 d.secs.length m1, .slice b2 d.loose.length m2, .int .i64 d.fuse, .bool d.down] 43 (0, 0)) := by rw [hw4]; exact put4_heap F.g0 _ _ _ _
  have G1 : w4.heap[w.heap.size + 1]? = some (.cells #[.slice none 0 0, .slice none 0 0, .int .i64 0, .bool false] 43 (0, 0)) := by rw [hw4]; exact put4_far F.g2 (by omega) _ _ _ _
  have O4 : DiskO w2.heap.size C w4 (.slice b1 d.secs.length m1) (.slice b2 d.loose.length m2) d := by rw [hw4]; exact O.put4 hg0 hC1 _ _ _ _
  have hB4 : Below w.heap.size w w4 := by rw [hw4]; exact put4_below hB (Nat.le_refl _) _ _ _ _
  have hC4 : C ≤ w4.heap.size := by rw [hw4]; simpa [put4] using hC2
  unfold put4 at hw4
  have HW4 := Lib.hid hw4
  clear hw4 hB O hC2 F
  have hld := run_loadVar_row (P := Try.prog) w4 w.heap.size 43 43 _ (0, 0) _ G0 Try.underlying43 rfl size_disk
  have ldn : (loadVar 4 ⟨w.heap.size, 3, none⟩).run Try.prog w4 = .ok (.bool d.down) w4 := by simp [go_sem, cell_of_row w4 _ 3 _ _ _ G0]
  go_wp2_with (refine wp_load_to (w' := w4) (.tmp 6) 4 rfl rfl ?_ rfl ldn ?_; (exact HW4.out); refine Halt.in ?_)
  refine Halt.out ?_
  clear hld ldn C0 C1 C2 C3 Y
  have C0 := cell_of_row w4 _ 0 _ _ _ G0
  have C1 := cell_of_row w4 _ 1 _ _ _ G0
  have C2 := cell_of_row w4 _ 2 _ _ _ G0
  have C3 := cell_of_row w4 _ 3 _ _ _ G0
  have D0 := cell_of_row w4 _ 0 _ _ _ G1
  have D1 := cell_of_row w4 _ 1 _ _ _ G1
  have D2 := cell_of_row w4 _ 2 _ _ _ G1
  have D3 := cell_of_row w4 _ 3 _ _ _ G1
  have Y := frozen_row G0
  have Z := frozen_row G1
  have H5 : w.heap.size ≠ w.heap.size + 1 := by omega
  have hl2 : w.heap.size ≤ w2.heap.size := by omega
  obtain ⟨D, hD⟩ : ∃ D, D = d.down := ⟨_, rfl⟩
  rw [← hD] at C3 ⊢
  have HD := Lib.hid hD
  clear hD
  cases D with
  | true =>
    have U := Lib.hid (show burnF d = d.fuse ∧ downP d = true from ⟨by simp [burnF, downP, ← HD.out], by simp [downP, ← HD.out]⟩)
    go_wp2_with fail
    refine bodyPost_ret (results_ct rfl _ _ (w.heap.size + 1) _ _ _ _ rfl (put4_heap ((setFar H5 3 _).trans G1) _ _ _ _) Try.underlying43 rfl size_disk) rfl ?_
    exact ⟨⟨_, _, by rw [U.out.1, U.out.2] <;> rfl, C, Nat.le_trans hl2 hC1, by simpa [put4] using hC4, ((O4.setOther ⟨w.heap.size, 3, none⟩ _ hg0 hC1).put4 hg1 hC1 _ _ _ _).lower hl2⟩, put4_below (hB4.setCell (p := ⟨w.heap.size, 3, none⟩) (Nat.le_refl _) _) (by omega) _ _ _ _⟩
  | false =>
  by_cases hz : d.fuse = 0
  · have t0 : ((d.fuse : Int) == 0) = true := by rw [beq_iff_eq]; exact hz
    have U := Lib.hid (show burnF d = d.fuse ∧ downP d = true from ⟨by simp [burnF, downP, hz], by simp [downP, hz]⟩)
    clear hz
    go_wp2_with fail
    refine bodyPost_ret (results_ct rfl _ _ (w.heap.size + 1) _ _ _ _ rfl (put4_heap ((setFar H5 3 _).trans G1) _ _ _ _) Try.underlying43 rfl size_disk) rfl ?_
    exact ⟨⟨_, _, by rw [U.out.1, U.out.2] <;> rfl, C, Nat.le_trans hl2 hC1, by simpa [put4] using hC4, ((O4.setOther ⟨w.heap.size, 3, none⟩ _ hg0 hC1).put4 hg1 hC1 _ _ _ _).lower hl2⟩, put4_below (hB4.setCell (p := ⟨w.heap.size, 3, none⟩) (Nat.le_refl _) _) (by omega) _ _ _ _⟩
  · have t0 : ((d.fuse : Int) == 0) = false := by rw [beq_eq_false_iff_ne]; exact hz
    have hf := HF.out
    by_cases hp : 0 < d.fuse
    · have U := Lib.hid (show burnF d = d.fuse - 1 ∧ downP d = false from ⟨by simp [burnF, downP, ← HD.out, hz, hp], by simp [downP, ← HD.out, hz]⟩)
      clear hz
      go_wp2_with fail
      refine bodyPost_ret (results_ct rfl _ _ (w.heap.size + 1) _ _ _ _ rfl (put4_heap ((setFar H5 2 _).trans G1) _ _ _ _) Try.underlying43 rfl size_disk) rfl ?_
      exact ⟨⟨_, _, by rw [U.out.1, U.out.2] <;> rfl, C, Nat.le_trans hl2 hC1, by simpa [put4] using hC4, ((O4.setOther ⟨w.heap.size, 2, none⟩ _ hg0 hC1).put4 hg1 hC1 _ _ _ _).lower hl2⟩, put4_below (hB4.setCell (p := ⟨w.heap.size, 2, none⟩) (Nat.le_refl _) _) (by omega) _ _ _ _⟩
    · have U := Lib.hid (show burnF d = d.fuse ∧ downP d = false from ⟨by simp [burnF, downP, ← HD.out, hz, hp], by simp [downP, ← HD.out, hz]⟩)
      clear hz
      go_wp2_with fail
      refine bodyPost_ret (results_ct rfl _ _ (w.heap.size + 1) _ _ _ _ rfl (put4_heap (G1) _ _ _ _) Try.underlying43 rfl size_disk) rfl ?_
      exact ⟨⟨_, _, by rw [U.out.1, U.out.2] <;> rfl, C, Nat.le_trans hl2 hC1, by simpa [put4] using hC4, (O4.put4 hg1 hC1 _ _ _ _).lower hl2⟩, put4_below (hB4) (by omega) _ _ _ _⟩
end Go.Proofs.Ytccjjlefpdlegaa
