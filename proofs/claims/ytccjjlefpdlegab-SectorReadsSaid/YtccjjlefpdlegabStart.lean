/- Layer 1 (sector): Start. -/
import Derived.Test.YtccjjlefpdlegabFlush
namespace Go.Proofs.Ytccjjlefpdlegab
open Go.RowKit
set_option maxRecDepth 100000 in
set_option maxHeartbeats 1000000 in
theorem start_any {B : Nat} (v : Value) (d : DiskP) (mask : Int) (w : World) (h : DiskV B w v d) (hm0 : 0 ≤ mask) (hm : mask < 2 ^ 64) (S : Nat → Prop) (hS : DSl S v) (hF : ∀ b, w.heap.size ≤ b → S b) :
    Calls Try.prog 10 #[v, .int .u64 mask] w fun e w' => (∃ v', e = .returned (.tuple #[v', .int .i64 (startP d mask).2]) ∧ DiskV w'.heap.size w' v' (startP d mask).1 ∧ DSl S v') ∧ Below w.heap.size w w' := by
  obtain ⟨a1, n1, a2, n2, rfl, hs, hl⟩ := h.tight.parts
  have HSl := Lib.hid (hS _ _ _ _ rfl)
  have HFr := Lib.hid hF
  have HM := Lib.hid (And.intro hm0 hm)
  clear h hS hF hm0 hm
  obtain ⟨w2, hw2⟩ : ∃ w2, w2 = ((w.alloc (.cells #[.slice a1 d.secs.length n1, .slice a2 d.loose.length n2, .int .i64 d.fuse, .bool d.down] 27)).alloc (.cells #[.int .u64 mask] 36)).alloc (.cells #[.slice none 0 0, .slice none 0 0, .int .i64 0, .bool false] 27) := ⟨_, rfl⟩
  have hb2 : Below w.heap.size w w2 := by rw [hw2]; exact Below.alloc (Below.alloc (Below.alloc (Below.refl _ _) (Nat.le_refl _) _) (by simp) _) (by simp; omega) _
  have hle : w.heap.size + 3 ≤ w2.heap.size := by rw [hw2]; simp
  have G0 : w2.heap[w.heap.size]? = some (.cells #[.slice a1 d.secs.length n1, .slice a2 d.loose.length n2, .int .i64 d.fuse, .bool d.down] 27 (0, 0)) := by
    rw [hw2, heap_alloc_old _ _ (by simp; omega)]; exact heap_alloc2_old w _ _
  have G1 : w2.heap[w.heap.size + 1]? = some (.cells #[.int .u64 mask] 36 (0, 0)) := by
    rw [hw2, heap_alloc_old _ _ (by simp)]; exact heap_alloc2_new w _ _
  have G2 : w2.heap[w.heap.size + 1 + 1]? = some (.cells #[.slice none 0 0, .slice none 0 0, .int .i64 0, .bool false] 27 (0, 0)) := by
    rw [hw2]
    have h := heap_alloc_new ((w.alloc (.cells #[.slice a1 d.secs.length n1, .slice a2 d.loose.length n2, .int .i64 d.fuse, .bool d.down] 27)).alloc (.cells #[.int .u64 mask] 36)) (.cells #[.slice none 0 0, .slice none 0 0, .int .i64 0, .bool false] 27)
    simpa using h
  have hs := hs.below hb2
  have hl := hl.below hb2
  have k1 := right_any _ d w2 ⟨_, _, rfl, hs, hl⟩
  have H3 : w.heap.size ≤ w.heap.size + 1 + 1 := by omega
  have C0 := cell_of_row w2 _ 0 _ _ _ G0
  have C1 := cell_of_row w2 _ 1 _ _ _ G0
  have C2 := cell_of_row w2 _ 2 _ _ _ G0
  have C3 := cell_of_row w2 _ 3 _ _ _ G0
  obtain ⟨R, hR⟩ : ∃ R, R = rightB d := ⟨_, rfl⟩
  rw [← hR] at k1
  have HR := Lib.hid hR
  clear hR
  go_enter Try.func10, Try.ntmps10
  go_wp2_with fail
  rw [← hw2]
  clear hw2
  go_wp2_with fail
  refine k1.mono ?_
  rintro e w3 ⟨rfl, hb3⟩
  have G0 := (hb3.block _ (by omega)).trans G0
  have G1 := (hb3.block _ (by omega)).trans G1
  have G2 := (hb3.block _ (by omega)).trans G2
  have hs := hs.below (hb3.mono hb2.size)
  have hl := hl.below (hb3.mono hb2.size)
  have hbb := hb2.trans (hb3.mono hb2.size)
  have hle := Nat.le_trans hle hb3.size
  clear k1 C0 C1 C2 C3 hb2 hb3
  have C0 := cell_of_row w3 _ 0 _ _ _ G0
  have C1 := cell_of_row w3 _ 1 _ _ _ G0
  have C2 := cell_of_row w3 _ 2 _ _ _ G0
  have C3 := cell_of_row w3 _ 3 _ _ _ G0
  have D0 := cell_of_row w3 _ 0 _ _ _ G2
  have D1 := cell_of_row w3 _ 1 _ _ _ G2
  have D2 := cell_of_row w3 _ 2 _ _ _ G2
  have D3 := cell_of_row w3 _ 3 _ _ _ G2
  have Y := frozen_row G0
  have Z := frozen_row G2
  cases R with
  | false =>
    have hP : startP d mask = (d, 1) := by simp [startP, ← HR.out]
    have HP := Lib.hid hP
    clear hP
    go_wp2_with fail
    refine bodyPost_ret (results_ct rfl _ _ (w.heap.size + 1 + 1) _ _ _ _ rfl (put4_heap G2 _ _ _ _) Try.underlying27 rfl size_disk) rfl ?_
    rw [HP.out]
    exact ⟨⟨_, rfl, DiskV.tight ⟨_, _, rfl, put4_secsV hs H3 _ _ _ _, put4_looseV hl H3 _ _ _ _⟩, DSl.mk HSl.out.1 HSl.out.2⟩, put4_below hbb H3 _ _ _ _⟩
  | true =>
    have hR := HR.out.symm
    have hP : startP d mask = (⟨settleN d.secs d.loose (stay mask) d.loose.length, [], -1, false⟩, 0) := by simp [startP, hR]
    have HP := Lib.hid hP
    have hlen : d.loose.length ≤ 2 ^ 40 := by simp only [rightB, Bool.and_eq_true, decide_eq_true_eq] at hR; omega
    have E1 := cell_of_row w3 _ 0 _ _ _ G1
    have k2 := settle_any _ d (stay mask) 24 #[.pointer (some ⟨w.heap.size + 1, 0, none⟩)] w3 ⟨_, _, rfl, hs, hl⟩ hR cf_start (fun k w' hk hb => start1_any (w.heap.size + 1) mask k w' (by omega) ((hb.cell (p := ⟨w.heap.size + 1, 0, none⟩) (by show w.heap.size + 1 < _; omega)).trans E1) HM.out.1 HM.out.2)
    clear hP hR hlen E1
    go_wp2_with fail
    refine k2.mono ?_
    rintro e w7 ⟨⟨sv, rfl, ho7⟩, hb7⟩
    obtain ⟨b3, m3, hsv⟩ := ho7.form
    rw [length_settleN] at hsv
    subst hsv
    have G0 := (hb7.block _ (by omega)).trans G0
    have G2 := (hb7.block _ (by omega)).trans G2
    have hg0 : w.heap.size < w3.heap.size := by omega
    have hg2 : w.heap.size + 1 + 1 < w3.heap.size := by omega
    have hbb := hbb.trans (hb7.mono hbb.size)
    clear k2 C0 C1 C2 C3 D0 D1 D2 D3 Y Z hb7 G1 hs hl
    have C0 := cell_of_row w7 _ 0 _ _ _ G0
    have C1 := cell_of_row w7 _ 1 _ _ _ G0
    have C2 := cell_of_row w7 _ 2 _ _ _ G0
    have C3 := cell_of_row w7 _ 3 _ _ _ G0
    have D0 := cell_of_row w7 _ 0 _ _ _ G2
    have D1 := cell_of_row w7 _ 1 _ _ _ G2
    have D2 := cell_of_row w7 _ 2 _ _ _ G2
    have D3 := cell_of_row w7 _ 3 _ _ _ G2
    have Y := frozen_row G0
    have Z := frozen_row G2
    obtain ⟨w8, hw8⟩ : ∃ w8, w8 = ((put4 w7 w.heap.size (.slice b3 d.secs.length m3) (.slice none 0 0) (.int .i64 d.fuse) (.bool d.down)).setCell ⟨w.heap.size, 3, none⟩ (.bool false)).setCell ⟨w.heap.size, 2, none⟩ (.int .i64 (-1)) := ⟨_, rfl⟩
    have hb78 : Below w.heap.size w7 w8 := by
      rw [hw8]
      exact ((put4_below (Below.refl _ _) (Nat.le_refl _) _ _ _ _).setCell (p := ⟨w.heap.size, 3, none⟩) (Nat.le_refl _) _).setCell (p := ⟨w.heap.size, 2, none⟩) (Nat.le_refl _) _
    have ho8 : SecsO w3.heap.size w8 (.slice b3 d.secs.length m3) (settleN d.secs d.loose (stay mask) d.loose.length) := by
      rw [hw8]
      have hlen := length_settleN d.secs d.loose (stay mask) d.loose.length
      exact ((put4_secs ho7 hg0 _ _ _ _).setOther ⟨w.heap.size, 3, none⟩ _ hg0).setOther ⟨w.heap.size, 2, none⟩ _ hg0
    have H0 : w8.heap[w.heap.size]? = some (.cells #[.slice b3 d.secs.length m3, .slice none 0 0, .int .i64 (-1), .bool false] 27 (0, 0)) := by
      rw [hw8]
      have h := put4_heap G0 (.slice b3 d.secs.length m3) (.slice none 0 0) (.int .i64 d.fuse) (.bool d.down)
      rw [World.setCell, World.setCell]
      simp only [Array.getElem?_modify, h]
      simp
    have H2 : w8.heap[w.heap.size + 1 + 1]? = some (.cells #[.slice none 0 0, .slice none 0 0, .int .i64 0, .bool false] 27 (0, 0)) := by
      rw [hw8, setFar (by omega), setFar (by omega)]
      exact put4_far G2 (by omega) _ _ _ _
    have hld := run_loadVar_row (P := Try.prog) w8 w.heap.size 27 27 _ (0, 0) _ H0 Try.underlying27 rfl size_disk
    have hbb := hbb.trans hb78
    unfold put4 at hw8
    clear ho7 hb78 G0 G2 D0 D1 D2 D3 Z
    go_wp2_with (refine wp_load_to (w' := w8) (.tmp 2) 27 rfl rfl ?_ rfl hld ?_; (exact hw8); clear hld hw8; refine Halt.in ?_)
    refine Halt.out ?_
    clear C0 C1 C2 C3 Y
    have D0 := cell_of_row w8 _ 0 _ _ _ H2
    have D1 := cell_of_row w8 _ 1 _ _ _ H2
    have D2 := cell_of_row w8 _ 2 _ _ _ H2
    have D3 := cell_of_row w8 _ 3 _ _ _ H2
    have Z := frozen_row H2
    go_wp2_with fail
    refine bodyPost_ret (results_ct rfl _ _ (w.heap.size + 1 + 1) _ _ _ _ rfl (put4_heap H2 _ _ _ _) Try.underlying27 rfl size_disk) rfl ?_
    rw [HP.out]
    exact ⟨⟨_, rfl, ⟨_, _, rfl, (put4_secs ho8 hg2 _ _ _ _).secs, Loose.nil _ _⟩, DSl.mk (ho8.2.sl fun b hb => HFr.out b (by omega)) (Sl.none _ _ _)⟩, put4_below hbb H3 _ _ _ _⟩
end Go.Proofs.Ytccjjlefpdlegab
