/- Layer 1 (sector), the document's answer: New. -/
import Derived.Test.YtccjjlefpdlegabNew0
import Derived.Test.YtccjjlefpdlegabSettle2
namespace Go.Proofs.Ytccjjlefpdlegab
open Go.RowKit
set_option maxRecDepth 100000 in
set_option maxHeartbeats 1000000 in
theorem refnew_any (n : Int) (w : World) :
    Calls Try.prog 14 #[.int .i64 n] w fun e w' => (∃ v', e = .returned (.tuple #[v', .int .i64 (newP n).2]) ∧ DiskV w'.heap.size w' v' (newP n).1) ∧ Below w.heap.size w w' := by
  have hg := heap_alloc_new w (.cells #[.slice none 0 0, .slice none 0 0, .int .i64 0, .bool false] 27)
  have hb := Below.alloc (Below.refl w.heap.size w) (Nat.le_refl _) (.cells #[.slice none 0 0, .slice none 0 0, .int .i64 0, .bool false] 27)
  have hsz : (w.alloc (.cells #[.slice none 0 0, .slice none 0 0, .int .i64 0, .bool false] 27)).heap.size = w.heap.size + 1 := by simp
  obtain ⟨w2, hw2⟩ : ∃ w2, w2 = w.alloc (.cells #[.slice none 0 0, .slice none 0 0, .int .i64 0, .bool false] 27) := ⟨_, rfl⟩
  rw [← hw2] at hg hb hsz
  by_cases h1 : 0 ≤ n
  · by_cases h2 : n ≤ 4096
    · have hP : newP n = (⟨List.replicate n.toNat zeroS, [], -1, false⟩, 0) := by simp [newP, h1, h2]
      obtain ⟨m, rfl⟩ := Int.eq_ofNat_of_zero_le h1
      rw [hP]
      clear hP
      obtain ⟨i0, hi, hx⟩ := Option.bind_eq_some_iff.1 zero_sector
      obtain ⟨z0, hz0, hx⟩ := Option.map_eq_some_iff.1 hx
      simp only [Prod.mk.injEq] at hx
      obtain ⟨hz1, hz2, hz3⟩ := hx
      have B1 := Lib.hid (show i0.bytes * m ≤ 281474976710656 by rw [hz2]; omega)
      have B2 := Lib.hid (show m ≤ maxLen by unfold maxLen; omega)
      have hle : w2.heap.size ≤ w2.heap.size := Nat.le_refl _
      go_enter Try.func14, Try.ntmps14
      go_wp2_with (at_make; refine wpList_make_full _ rfl (.tmp 11) (.tmp 11) 24 rfl w2.heap.size 33 i0 z0 64 Try.underlying24 hi hz0 hz1 _ _ _ _ m rfl rfl rfl rfl B1.out B2.out (hw2 ▸ hle) ?_; intro w3 hown3 hgrow3; refine Halt.in ?_)
      rw [← hw2] at hown3 hgrow3
      have hb3 : Below w2.heap.size w2 w3 := (Below.refl w2.heap.size w2).grown hgrow3 (Nat.le_refl _) (fun k e => by cases e)
      have hs3 : Secs w3.heap.size w3 (.slice (some ⟨w2.heap.size, 0, none⟩) m m) (List.replicate m zeroS) := by
        rw [hz3] at hown3
        exact ownsRow_secs hown3
      rw [hsz] at hs3
      have G2 := (hb3.block w.heap.size (by omega)).trans hg
      have hbb := hb.trans (hb3.mono (by omega))
      have r3 : RowIn (w.heap.size + 1) w3.heap.size w3 (.slice (some ⟨w.heap.size + 1, 0, none⟩) m m) 64 (List.replicate m zeroS).length ((List.replicate m zeroS).map u8s).flatten := by
        obtain ⟨hl, a, cap, hv, h1, h2, h3⟩ := hs3.2
        refine ⟨hl, a, cap, hv, h1, h2, fun hp => ?_⟩
        obtain ⟨b, off, rfl, hb, hc⟩ := h3 hp
        refine ⟨b, off, rfl, ?_, hb, hc⟩
        injection hv with hv
        injection hv with hv
        injection hv with hv
        omega
      have D0 := cell_of_row w3 _ 0 _ _ _ G2
      have D1 := cell_of_row w3 _ 1 _ _ _ G2
      have D2 := cell_of_row w3 _ 2 _ _ _ G2
      have D3 := cell_of_row w3 _ 3 _ _ _ G2
      have Z := frozen_row G2
      have h64 := hs3.1
      clear hown3 hgrow3 hs3 hi hz0 hz1 hz2 hz3 hw2 hg hb hb3
      refine Halt.out ?_
      go_wp2_with fail
      refine bodyPost_ret (results_ct rfl _ _ w.heap.size _ _ _ _ rfl (put4_heap G2 _ _ _ _) Try.underlying27 rfl size_disk) rfl ?_
      exact ⟨⟨_, rfl, DiskV.mk (d := ⟨List.replicate m zeroS, [], -1, false⟩) ⟨h64, (((((r3.setOther ⟨w.heap.size, 0, none⟩ _ (Nat.lt_succ_self _)).setOther ⟨w.heap.size, 1, none⟩ _ (Nat.lt_succ_self _)).setOther ⟨w.heap.size, 2, none⟩ _ (Nat.lt_succ_self _)).setOther ⟨w.heap.size, 3, none⟩ _ (Nat.lt_succ_self _)).row)⟩ (Loose.nil 0 _)⟩, put4_below hbb (Nat.le_refl _) _ _ _ _⟩
    · have hP : newP n = (⟨[], [], 0, false⟩, 1) := by simp [newP, h2]
      rw [hP]
      have D0 := cell_of_row w2 _ 0 _ _ _ hg
      have D1 := cell_of_row w2 _ 1 _ _ _ hg
      have D2 := cell_of_row w2 _ 2 _ _ _ hg
      have D3 := cell_of_row w2 _ 3 _ _ _ hg
      have Z := frozen_row hg
      rw [hw2] at D0 D1 D2 D3 Z
      clear hP
      go_enter Try.func14, Try.ntmps14
      go_wp2_with fail
      rw [← hw2]
      refine bodyPost_ret (results_ct rfl _ _ w.heap.size _ _ _ _ rfl hg Try.underlying27 rfl size_disk) rfl ?_
      exact ⟨⟨_, rfl, DiskV.mk (d := ⟨[], [], 0, false⟩) (Secs.nil 0 _) (Loose.nil 0 _)⟩, hb⟩
  · have hP : newP n = (⟨[], [], 0, false⟩, 1) := by simp [newP, h1]
    rw [hP]
    have D0 := cell_of_row w2 _ 0 _ _ _ hg
    have D1 := cell_of_row w2 _ 1 _ _ _ hg
    have D2 := cell_of_row w2 _ 2 _ _ _ hg
    have D3 := cell_of_row w2 _ 3 _ _ _ hg
    have Z := frozen_row hg
    rw [hw2] at D0 D1 D2 D3 Z
    clear hP
    go_enter Try.func14, Try.ntmps14
    go_wp2_with fail
    rw [← hw2]
    refine bodyPost_ret (results_ct rfl _ _ w.heap.size _ _ _ _ rfl hg Try.underlying27 rfl size_disk) rfl ?_
    exact ⟨⟨_, rfl, DiskV.mk (d := ⟨[], [], 0, false⟩) (Secs.nil 0 _) (Loose.nil 0 _)⟩, hb⟩
end Go.Proofs.Ytccjjlefpdlegab
