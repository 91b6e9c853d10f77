/- Layer 1 (sector), the document's answer: Put. -/
import Derived.Test.YtccjjlefpdlegaaRefSame
import Derived.Test.YtccjjlefpdlegaaOwn2
namespace Go.Proofs.Ytccjjlefpdlegaa
open Go.RowKit
theorem RowIn.setAbove {B C : Nat} {w : World} {v : Value} {sz n : Nat} {cs : List Value} (h : RowIn B C w v sz n cs) (p : Addr) (u : Value) (hp : C ≤ p.block) : RowIn B C (w.setCell p u) v sz n cs := h.below ((Below.refl C w).setCell hp u)
theorem LooseO.setType {B : Nat} {w : World} {v : Value} {ls : List WriteP} {t : TypeId} {cs' : Array Value} {fr : Nat × Nat} (h : LooseO B w v ls) (p : Addr) (u : Value) (hp : w.heap[p.block]? = some (.cells cs' t fr)) (ht : t ≠ 46) : LooseO B (w.setCell p u) v ls := ⟨h.1, h.2.setType p u hp ht⟩
set_option maxRecDepth 100000 in
set_option maxHeartbeats 2000000 in
theorem refput_any {B : Nat} (v : Value) (d : DiskP) (at_ : Int) (data : List UInt8) (w : World) (h : DiskV B w v d) (h64 : data.length = 64) :
    Calls Try.prog 27 #[v, .int .i64 at_, .agg (u8s data).toArray] w fun e w' => (∃ v', e = .returned (.tuple #[v', .int .i64 (putP d at_ data).2]) ∧ DiskV w'.heap.size w' v' (putP d at_ data).1) ∧ Below w.heap.size w w' := by
  obtain ⟨a1, n1, a2, n2, rfl, hs, hl⟩ := h.tight.parts
  have hAs : (u8s data).toArray.size = 64 := by simp [length_u8s, h64]
  obtain ⟨A, hA⟩ : ∃ A, A = (u8s data).toArray := ⟨_, rfl⟩
  rw [← hA] at hAs ⊢
  have HA := Lib.hid hA
  clear hA
  clear h
  have hcs := hs.2
  obtain ⟨_, _, _, hv, q1, p1, _⟩ := hcs
  cases hv
  unfold maxLen at p1
  obtain ⟨w2, hw2⟩ : ∃ w2, w2 = ((w.alloc (.cells #[.slice a1 d.secs.length n1, .slice a2 d.loose.length n2, .int .i64 d.fuse, .bool d.down] 43)).alloc (.cells A 44)).alloc (.cells #[.slice none 0 0, .slice none 0 0, .int .i64 0, .bool false] 43) := ⟨_, rfl⟩
  have hB : Below w.heap.size w w2 := by rw [hw2]; exact Below.alloc (Below.alloc (Below.alloc (Below.refl _ _) (Nat.le_refl _) _) (by simp) _) (by simp; omega) _
  have F : Fr w.heap.size w.heap.size w2 (.slice a1 d.secs.length n1) (.slice a2 d.loose.length n2) d A := by
    refine ⟨?_, ?_, ?_, hs.below hB, hl.below hB⟩
    · rw [hw2, alloc_old _ _ (by simp; omega)]; exact heap_alloc2_old w _ _
    · rw [hw2, alloc_old _ _ (by simp)]; exact heap_alloc2_new w _ _
    · rw [hw2]
      have h := heap_alloc_new ((w.alloc (.cells #[.slice a1 d.secs.length n1, .slice a2 d.loose.length n2, .int .i64 d.fuse, .bool d.down] 43)).alloc (.cells A 44)) (.cells #[.slice none 0 0, .slice none 0 0, .int .i64 0, .bool false] 43)
      simpa using h
  clear hs hl
  have hle : w.heap.size + 3 ≤ w2.heap.size := by have := block_lt F.g2; omega
  have k1 := refright_any _ d w2 F.diskV
  have C0 := cell_of_row w2 _ 0 _ _ _ F.g0
  have C1 := cell_of_row w2 _ 1 _ _ _ F.g0
  have C2 := cell_of_row w2 _ 2 _ _ _ F.g0
  have C3 := cell_of_row w2 _ 3 _ _ _ F.g0
  have H3 : w.heap.size ≤ w.heap.size + 1 + 1 := by omega
  obtain ⟨R, hR⟩ : ∃ R, R = rightB d := ⟨_, rfl⟩
  rw [← hR] at k1
  have HR := Lib.hid hR
  clear hR
  go_enter Try.func27, Try.ntmps27
  go_wp2_with fail
  rw [← hw2]
  clear hw2
  refine k1.mono ?_
  rintro e w3 ⟨rfl, hb3⟩
  have F := F.below hb3 (by omega) (by omega)
  have hB := hB.trans (hb3.mono hB.size)
  have hle := Nat.le_trans hle hb3.size
  clear k1 C0 C1 C2 C3 hb3
  have C0 := cell_of_row w3 _ 0 _ _ _ F.g0
  have C1 := cell_of_row w3 _ 1 _ _ _ F.g0
  have C2 := cell_of_row w3 _ 2 _ _ _ F.g0
  have C3 := cell_of_row w3 _ 3 _ _ _ F.g0
  have D0 := cell_of_row w3 _ 0 _ _ _ F.g2
  have D1 := cell_of_row w3 _ 1 _ _ _ F.g2
  have D2 := cell_of_row w3 _ 2 _ _ _ F.g2
  have D3 := cell_of_row w3 _ 3 _ _ _ F.g2
  have Z := frozen_row F.g2
  cases R with
  | false =>
    have HP := Lib.hid (show putP d at_ data = (d, 1) by simp [putP, ← HR.out])
    go_wp2_with fail
    refine bodyPost_ret (results_ct rfl _ _ (w.heap.size + 1 + 1) _ _ _ _ rfl (put4_heap F.g2 _ _ _ _) Try.underlying43 rfl size_disk) rfl ?_
    rw [HP.out]
    exact ⟨⟨_, rfl, DiskV.tight ⟨_, _, rfl, put4_secsV F.s H3 _ _ _ _, put4_looseV F.l H3 _ _ _ _⟩⟩, put4_below hB H3 _ _ _ _⟩
  | true =>
  by_cases h1 : at_ < 0
  · have HP := Lib.hid (show putP d at_ data = (d, 1) by simp [putP, thereB, show ¬ (0 ≤ at_) by omega])
    go_wp2_with fail
    refine bodyPost_ret (results_ct rfl _ _ (w.heap.size + 1 + 1) _ _ _ _ rfl (put4_heap F.g2 _ _ _ _) Try.underlying43 rfl size_disk) rfl ?_
    rw [HP.out]
    exact ⟨⟨_, rfl, DiskV.tight ⟨_, _, rfl, put4_secsV F.s H3 _ _ _ _, put4_looseV F.l H3 _ _ _ _⟩⟩, put4_below hB H3 _ _ _ _⟩
  by_cases h2 : (d.secs.length : Int) ≤ at_
  · have HP := Lib.hid (show putP d at_ data = (d, 1) by simp [putP, thereB, show ¬ (at_ < (d.secs.length : Int)) by omega])
    go_wp2_with fail
    refine bodyPost_ret (results_ct rfl _ _ (w.heap.size + 1 + 1) _ _ _ _ rfl (put4_heap F.g2 _ _ _ _) Try.underlying43 rfl size_disk) rfl ?_
    rw [HP.out]
    exact ⟨⟨_, rfl, DiskV.tight ⟨_, _, rfl, put4_secsV F.s H3 _ _ _ _, put4_looseV F.l H3 _ _ _ _⟩⟩, put4_below hB H3 _ _ _ _⟩
  have hR := HR.out.symm
  have hbd := right_bounds hR
  have k1 := deed_any _ d w3 F.diskV hbd.1 hbd.2
  have HFP := Lib.hid (show putP d at_ data = if downP d then ({ d with fuse := burnF d, down := true }, 9) else ({ d with loose := d.loose ++ [⟨at_, data⟩], fuse := burnF d, down := false }, 0) by
    simp [putP, hR, thereB, show (0 ≤ at_) by omega, show at_ < (d.secs.length : Int) by omega])
  have hlen : d.loose.length ≤ 100000 := by simp only [rightB, Bool.and_eq_true, decide_eq_true_eq] at hR; omega
  have R1 := Lib.hid (show d.loose.length + 1 ≤ maxLen by unfold maxLen; omega)
  have R2 := Lib.hid (show (d.loose.length + 1) * 72 ≤ 140737488355328 by omega)
  clear hR hbd hlen
  go_wp2_with fail
  refine k1.mono ?_
  rintro e w4 ⟨⟨sv, lv, rfl, C, hC1, hC2, O⟩, hb4⟩
  obtain ⟨b1, m1, rfl⟩ := O.1.form
  obtain ⟨b2, m2, rfl⟩ := O.2.2.form
  have hl3 : w.heap.size + 1 + 1 < w3.heap.size := by omega
  have F := F.below hb4 (by omega) (by omega)
  have hB := hB.trans (hb4.mono hB.size)
  have hle := Nat.le_trans hle hb4.size
  clear k1 C0 C1 C2 C3 D0 D1 D2 D3 Z hb4 h1 h2
  obtain ⟨D, hD⟩ : ∃ D, D = downP d := ⟨_, rfl⟩
  obtain ⟨f, hf⟩ : ∃ f, f = burnF d := ⟨_, rfl⟩
  have HFP := HFP.out
  rw [← hD, ← hf] at HFP
  rw [← hD, ← hf]
  obtain ⟨w5, hw5⟩ : ∃ w5, w5 = w4.alloc (.cells #[.slice b1 d.secs.length m1, .slice b2 d.loose.length m2, .int .i64 f, .bool D] 43) := ⟨_, rfl⟩
  have hb5 : Below w4.heap.size w4 w5 := by rw [hw5]; exact Below.alloc (Below.refl _ _) (Nat.le_refl _) _
  have G := heap_alloc_new w4 (.cells #[.slice b1 d.secs.length m1, .slice b2 d.loose.length m2, .int .i64 f, .bool D] 43)
  rw [← hw5] at G
  have F := F.below hb5 (by omega) (by omega)
  have O5 : DiskO w3.heap.size C w5 _ _ d := ⟨O.1.keep hb5 (Nat.le_refl _), O.2.1.below (hb5.mono hC2), O.2.2.keep hb5 (Nat.le_refl _)⟩
  have hB := hB.trans (hb5.mono hB.size)
  have hs5 : w4.heap.size + 1 ≤ w5.heap.size := by have := block_lt G; omega
  have HP := Lib.hid HFP
  have HW5 := Lib.hid hw5
  clear HFP hD hf hw5 O hb5
  have hld := run_loadVar_row (P := Try.prog) w5 w4.heap.size 43 43 _ (0, 0) _ G Try.underlying43 rfl size_disk
  cases D with
  | true =>
    go_wp2_with (refine wp_load_to (w' := w5) (.tmp 8) 43 rfl rfl ?_ rfl hld ?_; (exact HW5.out); refine Halt.in ?_)
    refine Halt.out ?_
    clear hld
    have D0 := cell_of_row w5 _ 0 _ _ _ F.g2
    have D1 := cell_of_row w5 _ 1 _ _ _ F.g2
    have D2 := cell_of_row w5 _ 2 _ _ _ F.g2
    have D3 := cell_of_row w5 _ 3 _ _ _ F.g2
    have Z := frozen_row F.g2
    go_wp2_with fail
    refine bodyPost_ret (results_ct rfl _ _ (w.heap.size + 1 + 1) _ _ _ _ rfl (put4_heap F.g2 _ _ _ _) Try.underlying43 rfl size_disk) rfl ?_
    rw [HP.out]
    exact ⟨⟨_, rfl, (O5.put4 hl3 hC1 _ _ _ _).diskV f true⟩, put4_below hB H3 _ _ _ _⟩
  | false =>
    clear hld
    have hlA := run_loadVar_row (P := Try.prog) w5 (w.heap.size + 1) 44 44 A (0, 0) _ F.g1 Try.underlying44 rfl (by rw [hAs]; exact size_sector)
    have hbd := run_build_write (w := w5) at_ A hAs
    have hXs : (Value.int .i64 at_ :: A.toList).toArray.size = 65 := by simp [hAs]
    obtain ⟨X, hX⟩ : ∃ X, X = (Value.int .i64 at_ :: A.toList).toArray := ⟨_, rfl⟩
    rw [← hX] at hbd hXs
    have hbs := run_buildSlice_write (w := w5) X hXs
    have hXw : X.toList = wcells ⟨at_, data⟩ := by rw [hX, HA.out]; simp [wcells]
    obtain ⟨w8, hw8⟩ : ∃ w8, w8 = w5.alloc (.cells X 46) := ⟨_, rfl⟩
    have hb58 : Below w5.heap.size w5 w8 := by rw [hw8]; exact Below.alloc (Below.refl _ _) (Nat.le_refl _) _
    have hl8 := (O5.2.2.keep hb58 (Nat.le_refl _)).2
    have hsrc : Src Try.prog w8 (.slice (some ⟨w5.heap.size, 0, none⟩) 1 1) 65 1 (wcells ⟨at_, data⟩) := by
      rw [hw8]
      refine Row.src (Row.fresh (by simp [wcells, length_u8s, h64]) (Nat.le_refl _) (by decide) (fun k u hk => ?_))
      rw [← hXw] at hk
      simpa using hk
    have hle8 : C ≤ w8.heap.size := by have := hb58.size; omega
    obtain ⟨i0, z0, hi, hz0, hz1, hz2, hz3⟩ := zero_parts infoz_write
    have GT8 := (hb58.block _ (by omega)).trans G
    obtain ⟨g5, hg5⟩ : ∃ g, g = w5.heap.size := ⟨_, rfl⟩
    have hCg : C ≤ g5 := by omega
    rw [← hw8, ← hg5] at hbs
    rw [← hg5] at hsrc
    have hone := oneCell_w ⟨at_, data⟩
    have HB58 := Lib.hid hb58
    clear hXw hX hw8 hg5 hb58
    go_wp2_with (refine wp_load_to (w' := w5) (.tmp 5) 44 rfl rfl ?_ rfl hlA ?_; (exact HW5.out); clear hlA; refine Halt.in ?_)
    refine Halt.out ?_
    refine wp_build_l 46 [(0, .tmp 35), (1, .tmp 36)] rfl rfl rfl hbd ?_
    refine wp_buildSlice_l 41 1 [(0, .tmp 37)] rfl rfl rfl hbs ?_
    refine wp_append2 rfl (.tmp 34) (.tmp 38) 41 41 46 rfl i0 z0 65 72 Try.underlying41 (.inl ⟨_, Try.underlying41⟩) hi hz0 hz1 hz2 hz3 rfl rfl hl8 hsrc hone R1.out R2.out hle8 ?_
    intro v2 w9 hown9 hb9 hfar
    have hx9 : LooseO C w9 v2 (d.loose ++ [⟨at_, data⟩]) := LooseO.snoc O5.2.2.1 h64 hown9
    obtain ⟨b3, m3, hv2⟩ := hx9.form
    rw [List.length_append, List.length_singleton] at hv2
    subst hv2
    have hb59 : Below C w5 w9 := (HB58.out.mono (by omega)).trans hb9
    have GT9 := (hfar _ _ _ _ GT8 (by decide)).trans GT8
    have F := F.below hb59 (by omega) (by omega)
    have r9 := O5.2.1.below hb59
    have hB := hB.trans (hb59.mono (by omega))
    have hs64 := O5.1.1
    clear hbd hbs hsrc hl8 hi hz0 hz1 hz2 hz3 hone hown9 hb9 hfar GT8
    obtain ⟨w10, hw10⟩ : ∃ w10, w10 = w9.setCell ⟨w4.heap.size, 1, none⟩ (.slice b3 (d.loose.length + 1) m3) := ⟨_, rfl⟩
    have GT10 : w10.heap[w4.heap.size]? = some (.cells #[.slice b1 d.secs.length m1, .slice b3 (d.loose.length + 1) m3, .int .i64 f, .bool false] 43 (0, 0)) := by rw [hw10]; exact (set_row4 GT9 _).2.2.1
    have r10 : RowIn w3.heap.size C w10 (.slice b1 d.secs.length m1) 64 d.secs.length (d.secs.map u8s).flatten := by rw [hw10]; exact r9.setAbove ⟨w4.heap.size, 1, none⟩ _ hC2
    have x10 : LooseO C w10 (.slice b3 (d.loose.length + 1) m3) (d.loose ++ [⟨at_, data⟩]) := by rw [hw10]; exact hx9.setType ⟨w4.heap.size, 1, none⟩ _ GT9 (by decide)
    have hb910 : Below w4.heap.size w9 w10 := by rw [hw10]; exact (Below.refl _ _).setCell (p := ⟨w4.heap.size, 1, none⟩) (Nat.le_refl _) _
    have F := F.below hb910 (by omega) (by omega)
    have hB := hB.trans (hb910.mono (by omega))
    have hld := run_loadVar_row (P := Try.prog) w10 w4.heap.size 43 43 _ (0, 0) _ GT10 Try.underlying43 rfl size_disk
    have c1 := cell_of_row w9 _ 1 _ _ _ GT9
    have y1 := frozen_row GT9
    have HW10 := Lib.hid hw10
    clear hw10 hb910 hx9 r9 hb59
    go_wp2_with (refine wp_load_to (w' := w10) (.tmp 8) 43 rfl rfl ?_ rfl hld ?_; (exact HW10.out); refine Halt.in ?_)
    refine Halt.out ?_
    clear hld c1 y1
    have D0 := cell_of_row w10 _ 0 _ _ _ F.g2
    have D1 := cell_of_row w10 _ 1 _ _ _ F.g2
    have D2 := cell_of_row w10 _ 2 _ _ _ F.g2
    have D3 := cell_of_row w10 _ 3 _ _ _ F.g2
    have Z := frozen_row F.g2
    have hgC : w.heap.size + 1 + 1 < C := by omega
    go_wp2_with fail
    refine bodyPost_ret (results_ct rfl _ _ (w.heap.size + 1 + 1) _ _ _ _ rfl (put4_heap F.g2 _ _ _ _) Try.underlying43 rfl size_disk) rfl ?_
    rw [HP.out]
    exact ⟨⟨_, rfl, DiskV.mk (d := { d with loose := d.loose ++ [⟨at_, data⟩], fuse := f, down := false }) ⟨hs64, ((((r10.setOther ⟨w.heap.size + 1 + 1, 0, none⟩ _ hl3).setOther ⟨w.heap.size + 1 + 1, 1, none⟩ _ hl3).setOther ⟨w.heap.size + 1 + 1, 2, none⟩ _ hl3).setOther ⟨w.heap.size + 1 + 1, 3, none⟩ _ hl3).row⟩ (put4_loose x10 hgC _ _ _ _).loose⟩, put4_below hB H3 _ _ _ _⟩
end Go.Proofs.Ytccjjlefpdlegaa
