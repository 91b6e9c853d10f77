/- Layer 1 (sector), the document's answer: Put. -/
import Derived.Test.YtaijompnohkmaaaDoorMM
namespace Go.Proofs.YtaijompnohkmaaaDoor
open Go.RowKit
theorem RowIn.setAbove {B C : Nat} {w : World} {v : Value} {sz n : Nat} {cs : List Value} (h : RowIn B C w v sz n cs) (p : Addr) (u : Value) (hp : C ≤ p.block) : RowIn B C (w.setCell p u) v sz n cs := h.below ((Below.refl C w).setCell hp u)
theorem LooseO.setType {B : Nat} {w : World} {v : Value} {ls : List WriteP} {t : TypeId} {cs' : Array Value} {fr : Nat × Nat} (h : LooseO B w v ls) (p : Addr) (u : Value) (hp : w.heap[p.block]? = some (.cells cs' t fr)) (ht : t ≠ 75) : LooseO B (w.setCell p u) v ls := ⟨h.1, h.2.setType p u hp ht⟩
set_option maxRecDepth 100000 in
set_option maxHeartbeats 2000000 in
theorem refput_any {B : Nat} (v : Value) (d : DiskP) (at_ : Int) (data : List UInt8) (w : World) (h : DiskV B w v d) (h64 : data.length = 64) :
    Calls Tryd.prog 74 #[v, .int .i64 at_, .agg (u8s data).toArray] w fun e w' => (∃ v', e = .returned (.tuple #[v', .int .i64 (putP d at_ data).2]) ∧ DiskV w'.heap.size w' v' (putP d at_ data).1) ∧ Below w.heap.size w w' := by
  obtain ⟨a1, n1, a2, n2, rfl, hs, hl⟩ := h.tight.parts
  have hAs : (u8s data).toArray.size = 64 := by simp [length_u8s, h64]
  obtain ⟨A, hA⟩ : ∃ A, A = (u8s data).toArray := ⟨_, rfl⟩
  rw [← hA] at hAs ⊢
  have HA := Lib.hid hA
  clear hA
  clear h
  have hcs := hs.2
  obtain ⟨_, _, _, hv, q1, p1, _⟩ := hcs
  cases hv
  unfold maxLen at p1
  obtain ⟨w2, hw2⟩ : ∃ w2, w2 = ((w.alloc (.cells #[.slice a1 d.secs.length n1, .slice a2 d.loose.length n2, .int .i64 d.fuse, .bool d.down] 25)).alloc (.cells A 73)).alloc (.cells #[.slice none 0 0, .slice none 0 0, .int .i64 0, .bool false] 25) := ⟨_, rfl⟩
  have hB : Below w.heap.size w w2 := by rw [hw2]; exact Below.alloc (Below.alloc (Below.alloc (Below.refl _ _) (Nat.le_refl _) _) (by simp) _) (by simp; omega) _
  have F : Fr w.heap.size w.heap.size w2 (.slice a1 d.secs.length n1) (.slice a2 d.loose.length n2) d A := by
    refine ⟨?_, ?_, ?_, hs.below hB, hl.below hB⟩
    · rw [hw2, alloc_old _ _ (by simp; omega)]; exact heap_alloc2_old w _ _
    · rw [hw2, alloc_old _ _ (by simp)]; exact heap_alloc2_new w _ _
    · rw [hw2]
      have h := heap_alloc_new ((w.alloc (.cells #[.slice a1 d.secs.length n1, .slice a2 d.loose.length n2, .int .i64 d.fuse, .bool d.down] 25)).alloc (.cells A 73)) (.cells #[.slice none 0 0, .slice none 0 0, .int .i64 0, .bool false] 25)
      simpa using h
  clear hs hl
  have hle : w.heap.size + 3 ≤ w2.heap.size := by have := block_lt F.g2; omega
  have k1 := refright_any _ d w2 F.diskV
  have C0 := cell_of_row w2 _ 0 _ _ _ F.g0
  have C1 := cell_of_row w2 _ 1 _ _ _ F.g0
  have C2 := cell_of_row w2 _ 2 _ _ _ F.g0
  have C3 := cell_of_row w2 _ 3 _ _ _ F.g0
  have H3 : w.heap.size ≤ w.heap.size + 1 + 1 := by omega
  obtain ⟨R, hR⟩ : ∃ R, R = rightB d := ⟨_, rfl⟩
  rw [← hR] at k1
  have HR := Lib.hid hR
  clear hR
  go_enter Tryd.func74, Tryd.ntmps74
  go_wp2_with fail
  rw [← hw2]
  clear hw2
  refine k1.mono ?_
  rintro e w3 ⟨rfl, hb3⟩
  have F := F.below hb3 (by omega) (by omega)
  have hB := hB.trans (hb3.mono hB.size)
  have hle := Nat.le_trans hle hb3.size
  clear k1 C0 C1 C2 C3 hb3
  have C0 := cell_of_row w3 _ 0 _ _ _ F.g0
  have C1 := cell_of_row w3 _ 1 _ _ _ F.g0
  have C2 := cell_of_row w3 _ 2 _ _ _ F.g0
  have C3 := cell_of_row w3 _ 3 _ _ _ F.g0
  have D0 := cell_of_row w3 _ 0 _ _ _ F.g2
  have D1 := cell_of_row w3 _ 1 _ _ _ F.g2
  have D2 := cell_of_row w3 _ 2 _ _ _ F.g2
  have D3 := cell_of_row w3 _ 3 _ _ _ F.g2
  have Z := frozen_row F.g2
  cases R with
  | false =>
    have HP := Lib.hid (show putP d at_ data = (d, 1) by simp [putP, ← HR.out])
    go_wp2_with fail
    refine bodyPost_ret (results_ct rfl _ _ (w.heap.size + 1 + 1) _ _ _ _ rfl (put4_heap F.g2 _ _ _ _) Tryd.underlying25 rfl size_disk) rfl ?_
    rw [HP.out]
    exact ⟨⟨_, rfl, DiskV.tight ⟨_, _, rfl, put4_secsV F.s H3 _ _ _ _, put4_looseV F.l H3 _ _ _ _⟩⟩, put4_below hB H3 _ _ _ _⟩
  | true =>
  by_cases h1 : at_ < 0
  · have HP := Lib.hid (show putP d at_ data = (d, 1) by simp [putP, thereB, show ¬ (0 ≤ at_) by omega])
    go_wp2_with fail
    refine bodyPost_ret (results_ct rfl _ _ (w.heap.size + 1 + 1) _ _ _ _ rfl (put4_heap F.g2 _ _ _ _) Tryd.underlying25 rfl size_disk) rfl ?_
    rw [HP.out]
    exact ⟨⟨_, rfl, DiskV.tight ⟨_, _, rfl, put4_secsV F.s H3 _ _ _ _, put4_looseV F.l H3 _ _ _ _⟩⟩, put4_below hB H3 _ _ _ _⟩
  by_cases h2 : (d.secs.length : Int) ≤ at_
  · have HP := Lib.hid (show putP d at_ data = (d, 1) by simp [putP, thereB, show ¬ (at_ < (d.secs.length : Int)) by omega])
    go_wp2_with fail
    refine bodyPost_ret (results_ct rfl _ _ (w.heap.size + 1 + 1) _ _ _ _ rfl (put4_heap F.g2 _ _ _ _) Tryd.underlying25 rfl size_disk) rfl ?_
    rw [HP.out]
    exact ⟨⟨_, rfl, DiskV.tight ⟨_, _, rfl, put4_secsV F.s H3 _ _ _ _, put4_looseV F.l H3 _ _ _ _⟩⟩, put4_below hB H3 _ _ _ _⟩
  have hR := HR.out.symm
  have hbd := right_bounds hR
  have k1 := deed_any _ d w3 F.diskV hbd.1 hbd.2
  have HFP := Lib.hid (show putP d at_ data = if downP d then ({ d with fuse := burnF d, down := true }, 9) else ({ d with loose := d.loose ++ [⟨at_, data⟩], fuse := burnF d, down := false }, 0) by
    simp [putP, hR, thereB, show (0 ≤ at_) by omega, show at_ < (d.secs.length : Int) by omega])
  have hlen : d.loose.length ≤ 100000 := by simp only [rightB, Bool.and_eq_true, decide_eq_true_eq] at hR; omega
  have R1 := Lib.hid (show d.loose.length + 1 ≤ maxLen by unfold maxLen; omega)
  have R2 := Lib.hid (show (d.loose.length + 1) * 72 ≤ 140737488355328 by omega)
  clear hR hbd hlen
  go_wp2_with fail
  refine k1.mono ?_
  rintro e w4 ⟨⟨sv, lv, rfl, C, hC1, hC2, O⟩, hb4⟩
  obtain ⟨b1, m1, rfl⟩ := O.1.form
  obtain ⟨b2, m2, rfl⟩ := O.2.2.form
  have hl3 : w.heap.size + 1 + 1 < w3.heap.size := by omega
  have F := F.below hb4 (by omega) (by omega)
  have hB := hB.trans (hb4.mono hB.size)
  have hle := Nat.le_trans hle hb4.size
  clear k1 C0 C1 C2 C3 D0 D1 D2 D3 Z hb4 h1 h2
  obtain ⟨D, hD⟩ : ∃ D, D = downP d := ⟨_, rfl⟩
  obtain ⟨f, hf⟩ : ∃ f, f = burnF d := ⟨_, rfl⟩
  have HFP := HFP.out
  rw [← hD, ← hf] at HFP
  rw [← hD, ← hf]
  obtain ⟨w5, hw5⟩ : ∃ w5, w5 = w4.alloc (.cells #[.slice b1 d.secs.length m1, .slice b2 d.loose.length m2, .int .i64 f, .bool D] 25) := ⟨_, rfl⟩
  have hb5 : Below w4.heap.size w4 w5 := by rw [hw5]; exact Below.alloc (Below.refl _ _) (Nat.le_refl _) _
  have G := heap_alloc_new w4 (.cells #[.slice b1 d.secs.length m1, .slice b2 d.loose.length m2, .int .i64 f, .bool D] 25)
  rw [← hw5] at G
  have F := F.below hb5 (by omega) (by omega)
  have O5 : DiskO w3.heap.size C w5 _ _ d := ⟨O.1.keep hb5 (Nat.le_refl _), O.2.1.below (hb5.mono hC2), O.2.2.keep hb5 (Nat.le_refl _)⟩
  have hB := hB.trans (hb5.mono hB.size)
  have hs5 : w4.heap.size + 1 ≤ w5.heap.size := by have := block_lt G; omega
  have HP := Lib.hid HFP
  have HW5 := Lib.hid hw5
  clear HFP hD hf hw5 O hb5
  have hld := run_loadVar_row (P := Tryd.prog) w5 w4.heap.size 25 25 _ (0, 0) _ G Tryd.underlying25 rfl size_disk
  cases D with
  | true =>
    go_wp2_with (refine wp_load_to (w' := w5) (.tmp 8) 25 rfl rfl ?_ rfl hld ?_; (exact HW5.out); refine Halt.in ?_)
    refine Halt.out ?_
    clear hld
    have D0 := cell_of_row w5 _ 0 _ _ _ F.g2
    have D1 := cell_of_row w5 _ 1 _ _ _ F.g2
    have D2 := cell_of_row w5 _ 2 _ _ _ F.g2
    have D3 := cell_of_row w5 _ 3 _ _ _ F.g2
    have Z := frozen_row F.g2
    go_wp2_with fail
    refine bodyPost_ret (results_ct rfl _ _ (w.heap.size + 1 + 1) _ _ _ _ rfl (put4_heap F.g2 _ _ _ _) Tryd.underlying25 rfl size_disk) rfl ?_
    rw [HP.out]
    exact ⟨⟨_, rfl, (O5.put4 hl3 hC1 _ _ _ _).diskV f true⟩, put4_below hB H3 _ _ _ _⟩
  | false =>
    clear hld
    have hlA := run_loadVar_row (P := Tryd.prog) w5 (w.heap.size + 1) 73 73 A (0, 0) _ F.g1 Tryd.underlying73 rfl (by rw [hAs]; exact size_sector)
    have hbd := run_build_write (w := w5) at_ A hAs
    have hXs : (Value.int .i64 at_ :: A.toList).toArray.size = 65 := by simp [hAs]
    obtain ⟨X, hX⟩ : ∃ X, X = (Value.int .i64 at_ :: A.toList).toArray := ⟨_, rfl⟩
    rw [← hX] at hbd hXs
    have hbs := run_buildSlice_write (w := w5) X hXs
    have hXw : X.toList = wcells ⟨at_, data⟩ := by rw [hX, HA.out]; simp [wcells]
    obtain ⟨w8, hw8⟩ : ∃ w8, w8 = w5.alloc (.cells X 75) := ⟨_, rfl⟩
    have hb58 : Below w5.heap.size w5 w8 := by rw [hw8]; exact Below.alloc (Below.refl _ _) (Nat.le_refl _) _
    have hl8 := (O5.2.2.keep hb58 (Nat.le_refl _)).2
    have hsrc : Src Tryd.prog w8 (.slice (some ⟨w5.heap.size, 0, none⟩) 1 1) 65 1 (wcells ⟨at_, data⟩) := by
      rw [hw8]
      refine Row.src (Row.fresh (by simp [wcells, length_u8s, h64]) (Nat.le_refl _) (by decide) (fun k u hk => ?_))
      rw [← hXw] at hk
      simpa using hk
    have hle8 : C ≤ w8.heap.size := by have := hb58.size; omega
    obtain ⟨i0, z0, hi, hz0, hz1, hz2, hz3⟩ := zero_parts infoz_write
    have GT8 := (hb58.block _ (by omega)).trans G
    obtain ⟨g5, hg5⟩ : ∃ g, g = w5.heap.size := ⟨_, rfl⟩
    have hCg : C ≤ g5 := by omega
    rw [← hw8, ← hg5] at hbs
    rw [← hg5] at hsrc
    have hone := oneCell_w ⟨at_, data⟩
    have HB58 := Lib.hid hb58
    clear hXw hX hw8 hg5 hb58
    go_wp2_with (refine wp_load_to (w' := w5) (.tmp 5) 73 rfl rfl ?_ rfl hlA ?_; (exact HW5.out); clear hlA; refine Halt.in ?_)
    refine Halt.out ?_
    refine wp_build_l 75 [(0, .tmp 35), (1, .tmp 36)] rfl rfl rfl hbd ?_
    refine wp_buildSlice_l 23 1 [(0, .tmp 37)] rfl rfl rfl hbs ?_
    refine wp_append2 rfl (.tmp 34) (.tmp 38) 23 23 75 rfl i0 z0 65 72 Tryd.underlying23 (.inl ⟨_, Tryd.underlying23⟩) hi hz0 hz1 hz2 hz3 rfl rfl hl8 hsrc hone R1.out R2.out hle8 ?_
    intro v2 w9 hown9 hb9 hfar
    have hx9 : LooseO C w9 v2 (d.loose ++ [⟨at_, data⟩]) := LooseO.snoc O5.2.2.1 h64 hown9
    obtain ⟨b3, m3, hv2⟩ := hx9.form
    rw [List.length_append, List.length_singleton] at hv2
    subst hv2
    have hb59 : Below C w5 w9 := (HB58.out.mono (by omega)).trans hb9
    have GT9 := (hfar _ _ _ _ GT8 (by decide)).trans GT8
    have F := F.below hb59 (by omega) (by omega)
    have r9 := O5.2.1.below hb59
    have hB := hB.trans (hb59.mono (by omega))
    have hs64 := O5.1.1
    clear hbd hbs hsrc hl8 hi hz0 hz1 hz2 hz3 hone hown9 hb9 hfar GT8
    obtain ⟨w10, hw10⟩ : ∃ w10, w10 = w9.setCell ⟨w4.heap.size, 1, none⟩ (.slice b3 (d.loose.length + 1) m3) := ⟨_, rfl⟩
    have GT10 : w10.heap[w4.heap.size]? = some (.cells #[.slice b1 d.secs.length m1, .slice b3 (d.loose.length + 1) m3, .int .i64 f, .bool false] 25 (0, 0)) := by rw [hw10]; exact (set_row4 GT9 _).2.2.1
    have r10 : RowIn w3.heap.size C w10 (.slice b1 d.secs.length m1) 64 d.secs.length (d.secs.map u8s).flatten := by rw [hw10]; exact r9.setAbove ⟨w4.heap.size, 1, none⟩ _ hC2
    have x10 : LooseO C w10 (.slice b3 (d.loose.length + 1) m3) (d.loose ++ [⟨at_, data⟩]) := by rw [hw10]; exact hx9.setType ⟨w4.heap.size, 1, none⟩ _ GT9 (by decide)
    have hb910 : Below w4.heap.size w9 w10 := by rw [hw10]; exact (Below.refl _ _).setCell (p := ⟨w4.heap.size, 1, none⟩) (Nat.le_refl _) _
    have F := F.below hb910 (by omega) (by omega)
    have hB := hB.trans (hb910.mono (by omega))
    have hld := run_loadVar_row (P := Tryd.prog) w10 w4.heap.size 25 25 _ (0, 0) _ GT10 Tryd.underlying25 rfl size_disk
    have c1 := cell_of_row w9 _ 1 _ _ _ GT9
    have y1 := frozen_row GT9
    have HW10 := Lib.hid hw10
    clear hw10 hb910 hx9 r9 hb59
    go_wp2_with (refine wp_load_to (w' := w10) (.tmp 8) 25 rfl rfl ?_ rfl hld ?_; (exact HW10.out); refine Halt.in ?_)
    refine Halt.out ?_
    clear hld c1 y1
    have D0 := cell_of_row w10 _ 0 _ _ _ F.g2
    have D1 := cell_of_row w10 _ 1 _ _ _ F.g2
    have D2 := cell_of_row w10 _ 2 _ _ _ F.g2
    have D3 := cell_of_row w10 _ 3 _ _ _ F.g2
    have Z := frozen_row F.g2
    have hgC : w.heap.size + 1 + 1 < C := by omega
    go_wp2_with fail
    refine bodyPost_ret (results_ct rfl _ _ (w.heap.size + 1 + 1) _ _ _ _ rfl (put4_heap F.g2 _ _ _ _) Tryd.underlying25 rfl size_disk) rfl ?_
    rw [HP.out]
    exact ⟨⟨_, rfl, DiskV.mk (d := { d with loose := d.loose ++ [⟨at_, data⟩], fuse := f, down := false }) ⟨hs64, ((((r10.setOther ⟨w.heap.size + 1 + 1, 0, none⟩ _ hl3).setOther ⟨w.heap.size + 1 + 1, 1, none⟩ _ hl3).setOther ⟨w.heap.size + 1 + 1, 2, none⟩ _ hl3).setOther ⟨w.heap.size + 1 + 1, 3, none⟩ _ hl3).row⟩ (put4_loose x10 hgC _ _ _ _).loose⟩, put4_below hB H3 _ _ _ _⟩
end Go.Proofs.YtaijompnohkmaaaDoor
/- Layer 5 (wal), the document's answer: Takes, Right, Room. -/
namespace Go.Proofs.YtaijompnohkmaaaDoor
open Go.RowKit WalP PackP
set_option maxRecDepth 100000 in
theorem refTakes_any (n : Int) (w : World) : Calls Tryd.prog 21 #[.int .i64 n] w fun e w' => e = .returned (.int .i64 (takesZ n)) ∧ w = w' := by
  by_cases h1 : n < 1
  · have hf : takesZ n = 0 := by unfold takesZ; rw [if_pos (.inl h1)]
    have t0 : decide (n < 1) = true := by simp; omega
    rw [hf]
    clear hf h1
    go_enter Tryd.func21, Tryd.ntmps21
    go_wp2
    go_ret
    exact ⟨rfl, rfl⟩
  · have t0 : decide (n < 1) = false := by simp; omega
    by_cases h2 : 6000 < n
    · have hf : takesZ n = 0 := by unfold takesZ; rw [if_pos (.inr h2)]
      have t1 : decide (6000 < n) = true := by simp; omega
      rw [hf]
      clear hf h1 h2
      go_enter Tryd.func21, Tryd.ntmps21
      go_wp2
      go_ret
      exact ⟨rfl, rfl⟩
    · have t1 : decide (6000 < n) = false := by simp; omega
      have hf : takesZ n = 1 + (n + 63) / 64 := by unfold takesZ; rw [if_neg (by omega)]
      have HF := Lib.hid hf
      clear hf
      go_enter Tryd.func21, Tryd.ntmps21
      go_wp2
      go_ret
      refine ⟨ret_int ?_, rfl⟩
      rw [HF.out]
set_option maxRecDepth 100000 in
set_option maxHeartbeats 2000000 in
theorem refRight5_any {B : Nat} (v : Value) (d : DiskP) (l : LogP) (w : World) (h : DiskV B w v d) :
    Calls Tryd.prog 19 #[v, logV l] w fun e w' => e = .returned (.bool (rightL d l)) ∧ Below w.heap.size w w' := by
  obtain ⟨p1, q1, p2, q2, rfl, hs, hl⟩ := h.tight.parts
  clear h
  have p3 := hs.2.2
  obtain ⟨_, _, hv, g1, g2, _⟩ := p3
  cases hv
  unfold maxLen at g2
  obtain ⟨L, hL⟩ : ∃ L, L = d.secs.length := ⟨_, rfl⟩
  have hd0 : DiskV w.heap.size w (.agg #[.slice p1 d.secs.length q1, .slice p2 d.loose.length q2, .int .i64 d.fuse, .bool d.down]) d := ⟨_, _, rfl, hs, hl⟩
  rw [← hL] at hd0 g1 ⊢
  obtain ⟨w2, hw2⟩ : ∃ w2, w2 = (w.alloc (.cells #[.slice p1 L q1, .slice p2 d.loose.length q2, .int .i64 d.fuse, .bool d.down] 25)).alloc (.cells #[.int .i64 l.half, .int .i64 l.gen, .int .i64 l.used, .int .i64 l.count] 27) := ⟨_, rfl⟩
  have hB : Below w.heap.size w w2 := by rw [hw2]; exact Below.alloc (Below.alloc (Below.refl _ _) (Nat.le_refl _) _) (by simp) _
  have G0 : w2.heap[w.heap.size]? = some (.cells #[.slice p1 L q1, .slice p2 d.loose.length q2, .int .i64 d.fuse, .bool d.down] 25 (0, 0)) := by rw [hw2]; exact heap_alloc2_old w _ _
  have G1 : w2.heap[w.heap.size + 1]? = some (.cells #[.int .i64 l.half, .int .i64 l.gen, .int .i64 l.used, .int .i64 l.count] 27 (0, 0)) := by rw [hw2]; exact heap_alloc2_new w _ _
  have kr := refright_any _ d w2 (hd0.below hB)
  obtain ⟨R, hR⟩ : ∃ R, R = rightB d := ⟨_, rfl⟩
  rw [← hR] at kr
  have hH : ((half d : Nat) : Int) = (L : Int) / 2 := by unfold half; rw [← hL]; omega
  have hr : rightL d l = (R && ((l.half == 0) || (l.half == 1)) && decide (1 ≤ l.gen) && decide (l.gen ≤ 1099511627776) && decide (2 ≤ l.used) && decide (l.used ≤ (L : Int) / 2) && decide (1 ≤ l.count) && decide (l.count ≤ l.used)) := by
    rw [hR, ← hH]; rfl
  obtain ⟨c0, h0⟩ : ∃ c, (l.half == 0) = c := ⟨_, rfl⟩
  obtain ⟨c1, h1⟩ : ∃ c, (l.half == 1) = c := ⟨_, rfl⟩
  obtain ⟨c2, h2⟩ : ∃ c, decide (1 ≤ l.gen) = c := ⟨_, rfl⟩
  obtain ⟨c3, h3⟩ : ∃ c, decide (l.gen ≤ 1099511627776) = c := ⟨_, rfl⟩
  obtain ⟨c4, h4⟩ : ∃ c, decide (2 ≤ l.used) = c := ⟨_, rfl⟩
  obtain ⟨c5, h5⟩ : ∃ c, decide (l.used ≤ (L : Int) / 2) = c := ⟨_, rfl⟩
  obtain ⟨c6, h6⟩ : ∃ c, decide (1 ≤ l.count) = c := ⟨_, rfl⟩
  obtain ⟨c7, h7⟩ : ∃ c, decide (l.count ≤ l.used) = c := ⟨_, rfl⟩
  rw [h0, h1, h2, h3, h4, h5, h6, h7] at hr
  rw [hr]
  simp only [logV]
  have HW := Lib.hid hw2
  clear hr hR hH hL hd0 hw2 hs hl
  have C0 := cell_of_row w2 _ 0 _ _ _ G0
  have C1 := cell_of_row w2 _ 1 _ _ _ G0
  have C2 := cell_of_row w2 _ 2 _ _ _ G0
  have C3 := cell_of_row w2 _ 3 _ _ _ G0
  cases R with
  | false =>
    go_enter Tryd.func19, Tryd.ntmps19
    go_upto_region 1 with (fail)
    rw [← HW.out]
    go_wp2_with fail
    refine kr.mono ?_
    rintro e w3 ⟨rfl, hb3⟩
    clear kr C0 C1 C2 C3
    have G1 := (hb3.block _ (block_lt G1)).trans G1
    have hbb := hB.trans (hb3.mono hB.size)
    have E0 := cell_of_row w3 _ 0 _ _ _ G1
    have E1 := cell_of_row w3 _ 1 _ _ _ G1
    have E2 := cell_of_row w3 _ 2 _ _ _ G1
    have E3 := cell_of_row w3 _ 3 _ _ _ G1
    go_wp2_with fail
    go_ret
    exact ⟨rfl, hbb⟩
  | true =>
    rcases Bool.eq_false_or_eq_true (c0 || c1) with hc | hc
    rotate_left
    · obtain ⟨rfl, rfl⟩ : c0 = false ∧ c1 = false := by cases c0 <;> cases c1 <;> first | exact ⟨rfl, rfl⟩ | exact absurd hc (by decide)
      clear hc
      go_enter Tryd.func19, Tryd.ntmps19
      go_upto_region 1 with (fail)
      rw [← HW.out]
      go_wp2_with fail
      refine kr.mono ?_
      rintro e w3 ⟨rfl, hb3⟩
      clear kr C0 C1 C2 C3
      have G1 := (hb3.block _ (block_lt G1)).trans G1
      have hbb := hB.trans (hb3.mono hB.size)
      have E0 := cell_of_row w3 _ 0 _ _ _ G1
      have E1 := cell_of_row w3 _ 1 _ _ _ G1
      have E2 := cell_of_row w3 _ 2 _ _ _ G1
      have E3 := cell_of_row w3 _ 3 _ _ _ G1
      go_wp2_with fail
      go_ret
      exact ⟨rfl, hbb⟩
    cases c2 with
    | false =>
      cases c0 with
      | false =>
        cases c1 with
        | false => exact absurd hc (by decide)
        | true =>
          clear hc
          go_enter Tryd.func19, Tryd.ntmps19
          go_upto_region 1 with (fail)
          rw [← HW.out]
          go_wp2_with fail
          refine kr.mono ?_
          rintro e w3 ⟨rfl, hb3⟩
          clear kr C0 C1 C2 C3
          have G1 := (hb3.block _ (block_lt G1)).trans G1
          have hbb := hB.trans (hb3.mono hB.size)
          have E0 := cell_of_row w3 _ 0 _ _ _ G1
          have E1 := cell_of_row w3 _ 1 _ _ _ G1
          have E2 := cell_of_row w3 _ 2 _ _ _ G1
          have E3 := cell_of_row w3 _ 3 _ _ _ G1
          go_wp2_with fail
          go_ret
          exact ⟨rfl, hbb⟩
      | true =>
        clear hc
        go_enter Tryd.func19, Tryd.ntmps19
        go_upto_region 1 with (fail)
        rw [← HW.out]
        go_wp2_with fail
        refine kr.mono ?_
        rintro e w3 ⟨rfl, hb3⟩
        clear kr C0 C1 C2 C3
        have G1 := (hb3.block _ (block_lt G1)).trans G1
        have hbb := hB.trans (hb3.mono hB.size)
        have E0 := cell_of_row w3 _ 0 _ _ _ G1
        have E1 := cell_of_row w3 _ 1 _ _ _ G1
        have E2 := cell_of_row w3 _ 2 _ _ _ G1
        have E3 := cell_of_row w3 _ 3 _ _ _ G1
        go_wp2_with fail
        go_ret
        exact ⟨rfl, hbb⟩
    | true =>
      cases c3 with
      | false =>
        cases c0 with
        | false =>
          cases c1 with
          | false => exact absurd hc (by decide)
          | true =>
            clear hc
            go_enter Tryd.func19, Tryd.ntmps19
            go_upto_region 1 with (fail)
            rw [← HW.out]
            go_wp2_with fail
            refine kr.mono ?_
            rintro e w3 ⟨rfl, hb3⟩
            clear kr C0 C1 C2 C3
            have G1 := (hb3.block _ (block_lt G1)).trans G1
            have hbb := hB.trans (hb3.mono hB.size)
            have E0 := cell_of_row w3 _ 0 _ _ _ G1
            have E1 := cell_of_row w3 _ 1 _ _ _ G1
            have E2 := cell_of_row w3 _ 2 _ _ _ G1
            have E3 := cell_of_row w3 _ 3 _ _ _ G1
            go_wp2_with fail
            go_ret
            exact ⟨rfl, hbb⟩
        | true =>
          clear hc
          go_enter Tryd.func19, Tryd.ntmps19
          go_upto_region 1 with (fail)
          rw [← HW.out]
          go_wp2_with fail
          refine kr.mono ?_
          rintro e w3 ⟨rfl, hb3⟩
          clear kr C0 C1 C2 C3
          have G1 := (hb3.block _ (block_lt G1)).trans G1
          have hbb := hB.trans (hb3.mono hB.size)
          have E0 := cell_of_row w3 _ 0 _ _ _ G1
          have E1 := cell_of_row w3 _ 1 _ _ _ G1
          have E2 := cell_of_row w3 _ 2 _ _ _ G1
          have E3 := cell_of_row w3 _ 3 _ _ _ G1
          go_wp2_with fail
          go_ret
          exact ⟨rfl, hbb⟩
      | true =>
        cases c4 with
        | false =>
          cases c0 with
          | false =>
            cases c1 with
            | false => exact absurd hc (by decide)
            | true =>
              clear hc
              go_enter Tryd.func19, Tryd.ntmps19
              go_upto_region 1 with (fail)
              rw [← HW.out]
              go_wp2_with fail
              refine kr.mono ?_
              rintro e w3 ⟨rfl, hb3⟩
              clear kr C0 C1 C2 C3
              have G1 := (hb3.block _ (block_lt G1)).trans G1
              have hbb := hB.trans (hb3.mono hB.size)
              have E0 := cell_of_row w3 _ 0 _ _ _ G1
              have E1 := cell_of_row w3 _ 1 _ _ _ G1
              have E2 := cell_of_row w3 _ 2 _ _ _ G1
              have E3 := cell_of_row w3 _ 3 _ _ _ G1
              go_wp2_with fail
              go_ret
              exact ⟨rfl, hbb⟩
          | true =>
            clear hc
            go_enter Tryd.func19, Tryd.ntmps19
            go_upto_region 1 with (fail)
            rw [← HW.out]
            go_wp2_with fail
            refine kr.mono ?_
            rintro e w3 ⟨rfl, hb3⟩
            clear kr C0 C1 C2 C3
            have G1 := (hb3.block _ (block_lt G1)).trans G1
            have hbb := hB.trans (hb3.mono hB.size)
            have E0 := cell_of_row w3 _ 0 _ _ _ G1
            have E1 := cell_of_row w3 _ 1 _ _ _ G1
            have E2 := cell_of_row w3 _ 2 _ _ _ G1
            have E3 := cell_of_row w3 _ 3 _ _ _ G1
            go_wp2_with fail
            go_ret
            exact ⟨rfl, hbb⟩
        | true =>
          cases c5 with
          | false =>
            cases c0 with
            | false =>
              cases c1 with
              | false => exact absurd hc (by decide)
              | true =>
                clear hc
                go_enter Tryd.func19, Tryd.ntmps19
                go_upto_region 1 with (fail)
                rw [← HW.out]
                go_wp2_with fail
                refine kr.mono ?_
                rintro e w3 ⟨rfl, hb3⟩
                clear kr C0 C1 C2 C3
                have G1 := (hb3.block _ (block_lt G1)).trans G1
                have hbb := hB.trans (hb3.mono hB.size)
                have E0 := cell_of_row w3 _ 0 _ _ _ G1
                have E1 := cell_of_row w3 _ 1 _ _ _ G1
                have E2 := cell_of_row w3 _ 2 _ _ _ G1
                have E3 := cell_of_row w3 _ 3 _ _ _ G1
                go_wp2_with fail
                go_ret
                exact ⟨rfl, hbb⟩
            | true =>
              clear hc
              go_enter Tryd.func19, Tryd.ntmps19
              go_upto_region 1 with (fail)
              rw [← HW.out]
              go_wp2_with fail
              refine kr.mono ?_
              rintro e w3 ⟨rfl, hb3⟩
              clear kr C0 C1 C2 C3
              have G1 := (hb3.block _ (block_lt G1)).trans G1
              have hbb := hB.trans (hb3.mono hB.size)
              have E0 := cell_of_row w3 _ 0 _ _ _ G1
              have E1 := cell_of_row w3 _ 1 _ _ _ G1
              have E2 := cell_of_row w3 _ 2 _ _ _ G1
              have E3 := cell_of_row w3 _ 3 _ _ _ G1
              go_wp2_with fail
              go_ret
              exact ⟨rfl, hbb⟩
          | true =>
            cases c6 with
            | false =>
              cases c0 with
              | false =>
                cases c1 with
                | false => exact absurd hc (by decide)
                | true =>
                  clear hc
                  go_enter Tryd.func19, Tryd.ntmps19
                  go_upto_region 1 with (fail)
                  rw [← HW.out]
                  go_wp2_with fail
                  refine kr.mono ?_
                  rintro e w3 ⟨rfl, hb3⟩
                  clear kr C0 C1 C2 C3
                  have G1 := (hb3.block _ (block_lt G1)).trans G1
                  have hbb := hB.trans (hb3.mono hB.size)
                  have E0 := cell_of_row w3 _ 0 _ _ _ G1
                  have E1 := cell_of_row w3 _ 1 _ _ _ G1
                  have E2 := cell_of_row w3 _ 2 _ _ _ G1
                  have E3 := cell_of_row w3 _ 3 _ _ _ G1
                  go_wp2_with fail
                  go_ret
                  exact ⟨rfl, hbb⟩
              | true =>
                clear hc
                go_enter Tryd.func19, Tryd.ntmps19
                go_upto_region 1 with (fail)
                rw [← HW.out]
                go_wp2_with fail
                refine kr.mono ?_
                rintro e w3 ⟨rfl, hb3⟩
                clear kr C0 C1 C2 C3
                have G1 := (hb3.block _ (block_lt G1)).trans G1
                have hbb := hB.trans (hb3.mono hB.size)
                have E0 := cell_of_row w3 _ 0 _ _ _ G1
                have E1 := cell_of_row w3 _ 1 _ _ _ G1
                have E2 := cell_of_row w3 _ 2 _ _ _ G1
                have E3 := cell_of_row w3 _ 3 _ _ _ G1
                go_wp2_with fail
                go_ret
                exact ⟨rfl, hbb⟩
            | true =>
              cases c7 with
              | false =>
                cases c0 with
                | false =>
                  cases c1 with
                  | false => exact absurd hc (by decide)
                  | true =>
                    clear hc
                    go_enter Tryd.func19, Tryd.ntmps19
                    go_upto_region 1 with (fail)
                    rw [← HW.out]
                    go_wp2_with fail
                    refine kr.mono ?_
                    rintro e w3 ⟨rfl, hb3⟩
                    clear kr C0 C1 C2 C3
                    have G1 := (hb3.block _ (block_lt G1)).trans G1
                    have hbb := hB.trans (hb3.mono hB.size)
                    have E0 := cell_of_row w3 _ 0 _ _ _ G1
                    have E1 := cell_of_row w3 _ 1 _ _ _ G1
                    have E2 := cell_of_row w3 _ 2 _ _ _ G1
                    have E3 := cell_of_row w3 _ 3 _ _ _ G1
                    go_wp2_with fail
                    go_ret
                    exact ⟨rfl, hbb⟩
                | true =>
                  clear hc
                  go_enter Tryd.func19, Tryd.ntmps19
                  go_upto_region 1 with (fail)
                  rw [← HW.out]
                  go_wp2_with fail
                  refine kr.mono ?_
                  rintro e w3 ⟨rfl, hb3⟩
                  clear kr C0 C1 C2 C3
                  have G1 := (hb3.block _ (block_lt G1)).trans G1
                  have hbb := hB.trans (hb3.mono hB.size)
                  have E0 := cell_of_row w3 _ 0 _ _ _ G1
                  have E1 := cell_of_row w3 _ 1 _ _ _ G1
                  have E2 := cell_of_row w3 _ 2 _ _ _ G1
                  have E3 := cell_of_row w3 _ 3 _ _ _ G1
                  go_wp2_with fail
                  go_ret
                  exact ⟨rfl, hbb⟩
              | true =>
                cases c0 with
                | false =>
                  cases c1 with
                  | false => exact absurd hc (by decide)
                  | true =>
                    clear hc
                    go_enter Tryd.func19, Tryd.ntmps19
                    go_upto_region 1 with (fail)
                    rw [← HW.out]
                    go_wp2_with fail
                    refine kr.mono ?_
                    rintro e w3 ⟨rfl, hb3⟩
                    clear kr C0 C1 C2 C3
                    have G1 := (hb3.block _ (block_lt G1)).trans G1
                    have hbb := hB.trans (hb3.mono hB.size)
                    have E0 := cell_of_row w3 _ 0 _ _ _ G1
                    have E1 := cell_of_row w3 _ 1 _ _ _ G1
                    have E2 := cell_of_row w3 _ 2 _ _ _ G1
                    have E3 := cell_of_row w3 _ 3 _ _ _ G1
                    go_wp2_with fail
                    go_ret
                    exact ⟨rfl, hbb⟩
                | true =>
                  clear hc
                  go_enter Tryd.func19, Tryd.ntmps19
                  go_upto_region 1 with (fail)
                  rw [← HW.out]
                  go_wp2_with fail
                  refine kr.mono ?_
                  rintro e w3 ⟨rfl, hb3⟩
                  clear kr C0 C1 C2 C3
                  have G1 := (hb3.block _ (block_lt G1)).trans G1
                  have hbb := hB.trans (hb3.mono hB.size)
                  have E0 := cell_of_row w3 _ 0 _ _ _ G1
                  have E1 := cell_of_row w3 _ 1 _ _ _ G1
                  have E2 := cell_of_row w3 _ 2 _ _ _ G1
                  have E3 := cell_of_row w3 _ 3 _ _ _ G1
                  go_wp2_with fail
                  go_ret
                  exact ⟨rfl, hbb⟩
set_option maxRecDepth 100000 in
set_option maxHeartbeats 1000000 in
theorem refRoom_any {B : Nat} (v : Value) (d : DiskP) (l : LogP) (w : World) (h : DiskV B w v d) :
    Calls Tryd.prog 17 #[v, logV l] w fun e w' => e = .returned (.int .i64 (roomP d l)) ∧ Below w.heap.size w w' := by
  obtain ⟨p1, q1, p2, q2, rfl, hs, hl⟩ := h.tight.parts
  clear h
  have p3 := hs.2.2
  obtain ⟨_, _, hv, g1, g2, _⟩ := p3
  cases hv
  unfold maxLen at g2
  obtain ⟨L, hL⟩ : ∃ L, L = d.secs.length := ⟨_, rfl⟩
  have hd0 : DiskV w.heap.size w (.agg #[.slice p1 d.secs.length q1, .slice p2 d.loose.length q2, .int .i64 d.fuse, .bool d.down]) d := ⟨_, _, rfl, hs, hl⟩
  rw [← hL] at hd0 g1 ⊢
  obtain ⟨w2, hw2⟩ : ∃ w2, w2 = (w.alloc (.cells #[.slice p1 L q1, .slice p2 d.loose.length q2, .int .i64 d.fuse, .bool d.down] 25)).alloc (.cells #[.int .i64 l.half, .int .i64 l.gen, .int .i64 l.used, .int .i64 l.count] 27) := ⟨_, rfl⟩
  have hB : Below w.heap.size w w2 := by rw [hw2]; exact Below.alloc (Below.alloc (Below.refl _ _) (Nat.le_refl _) _) (by simp) _
  have G0 : w2.heap[w.heap.size]? = some (.cells #[.slice p1 L q1, .slice p2 d.loose.length q2, .int .i64 d.fuse, .bool d.down] 25 (0, 0)) := by rw [hw2]; exact heap_alloc2_old w _ _
  have G1 : w2.heap[w.heap.size + 1]? = some (.cells #[.int .i64 l.half, .int .i64 l.gen, .int .i64 l.used, .int .i64 l.count] 27 (0, 0)) := by rw [hw2]; exact heap_alloc2_new w _ _
  have kr := refRight5_any _ d l w2 (hd0.below hB)
  simp only [logV] at kr ⊢
  obtain ⟨R, hR⟩ : ∃ R, R = rightL d l := ⟨_, rfl⟩
  rw [← hR] at kr
  have HR := Lib.hid hR
  have HW := Lib.hid hw2
  have HL := Lib.hid hL
  clear hR hL hd0 hw2 hs hl
  have C0 := cell_of_row w2 _ 0 _ _ _ G0
  have C1 := cell_of_row w2 _ 1 _ _ _ G0
  have C2 := cell_of_row w2 _ 2 _ _ _ G0
  have C3 := cell_of_row w2 _ 3 _ _ _ G0
  have E0 := cell_of_row w2 _ 0 _ _ _ G1
  have E1 := cell_of_row w2 _ 1 _ _ _ G1
  have E2 := cell_of_row w2 _ 2 _ _ _ G1
  have E3 := cell_of_row w2 _ 3 _ _ _ G1
  go_enter Tryd.func17, Tryd.ntmps17
  go_upto_region 1 with (fail)
  rw [← HW.out]
  go_wp2_with fail
  refine kr.mono ?_
  rintro e w3 ⟨rfl, hb3⟩
  clear kr C0 C1 C2 C3 E0 E1 E2 E3
  have hbb := hB.trans (hb3.mono hB.size)
  cases R with
  | false =>
    have HF := Lib.hid (show roomP d l = 0 by unfold roomP; rw [← HR.out]; rfl)
    go_wp2_with fail
    go_ret
    exact ⟨by rw [HF.out]; rfl, hbb⟩
  | true =>
    have G0 := (hb3.block _ (block_lt G0)).trans G0
    have G1 := (hb3.block _ (block_lt G1)).trans G1
    have C0 := cell_of_row w3 _ 0 _ _ _ G0
    have E2 := cell_of_row w3 _ 2 _ _ _ G1
    obtain ⟨b1, b2, b3, b4, b5, b6, b7, b8⟩ := rightL_bounds HR.out.symm
    have HF := Lib.hid (show roomP d l = (L : Int) / 2 - l.used by
      unfold roomP
      rw [← HR.out]
      have e : ((half d : Nat) : Int) = (L : Int) / 2 := by unfold half; rw [← HL.out]; omega
      rw [← e]; rfl)
    have u0 : 0 ≤ l.used := by omega
    have u1 : l.used ≤ 5000 := by omega
    clear b1 b2 b3 b4 b5 b6 b7 b8
    go_wp2_with fail
    go_ret
    exact ⟨by rw [HF.out]; rfl, hbb⟩
end Go.Proofs.YtaijompnohkmaaaDoor
/- Layer 5 (wal), the document's answer: a disk that is written on, until a step fails: put, flush. -/
namespace Go.Proofs.YtaijompnohkmaaaDoor
open Go.RowKit WalP PackP
/-- A disk and its error, in block g. -/
def WorkAt (g : Nat) (w : World) (x : DiskP × Int) : Prop :=
  ∃ a0 n0 a1 n1, w.heap[g]? = some (.cells #[.slice a0 x.1.secs.length n0, .slice a1 x.1.loose.length n1, .int .i64 x.1.fuse, .bool x.1.down, .int .i64 x.2] 88 (0, 0)) ∧ DiskV w.heap.size w (.agg #[.slice a0 x.1.secs.length n0, .slice a1 x.1.loose.length n1, .int .i64 x.1.fuse, .bool x.1.down]) x.1
theorem WorkAt.below {g : Nat} {w w' : World} {x : DiskP × Int} (h : WorkAt g w x) (hb : Below w.heap.size w w') : WorkAt g w' x := by
  obtain ⟨a0, n0, a1, n1, h1, h2⟩ := h
  exact ⟨a0, n0, a1, n1, (hb.block _ (block_lt h1)).trans h1, (h2.below hb).tight⟩
/-- A step, unless one has failed. -/
def stepW (x : DiskP × Int) (y : Deed) : DiskP × Int := if x.2 = 0 then WalP.deed x.1 y else x
/-- Steps in a row are the run. -/
theorem stepW_run : ∀ (ys : List Deed) (x : DiskP × Int), ys.foldl stepW x = if x.2 = 0 then WalP.run x.1 ys else x
  | [], x => by
    simp only [List.foldl_nil, WalP.run]
    split
    · rename_i h; rw [← h]
    · rfl
  | y :: ys, x => by
    rw [List.foldl_cons, stepW_run ys]
    unfold stepW
    by_cases h : x.2 = 0
    · simp only [if_pos h, WalP.run]
    · simp only [if_neg h]
theorem put4_five {w : World} {h : Nat} {a0 b0 c0 d0 e0 : Value} {t : TypeId} {fr : Nat × Nat} (hh : w.heap[h]? = some (.cells #[a0, b0, c0, d0, e0] t fr)) (a b c d e : Value) : ((put4 w h a b c d).setCell ⟨h, 4, none⟩ e).heap[h]? = some (.cells #[a, b, c, d, e] t fr) := by
  simp [put4, World.setCell, Array.getElem?_modify, hh]
theorem put5_only {g : Nat} (w : World) (a b c d e : Value) : w.grownBy ((put4 w g a b c d).setCell ⟨g, 4, none⟩ e) (some g) := by
  have h := put4_only (g := g) w a b c d
  exact ⟨h.os, h.tape, h.output, by simp, fun k hk hne => by
    rw [setFar (fun e1 => hne (by rw [e1]))]
    exact h.block k hk hne⟩
/-- A step's disk and error are laid into the block. -/
theorem work_put {g : Nat} {w : World} {a0 b0 c0 d0 e0 y0 y1 y2 y3 : Value} {r : DiskP × Int} (hr : w.heap[g]? = some (.cells #[a0, b0, c0, d0, e0] 88 (0, 0))) (hd : DiskV w.heap.size w (.agg #[y0, y1, y2, y3]) r.1) : WorkAt g ((put4 w g y0 y1 y2 y3).setCell ⟨g, 4, none⟩ (.int .i64 r.2)) r := by
  obtain ⟨p1, q1, p2, q2, hv, _, _⟩ := hd.parts
  have hd' := (hd.kept (w' := (put4 w g y0 y1 y2 y3).setCell ⟨g, 4, none⟩ (.int .i64 r.2)) hr (by simp) (fun k hk => by rw [setFar (fun e1 => hk e1.symm)]; exact put4_other (Ne.symm hk) _ _ _ _)).tight
  simp only [Value.agg.injEq, Array.mk.injEq, List.cons.injEq] at hv
  obtain ⟨rfl, rfl, rfl, rfl, _⟩ := hv
  exact ⟨p1, q1, p2, q2, put4_five hr _ _ _ _ _, hd'⟩
set_option maxRecDepth 100000 in
set_option maxHeartbeats 4000000 in
theorem wflush_any {g : Nat} (x : DiskP × Int) (w : World) (hh : WorkAt g w x) :
    Calls Tryd.prog 46 #[.pointer (some ⟨g, 0, none⟩)] w fun e w' => e = .returned (.tuple #[]) ∧ WorkAt g w' (stepW x .flush) ∧ w.grownBy w' (some g) := by
  obtain ⟨d, e⟩ := x
  have HH := Lib.hid hh
  obtain ⟨a0, n0, a1, n1, hr, hd⟩ := hh
  dsimp only at hr hd
  have C0 := cell_of_row w _ 0 _ _ _ hr
  have C1 := cell_of_row w _ 1 _ _ _ hr
  have C2 := cell_of_row w _ 2 _ _ _ hr
  have C3 := cell_of_row w _ 3 _ _ _ hr
  have C4 := cell_of_row w _ 4 _ _ _ hr
  by_cases he : e = 0
  · subst he
    have kf := refflush_any _ d w hd
    obtain ⟨r, hrr⟩ : ∃ r, r = flushP d := ⟨_, rfl⟩
    rw [← hrr] at kf
    have HST := Lib.hid (show stepW (d, 0) .flush = r by rw [hrr]; rfl)
    clear hrr hd
    go_enter Tryd.func46, Tryd.ntmps46
    go_wp2_with fail
    refine kf.mono ?_
    rintro e w1 ⟨⟨v', rfl, hd1⟩, hb1⟩
    clear kf C0 C1 C2 C3 C4
    obtain ⟨y1, z1, y2, z2, rfl, _, _⟩ := hd1.parts
    have hr1 := (hb1.block _ (block_lt hr)).trans hr
    have C0 := cell_of_row w1 _ 0 _ _ _ hr1
    have C1 := cell_of_row w1 _ 1 _ _ _ hr1
    have C2 := cell_of_row w1 _ 2 _ _ _ hr1
    have C3 := cell_of_row w1 _ 3 _ _ _ hr1
    have C4 := cell_of_row w1 _ 4 _ _ _ hr1
    have Z := frozen_row hr1
    have HF := Lib.hid (work_put hr1 hd1)
    have HG := Lib.hid (only_trans (only_of_below (g := g) hb1) (put5_only w1 (.slice y1 r.1.secs.length z1) (.slice y2 r.1.loose.length z2) (.int .i64 r.1.fuse) (.bool r.1.down) (.int .i64 r.2)))
    clear hb1 hd1 hr hr1
    go_wp2_with fail
    go_end0
    exact ⟨rfl, by rw [HST.out]; exact HF.out, HG.out⟩
  · have q0 : (e == 0) = false := by simpa using he
    have HST := Lib.hid (show stepW (d, e) .flush = (d, e) by unfold stepW; rw [if_neg he])
    clear he hd hr
    go_enter Tryd.func46, Tryd.ntmps46
    go_wp2_with fail
    go_end0
    exact ⟨rfl, by rw [HST.out]; exact HH.out, only_of_below (Below.refl _ _)⟩
/-- A row that stays. -/
def RowIs (g : Nat) (o : Obj) (w : World) : Prop := w.heap[g]? = some o
set_option maxRecDepth 100000 in
set_option maxHeartbeats 4000000 in
theorem wput_any {g : Nat} (x : DiskP × Int) (at_ : Int) (s : List UInt8) (w : World) (hh : WorkAt g w x) (h64 : s.length = 64) :
    Calls Tryd.prog 47 #[.pointer (some ⟨g, 0, none⟩), .int .i64 at_, .agg (u8s s).toArray] w fun e w' => e = .returned (.tuple #[]) ∧ WorkAt g w' (stepW x (.put at_ s)) ∧ w.grownBy w' (some g) := by
  obtain ⟨d, e⟩ := x
  obtain ⟨X, hX⟩ : ∃ X, X = (u8s s).toArray := ⟨_, rfl⟩
  have hXs : X.size = 64 := by rw [hX]; simp [length_u8s, h64]
  obtain ⟨w1, hw1⟩ : ∃ w1, w1 = w.alloc (.cells X 73) := ⟨_, rfl⟩
  have hb1 : Below w.heap.size w w1 := by rw [hw1]; exact Below.alloc (Below.refl _ _) (Nat.le_refl _) _
  have hXr : w1.heap[w.heap.size]? = some (.cells X 73 (0, 0)) := by rw [hw1]; exact heap_alloc_new w _
  have hh1 := hh.below hb1
  have HH := Lib.hid hh1
  obtain ⟨a0, n0, a1, n1, hr, hd⟩ := hh1
  have hglt : g < w.heap.size := by obtain ⟨_, _, _, _, h, _⟩ := hh; exact block_lt h
  dsimp only at hr hd
  have C4 := cell_of_row w1 _ 4 _ _ _ hr
  have HW1 := Lib.hid hw1
  rw [← hX]
  by_cases he : e = 0
  · subst he
    have kf := refput_any _ d at_ s w1.drew (hd.below (below_draws (Below.refl _ _) 1)) h64
    obtain ⟨r, hrr⟩ : ∃ r, r = putP d at_ s := ⟨_, rfl⟩
    rw [← hrr, ← hX] at kf
    have HST := Lib.hid (show stepW (d, 0) (.put at_ s) = r by rw [hrr]; rfl)
    obtain ⟨i44, hi44, hs44⟩ := info44
    have hlX : ∀ w', RowIs w.heap.size (.cells X 73 (0, 0)) w' → (loadVar 73 ⟨w.heap.size, 0, none⟩).run Tryd.prog w' = .ok (.agg X) w' := fun w' h => run_loadVar_row (P := Tryd.prog) w' w.heap.size 73 73 X (0, 0) _ h Tryd.underlying73 rfl (by rw [hXs]; exact size_sector)
    obtain ⟨i25, hi25, hs25⟩ := info_disk
    have hlD := run_load_big (P := Tryd.prog) (t := 25) Tryd.underlying25 (.inr ⟨_, rfl⟩) hi25 (w := w1.drew) (b := g) (off := 0) (cs := [.slice a0 d.secs.length n0, .slice a1 d.loose.length n1, .int .i64 d.fuse, .bool d.down]) hs25 rfl
      (fun j u hj => by
        show w1.cell? _ = _
        rw [Nat.zero_add, cell_of_row w1 _ j _ _ _ hr]
        match j, hj with
        | 0, hj => simpa using hj
        | 1, hj => simpa using hj
        | 2, hj => simpa using hj
        | 3, hj => simpa using hj
        | n + 4, hj => simp at hj)
    have s0 : RowIs w.heap.size (.cells X 73 (0, 0)) w1.drew := hXr
    have hb0 : Below w1.heap.size w1 w1.drew := below_draws (Below.refl _ _) 1
    have hrd : w1.drew.heap[g]? = _ := hr
    have HB1 := Lib.hid hb1
    have HB0 := Lib.hid hb0
    clear hrr hd hi44 hs44 hi25 hs25 hX hXs hh hw1 hb1 hb0 hXr h64
    go_enter Tryd.func47, Tryd.ntmps47
    go_upto_region 1 with (fail)
    rw [← HW1.out]
    go_upto_region 2 with (fail)
    clear C4
    refine wp_region_I [(false, 0), (false, 1), (false, 2), (false, 3), (false, 4), (false, 6), (false, 7), (true, 5), (true, 8), (false, 9), (false, 10), (false, 11), (false, 12), (false, 13), (true, 14), (false, 15), (false, 16), (true, 17)] (RowIs w.heap.size (.cells X 73 (0, 0))) (by kernel_rfl) (by kernel_rfl) s0 ?_
    iterate 6 (first | (refine heldI_skip rfl rfl ?_; simp only [Act.put, List.setIfInBounds_toArray, List.set_cons_zero, List.set_cons_succ]) | (refine heldI_take rfl ?_ rfl (fun w' hw' => ?_) ?_; rotate_left; (go_simp; first | done | with_reducible rfl); (try simp only [Act.put, List.setIfInBounds_toArray, List.set_cons_zero, List.set_cons_succ])))
    refine heldI_load rfl (.tmp 5) 73 rfl rfl rfl hlX ?_
    simp only [Act.put, List.setIfInBounds_toArray, List.set_cons_zero, List.set_cons_succ]
    refine heldI_act rfl rfl fun K hK => ?_
    refine op_load (.tmp 16) 25 rfl rfl hlD ?_
    refine hK.out _ _ s0 ?_
    clear hK K hlD hlX
    simp only [Act.put, List.setIfInBounds_toArray, List.set_cons_zero, List.set_cons_succ]
    refine heldI_act rfl rfl fun K hK => ?_
    go_simp
    refine kf.mono ?_
    rintro e w2 ⟨⟨v', rfl, hd2⟩, hb2⟩
    have s2 : RowIs w.heap.size (.cells X 73 (0, 0)) w2 := (hb2.block _ (block_lt s0)).trans s0
    refine hK.out _ _ s2 ?_
    clear hK K kf
    obtain ⟨y1, z1, y2, z2, rfl, _, _⟩ := hd2.parts
    have hr2 := (hb2.block _ (block_lt hrd)).trans hrd
    repeat (first | (refine heldI_skip rfl rfl ?_; simp only [Act.put, List.setIfInBounds_toArray, List.set_cons_zero, List.set_cons_succ]) | (refine heldI_take rfl ?_ rfl (fun w' hw' => ?_) ?_; rotate_left; (go_simp; first | done | with_reducible rfl); (try simp only [Act.put, List.setIfInBounds_toArray, List.set_cons_zero, List.set_cons_succ])))
    have C0 := cell_of_row w2 _ 0 _ _ _ hr2
    have C1 := cell_of_row w2 _ 1 _ _ _ hr2
    have C2 := cell_of_row w2 _ 2 _ _ _ hr2
    have C3 := cell_of_row w2 _ 3 _ _ _ hr2
    have Z := frozen_row hr2
    obtain ⟨w3, hw3⟩ : ∃ w3, w3 = put4 w2 g (.slice y1 r.1.secs.length z1) (.slice y2 r.1.loose.length z2) (.int .i64 r.1.fuse) (.bool r.1.down) := ⟨_, rfl⟩
    have s3 : RowIs w.heap.size (.cells X 73 (0, 0)) w3 := by rw [hw3]; exact (put4_other (by omega) _ _ _ _).trans s2
    have hr3 : w3.heap[g]? = some (.cells #[.slice y1 r.1.secs.length z1, .slice y2 r.1.loose.length z2, .int .i64 r.1.fuse, .bool r.1.down, .int .i64 0] 88 (0, 0)) := by
      rw [hw3]; simp [put4, World.setCell, Array.getElem?_modify, hr2]
    have HF := Lib.hid (show WorkAt g (w3.setCell ⟨g, 4, none⟩ (.int .i64 r.2)) r by rw [hw3]; exact work_put hr2 hd2)
    have HG := Lib.hid (show w.grownBy (w3.setCell ⟨g, 4, none⟩ (.int .i64 r.2)) (some g) by
      rw [hw3]
      exact only_trans (only_of_below (HB1.out.trans ((HB0.out.trans (hb2.mono (Nat.le_refl _))).mono HB1.out.size))) (put5_only w2 _ _ _ _ _))
    have s4 : RowIs w.heap.size (.cells X 73 (0, 0)) (w3.setCell ⟨g, 4, none⟩ (.int .i64 r.2)) := (setFar (by omega) _ _).trans s3
    dsimp only [put4] at hw3
    have HW3 := Lib.hid hw3
    clear hw3 hd2 hb2 hr2
    refine heldI_act rfl rfl fun K hK => ?_
    go_simp
    rw [← HW3.out]
    refine hK.out _ _ s3 ?_
    clear hK K C0 C1 C2 C3 Z
    repeat (first | (refine heldI_skip rfl rfl ?_; simp only [Act.put, List.setIfInBounds_toArray, List.set_cons_zero, List.set_cons_succ]) | (refine heldI_take rfl ?_ rfl (fun w' hw' => ?_) ?_; rotate_left; (go_simp; first | done | with_reducible rfl); (try simp only [Act.put, List.setIfInBounds_toArray, List.set_cons_zero, List.set_cons_succ])))
    have C4 := cell_of_row w3 _ 4 _ _ _ hr3
    have Z := frozen_row hr3
    clear hr3
    refine heldI_act rfl rfl fun K hK => ?_
    go_simp
    refine hK.out _ _ s4 ?_
    clear hK K C4 Z
    refine heldI_nil ?_
    go_wp2_with fail
    go_end0
    exact ⟨rfl, by rw [HST.out]; exact HF.out, HG.out⟩
  · have q0 : (e == 0) = false := by simpa using he
    have HST := Lib.hid (show stepW (d, e) (.put at_ s) = (d, e) by unfold stepW; rw [if_neg he])
    have HB1 := Lib.hid hb1
    clear he hd hr hb1 hXr hh hX hw1 hXs
    go_enter Tryd.func47, Tryd.ntmps47
    go_upto_region 1 with (fail)
    rw [← HW1.out]
    go_wp2_with fail
    go_end0
    exact ⟨rfl, by rw [HST.out]; exact HH.out, only_of_below HB1.out⟩
end Go.Proofs.YtaijompnohkmaaaDoor
/- Layer 1 (sector), the document's answer: Read. -/
namespace Go.Proofs.YtaijompnohkmaaaDoor
open Go.RowKit
theorem looseAt {B : Nat} {w : World} {a : Option Addr} {n c : Nat} {ss : List WriteP} (h : Loose B w (.slice a n c) ss) {k : Nat} (hk : k < ss.length) :
    ∃ b off, a = some ⟨b, off, none⟩ ∧ b < B ∧ n = ss.length ∧ n ≤ c ∧ c ≤ 2 ^ 63 - 1 ∧ ∀ w', (∀ p : Addr, p.block < B → w'.cell? p = w.cell? p) → w'.cell? ⟨b, off + k * 65, none⟩ = some (.int .i64 ss[k].at_) ∧ (loadVar 73 ⟨b, off + k * 65 + 1, none⟩).run Tryd.prog w' = .ok (.agg (u8s ss[k].data).toArray) w' := by
  obtain ⟨h64, _, a', cap, hv, hnc, hcap, hcells⟩ := h
  cases hv
  obtain ⟨b, off, rfl, hBb, hc⟩ := hcells (by omega)
  obtain ⟨i44, hi44, hs44⟩ := info44
  have hat := flat_at wcells 65 ss (fun x hx => by rw [length_wcells, h64 x hx]) k ss[k] (List.getElem?_eq_getElem hk)
  refine ⟨b, off, rfl, hBb, rfl, hnc, hcap, fun w' hw => ⟨?_, ?_⟩⟩
  · exact (hw ⟨b, off + k * 65, none⟩ hBb).trans (hc _ _ (hat 0 (.int .i64 ss[k].at_) (by simp [wcells])))
  · exact run_load_big (P := Tryd.prog) (t := 73) Tryd.underlying73 (.inl ⟨_, _, rfl⟩) hi44 (w := w') (b := b) (off := off + k * 65 + 1) (cs := u8s ss[k].data) hs44 (by rw [length_u8s, h64 _ (List.getElem_mem hk)])
      (fun j u hj => by
        have e : off + k * 65 + 1 + j = off + (k * 65 + (j + 1)) := by omega
        rw [e]
        exact (hw ⟨b, off + (k * 65 + (j + 1)), none⟩ hBb).trans (hc _ _ (hat (j + 1) u (by simpa [wcells] using hj))))
theorem zeroA : ∀ w, (zeroValue 73).run Tryd.prog w = .ok (.agg (Array.replicate 64 (.int .u8 0))) w ∧ (Instr.build 73 #[]).run Tryd.prog w = .ok (.agg (Array.replicate 64 (.int .u8 0))) w := by
  have h : (Tryd.prog.info? 73).bind (fun i => i.zero) = some (.agg (Array.replicate 64 (.int .u8 0))) := by kernel_rfl
  obtain ⟨i, hi, hz⟩ := Option.bind_eq_some_iff.1 h
  intro w
  have hzv : (zeroValue 73).run Tryd.prog w = .ok (.agg (Array.replicate 64 (.int .u8 0))) w := by simp [zeroValue, typeInfo, hi, hz]
  refine ⟨hzv, ?_⟩
  simp [Instr.build, hzv, run_underlying Tryd.underlying73, Instr.fill, cells_agg]
theorem zeroS_cells : (u8s zeroS).toArray = Array.replicate 64 (.int .u8 0) := by rfl
theorem lastW_take {ls : List WriteP} {a : Int} {s : List UInt8} {k : Nat} (hk : k < ls.length) : lastW (ls.take (k + 1)) a s = if ls[k].at_ = a then ls[k].data else lastW (ls.take k) a s := by
  have e : ls.take (k + 1) = ls.take k ++ [ls[k]] := by rw [List.take_add_one, List.getElem?_eq_getElem hk]; rfl
  rw [e]
  unfold lastW
  rw [List.foldl_append]
  rfl
theorem lastW_64 (at_ : Int) : ∀ (ls : List WriteP) (s : List UInt8), (∀ x ∈ ls, x.data.length = 64) → s.length = 64 → (lastW ls at_ s).length = 64
  | [], _, _, h => h
  | x :: ls, s, h, hs => by
    unfold lastW
    rw [List.foldl_cons]
    refine lastW_64 at_ ls _ (fun y hy => h y (List.mem_cons_of_mem _ hy)) ?_
    split
    · exact h x (List.mem_cons_self ..)
    · exact hs
/-- What Read's own blocks hold, in the loop. -/
structure RR (w : World) (Z : Array Value) (L n1 : Nat) (a1 a2 : Option Addr) (M n2 : Nat) (f : Int) (g6 : Nat) (x : List UInt8) (wr : World) : Prop where
  below : Below w.heap.size w wr
  g0 : wr.heap[w.heap.size]? = some (.cells #[.slice a1 L n1, .slice a2 M n2, .int .i64 f, .bool false] 25 (0, 0))
  g1 : wr.heap[w.heap.size + 1]? = some (.cells Z 73 (0, 0))
  g6 : wr.heap[g6]? = some (.cells (u8s x).toArray 73 (0, 0))
set_option maxRecDepth 100000 in
set_option maxHeartbeats 8000000 in
theorem refread_any {B : Nat} (v : Value) (d : DiskP) (at_ : Int) (w : World) (h : DiskV B w v d) :
    Calls Tryd.prog 83 #[v, .int .i64 at_] w fun e w' => e = .returned (.tuple #[.agg (u8s (readP d at_).1).toArray, .int .i64 (readP d at_).2]) ∧ Below w.heap.size w w' := by
  obtain ⟨Z, hZ⟩ : ∃ Z : Array Value, Z = Array.replicate 64 (.int .u8 0) := ⟨_, rfl⟩
  have HZZ := Lib.hid (show ∀ w, (zeroValue 73).run Tryd.prog w = .ok (.agg Z) w ∧ (Instr.build 73 #[]).run Tryd.prog w = .ok (.agg Z) w by rw [hZ]; exact zeroA)
  have HZC := Lib.hid (show (u8s zeroS).toArray = Z by rw [hZ]; exact zeroS_cells)
  have HZS := Lib.hid (show Z.size = 64 by rw [hZ]; simp)
  have HZO := Lib.hid (show ∀ v ∈ Z.toList, v.oneCell' = true by rw [hZ]; intro v hv; rw [Array.toList_replicate] at hv; rw [(List.mem_replicate.1 hv).2]; rfl)
  clear hZ
  obtain ⟨a1, n1, a2, n2, rfl, hs, hl⟩ := h.tight.parts
  clear h
  have p3 := hs.2.2
  have p4 := hl.2.2
  obtain ⟨_, _, hv, g1, g2, _⟩ := p3
  cases hv
  obtain ⟨_, _, hv, g3, g4, _⟩ := p4
  cases hv
  unfold maxLen at g2 g4
  obtain ⟨L, hL⟩ : ∃ L, L = d.secs.length := ⟨_, rfl⟩
  obtain ⟨M, hM⟩ : ∃ M, M = d.loose.length := ⟨_, rfl⟩
  obtain ⟨dn, hdn⟩ : ∃ b, b = d.down := ⟨_, rfl⟩
  rw [← hL] at hs g1 ⊢
  rw [← hM] at hl g3 ⊢
  rw [← hdn]
  obtain ⟨w1, hw1⟩ : ∃ w1, w1 = w.alloc (.cells #[.slice a1 L n1, .slice a2 M n2, .int .i64 d.fuse, .bool dn] 25) := ⟨_, rfl⟩
  obtain ⟨w2, hw2⟩ : ∃ w2, w2 = w1.alloc (.cells (Value.agg Z).cells 73) := ⟨_, rfl⟩
  have hb1 : Below w.heap.size w w1 := by rw [hw1]; exact Below.alloc (Below.refl _ _) (Nat.le_refl _) _
  have hs1 : w1.heap.size = w.heap.size + 1 := by rw [hw1]; simp
  have hb2 : Below w1.heap.size w1 w2 := by rw [hw2]; exact Below.alloc (Below.refl _ _) (Nat.le_refl _) _
  have G0 : w2.heap[w.heap.size]? = some (.cells #[.slice a1 L n1, .slice a2 M n2, .int .i64 d.fuse, .bool dn] 25 (0, 0)) := (hb2.block _ (by omega)).trans (by rw [hw1]; exact heap_alloc_new w _)
  have G1 : w2.heap[w.heap.size + 1]? = some (.cells Z 73 (0, 0)) := by rw [hw2, ← hs1]; exact heap_alloc_new w1 _
  have hbb := hb1.trans (hb2.mono hb1.size)
  have hs2 : w2.heap.size = w.heap.size + 2 := by rw [hw2]; simp [hs1]
  have HS := Lib.hid hs
  have HL := Lib.hid hl
  have HLL := Lib.hid hL
  have HMM := Lib.hid hM
  have HDN := Lib.hid hdn
  have HW1 := Lib.hid hw1
  have HW2 := Lib.hid hw2
  have HS1 := Lib.hid hs1
  have k1 := refright_any _ d w2 (show DiskV w.heap.size w2 (.agg #[.slice a1 L n1, .slice a2 M n2, .int .i64 d.fuse, .bool dn]) d from ⟨_, _, by rw [hdn], hs.below hbb, hl.below hbb⟩)
  obtain ⟨R, hR⟩ : ∃ R, R = rightB d := ⟨_, rfl⟩
  rw [← hR] at k1
  have HR := Lib.hid hR
  have C0 := cell_of_row w2 _ 0 _ _ _ G0
  have C1 := cell_of_row w2 _ 1 _ _ _ G0
  have C2 := cell_of_row w2 _ 2 _ _ _ G0
  have C3 := cell_of_row w2 _ 3 _ _ _ G0
  clear hs hl hL hM hdn hw1 hw2 hs1 hb1 hb2 hR
  cases R with
  | false =>
    go_enter Tryd.func83, Tryd.ntmps83
    go_wp2_with (with_reducible refine wp_alloc_to (w' := w2) 73 rfl rfl (HZZ.out _).1 (by rw [← HW1.out]; exact HW2.out) ?_; refine Halt.in ?_)
    refine Halt.out ?_
    go_wp2_with fail
    refine k1.mono ?_
    rintro e w3 ⟨rfl, hb3⟩
    clear k1 C0 C1 C2 C3
    have G0 := (hb3.block _ (block_lt G0)).trans G0
    have G1 := (hb3.block _ (block_lt G1)).trans G1
    have hbb := hbb.trans (hb3.mono hbb.size)
    have hs3 : w.heap.size + 2 ≤ w3.heap.size := by have := hb3.size; omega
    clear hb3 hs2
    have C0 := cell_of_row w3 _ 0 _ _ _ G0
    have C1 := cell_of_row w3 _ 1 _ _ _ G0
    have C2 := cell_of_row w3 _ 2 _ _ _ G0
    have C3 := cell_of_row w3 _ 3 _ _ _ G0
    have hbz := (HZZ.out w3).2
    obtain ⟨w4, hst, G4, hb4, _, _, _⟩ := store64 G1 HZS.out Z HZS.out HZO.out
    have HF := Lib.hid (show readP d at_ = (zeroS, 1) from by unfold readP; rw [← HR.out]; rfl)
    have HBB := Lib.hid (hbb.trans (hb4.mono (Nat.le_succ _)))
    have HG4 := Lib.hid G4
    clear hb4 G4 hbb G0 G1
    go_wp2_with (refine wp_build_l (L' := []) 73 [] rfl rfl rfl hbz ?_; clear hbz; refine Halt.in ?_)
    refine Halt.out ?_
    refine wp_store_at (.tmp 4) (.tmp 22) 73 rfl rfl rfl rfl hst ?_
    clear hst
    go_wp2_with fail
    refine bodyPost_ret (results_ct rfl _ _ (w.heap.size + 1) _ _ _ _ rfl HG4.out Tryd.underlying73 rfl (by rw [HZS.out]; exact size_sector)) rfl ?_
    rw [HF.out, HZC.out]
    exact ⟨rfl, HBB.out⟩
  | true =>
    by_cases h0 : at_ < 0
    · have q0 : decide (at_ < 0) = true := by simpa using h0
      have ht : thereB d at_ = false := by unfold thereB; rw [decide_eq_false (show ¬ 0 ≤ at_ by omega)]; rfl
      have HTH := Lib.hid ht
      clear ht
      go_enter Tryd.func83, Tryd.ntmps83
      go_wp2_with (with_reducible refine wp_alloc_to (w' := w2) 73 rfl rfl (HZZ.out _).1 (by rw [← HW1.out]; exact HW2.out) ?_; refine Halt.in ?_)
      refine Halt.out ?_
      go_wp2_with fail
      refine k1.mono ?_
      rintro e w3 ⟨rfl, hb3⟩
      clear k1 C0 C1 C2 C3
      have G0 := (hb3.block _ (block_lt G0)).trans G0
      have G1 := (hb3.block _ (block_lt G1)).trans G1
      have hbb := hbb.trans (hb3.mono hbb.size)
      have hs3 : w.heap.size + 2 ≤ w3.heap.size := by have := hb3.size; omega
      clear hb3 hs2
      have C0 := cell_of_row w3 _ 0 _ _ _ G0
      have C1 := cell_of_row w3 _ 1 _ _ _ G0
      have C2 := cell_of_row w3 _ 2 _ _ _ G0
      have C3 := cell_of_row w3 _ 3 _ _ _ G0
      have hbz := (HZZ.out w3).2
      obtain ⟨w4, hst, G4, hb4, _, _, _⟩ := store64 G1 HZS.out Z HZS.out HZO.out
      have HF := Lib.hid (show readP d at_ = (zeroS, 1) from by unfold readP; rw [← HR.out, HTH.out]; rfl)
      have HBB := Lib.hid (hbb.trans (hb4.mono (Nat.le_succ _)))
      have HG4 := Lib.hid G4
      clear hb4 G4 hbb G0 G1
      go_wp2_with (refine wp_build_l (L' := []) 73 [] rfl rfl rfl hbz ?_; clear hbz; refine Halt.in ?_)
      refine Halt.out ?_
      refine wp_store_at (.tmp 4) (.tmp 22) 73 rfl rfl rfl rfl hst ?_
      clear hst
      go_wp2_with fail
      refine bodyPost_ret (results_ct rfl _ _ (w.heap.size + 1) _ _ _ _ rfl HG4.out Tryd.underlying73 rfl (by rw [HZS.out]; exact size_sector)) rfl ?_
      rw [HF.out, HZC.out]
      exact ⟨rfl, HBB.out⟩
    obtain ⟨k, rfl⟩ := Int.eq_ofNat_of_zero_le (show 0 ≤ at_ by omega)
    clear h0
    have q0 : decide ((k : Int) < 0) = false := by simp
    by_cases hkL : k < L
    rotate_left
    · have q1 : decide ((L : Int) ≤ (k : Int)) = true := by simp; omega
      have ht : thereB d (k : Int) = false := by unfold thereB; rw [← HLL.out, decide_eq_false (show ¬ (k : Int) < L by omega), Bool.and_false]
      have HTH := Lib.hid ht
      clear ht
      go_enter Tryd.func83, Tryd.ntmps83
      go_wp2_with (with_reducible refine wp_alloc_to (w' := w2) 73 rfl rfl (HZZ.out _).1 (by rw [← HW1.out]; exact HW2.out) ?_; refine Halt.in ?_)
      refine Halt.out ?_
      go_wp2_with fail
      refine k1.mono ?_
      rintro e w3 ⟨rfl, hb3⟩
      clear k1 C0 C1 C2 C3
      have G0 := (hb3.block _ (block_lt G0)).trans G0
      have G1 := (hb3.block _ (block_lt G1)).trans G1
      have hbb := hbb.trans (hb3.mono hbb.size)
      have hs3 : w.heap.size + 2 ≤ w3.heap.size := by have := hb3.size; omega
      clear hb3 hs2
      have C0 := cell_of_row w3 _ 0 _ _ _ G0
      have C1 := cell_of_row w3 _ 1 _ _ _ G0
      have C2 := cell_of_row w3 _ 2 _ _ _ G0
      have C3 := cell_of_row w3 _ 3 _ _ _ G0
      have hbz := (HZZ.out w3).2
      obtain ⟨w4, hst, G4, hb4, _, _, _⟩ := store64 G1 HZS.out Z HZS.out HZO.out
      have HF := Lib.hid (show readP d (k : Int) = (zeroS, 1) from by unfold readP; rw [← HR.out, HTH.out]; rfl)
      have HBB := Lib.hid (hbb.trans (hb4.mono (Nat.le_succ _)))
      have HG4 := Lib.hid G4
      clear hb4 G4 hbb G0 G1
      go_wp2_with (refine wp_build_l (L' := []) 73 [] rfl rfl rfl hbz ?_; clear hbz; refine Halt.in ?_)
      refine Halt.out ?_
      refine wp_store_at (.tmp 4) (.tmp 22) 73 rfl rfl rfl rfl hst ?_
      clear hst
      go_wp2_with fail
      refine bodyPost_ret (results_ct rfl _ _ (w.heap.size + 1) _ _ _ _ rfl HG4.out Tryd.underlying73 rfl (by rw [HZS.out]; exact size_sector)) rfl ?_
      rw [HF.out, HZC.out]
      exact ⟨rfl, HBB.out⟩
    have q1 : decide ((L : Int) ≤ (k : Int)) = false := by simp; omega
    have ht : thereB d (k : Int) = true := by unfold thereB; rw [← HLL.out, decide_eq_true (show (k : Int) < L by omega), decide_eq_true (show (0 : Int) ≤ k by omega)]; rfl
    have HTH := Lib.hid ht
    clear ht
    cases dn with
    | true =>
      go_enter Tryd.func83, Tryd.ntmps83
      go_wp2_with (with_reducible refine wp_alloc_to (w' := w2) 73 rfl rfl (HZZ.out _).1 (by rw [← HW1.out]; exact HW2.out) ?_; refine Halt.in ?_)
      refine Halt.out ?_
      go_wp2_with fail
      refine k1.mono ?_
      rintro e w3 ⟨rfl, hb3⟩
      clear k1 C0 C1 C2 C3
      have G0 := (hb3.block _ (block_lt G0)).trans G0
      have G1 := (hb3.block _ (block_lt G1)).trans G1
      have hbb := hbb.trans (hb3.mono hbb.size)
      have hs3 : w.heap.size + 2 ≤ w3.heap.size := by have := hb3.size; omega
      clear hb3 hs2
      have C0 := cell_of_row w3 _ 0 _ _ _ G0
      have C1 := cell_of_row w3 _ 1 _ _ _ G0
      have C2 := cell_of_row w3 _ 2 _ _ _ G0
      have C3 := cell_of_row w3 _ 3 _ _ _ G0
      have hbz := (HZZ.out w3).2
      obtain ⟨w4, hst, G4, hb4, _, _, _⟩ := store64 G1 HZS.out Z HZS.out HZO.out
      have HF := Lib.hid (show readP d (k : Int) = (zeroS, 9) from by unfold readP; rw [← HR.out, HTH.out, ← HDN.out]; rfl)
      have HBB := Lib.hid (hbb.trans (hb4.mono (Nat.le_succ _)))
      have HG4 := Lib.hid G4
      clear hb4 G4 hbb G0 G1
      go_wp2_with (refine wp_build_l (L' := []) 73 [] rfl rfl rfl hbz ?_; clear hbz; refine Halt.in ?_)
      refine Halt.out ?_
      refine wp_store_at (.tmp 4) (.tmp 25) 73 rfl rfl rfl rfl hst ?_
      clear hst
      go_wp2_with fail
      refine bodyPost_ret (results_ct rfl _ _ (w.heap.size + 1) _ _ _ _ rfl HG4.out Tryd.underlying73 rfl (by rw [HZS.out]; exact size_sector)) rfl ?_
      rw [HF.out, HZC.out]
      exact ⟨rfl, HBB.out⟩
    | false =>
      have hkd : k < d.secs.length := HLL.out ▸ hkL
      have hk0 : (0 : Int) ≤ (k : Int) := by omega
      have hk1 : (k : Int) < (L : Int) := by omega
      obtain ⟨s, hsk⟩ : ∃ s, s = d.secs[k] := ⟨_, rfl⟩
      have hs64 : s.length = 64 := by rw [hsk]; exact HS.out.1 _ (List.getElem_mem hkd)
      have HF := Lib.hid (show readP d (k : Int) = (lastW d.loose (k : Int) s, 0) by unfold readP; rw [← HR.out, HTH.out, ← HDN.out, hsk]; simp [hkd])
      obtain ⟨bs, os, rfl, hBs, e1, _, _, hlS⟩ := load_sec HS.out hkd
      rw [← hsk] at hlS
      have HLS := Lib.hid hlS
      have HS64 := Lib.hid hs64
      clear e1 hsk hs64 hlS
      go_enter Tryd.func83, Tryd.ntmps83
      go_wp2_with (with_reducible refine wp_alloc_to (w' := w2) 73 rfl rfl (HZZ.out _).1 (by rw [← HW1.out]; exact HW2.out) ?_; refine Halt.in ?_)
      refine Halt.out ?_
      go_wp2_with fail
      refine k1.mono ?_
      rintro e w3 ⟨rfl, hb3⟩
      clear k1 C0 C1 C2 C3
      have G0 := (hb3.block _ (block_lt G0)).trans G0
      have G1 := (hb3.block _ (block_lt G1)).trans G1
      have hbb := hbb.trans (hb3.mono hbb.size)
      have hs3 : w.heap.size + 2 ≤ w3.heap.size := by have := hb3.size; omega
      clear hb3 hs2
      have C0 := cell_of_row w3 _ 0 _ _ _ G0
      have C1 := cell_of_row w3 _ 1 _ _ _ G0
      have C2 := cell_of_row w3 _ 2 _ _ _ G0
      have C3 := cell_of_row w3 _ 3 _ _ _ G0
      have hld := HLS.out w3 (fun p hp => hbb.cell hp)
      obtain ⟨w4, hw4⟩ : ∃ w4, w4 = w3.alloc (.cells (Value.agg Z).cells 73) := ⟨_, rfl⟩
      have hb4 : Below w3.heap.size w3 w4 := by rw [hw4]; exact Below.alloc (Below.refl _ _) (Nat.le_refl _) _
      obtain ⟨g6, hg6⟩ : ∃ g, g = w3.heap.size := ⟨_, rfl⟩
      have G6 : w4.heap[g6]? = some (.cells Z 73 (0, 0)) := by rw [hw4, hg6]; exact heap_alloc_new w3 _
      have G0 := (hb4.block _ (block_lt G0)).trans G0
      have G1 := (hb4.block _ (block_lt G1)).trans G1
      have hbb := hbb.trans (hb4.mono hbb.size)
      have hle6 : w.heap.size + 2 ≤ g6 := by rw [hg6]; exact hs3
      obtain ⟨w5, hst, G6', hb5, _, hk5, _⟩ := store64 G6 HZS.out (u8s s).toArray (by simp [length_u8s, HS64.out]) (oneCell_u8s _)
      have G0 := (hk5 w.heap.size (by omega)).trans G0
      have G1 := (hk5 (w.heap.size + 1) (by omega)).trans G1
      have hbb := hbb.trans (hb5.mono (by omega))
      have HW4 := Lib.hid hw4
      have HG6 := Lib.hid hg6
      have HI := Lib.hid (show RR w Z L n1 (some ⟨bs, os, none⟩) a2 M n2 d.fuse g6 (lastW (d.loose.take 0) (k : Int) s) w5 from ⟨hbb, G0, G1, G6'⟩)
      clear hw4 hg6 hb4 hb5 hk5 hbb G0 G1 G6 G6' hs3
      go_wp2_with (refine wp_load_at (.tmp 29) 73 rfl rfl rfl hld ?_; clear hld; refine Halt.in ?_)
      refine Halt.out ?_
      refine wp_alloc_to (w' := w4) 73 rfl rfl (HZZ.out _).1 HW4.out ?_
      rw [← HG6.out]
      refine wp_store_at (.tmp 6) (.tmp 30) 73 rfl rfl rfl rfl hst ?_
      clear hst C0 C1 C2 C3
      go_wp2_with fail
      go_loopw [7] (fun i wr => ∃ j : Nat, j ≤ M ∧ i = .int .i64 j ∧ RR w Z L n1 (some ⟨bs, os, none⟩) a2 M n2 d.fuse g6 (lastW (d.loose.take j) (k : Int) s) wr) (fun i _ => M - (intOf i).toNat)
      case atStart => exact ⟨0, Nat.zero_le _, rfl, HI.out⟩
      case round =>
        obtain ⟨j, hj, rfl, hbb, G0, G1, G6⟩ := hrel
        have hln : (lastW (d.loose.take j) (k : Int) s).length = 64 := lastW_64 _ _ _ (fun x hx => HL.out.1 x (List.mem_of_mem_take hx)) HS64.out
        have C1 := cell_of_row wr _ 1 _ _ _ G0
        by_cases hjM : j < M
        · have hjd : j < d.loose.length := HMM.out ▸ hjM
          have j0 : decide ((j : Int) < (M : Int)) = true := by simp; omega
          have j1 : (0 : Int) ≤ (j : Int) := by omega
          have j2 : (j : Int) < (M : Int) := by omega
          obtain ⟨bb, off, rfl, hBb, e1, _, _, hlA⟩ := looseAt HL.out hjd
          obtain ⟨hc, hld⟩ := hlA wr (fun p hp => hbb.cell hp)
          have htk := lastW_take (a := (k : Int)) (s := s) hjd
          obtain ⟨z, hz⟩ : ∃ z, z = d.loose[j].at_ := ⟨_, rfl⟩
          obtain ⟨y, hy⟩ : ∃ y, y = d.loose[j].data := ⟨_, rfl⟩
          have hy64 : y.length = 64 := by rw [hy]; exact HL.out.1 _ (List.getElem_mem hjd)
          rw [← hz] at hc htk
          rw [← hy] at hld htk
          have HTK := Lib.hid htk
          clear e1 hlA htk hz hy
          by_cases hzk : z = (k : Int)
          · have q5 : (z == (k : Int)) = true := by simpa using hzk
            obtain ⟨w6, hst, G6', hb6, _, hk6, _⟩ := store64 G6 (by simp [length_u8s, hln]) (u8s y).toArray (by simp [length_u8s, hy64]) (oneCell_u8s _)
            have HI := Lib.hid (show RR w Z L n1 (some ⟨bs, os, none⟩) (some ⟨bb, off, none⟩) M n2 d.fuse g6 (lastW (d.loose.take (j + 1)) (k : Int) s) w6 by
              rw [HTK.out, if_pos hzk]
              exact ⟨hbb.trans (hb6.mono (by omega)), (hk6 _ (by omega)).trans G0, (hk6 _ (by omega)).trans G1, G6'⟩)
            clear hzk hbb G0 G1 G6 G6' hb6 hk6 hln
            go_wp2_with (refine wp_load_at (.tmp 50) 73 rfl rfl rfl hld ?_; clear hld; refine Halt.in ?_)
            refine Halt.out ?_
            refine wp_store_at (.tmp 6) (.tmp 51) 73 rfl rfl rfl rfl hst ?_
            clear hst C1 hc
            go_wp2_with fail
            go_roundw
            case rel => exact ⟨j + 1, by omega, by go_num, HI.out⟩
            case measure => simp [intOf]; omega
          · have q5 : (z == (k : Int)) = false := by simpa using hzk
            have HI := Lib.hid (show RR w Z L n1 (some ⟨bs, os, none⟩) (some ⟨bb, off, none⟩) M n2 d.fuse g6 (lastW (d.loose.take (j + 1)) (k : Int) s) wr by
              rw [HTK.out, if_neg hzk]
              exact ⟨hbb, G0, G1, G6⟩)
            clear hzk hbb G0 G1 G6 hln hld
            go_wp2_with fail
            go_roundw
            case rel => exact ⟨j + 1, by omega, by go_num, HI.out⟩
            case measure => simp [intOf]; omega
        · have j0 : decide ((j : Int) < (M : Int)) = false := by simp; omega
          have hje : lastW (d.loose.take j) (k : Int) s = lastW d.loose (k : Int) s := by rw [List.take_of_length_le (by rw [← HMM.out]; omega)]
          rw [hje] at G6 hln
          have hld := run_loadVar_row (P := Tryd.prog) wr g6 73 73 (u8s (lastW d.loose (k : Int) s)).toArray (0, 0) _ G6 Tryd.underlying73 rfl (by simp only [List.size_toArray, length_u8s, hln]; exact size_sector)
          obtain ⟨w6, hst, G4, hb6, _, hk6, _⟩ := store64 G1 HZS.out (u8s (lastW d.loose (k : Int) s)).toArray (by simp [length_u8s, hln]) (oneCell_u8s _)
          have HBB := Lib.hid (hbb.trans (hb6.mono (Nat.le_succ _)))
          have HG4 := Lib.hid G4
          have HLN := Lib.hid hln
          clear hbb G0 G1 G6 G4 hb6 hk6 hje hln
          go_wp2_with (refine wp_load_at (.tmp 6) 73 rfl rfl rfl hld ?_; clear hld; refine Halt.in ?_)
          refine Halt.out ?_
          refine wp_store_at (.tmp 4) (.tmp 52) 73 rfl rfl rfl rfl hst ?_
          clear hst C1
          go_wp2_with fail
          refine bodyPost_ret (results_ct rfl _ _ (w.heap.size + 1) _ _ _ _ rfl HG4.out Tryd.underlying73 rfl (by simp only [List.size_toArray, length_u8s, HLN.out]; exact size_sector)) rfl ?_
          rw [HF.out]
          exact ⟨rfl, HBB.out⟩
end Go.Proofs.YtaijompnohkmaaaDoor
/- Layer 5 (wal), the document's answer: how many sectors records take; a sector of a disk's view. -/
namespace Go.Proofs.YtaijompnohkmaaaDoor
open Go.RowKit WalP PackP
/-- How many sectors records take; below 0: one may not be, or there is none. -/
def takesL (ls : List (List UInt8)) : Int := match total ls with | some n => (n : Int) | none => -1
theorem totalN_take {ls : List (List UInt8)} {k : Nat} (hk : k < ls.length) {m : Nat} (h : totalN (ls.take k) = some m) : totalN (ls.take (k + 1)) = if takes ls[k].length = 0 then none else some (m + takes ls[k].length) := by
  have key : ∀ (l : List (List UInt8)) (b : List UInt8) (m : Nat), totalN l = some m → totalN (l ++ [b]) = if takes b.length = 0 then none else some (m + takes b.length) := by
    intro l
    induction l with
    | nil =>
      intro b m h
      simp only [totalN] at h
      cases h
      simp only [List.nil_append, totalN]
      split <;> simp
    | cons y l ih =>
      intro b m h
      simp only [totalN] at h
      split at h
      · cases h
      · rename_i h0
        cases hl : totalN l with
        | none => rw [hl] at h; cases h
        | some m' =>
          rw [hl] at h
          cases h
          rw [List.cons_append]
          simp only [totalN]
          rw [if_neg h0, ih b m' hl]
          split
          · rfl
          · simp [Nat.add_assoc]
  have e : ls.take (k + 1) = ls.take k ++ [ls[k]] := by rw [List.take_add_one, List.getElem?_eq_getElem hk]; rfl
  rw [e]
  exact key _ _ _ h
theorem refTotalBad {ls : List (List UInt8)} {k : Nat} (hk : k < ls.length) (h : takes ls[k].length = 0) : totalN ls = none := by
  rcases totalN_eq ls with ⟨_, e⟩ | ⟨h0, _⟩
  · exact e
  · exact absurd h (h0 _ (List.getElem_mem hk))
set_option maxRecDepth 100000 in
set_option maxHeartbeats 2000000 in
theorem refTakesL_any {B : Nat} (v : Value) (ls : List (List UInt8)) (w : World) (h : Pieces B w v ls) (hn : ls.length ≤ 2 ^ 40) :
    Calls Tryd.prog 52 #[v] w fun e w' => e = .returned (.int .i64 (takesL ls)) ∧ w = w' := by
  have HS := Lib.hid h
  obtain ⟨_, ⟨_, a1, n1, rfl, q1, p1, _⟩, _⟩ := h
  unfold maxLen at p1
  obtain ⟨L, hL⟩ : ∃ L, L = ls.length := ⟨_, rfl⟩
  rw [← hL] at q1 hn HS ⊢
  have HL := Lib.hid hL
  clear hL
  go_enter Tryd.func52, Tryd.ntmps52
  go_wp2_with fail
  go_loop [3, 4] (fun n i => ∃ k m : Nat, k ≤ L ∧ i = .int .i64 k ∧ n = .int .i64 m ∧ m ≤ 95 * k ∧ totalN (ls.take k) = some m) (fun _ i => L - (intOf i).toNat)
  case atStart => exact ⟨0, 0, Nat.zero_le _, rfl, rfl, Nat.le_refl _, rfl⟩
  case round =>
    obtain ⟨k, m, hk, rfl, rfl, hm, ht⟩ := hrel
    have HT := Lib.hid ht
    clear ht
    by_cases hlt : k < L
    · have h1 : k < ls.length := HL.out ▸ hlt
      have k0 : decide ((k : Int) < (L : Int)) = true := by simp; omega
      have k1 : (0 : Int) ≤ (k : Int) := by omega
      have k2 : (k : Int) < (L : Int) := by omega
      obtain ⟨ba, oa, a', c', rfl, hBa, -, _, _, hlA, hbA⟩ := load_piece HS.out h1
      replace hlA := hlA w (fun _ _ => rfl)
      obtain ⟨x, hx⟩ : ∃ x, x = ls[k].length := ⟨_, rfl⟩
      rw [← hx] at hlA
      have kt := refTakes_any (x : Int) w
      obtain ⟨t, htk⟩ : ∃ t, t = takes x := ⟨_, rfl⟩
      rw [takesZ_nat, ← htk] at kt
      have ht95 : t ≤ 95 := by rw [htk]; exact takes_le x
      have HX := Lib.hid hx
      have HTK := Lib.hid htk
      clear hx htk hbA
      by_cases ht0 : t = 0
      · have q0 : ((t : Int) == 0) = true := by simp [ht0]
        have HF := Lib.hid (show takesL ls = -1 by
          have h := refTotalBad h1 (by rw [← HX.out, ← HTK.out]; exact ht0)
          unfold takesL total
          rw [h]
          by_cases hne : ls = []
          · rw [if_pos hne]
          · rw [if_neg hne])
        clear ht0
        go_wp2_with fail
        refine kt.mono ?_
        rintro e w' ⟨rfl, rfl⟩
        go_wp2_with fail
        go_ret
        exact ⟨by rw [HF.out]; rfl, rfl⟩
      · have q0 : ((t : Int) == 0) = false := by simp; omega
        have HN := Lib.hid (show totalN (ls.take (k + 1)) = some (m + t) by
          rw [totalN_take h1 HT.out, ← HX.out, ← HTK.out, if_neg ht0])
        clear ht0
        go_wp2_with fail
        refine kt.mono ?_
        rintro e w' ⟨rfl, rfl⟩
        go_wp2_with fail
        go_round
        case rel => exact ⟨k + 1, m + t, by omega, by go_num, by go_num, by omega, HN.out⟩
        case measure => simp [intOf]; omega
    · have k0 : decide ((k : Int) < (L : Int)) = false := by simp; omega
      have HE := Lib.hid (show totalN ls = some m by
        have h := HT.out
        rwa [List.take_of_length_le (by rw [← HL.out]; omega)] at h)
      by_cases hL0 : L = 0
      · have q0 : ((L : Int) == 0) = true := by simp [hL0]
        have HF := Lib.hid (show takesL ls = -1 by
          have : ls = [] := List.eq_nil_of_length_eq_zero (by rw [← HL.out]; exact hL0)
          rw [this]; rfl)
        clear hL0
        go_wp2_with fail
        go_ret
        exact ⟨by rw [HF.out]; rfl, rfl⟩
      · have q0 : ((L : Int) == 0) = false := by simp; omega
        have HF := Lib.hid (show takesL ls = (m : Int) by
          have hne : ls ≠ [] := fun e => hL0 (by rw [HL.out, e]; rfl)
          unfold takesL total
          rw [if_neg hne, HE.out])
        clear hL0
        go_wp2_with fail
        go_ret
        exact ⟨by rw [HF.out]; rfl, rfl⟩
end Go.Proofs.YtaijompnohkmaaaDoor
