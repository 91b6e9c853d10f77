/- Layer 1 (sector), the document's answer: Flush, Start. -/
import Derived.Test.YtccjjlefpdlegaaDone
namespace Go.Proofs.Ytccjjlefpdlegaa
open Go.RowKit
theorem stay_all_lt : ∀ j : Fin 64, (bits BinOp.and IntKind.u64 ((18446744073709551615 : Int) / 2 ^ (j : Nat)) 1 == 1) = true := by decide
theorem stay_all : stay 18446744073709551615 = fun _ => true := by
  funext k
  exact stay_all_lt ⟨k % 64, Nat.mod_lt _ (by decide)⟩
theorem DiskO.diskV {B C : Nat} {w : World} {sv lv : Value} {d : DiskP} (h : DiskO B C w sv lv d) (f : Int) (b : Bool) : DiskV w.heap.size w (.agg #[sv, lv, .int .i64 f, .bool b]) { d with fuse := f, down := b } :=
  ⟨sv, lv, rfl, h.1.secs, h.2.2.loose⟩
theorem right_bounds {d : DiskP} (hr : rightB d = true) : (d.secs.length ≤ 2 ^ 40 ∧ d.loose.length ≤ 2 ^ 40) ∧ (-1 ≤ d.fuse ∧ d.fuse ≤ 2 ^ 40) := by
  simp only [rightB, fusedB, Bool.and_eq_true, decide_eq_true_eq] at hr
  omega
theorem right_burn {d : DiskP} (hr : rightB d = true) : rightB { d with fuse := burnF d, down := downP d } = true := by
  simp only [rightB, fusedB, Bool.and_eq_true, decide_eq_true_eq] at hr ⊢
  refine ⟨⟨⟨hr.1.1.1, hr.1.1.2⟩, ?_⟩, hr.2⟩
  simp only [burnF]
  split
  · omega
  · split <;> omega
set_option maxRecDepth 100000 in
set_option maxHeartbeats 1000000 in
theorem refflush_any {B : Nat} (v : Value) (d : DiskP) (w : World) (h : DiskV B w v d) :
    Calls Try.prog 29 #[v] w fun e w' => (∃ v', e = .returned (.tuple #[v', .int .i64 (flushP d).2]) ∧ DiskV w'.heap.size w' v' (flushP d).1) ∧ Below w.heap.size w w' := by
  obtain ⟨a1, n1, a2, n2, rfl, hs, hl⟩ := h.tight.parts
  clear h
  have F := Fr2.new (w := w) hs hl
  obtain ⟨w2, hw2⟩ : ∃ w2, w2 = (w.alloc (.cells #[.slice a1 d.secs.length n1, .slice a2 d.loose.length n2, .int .i64 d.fuse, .bool d.down] 43)).alloc (.cells #[.slice none 0 0, .slice none 0 0, .int .i64 0, .bool false] 43) := ⟨_, rfl⟩
  have hB : Below w.heap.size w w2 := by rw [hw2]; exact Below.alloc (Below.alloc (Below.refl _ _) (Nat.le_refl _) _) (by simp) _
  have hle : w.heap.size + 2 ≤ w2.heap.size := by rw [hw2]; simp
  rw [← hw2] at F
  clear hs hl
  have k1 := refright_any _ d w2 F.diskV
  have H3 : w.heap.size ≤ w.heap.size + 1 := by omega
  have C0 := cell_of_row w2 _ 0 _ _ _ F.g0
  have C1 := cell_of_row w2 _ 1 _ _ _ F.g0
  have C2 := cell_of_row w2 _ 2 _ _ _ F.g0
  have C3 := cell_of_row w2 _ 3 _ _ _ F.g0
  obtain ⟨R, hR⟩ : ∃ R, R = rightB d := ⟨_, rfl⟩
  rw [← hR] at k1
  have HR := Lib.hid hR
  clear hR
  go_enter Try.func29, Try.ntmps29
  go_wp2_with fail
  rw [← hw2]
  clear hw2
  refine k1.mono ?_
  rintro e w3 ⟨rfl, hb3⟩
  have F := F.below hb3 (by omega) (by omega)
  have hB := hB.trans (hb3.mono hB.size)
  have hle := Nat.le_trans hle hb3.size
  have hle3 := Lib.hid hle
  clear k1 C0 C1 C2 C3 hb3
  have C0 := cell_of_row w3 _ 0 _ _ _ F.g0
  have C1 := cell_of_row w3 _ 1 _ _ _ F.g0
  have C2 := cell_of_row w3 _ 2 _ _ _ F.g0
  have C3 := cell_of_row w3 _ 3 _ _ _ F.g0
  have D0 := cell_of_row w3 _ 0 _ _ _ F.g2
  have D1 := cell_of_row w3 _ 1 _ _ _ F.g2
  have D2 := cell_of_row w3 _ 2 _ _ _ F.g2
  have D3 := cell_of_row w3 _ 3 _ _ _ F.g2
  have Z := frozen_row F.g2
  cases R with
  | false =>
    have HP := Lib.hid (show flushP d = (d, 1) by simp [flushP, ← HR.out])
    go_wp2_with fail
    refine bodyPost_ret (results_ct rfl _ _ (w.heap.size + 1) _ _ _ _ rfl (put4_heap F.g2 _ _ _ _) Try.underlying43 rfl size_disk) rfl ?_
    rw [HP.out]
    exact ⟨⟨_, rfl, DiskV.tight ⟨_, _, rfl, put4_secsV F.s H3 _ _ _ _, put4_looseV F.l H3 _ _ _ _⟩⟩, put4_below hB H3 _ _ _ _⟩
  | true =>
    have hR := HR.out.symm
    have hbd := right_bounds hR
    have k1 := deed_any _ d w3 F.diskV hbd.1 hbd.2
    have HRB := Lib.hid (right_burn hR)
    have HFP := Lib.hid (show flushP d = if downP d then ({ d with fuse := burnF d, down := true }, 9) else (⟨settleN d.secs d.loose (fun _ => true) d.loose.length, [], burnF d, false⟩, 0) by simp [flushP, hR])
    clear hR hbd
    go_wp2_with fail
    refine k1.mono ?_
    rintro e w4 ⟨⟨sv, lv, rfl, C, hC1, hC2, O⟩, hb4⟩
    obtain ⟨b1, m1, rfl⟩ := O.1.form
    obtain ⟨b2, m2, rfl⟩ := O.2.2.form
    have F := F.below hb4 (by omega) (by omega)
    have hB := hB.trans (hb4.mono hB.size)
    have hle := Nat.le_trans hle hb4.size
    clear k1 C0 C1 C2 C3 D0 D1 D2 D3 Z hb4
    obtain ⟨D, hD⟩ : ∃ D, D = downP d := ⟨_, rfl⟩
    obtain ⟨f, hf⟩ : ∃ f, f = burnF d := ⟨_, rfl⟩
    have HRB := HRB.out
    have HFP := HFP.out
    rw [← hD, ← hf] at HFP HRB ⊢
    obtain ⟨w5, hw5⟩ : ∃ w5, w5 = w4.alloc (.cells #[.slice b1 d.secs.length m1, .slice b2 d.loose.length m2, .int .i64 f, .bool D] 43) := ⟨_, rfl⟩
    have hb5 : Below w4.heap.size w4 w5 := by rw [hw5]; exact Below.alloc (Below.refl _ _) (Nat.le_refl _) _
    have G := heap_alloc_new w4 (.cells #[.slice b1 d.secs.length m1, .slice b2 d.loose.length m2, .int .i64 f, .bool D] 43)
    rw [← hw5] at G
    have F := F.below hb5 (by omega) (by omega)
    have hdv := (O.diskV f D).below hb5
    have O5 : DiskO w3.heap.size C w5 _ _ d := ⟨O.1.keep hb5 (Nat.le_refl _), O.2.1.below (hb5.mono hC2), O.2.2.keep hb5 (Nat.le_refl _)⟩
    have hl3 : w.heap.size + 1 < w3.heap.size := by have := hle3.out; omega
    have hB := hB.trans (hb5.mono hB.size)
    have C0 := cell_of_row w5 _ 0 _ _ _ G
    have C1 := cell_of_row w5 _ 1 _ _ _ G
    have C2 := cell_of_row w5 _ 2 _ _ _ G
    have C3 := cell_of_row w5 _ 3 _ _ _ G
    have hs5 : w4.heap.size + 1 ≤ w5.heap.size := by have := block_lt G; omega
    have HP := Lib.hid HFP
    have HRB := Lib.hid HRB
    have HW5 := Lib.hid hw5
    clear HFP hD hf hw5 O hb5
    have hld := run_loadVar_row (P := Try.prog) w5 w4.heap.size 43 43 _ (0, 0) _ G Try.underlying43 rfl size_disk
    cases D with
    | true =>
      go_wp2_with (refine wp_load_to (w' := w5) (.tmp 4) 43 rfl rfl ?_ rfl hld ?_; (exact HW5.out); refine Halt.in ?_)
      refine Halt.out ?_
      clear hld
      have D0 := cell_of_row w5 _ 0 _ _ _ F.g2
      have D1 := cell_of_row w5 _ 1 _ _ _ F.g2
      have D2 := cell_of_row w5 _ 2 _ _ _ F.g2
      have D3 := cell_of_row w5 _ 3 _ _ _ F.g2
      have Z := frozen_row F.g2
      go_wp2_with fail
      refine bodyPost_ret (results_ct rfl _ _ (w.heap.size + 1) _ _ _ _ rfl (put4_heap F.g2 _ _ _ _) Try.underlying43 rfl size_disk) rfl ?_
      rw [HP.out]
      exact ⟨⟨_, rfl, (O5.put4 hl3 hC1 _ _ _ _).diskV f true⟩, put4_below hB H3 _ _ _ _⟩
    | false =>
      have k2 := done_any _ _ 18446744073709551615 w5 hdv HRB.out (by decide) (by decide)
      rw [stay_all] at k2
      go_wp2_with (refine wp_load_to (w' := w5) (.tmp 4) 43 rfl rfl ?_ rfl hld ?_; (exact HW5.out); refine Halt.in ?_)
      refine Halt.out ?_
      clear hld
      go_wp2_with fail
      refine k2.mono ?_
      rintro e w6 ⟨⟨sv, rfl, ho⟩, hb6⟩
      obtain ⟨b3, m3, hsv⟩ := ho.form
      subst hsv
      have F := F.below hb6 (by omega) (by omega)
      have hB := hB.trans (hb6.mono hB.size)
      have hl6 : w.heap.size + 1 < w5.heap.size := by omega
      clear k2 C0 C1 C2 C3 hb6
      have D0 := cell_of_row w6 _ 0 _ _ _ F.g2
      have D1 := cell_of_row w6 _ 1 _ _ _ F.g2
      have D2 := cell_of_row w6 _ 2 _ _ _ F.g2
      have D3 := cell_of_row w6 _ 3 _ _ _ F.g2
      have Z := frozen_row F.g2
      go_wp2_with fail
      refine bodyPost_ret (results_ct rfl _ _ (w.heap.size + 1) _ _ _ _ rfl (put4_heap F.g2 _ _ _ _) Try.underlying43 rfl size_disk) rfl ?_
      rw [HP.out]
      exact ⟨⟨_, rfl, ⟨_, _, rfl, (put4_secs ho hl6 _ _ _ _).secs, Loose.nil _ _⟩⟩, put4_below hB H3 _ _ _ _⟩
end Go.Proofs.Ytccjjlefpdlegaa
