/- Layer 1 (sector): a disk ahead of a deed. -/
import Derived.Test.YtccjjlefpdlegabSector3
namespace Go.Proofs.Ytccjjlefpdlegab
open Go.RowKit
theorem results_ct {P : Program} {fn : Func} {p u : Tmp} {ty : TypeId} (h : fn.results = #[.cell p ty, .tmp u]) (tmps : Array Value) (w : World) (g : Nat) (t : TypeId) (cs : Array Value) (fr : Nat × Nat) (d : TypeDesc)
    (hp : tmps.getD p undef = .pointer (some ⟨g, 0, none⟩)) (hg : w.heap[g]? = some (.cells cs t fr))
    (hu : P.underlying ty = some d) (hd : (match d with | .struct _ | .array _ _ => true | _ => false) = true) (hi : (P.info? ty).map (·.size) = some cs.size) :
    (results fn tmps).run P w = .ok (.tuple #[.agg cs, tmps.getD u undef]) w := by
  have hp' : tmps[p]?.getD undef = .pointer (some ⟨g, 0, none⟩) := by simpa using hp
  simp [results, h, hp', asAddr, run_loadVar_row w g t ty cs fr d hg hu hd hi]
theorem size_disk : (Try.prog.info? 27).map (·.size) = some 4 := by kernel_rfl
theorem undrew {w w' : World} {row : Option Nat} (h : w.drew.grownBy w' row) : w.grownBy w' row := ⟨h.os, h.tape, h.output, h.size, h.block⟩
theorem SecsO.form {B : Nat} {w : World} {v : Value} {ss : List (List UInt8)} (h : SecsO B w v ss) : ∃ a cap, v = .slice a ss.length cap := by obtain ⟨_, _, a, cap, rfl, _⟩ := h; exact ⟨a, cap, rfl⟩
theorem LooseO.form {B : Nat} {w : World} {v : Value} {ss : List WriteP} (h : LooseO B w v ss) : ∃ a cap, v = .slice a ss.length cap := by obtain ⟨_, _, a, cap, rfl, _⟩ := h; exact ⟨a, cap, rfl⟩
theorem frozen_row {w : World} {g : Nat} {cs : Array Value} {t : TypeId} (h : w.heap[g]? = some (.cells cs t (0, 0))) (k : Nat) : w.frozen? ⟨g, k, none⟩ = false := by simp [World.frozen?, h]
/-- The value says where a row lies. -/
theorem Row.mix {C C' : Nat} {w w' : World} {v : Value} {sz n : Nat} {cs cs' : List Value} (h1 : Row C w v sz n cs) (h2 : Row C' w' v sz n cs') : Row C w' v sz n cs' := by
  obtain ⟨_, a, cap, rfl, _, _, h1⟩ := h1
  obtain ⟨hl, a', cap', hv, hn, hc, h2⟩ := h2
  obtain ⟨rfl, rfl⟩ : a = a' ∧ cap = cap' := by cases hv; exact ⟨rfl, rfl⟩
  refine ⟨hl, a, cap, rfl, hn, hc, fun hp => ?_⟩
  obtain ⟨b, off, e, hb, _⟩ := h1 hp
  obtain ⟨b', off', e', _, hc'⟩ := h2 hp
  rw [e] at e'
  cases e'
  exact ⟨b, off, e, hb, hc'⟩
/-- A disk ahead of a deed. -/
def downP (d : DiskP) : Bool := d.down || (d.fuse == 0)
def burnF (d : DiskP) : Int := if downP d then d.fuse else if 0 < d.fuse then d.fuse - 1 else d.fuse
def burnE (d : DiskP) : Int := if downP d then 9 else 0
theorem set0 {w : World} {g : Nat} {a b c d : Value} {t : TypeId} {fr : Nat × Nat} (h : w.heap[g]? = some (.cells #[a, b, c, d] t fr)) (u v : Value) : ((w.setCell ⟨g, 0, none⟩ u).setCell ⟨g, 1, none⟩ v).heap[g]? = some (.cells #[u, v, c, d] t fr) := by
  simp [World.setCell, Array.getElem?_modify, h]
theorem setFar {w : World} {g h : Nat} (hne : g ≠ h) (k : Nat) (u : Value) : (w.setCell ⟨g, k, none⟩ u).heap[h]? = w.heap[h]? := by
  simp only [World.setCell, Array.getElem?_modify]
  rw [if_neg hne]
/-- Four cells of one block, written in a row. -/
abbrev put4 (w : World) (h : Nat) (a b c d : Value) : World := (((w.setCell ⟨h, 0, none⟩ a).setCell ⟨h, 1, none⟩ b).setCell ⟨h, 2, none⟩ c).setCell ⟨h, 3, none⟩ d
theorem put4_heap {w : World} {h : Nat} {a0 b0 c0 d0 : Value} {t : TypeId} {fr : Nat × Nat} (hh : w.heap[h]? = some (.cells #[a0, b0, c0, d0] t fr)) (a b c d : Value) : (put4 w h a b c d).heap[h]? = some (.cells #[a, b, c, d] t fr) := by
  simp [put4, World.setCell, Array.getElem?_modify, hh]
theorem put4_secs {B h : Nat} {w : World} {v : Value} {ss : List (List UInt8)} (hs : SecsO B w v ss) (hB : h < B) (a b c d : Value) : SecsO B (put4 w h a b c d) v ss := (((hs.setOther _ _ hB).setOther _ _ hB).setOther _ _ hB).setOther _ _ hB
theorem put4_loose {B h : Nat} {w : World} {v : Value} {ss : List WriteP} (hs : LooseO B w v ss) (hB : h < B) (a b c d : Value) : LooseO B (put4 w h a b c d) v ss := (((hs.setOther _ _ hB).setOther _ _ hB).setOther _ _ hB).setOther _ _ hB
theorem put4_below {B h : Nat} {w w' : World} (hb : Below B w w') (hB : B ≤ h) (a b c d : Value) : Below B w (put4 w' h a b c d) :=
  (((hb.setCell (p := ⟨h, 0, none⟩) hB a).setCell (p := ⟨h, 1, none⟩) hB b).setCell (p := ⟨h, 2, none⟩) hB c).setCell (p := ⟨h, 3, none⟩) hB d
theorem SecsO.lower {B B' : Nat} {w : World} {v : Value} {ss : List (List UInt8)} (h : SecsO B w v ss) (hB : B' ≤ B) : SecsO B' w v ss := ⟨h.1, h.2.lower hB⟩
theorem LooseO.lower {B B' : Nat} {w : World} {v : Value} {ss : List WriteP} (h : LooseO B w v ss) (hB : B' ≤ B) : LooseO B' w v ss := ⟨h.1, h.2.lower hB⟩
set_option maxRecDepth 100000 in
set_option maxHeartbeats 1000000 in
theorem burn_any {B : Nat} (v : Value) (d : DiskP) (w : World) (h : DiskV B w v d) (hr : rightB d = true) :
    Calls Try.prog 21 #[v] w fun e w' => (∃ sv lv, e = .returned (.tuple #[.agg #[sv, lv, .int .i64 (burnF d), .bool (downP d)], .int .i64 (burnE d)]) ∧ ∃ C, w.heap.size ≤ C ∧ SecsO w.heap.size w' sv d.secs ∧ Row C w' sv 64 d.secs.length (d.secs.map u8s).flatten ∧ LooseO C w' lv d.loose) ∧ Below w.heap.size w w' := by
  have h := h.tight
  obtain ⟨sv, lv, rfl, hs, hl⟩ := h
  have hrs : d.secs.length ≤ 2 ^ 40 ∧ d.loose.length ≤ 2 ^ 40 ∧ -1 ≤ d.fuse ∧ d.fuse ≤ 2 ^ 40 := by
    simp only [rightB, fusedB, Bool.and_eq_true, decide_eq_true_eq] at hr
    omega
  clear hr
  obtain ⟨r1, r2, r3, r4⟩ := hrs
  have R1 := Lib.hid r1
  have R2 := Lib.hid r2
  obtain ⟨w2, hw2⟩ : ∃ w2, w2 = ((w.alloc (.cells #[sv, lv, .int .i64 d.fuse, .bool d.down] 27)).alloc (.cells #[.slice none 0 0, .slice none 0 0, .int .i64 0, .bool false] 27)) := ⟨_, rfl⟩
  have hb2 : Below w.heap.size w w2 := by rw [hw2]; exact Below.alloc (Below.alloc (Below.refl _ _) (Nat.le_refl _) _) (by simp) _
  have hsz2 : w2.heap.size = w.heap.size + 2 := by rw [hw2]; simp
  have hg0 : w2.heap[w.heap.size]? = some (.cells #[sv, lv, .int .i64 d.fuse, .bool d.down] 27 (0, 0)) := by rw [hw2]; exact heap_alloc2_old w _ _
  have hg1 : w2.heap[w.heap.size + 1]? = some (.cells #[.slice none 0 0, .slice none 0 0, .int .i64 0, .bool false] 27 (0, 0)) := by rw [hw2]; exact heap_alloc2_new w _ _
  have hs2 : Secs w.heap.size w2.drew sv d.secs := (show Secs w.heap.size w2 sv d.secs from hs.below hb2)
  have F1 := Lib.hid (fun (w5 : World) (h : Below w2.drew.heap.size w2.drew w5) => (show Below w2.heap.size w2 w5 from ⟨h.os, h.tape, h.output, h.size, h.block⟩))
  have F2 := Lib.hid (fun (w5 : World) (h : Below w2.drew.heap.size w2.drew w5) => (hl.below hb2).below (((F1.out w5 h).mono hb2.size)))
  have c0 := cell_of_row w2 _ 0 _ _ _ hg0
  have c1 := cell_of_row w2 _ 1 _ _ _ hg0
  have hlt1 : w.heap.size < w2.heap.size := by omega
  have F3 := Lib.hid (fun (w5 : World) (h : Below w2.drew.heap.size w2.drew w5) => ((F1.out w5 h).cell (p := ⟨w.heap.size, 1, none⟩) hlt1).trans c1)
  have F4 := Lib.hid (fun (w5 : World) (h : Below w2.drew.heap.size w2.drew w5) => ((F1.out w5 h).block w.heap.size hlt1).trans hg0)
  clear hs hl
  go_enter Try.func21, Try.ntmps21
  go_wp2_with fail
  rw [← hw2]
  clear hw2
  go_region_with (first
    | (go_at_call 30; refine (clone64_any sv d.secs _ hs2 R1.out).mono ?_; rintro e w5 ⟨v5, rfl, ho5, hb5⟩; obtain ⟨a5, k5, rfl⟩ := ho5.form; have hl5 := F2.out w5 hb5; have hc5 := F3.out w5 hb5; have hg5 := F4.out w5 hb5)
    | (go_at_call 31; refine (cloneW_any lv d.loose _ hl5 R2.out).mono ?_; rintro e w6 ⟨v6, rfl, ho6, hb6⟩; obtain ⟨a6, k6, rfl⟩ := ho6.form; have hg6 := (hb6.block w.heap.size (block_lt hg5)).trans hg5; have hk0 := cell_of_row w6 _ 0 _ _ _ hg6; have hk1 := cell_of_row w6 _ 1 _ _ _ hg6; have hf0 := frozen_row hg6 0; have hf1 := frozen_row hg6 1))
  all_goals
    clear F1 F2 F3 F4 hc5 hl5 c0 c1 hk0 hk1 hf0 hf1 hs2 h R1 R2
    have hb26 : Below w.heap.size w w6 := hb2.trans ((show Below w.heap.size w2 w5 from ⟨hb5.os, hb5.tape, hb5.output, hb5.size, fun k hk => hb5.block k (Nat.lt_trans hk hlt1)⟩).trans (hb6.mono (by have := hb5.size; simp only [heap_drew] at this; omega)))
    have hs5 : w2.heap.size ≤ w5.heap.size := hb5.size
    have hh6 : w6.heap[w.heap.size + 1]? = some (.cells #[.slice none 0 0, .slice none 0 0, .int .i64 0, .bool false] 27 (0, 0)) := (hb6.block (w.heap.size + 1) (by omega)).trans ((hb5.block (w.heap.size + 1) (by simp only [heap_drew]; omega)).trans hg1)
    have hg7 := set0 hg6 (.slice a5 d.secs.length k5) (.slice a6 d.loose.length k6)
    have hh7 := ((setFar (w := w6.setCell ⟨w.heap.size, 0, none⟩ (.slice a5 d.secs.length k5)) (g := w.heap.size) (h := w.heap.size + 1) (by omega) 1 (.slice a6 d.loose.length k6)).trans (setFar (w := w6) (by omega) 0 (.slice a5 d.secs.length k5))).trans hh6
    have p5 := ((ho5.keep hb6 (Nat.le_refl _)).setOther ⟨w.heap.size, 0, none⟩ (.slice a5 d.secs.length k5) hlt1).setOther ⟨w.heap.size, 1, none⟩ (.slice a6 d.loose.length k6) hlt1
    have p6 := (ho6.setOther ⟨w.heap.size, 0, none⟩ (.slice a5 d.secs.length k5) (Nat.lt_of_lt_of_le hlt1 hs5)).setOther ⟨w.heap.size, 1, none⟩ (.slice a6 d.loose.length k6) (Nat.lt_of_lt_of_le hlt1 hs5)
    have hb7 := (hb26.setCell (p := ⟨w.heap.size, 0, none⟩) (Nat.le_refl _) (.slice a5 d.secs.length k5)).setCell (p := ⟨w.heap.size, 1, none⟩) (Nat.le_refl _) (.slice a6 d.loose.length k6)
    obtain ⟨w7, hw7⟩ : ∃ w7, w7 = (w6.setCell ⟨w.heap.size, 0, none⟩ (.slice a5 d.secs.length k5)).setCell ⟨w.heap.size, 1, none⟩ (.slice a6 d.loose.length k6) := ⟨_, rfl⟩
    rw [← hw7] at hg7 hh7 p5 p6 hb7 ⊢
    clear hw7 hb6 hb5 hg1 hg0 hb2 hg5 ho6 hg6 hh6 hb26 hlt1
    have hb2z : w.heap.size + 2 ≤ w2.heap.size := by omega
    clear hsz2
    have q5 : SecsO (w.heap.size + 2) w7 (.slice a5 d.secs.length k5) d.secs := p5.lower hb2z
    have q6 := p6
    have hC : w.heap.size + 2 ≤ w5.heap.size := Nat.le_trans hb2z hs5
    have r5 := ho5.secs.2
    have c2 := cell_of_row w7 _ 2 _ _ _ hg7
    have c3 := cell_of_row w7 _ 3 _ _ _ hg7
    have c0 := cell_of_row w7 _ 0 _ _ _ hg7
    have c1 := cell_of_row w7 _ 1 _ _ _ hg7
    have f0 := frozen_row hg7
    have e0 := cell_of_row w7 _ 0 _ _ _ hh7
    have e1 := cell_of_row w7 _ 1 _ _ _ hh7
    have e2 := cell_of_row w7 _ 2 _ _ _ hh7
    have e3 := cell_of_row w7 _ 3 _ _ _ hh7
    have f1 := frozen_row hh7
    have H1 : w.heap.size + 1 < w.heap.size + 2 := Nat.lt_succ_self _
    have H2 : w.heap.size ≤ w.heap.size + 2 := Nat.le_add_right _ _
    have H3 : w.heap.size ≤ w.heap.size + 1 := Nat.le_succ _
    have H4 : w.heap.size < w.heap.size + 2 := by omega
    have H5 : w.heap.size ≠ w.heap.size + 1 := by omega
    have H6 : w.heap.size + 1 < w5.heap.size := by omega
    have H7 : w.heap.size < w5.heap.size := by omega
    have H8 : w.heap.size ≤ w5.heap.size := by omega
    clear p5 p6 hs5 hb2z ho5 hC
    by_cases hz : d.fuse = 0
    · have t0 : ((d.fuse : Int) == 0) = true := by rw [beq_iff_eq]; exact hz
      have u1 : downP d = true := by simp [downP, hz]
      have u2 : burnF d = d.fuse := by simp [burnF, u1]
      have u3 : burnE d = 9 := by simp [burnE, u1]
      have U := Lib.hid (And.intro u2 (And.intro u1 u3))
      clear u1 u2 u3 hz
      go_wp2_with fail
      refine bodyPost_ret (results_ct rfl _ _ (w.heap.size + 1) _ _ _ _ rfl (put4_heap ((setFar H5 3 _).trans hh7) _ _ _ _) Try.underlying27 rfl size_disk) rfl ?_
      exact ⟨⟨_, _, by rw [U.out.1, U.out.2.1, U.out.2.2] <;> rfl, w5.heap.size, H8, (put4_secs (q5.setOther ⟨w.heap.size, 3, none⟩ _ H4) H1 _ _ _ _).lower H2, r5.mix (put4_secs (q5.setOther ⟨w.heap.size, 3, none⟩ _ H4) H1 _ _ _ _).2.row, put4_loose (q6.setOther ⟨w.heap.size, 3, none⟩ _ H7) H6 _ _ _ _⟩, put4_below (hb7.setCell (p := ⟨w.heap.size, 3, none⟩) (Nat.le_refl _) _) H3 _ _ _ _⟩
    · have t0 : ((d.fuse : Int) == 0) = false := by rw [beq_eq_false_iff_ne]; exact hz
      obtain ⟨D, hD⟩ : ∃ D, D = d.down := ⟨_, rfl⟩
      have c3' := c3
      rw [← hD] at c3' hg7
      clear c3
      cases D with
      | true =>
      have u1 : downP d = true := by simp [downP, ← hD]
      have u2 : burnF d = d.fuse := by simp [burnF, u1]
      have u3 : burnE d = 9 := by simp [burnE, u1]
      have U := Lib.hid (And.intro u2 (And.intro u1 u3))
      clear u1 u2 u3 hz hD
      go_wp2_with fail
      refine bodyPost_ret (results_ct rfl _ _ (w.heap.size + 1) _ _ _ _ rfl (put4_heap hh7 _ _ _ _) Try.underlying27 rfl size_disk) rfl ?_
      exact ⟨⟨_, _, by rw [U.out.1, U.out.2.1, U.out.2.2] <;> rfl, w5.heap.size, H8, (put4_secs q5 H1 _ _ _ _).lower H2, r5.mix (put4_secs q5 H1 _ _ _ _).2.row, put4_loose q6 H6 _ _ _ _⟩, put4_below hb7 H3 _ _ _ _⟩
      | false =>
      have u1 : downP d = false := by simp [downP, ← hD, hz]
      have u3 : burnE d = 0 := by simp [burnE, u1]
      by_cases hp : 0 < d.fuse
      · have u2 : burnF d = d.fuse - 1 := by simp [burnF, u1, hp]
        have U := Lib.hid (And.intro u2 (And.intro u1 u3))
        clear u1 u2 u3 hz hD
        have hz := hp
        go_wp2_with fail
        refine bodyPost_ret (results_ct rfl _ _ (w.heap.size + 1) _ _ _ _ rfl (put4_heap ((setFar H5 2 _).trans hh7) _ _ _ _) Try.underlying27 rfl size_disk) rfl ?_
        exact ⟨⟨_, _, by rw [U.out.1, U.out.2.1, U.out.2.2] <;> rfl, w5.heap.size, H8, (put4_secs (q5.setOther ⟨w.heap.size, 2, none⟩ _ H4) H1 _ _ _ _).lower H2, r5.mix (put4_secs (q5.setOther ⟨w.heap.size, 2, none⟩ _ H4) H1 _ _ _ _).2.row, put4_loose (q6.setOther ⟨w.heap.size, 2, none⟩ _ H7) H6 _ _ _ _⟩, put4_below (hb7.setCell (p := ⟨w.heap.size, 2, none⟩) (Nat.le_refl _) _) H3 _ _ _ _⟩
      · have u2 : burnF d = d.fuse := by simp [burnF, u1, hp]
        have U := Lib.hid (And.intro u2 (And.intro u1 u3))
        clear u1 u2 u3 hz hD
        go_wp2_with fail
        refine bodyPost_ret (results_ct rfl _ _ (w.heap.size + 1) _ _ _ _ rfl (put4_heap hh7 _ _ _ _) Try.underlying27 rfl size_disk) rfl ?_
        exact ⟨⟨_, _, by rw [U.out.1, U.out.2.1, U.out.2.2] <;> rfl, w5.heap.size, H8, (put4_secs q5 H1 _ _ _ _).lower H2, r5.mix (put4_secs q5 H1 _ _ _ _).2.row, put4_loose q6 H6 _ _ _ _⟩, put4_below hb7 H3 _ _ _ _⟩
end Go.Proofs.Ytccjjlefpdlegab
