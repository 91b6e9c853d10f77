/- Layer 1 (sector), the document's answer: Same, of two disks that hold the same. -/
import Derived.Test.YtaijompnohkmaaaDoorML
import Derived.StillTailTactics
namespace Go.Proofs.YtaijompnohkmaaaDoor
open Go.RowKit
theorem equal_int (d : Nat) (a : Int) (w : World) : (Op.equalIn (d + 1) 3 (.int .i64 a) (.int .i64 a)).run Tryd.prog w = .ok true w := by
  simp [Op.equalIn, run_underlying Tryd.underlying3]
theorem wextract {x : WriteP} (hx : x.data.length = 64) : (wcells x).toArray.extract 1 65 = (u8s x.data).toArray := by
  simp [wcells]
  rw [List.take_of_length_le (by rw [length_u8s]; omega)]
/-- A row's element, loaded. -/
theorem load_sec {B : Nat} {w : World} {a : Option Addr} {n c : Nat} {ss : List (List UInt8)} (h : Secs B w (.slice a n c) ss) {k : Nat} (hk : k < ss.length) :
    ∃ b off, a = some ⟨b, off, none⟩ ∧ b < B ∧ n = ss.length ∧ n ≤ c ∧ c ≤ 2 ^ 63 - 1 ∧ ∀ w', (∀ p : Addr, p.block < B → w'.cell? p = w.cell? p) → (loadVar 73 ⟨b, off + k * 64, none⟩).run Tryd.prog w' = .ok (.agg (u8s ss[k]).toArray) w' := by
  obtain ⟨h64, _, a', cap, hv, hnc, hcap, hcells⟩ := h
  cases hv
  obtain ⟨b, off, rfl, hBb, hc⟩ := hcells (by omega)
  obtain ⟨i44, hi44, hs44⟩ := info44
  have hat := flat_at u8s 64 ss (fun x hx => by rw [length_u8s, h64 x hx]) k ss[k] (List.getElem?_eq_getElem hk)
  exact ⟨b, off, rfl, hBb, rfl, hnc, hcap, fun w' hw => run_load_big (P := Tryd.prog) (t := 73) Tryd.underlying73 (.inl ⟨_, _, rfl⟩) hi44 (w := w') (b := b) (off := off + k * 64) (cs := u8s ss[k]) hs44 (by rw [length_u8s, h64 _ (List.getElem_mem hk)])
    (fun j u hj => by rw [Nat.add_assoc]; exact (hw ⟨b, off + (k * 64 + j), none⟩ hBb).trans (hc _ _ (hat j u hj)))⟩
theorem load_loose {B : Nat} {w : World} {a : Option Addr} {n c : Nat} {ss : List WriteP} (h : Loose B w (.slice a n c) ss) {k : Nat} (hk : k < ss.length) :
    ∃ b off, a = some ⟨b, off, none⟩ ∧ b < B ∧ n = ss.length ∧ n ≤ c ∧ c ≤ 2 ^ 63 - 1 ∧ ∀ w', (∀ p : Addr, p.block < B → w'.cell? p = w.cell? p) → (loadVar 75 ⟨b, off + k * 65, none⟩).run Tryd.prog w' = .ok (.agg (wcells ss[k]).toArray) w' := by
  obtain ⟨h64, _, a', cap, hv, hnc, hcap, hcells⟩ := h
  cases hv
  obtain ⟨b, off, rfl, hBb, hc⟩ := hcells (by omega)
  obtain ⟨i46, hi46, hs46⟩ := info46
  have hat := flat_at wcells 65 ss (fun x hx => by rw [length_wcells, h64 x hx]) k ss[k] (List.getElem?_eq_getElem hk)
  exact ⟨b, off, rfl, hBb, rfl, hnc, hcap, fun w' hw => run_load_big (P := Tryd.prog) (t := 75) Tryd.underlying75 (.inr ⟨_, rfl⟩) hi46 (w := w') (b := b) (off := off + k * 65) (cs := wcells ss[k]) hs46 (by rw [length_wcells, h64 _ (List.getElem_mem hk)])
    (fun j u hj => by rw [Nat.add_assoc]; exact (hw ⟨b, off + (k * 65 + j), none⟩ hBb).trans (hc _ _ (hat j u hj)))⟩
set_option maxRecDepth 100000 in
set_option maxHeartbeats 2000000 in
theorem same_any {B B' : Nat} (v v' : Value) (d : DiskP) (w : World) (h : DiskV B w v d) (h' : DiskV B' w v' d) :
    Calls Tryd.prog 14 #[v, v'] w fun e w' => e = .returned (.bool true) ∧ Below w.heap.size w w' := by
  obtain ⟨a1, n1, a2, n2, rfl, hs, hl⟩ := h.tight.parts
  obtain ⟨c1, m1, c2, m2, rfl, hs', hl'⟩ := h'.tight.parts
  clear h h'
  obtain ⟨_, _, _, hv, q1, p1, _⟩ := hs.2
  cases hv
  obtain ⟨_, _, _, hv, q2, p2, _⟩ := hl.2
  cases hv
  obtain ⟨_, _, _, hv, q3, p3, _⟩ := hs'.2
  cases hv
  obtain ⟨_, _, _, hv, q4, p4, _⟩ := hl'.2
  cases hv
  unfold maxLen at p1 p2 p3 p4
  obtain ⟨L, hL⟩ : ∃ L, L = d.secs.length := ⟨_, rfl⟩
  obtain ⟨M, hM⟩ : ∃ M, M = d.loose.length := ⟨_, rfl⟩
  rw [← hL] at q1 q3 hs hs' ⊢
  rw [← hM] at q2 q4 hl hl' ⊢
  obtain ⟨w2, hw2⟩ : ∃ w2, w2 = (w.alloc (.cells #[.slice a1 L n1, .slice a2 M n2, .int .i64 d.fuse, .bool d.down] 25)).alloc (.cells #[.slice c1 L m1, .slice c2 M m2, .int .i64 d.fuse, .bool d.down] 25) := ⟨_, rfl⟩
  have hB : Below w.heap.size w w2 := by rw [hw2]; exact Below.alloc (Below.alloc (Below.refl _ _) (Nat.le_refl _) _) (by simp) _
  have G0 : w2.heap[w.heap.size]? = some (.cells #[.slice a1 L n1, .slice a2 M n2, .int .i64 d.fuse, .bool d.down] 25 (0, 0)) := by rw [hw2]; exact heap_alloc2_old w _ _
  have G1 : w2.heap[w.heap.size + 1]? = some (.cells #[.slice c1 L m1, .slice c2 M m2, .int .i64 d.fuse, .bool d.down] 25 (0, 0)) := by rw [hw2]; exact heap_alloc2_new w _ _
  have HS := Lib.hid hs
  have HS' := Lib.hid hs'
  have HL := Lib.hid hl
  have HL' := Lib.hid hl'
  clear hs hs' hl hl'
  have HW2 := Lib.hid hw2
  clear hw2
  have HLL := Lib.hid hL
  have HMM := Lib.hid hM
  clear hL hM
  have hg46 : Tryd.prog.eqGuardType Tryd.prog.depth 75 = false := by kernel_rfl
  go_enter Tryd.func14, Tryd.ntmps14
  go_wp2_with fail
  rw [← HW2.out]
  go_loopw [5] (fun i wr => ∃ k : Nat, k ≤ L ∧ i = .int .i64 k ∧ Below w.heap.size w wr ∧ wr.heap[w.heap.size]? = some (.cells #[.slice a1 L n1, .slice a2 M n2, .int .i64 d.fuse, .bool d.down] 25 (0, 0)) ∧ wr.heap[w.heap.size + 1]? = some (.cells #[.slice c1 L m1, .slice c2 M m2, .int .i64 d.fuse, .bool d.down] 25 (0, 0))) (fun i _ => L - (intOf i).toNat)
  case atStart => exact ⟨0, Nat.zero_le _, rfl, hB, G0, G1⟩
  case round =>
    obtain ⟨k, hk, rfl, hBr, R0, R1⟩ := hrel
    have C0 := cell_of_row wr _ 0 _ _ _ R0
    have C1 := cell_of_row wr _ 0 _ _ _ R1
    by_cases hlt : k < L
    · have hlt' : k < d.secs.length := HLL.out ▸ hlt
      obtain ⟨ba, oa, rfl, hBa, e1, _, _, hlA⟩ := load_sec HS.out hlt'
      obtain ⟨bb, ob, rfl, hBb, e2, _, _, hlB⟩ := load_sec HS'.out hlt'
      have hlA := hlA wr.drew (fun p hp => hBr.cell hp)
      have hlB := hlB wr.drew (fun p hp => hBr.cell hp)
      obtain ⟨X, hX⟩ : ∃ X, X = (u8s d.secs[k]).toArray := ⟨_, rfl⟩
      have hq : (Op.equalIn 10000 73 (.agg X) (.agg X)).run Tryd.prog wr.drew = .ok true wr.drew := by
        rw [hX]
        exact (equal44 (HS.out.1 _ (List.getElem_mem hlt')) (HS.out.1 _ (List.getElem_mem hlt')) _).trans (by simp)
      rw [← hX] at hlA hlB
      clear hX e1 e2
      go_wp2_with fail
      refine wp_region_still_lit (by kernel_rfl) (by kernel_rfl) ?_
      repeat still_step
      refine still_load (.tmp 47) 73 rfl rfl rfl hlA ?_
      repeat still_step
      refine still_load (.tmp 52) 73 rfl rfl rfl hlB ?_
      repeat still_step
      refine wpStill_nil ?_
      have hB2 := below_draws hBr 1
      have S0 : (wr.drewN 1).heap[w.heap.size]? = _ := R0
      have S1 : (wr.drewN 1).heap[w.heap.size + 1]? = _ := R1
      change Exit.then _ _ _ _ (wr.drewN 1)
      go_wp2_with fail
      go_roundw
      case rel => exact ⟨k + 1, by omega, by go_num, hB2, S0, S1⟩
      case measure => simp [intOf]; omega
    · skip
      go_wp2_with fail
      have hBr1 := hBr
      have R01 := R0
      have R11 := R1
      clear C0 C1 hBr R0 R1
      go_loopw [6] (fun i wr => ∃ k : Nat, k ≤ M ∧ i = .int .i64 k ∧ Below w.heap.size w wr ∧ wr.heap[w.heap.size]? = some (.cells #[.slice a1 L n1, .slice a2 M n2, .int .i64 d.fuse, .bool d.down] 25 (0, 0)) ∧ wr.heap[w.heap.size + 1]? = some (.cells #[.slice c1 L m1, .slice c2 M m2, .int .i64 d.fuse, .bool d.down] 25 (0, 0))) (fun i _ => M - (intOf i).toNat)
      case atStart => exact ⟨0, Nat.zero_le _, rfl, hBr1, R01, R11⟩
      case round =>
        obtain ⟨k, hk, rfl, hBr, R0, R1⟩ := hrel
        have C0 := cell_of_row wr _ 1 _ _ _ R0
        have C1 := cell_of_row wr _ 1 _ _ _ R1
        by_cases hlt : k < M
        · have hlt' : k < d.loose.length := HMM.out ▸ hlt
          obtain ⟨ba, oa, rfl, hBa, e1, _, _, hlA⟩ := load_loose HL.out hlt'
          obtain ⟨bb, ob, rfl, hBb, e2, _, _, hlB⟩ := load_loose HL'.out hlt'
          have hlA := hlA wr.drew (fun p hp => hBr.cell hp)
          have hlB := hlB wr.drew (fun p hp => hBr.cell hp)
          obtain ⟨X, hX⟩ : ∃ X, X = (wcells d.loose[k]).toArray := ⟨_, rfl⟩
          have h64 := HL.out.1 _ (List.getElem_mem hlt')
          have hx0 : X[0]? = some (.int .i64 d.loose[k].at_) := by rw [hX]; simp [wcells]
          have hq : (Op.equalIn 9999 73 (.agg (X.extract 1 65)) (.agg (X.extract 1 65))).run Tryd.prog wr.drew = .ok true wr.drew := by
            rw [hX, wextract h64]
            exact (equal44_in 9997 h64 h64 _).trans (by simp)
          have hq3 : (Op.equalIn 9999 3 (.int .i64 d.loose[k].at_) (.int .i64 d.loose[k].at_)).run Tryd.prog wr.drew = .ok true wr.drew := equal_int 9998 _ _
          obtain ⟨z, hz⟩ : ∃ z, z = d.loose[k].at_ := ⟨_, rfl⟩
          rw [← hz] at hx0 hq3
          clear hz
          rw [← hX] at hlA hlB
          clear hX e1 e2
          go_wp2_with fail
          refine wp_region_still_lit (by kernel_rfl) (by kernel_rfl) ?_
          repeat still_step
          refine still_load (.tmp 65) 75 rfl rfl rfl hlA ?_
          repeat still_step
          refine still_load (.tmp 70) 75 rfl rfl rfl hlB ?_
          repeat still_step
          refine wpStill_nil ?_
          have hB2 := below_draws hBr 1
          have S0 : (wr.drewN 1).heap[w.heap.size]? = _ := R0
          have S1 : (wr.drewN 1).heap[w.heap.size + 1]? = _ := R1
          change Exit.then _ _ _ _ (wr.drewN 1)
          go_wp2_with fail
          go_roundw
          case rel => exact ⟨k + 1, by omega, by go_num, hB2, S0, S1⟩
          case measure => simp [intOf]; omega
        · skip
          go_wp2_with fail
          go_ret
          exact ⟨rfl, hBr⟩
end Go.Proofs.YtaijompnohkmaaaDoor
/- Layer 1 (sector), the document's answer: Right. -/
namespace Go.Proofs.YtaijompnohkmaaaDoor
open Go.RowKit
set_option maxRecDepth 100000 in
set_option maxHeartbeats 1000000 in
theorem refright_any {B : Nat} (v : Value) (d : DiskP) (w : World) (h : DiskV B w v d) :
    Calls Tryd.prog 34 #[v] w fun e w' => e = .returned (.bool (rightB d)) ∧ Below w.heap.size w w' := by
  obtain ⟨a1, n1, a2, n2, rfl, hs, hl⟩ := h.tight.parts
  have hcs := hs.2
  obtain ⟨_, _, _, hv, hln1, hcap1, _⟩ := hcs
  cases hv
  obtain ⟨hls, _, a, cap, hv, hnc, hcap2, hcells⟩ := hl
  cases hv
  unfold maxLen at hcap1 hcap2
  obtain ⟨w2, hw2⟩ : ∃ w2, w2 = w.alloc (.cells #[.slice a1 d.secs.length n1, .slice a2 d.loose.length n2, .int .i64 d.fuse, .bool d.down] 25) := ⟨_, rfl⟩
  have hB : Below w.heap.size w w2 := by rw [hw2]; exact Below.alloc (Below.refl _ _) (Nat.le_refl _) _
  have G0 : w2.heap[w.heap.size]? = some (.cells #[.slice a1 d.secs.length n1, .slice a2 d.loose.length n2, .int .i64 d.fuse, .bool d.down] 25 (0, 0)) := by rw [hw2]; exact heap_alloc_new w _
  have hcl := fun hp => hcells hp
  obtain ⟨L, hL⟩ : ∃ L, L = d.secs.length := ⟨_, rfl⟩
  obtain ⟨M, hM⟩ : ∃ M, M = d.loose.length := ⟨_, rfl⟩
  obtain ⟨f, hf⟩ : ∃ f, f = d.fuse := ⟨_, rfl⟩
  have hR : rightB d = (decide (L ≤ 4096) && decide (M ≤ 100000) && (decide (-1 ≤ f) && decide (f ≤ 1099511627776)) && !badAt d d.loose) := by rw [hL, hM, hf]; rfl
  rw [← hL, ← hM, ← hf] at G0
  rw [← hM] at hcells
  rw [← hL, ← hM, ← hf] at hw2
  have C0 := cell_of_row w2 _ 0 _ _ _ G0
  have C1 := cell_of_row w2 _ 1 _ _ _ G0
  have C2 := cell_of_row w2 _ 2 _ _ _ G0
  have G0' := G0
  rw [hR, ← hL, ← hM, ← hf]
  rw [← hL] at hln1
  rw [← hM] at hnc
  have HW2 := Lib.hid hw2
  have HL := Lib.hid hL
  have HM := Lib.hid hM
  have HC := Lib.hid hcells
  have HG0 := Lib.hid G0'
  clear hw2 hL hM hf hcells hcl h hs G0 hR G0'
  have hBw := hB
  rw [HW2.out] at hBw
  by_cases h1 : L ≤ 4096
  rotate_left
  · go_enter Tryd.func34, Tryd.ntmps34
    go_wp2_with fail
    go_ret
    exact ⟨by simp [h1], hBw⟩
  by_cases h2 : M ≤ 100000
  rotate_left
  · go_enter Tryd.func34, Tryd.ntmps34
    go_wp2_with fail
    go_ret
    exact ⟨by simp [h2], hBw⟩
  by_cases h3 : -1 ≤ f
  rotate_left
  · go_enter Tryd.func34, Tryd.ntmps34
    go_wp2_with fail
    go_ret
    exact ⟨by simp [show ¬ (-1 ≤ f) by omega], hBw⟩
  by_cases h4 : f ≤ 1099511627776
  rotate_left
  · go_enter Tryd.func34, Tryd.ntmps34
    go_wp2_with fail
    go_ret
    exact ⟨by simp [show ¬ (f ≤ 1099511627776) by omega], hBw⟩
  go_enter Tryd.func34, Tryd.ntmps34
  go_wp2_with fail
  rw [← HW2.out]
  have G0 := HG0.out
  have H1 := Lib.hid (And.intro h1 (And.intro h2 (And.intro h3 h4)))
  clear h1 h3 h4 C0 C1 C2 hBw
  go_loopw [3] (fun i wr => ∃ k : Nat, k ≤ M ∧ i = .int .i64 k ∧ (∀ j (hj : j < d.loose.length), j < k → thereB d d.loose[j].at_ = true) ∧ Below w.heap.size w wr ∧ wr.heap[w.heap.size]? = some (.cells #[.slice a1 L n1, .slice a2 M n2, .int .i64 f, .bool d.down] 25 (0, 0))) (fun i _ => M - (intOf i).toNat)
  case atStart => exact ⟨0, Nat.zero_le _, rfl, fun j _ h => absurd h (Nat.not_lt_zero _), hB, G0⟩
  case round =>
    obtain ⟨k, hk, rfl, hpre, hb, hrow⟩ := hrel
    have C0 := cell_of_row wr _ 0 _ _ _ hrow
    have C1 := cell_of_row wr _ 1 _ _ _ hrow
    have HPRE := Lib.hid hpre
    clear hpre hB G0
    by_cases hlt : k < M
    · have hlt' : k < d.loose.length := HM.out ▸ hlt
      obtain ⟨b, off, rfl, hBb, hc⟩ := HC.out (by omega)
      have hat := flat_at wcells 65 d.loose (fun x hx => by rw [length_wcells, hls x hx]) k d.loose[k] (List.getElem?_eq_getElem hlt')
      have hc0 := hat 0 (.int .i64 d.loose[k].at_) (by simp [wcells])
      have E0 := (hb.cell (p := ⟨b, off + (k * 65 + 0), none⟩) hBb).trans (hc _ _ hc0)
      rw [Nat.add_zero] at E0
      obtain ⟨x, hx⟩ : ∃ x, x = d.loose[k].at_ := ⟨_, rfl⟩
      rw [← hx] at E0
      have ht : thereB d d.loose[k].at_ = (decide (0 ≤ x) && decide (x < L)) := by rw [hx, HL.out]; rfl
      have HT := Lib.hid ht
      clear hat hc hc0 hx ht
      by_cases hx0 : x < 0
      · have hT : thereB d d.loose[k].at_ = false := by rw [HT.out]; simp [show ¬ (0 ≤ x) by omega]
        have HTF := Lib.hid hT
        clear hT
        go_wp2_with fail
        go_quiet (fail)
        have hb2 := below_draws hb nq
        go_wp2_with fail
        go_ret
        exact ⟨by rw [badAt_some d d.loose k hlt' HTF.out]; simp, hb2⟩
      · by_cases hx1 : x < L
        · have hT : thereB d d.loose[k].at_ = true := by rw [HT.out]; simp [show (0 ≤ x) by omega, hx1]
          have HTF := Lib.hid hT
          clear hT
          go_wp2_with fail
          go_quiet (fail)
          have hb2 := below_draws hb nq
          have hrow2 : (wr.drewN nq).heap[w.heap.size]? = _ := hrow
          go_wp2_with fail
          go_roundw
          case rel =>
            refine ⟨k + 1, by omega, by go_num, fun j hj hjk => ?_, hb2, hrow2⟩
            by_cases hjk2 : j < k
            · exact HPRE.out j hj hjk2
            · obtain rfl : j = k := by omega
              exact HTF.out
          case measure => simp [intOf]; omega
        · have hT : thereB d d.loose[k].at_ = false := by rw [HT.out]; simp [hx1]
          have HTF := Lib.hid hT
          clear hT
          go_wp2_with fail
          go_quiet (fail)
          have hb2 := below_draws hb nq
          go_wp2_with fail
          go_ret
          exact ⟨by rw [badAt_some d d.loose k hlt' HTF.out]; simp, hb2⟩
    · go_wp2_with fail
      go_ret
      refine ⟨?_, hb⟩
      rw [badAt_none d d.loose (fun j hj => HPRE.out j hj (by have := HM.out; omega))]
      obtain ⟨q1, q2, q3, q4⟩ := H1.out
      simp [q1, q2, q3, q4]
end Go.Proofs.YtaijompnohkmaaaDoor
/- Layer 1 (sector), the document's answer: Copy. -/
namespace Go.Proofs.YtaijompnohkmaaaDoor
open Go.RowKit
/-- An own slice that lay already in an elder world outlives what is written behind that world's end. -/
theorem Own.keepAt {B C : Nat} {w0 w w' : World} {e : TypeId} {v : Value} {sz n : Nat} {cs cs0 : List Value} (h : Own B w e v sz n cs) (h0 : Own B w0 e v sz n cs0) (hb : Below C w w') (hC : w0.heap.size ≤ C) : Own B w' e v sz n cs := by
  obtain ⟨hl, a, cap, rfl, h1, h2, h3⟩ := h
  refine ⟨hl, a, cap, rfl, h1, h2, ?_⟩
  rcases h3 with h3 | ⟨g, cur, rfl, hg, hh, hs, ht⟩
  · exact .inl h3
  · obtain ⟨_, a', cap', hv, _, _, h4⟩ := h0
    cases hv
    rcases h4 with h4 | ⟨g', cur', hg', _, hh', _⟩
    · exact .inl h4
    · cases hg'
      exact .inr ⟨g, cur, rfl, hg, (hb.block g (Nat.lt_of_lt_of_le (block_lt hh') hC)).trans hh, hs, ht⟩
set_option maxRecDepth 100000 in
theorem run_slice0_secs (w : World) : (Instr.buildSlice 22 0 #[]).run Tryd.prog w = .ok (.slice (some ⟨w.heap.size, 0, none⟩) 0 0) (w.alloc (.cells #[] 73)) := by
  obtain ⟨i0, z0, hi, hz0, hz1, hz2, hz3⟩ := zero_parts infoz_sector
  simp [Instr.buildSlice, zeroValue, typeInfo, hi, hz0, hz1, run_underlying Tryd.underlying22, sizeOf, Instr.fill, newRow]
  congr 2
  apply Array.ext'
  simp
set_option maxRecDepth 100000 in
theorem run_slice0_write (w : World) : (Instr.buildSlice 23 0 #[]).run Tryd.prog w = .ok (.slice (some ⟨w.heap.size, 0, none⟩) 0 0) (w.alloc (.cells #[] 75)) := by
  obtain ⟨i0, z0, hi, hz0, hz1, hz2, hz3⟩ := zero_parts infoz_write
  simp [Instr.buildSlice, zeroValue, typeInfo, hi, hz0, hz1, run_underlying Tryd.underlying23, sizeOf, Instr.fill, newRow]
  congr 2
  apply Array.ext'
  simp
set_option maxRecDepth 100000 in
set_option maxHeartbeats 1000000 in
theorem copy_any {B : Nat} (v : Value) (d : DiskP) (w : World) (h : DiskV B w v d) (hlen : d.secs.length ≤ 2 ^ 40 ∧ d.loose.length ≤ 2 ^ 40) :
    Calls Tryd.prog 11 #[v] w fun e w' => (∃ sv lv, e = .returned (.agg #[sv, lv, .int .i64 d.fuse, .bool d.down]) ∧ ∃ C, w.heap.size ≤ C ∧ C ≤ w'.heap.size ∧ SecsO w.heap.size w' sv d.secs ∧ Row C w' sv 64 d.secs.length (d.secs.map u8s).flatten ∧ LooseO C w' lv d.loose) ∧ Below w.heap.size w w' := by
  obtain ⟨a1, n1, a2, n2, rfl, hs, hl⟩ := h.tight.parts
  clear h
  have F := Fr2.new (w := w) hs hl
  obtain ⟨w2, hw2⟩ : ∃ w2, w2 = (w.alloc (.cells #[.slice a1 d.secs.length n1, .slice a2 d.loose.length n2, .int .i64 d.fuse, .bool d.down] 25)).alloc (.cells #[.slice none 0 0, .slice none 0 0, .int .i64 0, .bool false] 25) := ⟨_, rfl⟩
  have hB : Below w.heap.size w w2 := by rw [hw2]; exact Below.alloc (Below.alloc (Below.refl _ _) (Nat.le_refl _) _) (by simp) _
  have hle : w.heap.size + 2 ≤ w2.heap.size := by rw [hw2]; simp
  rw [← hw2] at F
  clear hs hl
  have C0 := cell_of_row w2 _ 0 _ _ _ F.g0
  have C1 := cell_of_row w2 _ 1 _ _ _ F.g0
  obtain ⟨i0, z0, hi, hz0, hz1, hz2, hz3⟩ := zero_parts infoz_sector
  obtain ⟨i1, z1, hi', hz0', hz1', hz2', hz3'⟩ := zero_parts infoz_write
  have R1 := Lib.hid (show 0 + d.secs.length ≤ maxLen by unfold maxLen; omega)
  have R2 := Lib.hid (show (0 + d.secs.length) * 64 ≤ 140737488355328 by omega)
  have R3 := Lib.hid (show 0 + d.loose.length ≤ maxLen by unfold maxLen; omega)
  have R4 := Lib.hid (show (0 + d.loose.length) * 72 ≤ 140737488355328 by omega)
  have hsz2 : w2.heap.size = w.heap.size + 1 + 1 := by rw [hw2]; simp
  obtain ⟨wA, hwA⟩ : ∃ wA, wA = w2.alloc (.cells #[] 73) := ⟨_, rfl⟩
  have ho : Own (w.heap.size + 1 + 1) wA 73 (.slice (some ⟨w.heap.size + 1 + 1, 0, none⟩) 0 0) 64 0 [] := Own.none _ _ _ _ _
  have hbA : Below w2.heap.size w2 wA := by rw [hwA]; exact Below.alloc (Below.refl _ _) (Nat.le_refl _) _
  have F := F.below hbA (by omega) (by omega)
  have hsrc := Row.src (P := Tryd.prog) F.s.2
  have hBA : w.heap.size + 1 + 1 ≤ wA.heap.size := by have := hbA.size; omega
  have hB := hB.trans (hbA.mono hB.size)
  have C0 := cell_of_row wA _ 0 _ _ _ F.g0
  have C1 := cell_of_row wA _ 1 _ _ _ F.g0
  have HW2 := Lib.hid hw2
  have HWA := Lib.hid hwA
  clear hlen hw2 hwA hle hsz2 hbA
  go_enter Tryd.func11, Tryd.ntmps11
  go_wp2_with (refine wp_buildSlice_l 22 0 [] rfl rfl rfl (run_slice0_secs _) ?_; refine Halt.in ?_)
  refine Halt.out ?_
  rw [← HW2.out, ← HWA.out]
  go_wp2_with (at_builtin; refine wp_append rfl (.tmp 3) (.tmp 5) 22 22 73 rfl i0 z0 64 64 Tryd.underlying22 (.inl ⟨_, Tryd.underlying22⟩) hi hz0 hz1 hz2 hz3 rfl rfl ho hsrc (oneCell_secs _) R1.out R2.out hBA ?_; intro v2 w3 hown3 hbw3; refine Halt.in ?_)
  refine Halt.out ?_
  rw [Nat.zero_add, List.nil_append] at hown3
  have hs3 : SecsO (w.heap.size + 1 + 1) w3 v2 d.secs := ⟨F.s.1, hown3⟩
  obtain ⟨b1, m1, rfl⟩ := hs3.form
  have HS3 := Lib.hid hs3
  have F := F.below hbw3 (by omega) (by omega)
  have hB := hB.trans (hbw3.mono (by omega))
  clear ho hsrc hBA hbw3 hown3 C0 C1 hi hz0 hz1 hz2 hz3
  obtain ⟨w4, hw4⟩ : ∃ w4, w4 = w3.setCell ⟨w.heap.size, 0, none⟩ (.slice b1 d.secs.length m1) := ⟨_, rfl⟩
  have hlt : w.heap.size < w.heap.size + 1 + 1 := by omega
  have hs4 : SecsO (w.heap.size + 1 + 1) w4 (.slice b1 d.secs.length m1) d.secs := by rw [hw4]; exact hs3.setOther ⟨w.heap.size, 0, none⟩ _ hlt
  have hb34 : Below w.heap.size w3 w4 := by rw [hw4]; exact (Below.refl _ _).setCell (p := ⟨w.heap.size, 0, none⟩) (Nat.le_refl _) _
  have hl4 := F.l.below hb34
  have G0 : w4.heap[w.heap.size]? = some (.cells #[.slice b1 d.secs.length m1, .slice a2 d.loose.length n2, .int .i64 d.fuse, .bool d.down] 25 (0, 0)) := by
    rw [hw4]; simp [World.setCell, Array.getElem?_modify, F.g0]
  have G1 : w4.heap[w.heap.size + 1]? = some (.cells #[.slice none 0 0, .slice none 0 0, .int .i64 0, .bool false] 25 (0, 0)) := by
    rw [hw4]; exact (setFar (by omega) 0 _).trans F.g2
  have hsz4 : w4.heap.size = w3.heap.size := by rw [hw4]; simp
  have hsz3 : w.heap.size + 1 + 1 ≤ w3.heap.size := by have := block_lt F.g2; omega
  have hB4 := hB.trans hb34
  have C0 := cell_of_row w3 _ 0 _ _ _ F.g0
  have Y := frozen_row F.g0
  obtain ⟨wB, hwB⟩ : ∃ wB, wB = w4.alloc (.cells #[] 75) := ⟨_, rfl⟩
  have ho : Own w3.heap.size wB 75 (.slice (some ⟨w3.heap.size, 0, none⟩) 0 0) 65 0 [] := Own.none _ _ _ _ _
  have hbB : Below w4.heap.size w4 wB := by rw [hwB]; exact Below.alloc (Below.refl _ _) (Nat.le_refl _) _
  have hlB := hl4.below (hbB.mono (by omega))
  have hsB := hs4.keep hbB (Nat.le_refl _)
  have rB := hs4.secs.2.below hbB
  have G0 := (hbB.block _ (by omega)).trans G0
  have G1 := (hbB.block _ (by omega)).trans G1
  have hsrc := Row.src (P := Tryd.prog) hlB.2
  have hBB : w3.heap.size ≤ wB.heap.size := by have := hbB.size; omega
  have hB := hB4.trans (hbB.mono hB4.size)
  rw [hsz4] at rB
  have HW := Lib.hid (show wB = (w3.setCell ⟨w.heap.size, 0, none⟩ (.slice b1 d.secs.length m1)).alloc (.cells #[] 75) by rw [hwB, hw4])
  clear hw4 hwB hsz4 hs4 hs3 hbB hb34 hl4 F hB4
  go_wp2_with (refine wp_buildSlice_l 23 0 [] rfl rfl rfl (run_slice0_write _) ?_; refine Halt.in ?_)
  refine Halt.out ?_
  rw [← HW.out]
  clear C0 Y
  have C1 := cell_of_row wB _ 1 _ _ _ G0
  go_wp2_with (at_builtin; refine wp_append rfl (.tmp 8) (.tmp 10) 23 23 75 rfl i1 z1 65 72 Tryd.underlying23 (.inl ⟨_, Tryd.underlying23⟩) hi' hz0' hz1' hz2' hz3' rfl rfl ho hsrc (oneCell_ws _) R3.out R4.out hBB ?_; intro v5 w5 hown5 hbw5; refine Halt.in ?_)
  refine Halt.out ?_
  rw [Nat.zero_add, List.nil_append] at hown5
  have hl5 : LooseO w3.heap.size w5 v5 d.loose := ⟨hlB.1, hown5⟩
  obtain ⟨b2, m2, rfl⟩ := hl5.form
  have r5 := (RowIn.of hsB.2 rB).below hbw5
  have o5 := hsB.2.keepAt HS3.out.2 hbw5 (Nat.le_refl _)
  have h64 := hsB.1
  have G0 := (hbw5.block _ (by omega)).trans G0
  have G1 := (hbw5.block _ (by omega)).trans G1
  have hB := hB.trans (hbw5.mono (by omega))
  clear ho hsrc hBB hown5 C1 hi' hz0' hz1' hz2' hz3' hlB hsB rB
  have hsz5 : w3.heap.size ≤ w5.heap.size := Nat.le_trans (show w3.heap.size ≤ wB.heap.size by have := HW.out; rw [this]; simp) hbw5.size
  clear hbw5
  obtain ⟨w6, hw6⟩ : ∃ w6, w6 = w5.setCell ⟨w.heap.size, 1, none⟩ (.slice b2 d.loose.length m2) := ⟨_, rfl⟩
  have G0' : w6.heap[w.heap.size]? = some (.cells #[.slice b1 d.secs.length m1, .slice b2 d.loose.length m2, .int .i64 d.fuse, .bool d.down] 25 (0, 0)) := by
    rw [hw6]; simp [World.setCell, Array.getElem?_modify, G0]
  have G1' : w6.heap[w.heap.size + 1]? = some (.cells #[.slice none 0 0, .slice none 0 0, .int .i64 0, .bool false] 25 (0, 0)) := by
    rw [hw6]; exact (setFar (by omega) 1 _).trans G1
  have hlt3 : w.heap.size < w3.heap.size := by omega
  have r6 : RowIn (w.heap.size + 1 + 1) w3.heap.size w6 (.slice b1 d.secs.length m1) 64 d.secs.length (d.secs.map u8s).flatten := by rw [hw6]; exact r5.setOther ⟨w.heap.size, 1, none⟩ _ hlt
  have s6 : SecsO (w.heap.size + 1 + 1) w6 (.slice b1 d.secs.length m1) d.secs := ⟨h64, by rw [hw6]; exact o5.setOther ⟨w.heap.size, 1, none⟩ _ hlt⟩
  have hl6 : LooseO w3.heap.size w6 (.slice b2 d.loose.length m2) d.loose := by rw [hw6]; exact hl5.setOther ⟨w.heap.size, 1, none⟩ _ hlt3
  have hB6 : Below w.heap.size w w6 := by rw [hw6]; exact hB.setCell (p := ⟨w.heap.size, 1, none⟩) (Nat.le_refl _) _
  have hld := run_loadVar_row (P := Tryd.prog) w6 w.heap.size 25 25 _ (0, 0) _ G0' Tryd.underlying25 rfl size_disk
  have C1 := cell_of_row w5 _ 1 _ _ _ G0
  have Y := frozen_row G0
  have hsz6 : w3.heap.size ≤ w6.heap.size := by rw [hw6]; simpa using hsz5
  have HW6 := Lib.hid hw6
  clear hw6 hl5 r5 G1
  go_wp2_with (refine wp_load_to (w' := w6) (.tmp 1) 25 rfl rfl ?_ rfl hld ?_; (exact HW6.out); refine Halt.in ?_)
  refine Halt.out ?_
  clear hld C1 Y
  have D0 := cell_of_row w6 _ 0 _ _ _ G1'
  have D1 := cell_of_row w6 _ 1 _ _ _ G1'
  have D2 := cell_of_row w6 _ 2 _ _ _ G1'
  have D3 := cell_of_row w6 _ 3 _ _ _ G1'
  have Z := frozen_row G1'
  go_wp2_with fail
  have hl1 : w.heap.size + 1 < w3.heap.size := by omega
  have hl2 : w.heap.size + 1 < w.heap.size + 1 + 1 := Nat.lt_succ_self _
  refine bodyPost_ret (results_cell_row rfl _ _ (w.heap.size + 1) _ _ _ _ rfl (put4_heap G1' _ _ _ _) Tryd.underlying25 rfl size_disk) rfl ?_
  exact ⟨⟨_, _, rfl, w3.heap.size, by omega, by simpa [put4] using hsz6, (put4_secs s6 hl2 _ _ _ _).lower (by omega), ((((r6.setOther ⟨w.heap.size + 1, 0, none⟩ _ hl2).setOther ⟨w.heap.size + 1, 1, none⟩ _ hl2).setOther ⟨w.heap.size + 1, 2, none⟩ _ hl2).setOther ⟨w.heap.size + 1, 3, none⟩ _ hl2).row, put4_loose hl6 hl1 _ _ _ _⟩, put4_below hB6 (by omega) _ _ _ _⟩
end Go.Proofs.YtaijompnohkmaaaDoor
/- Layer 1 (sector), the document's answer: deed. -/
namespace Go.Proofs.YtaijompnohkmaaaDoor
open Go.RowKit
theorem set_row4 {w : World} {g : Nat} {a b c d : Value} {t : TypeId} (h : w.heap[g]? = some (.cells #[a, b, c, d] t (0, 0))) (v : Value) : (w.setCell ⟨g, 2, none⟩ v).heap[g]? = some (.cells #[a, b, v, d] t (0, 0)) ∧ (w.setCell ⟨g, 3, none⟩ v).heap[g]? = some (.cells #[a, b, c, v] t (0, 0)) ∧ (w.setCell ⟨g, 1, none⟩ v).heap[g]? = some (.cells #[a, v, c, d] t (0, 0)) ∧ (w.setCell ⟨g, 0, none⟩ v).heap[g]? = some (.cells #[v, b, c, d] t (0, 0)) := by
  refine ⟨?_, ?_, ?_, ?_⟩ <;> simp [World.setCell, Array.getElem?_modify, h]
/-- A disk of one's own, in two rows: the sectors below C, the writes from C on. -/
def DiskO (B C : Nat) (w : World) (sv lv : Value) (d : DiskP) : Prop := SecsO B w sv d.secs ∧ RowIn B C w sv 64 d.secs.length (d.secs.map u8s).flatten ∧ LooseO C w lv d.loose
theorem DiskO.setOther {B C : Nat} {w : World} {sv lv : Value} {d : DiskP} (h : DiskO B C w sv lv d) (p : Addr) (u : Value) (hp : p.block < B) (hC : B ≤ C) : DiskO B C (w.setCell p u) sv lv d :=
  ⟨h.1.setOther p u hp, h.2.1.setOther p u hp, h.2.2.setOther p u (Nat.lt_of_lt_of_le hp hC)⟩
theorem DiskO.put4 {B C g : Nat} {w : World} {sv lv : Value} {d : DiskP} (h : DiskO B C w sv lv d) (hp : g < B) (hC : B ≤ C) (a b c e : Value) : DiskO B C (put4 w g a b c e) sv lv d :=
  (((h.setOther ⟨g, 0, none⟩ a hp hC).setOther ⟨g, 1, none⟩ b hp hC).setOther ⟨g, 2, none⟩ c hp hC).setOther ⟨g, 3, none⟩ e hp hC
theorem DiskO.lower {B B' C : Nat} {w : World} {sv lv : Value} {d : DiskP} (h : DiskO B C w sv lv d) (hB : B' ≤ B) : DiskO B' C w sv lv d :=
  ⟨h.1.lower hB, by
    obtain ⟨hl, a, cap, rfl, h1, h2, h3⟩ := h.2.1
    refine ⟨hl, a, cap, rfl, h1, h2, fun hp => ?_⟩
    obtain ⟨b, off, hb, hBb, hc⟩ := h3 hp
    exact ⟨b, off, hb, Nat.le_trans hB hBb, hc⟩, h.2.2⟩
theorem DiskO.of {B C : Nat} {w : World} {sv lv : Value} {d : DiskP} (h1 : SecsO B w sv d.secs) (r : Row C w sv 64 d.secs.length (d.secs.map u8s).flatten) (h2 : LooseO C w lv d.loose) : DiskO B C w sv lv d := ⟨h1, RowIn.of h1.2 r, h2⟩
set_option maxRecDepth 100000 in
set_option maxHeartbeats 1000000 in
theorem deed_any {B : Nat} (v : Value) (d : DiskP) (w : World) (h : DiskV B w v d) (hlen : d.secs.length ≤ 2 ^ 40 ∧ d.loose.length ≤ 2 ^ 40) (hf : -1 ≤ d.fuse ∧ d.fuse ≤ 2 ^ 40) :
    Calls Tryd.prog 90 #[v] w fun e w' => (∃ sv lv, e = .returned (.tuple #[.agg #[sv, lv, .int .i64 (burnF d), .bool (downP d)], .bool (!downP d)]) ∧ ∃ C, w.heap.size ≤ C ∧ C ≤ w'.heap.size ∧ DiskO w.heap.size C w' sv lv d) ∧ Below w.heap.size w w' := by
  obtain ⟨a1, n1, a2, n2, rfl, hs, hl⟩ := h.tight.parts
  clear h
  have F := Fr2.new (w := w) hs hl
  obtain ⟨w2, hw2⟩ : ∃ w2, w2 = (w.alloc (.cells #[.slice a1 d.secs.length n1, .slice a2 d.loose.length n2, .int .i64 d.fuse, .bool d.down] 25)).alloc (.cells #[.slice none 0 0, .slice none 0 0, .int .i64 0, .bool false] 25) := ⟨_, rfl⟩
  have hB : Below w.heap.size w w2 := by rw [hw2]; exact Below.alloc (Below.alloc (Below.refl _ _) (Nat.le_refl _) _) (by simp) _
  have hle : w.heap.size + 2 ≤ w2.heap.size := by rw [hw2]; simp
  rw [← hw2] at F
  clear hs hl
  have k1 := copy_any _ d w2 F.diskV hlen
  have C0 := cell_of_row w2 _ 0 _ _ _ F.g0
  have C1 := cell_of_row w2 _ 1 _ _ _ F.g0
  have C2 := cell_of_row w2 _ 2 _ _ _ F.g0
  have C3 := cell_of_row w2 _ 3 _ _ _ F.g0
  have HF := Lib.hid hf
  clear hlen hf
  go_enter Tryd.func90, Tryd.ntmps90
  go_wp2_with fail
  rw [← hw2]
  clear hw2
  refine k1.mono ?_
  rintro e w3 ⟨⟨sv, lv, rfl, C, hC1, hC2, ho, r, hlo⟩, hb3⟩
  obtain ⟨b1, m1, rfl⟩ := ho.form
  obtain ⟨b2, m2, rfl⟩ := hlo.form
  have O := DiskO.of ho r hlo
  have F := F.below hb3 (by omega) (by omega)
  have hB := hB.trans (hb3.mono hB.size)
  clear k1 C0 C1 C2 C3 hb3 ho r hlo
  have C0 := cell_of_row w3 _ 0 _ _ _ F.g0
  have C1 := cell_of_row w3 _ 1 _ _ _ F.g0
  have C2 := cell_of_row w3 _ 2 _ _ _ F.g0
  have C3 := cell_of_row w3 _ 3 _ _ _ F.g0
  have Y := frozen_row F.g0
  have hg0 : w.heap.size < w2.heap.size := by omega
  have hg1 : w.heap.size + 1 < w2.heap.size := by omega
  obtain ⟨w4, hw4⟩ : ∃ w4, w4 = put4 w3 w.heap.size (.slice b1 d.secs.length m1) (.slice b2 d.loose.length m2) (.int .i64 d.fuse) (.bool d.down) := ⟨_, rfl⟩
  have G0 : w4.heap[w.heap.size]? = some (.cells #[.slice b1 d.secs.length m1, .slice b2 d.loose.length m2, .int .i64 d.fuse, .bool d.down] 25 (0, 0)) := by rw [hw4]; exact put4_heap F.g0 _ _ _ _
  have G1 : w4.heap[w.heap.size + 1]? = some (.cells #[.slice none 0 0, .slice none 0 0, .int .i64 0, .bool false] 25 (0, 0)) := by rw [hw4]; exact put4_far F.g2 (by omega) _ _ _ _
  have O4 : DiskO w2.heap.size C w4 (.slice b1 d.secs.length m1) (.slice b2 d.loose.length m2) d := by rw [hw4]; exact O.put4 hg0 hC1 _ _ _ _
  have hB4 : Below w.heap.size w w4 := by rw [hw4]; exact put4_below hB (Nat.le_refl _) _ _ _ _
  have hC4 : C ≤ w4.heap.size := by rw [hw4]; simpa [put4] using hC2
  unfold put4 at hw4
  have HW4 := Lib.hid hw4
  clear hw4 hB O hC2 F
  have hld := run_loadVar_row (P := Tryd.prog) w4 w.heap.size 25 25 _ (0, 0) _ G0 Tryd.underlying25 rfl size_disk
  have ldn : (loadVar 4 ⟨w.heap.size, 3, none⟩).run Tryd.prog w4 = .ok (.bool d.down) w4 := by simp [go_sem, cell_of_row w4 _ 3 _ _ _ G0]
  go_wp2_with (refine wp_load_to (w' := w4) (.tmp 6) 4 rfl rfl ?_ rfl ldn ?_; (exact HW4.out); refine Halt.in ?_)
  refine Halt.out ?_
  clear hld ldn C0 C1 C2 C3 Y
  have C0 := cell_of_row w4 _ 0 _ _ _ G0
  have C1 := cell_of_row w4 _ 1 _ _ _ G0
  have C2 := cell_of_row w4 _ 2 _ _ _ G0
  have C3 := cell_of_row w4 _ 3 _ _ _ G0
  have D0 := cell_of_row w4 _ 0 _ _ _ G1
  have D1 := cell_of_row w4 _ 1 _ _ _ G1
  have D2 := cell_of_row w4 _ 2 _ _ _ G1
  have D3 := cell_of_row w4 _ 3 _ _ _ G1
  have Y := frozen_row G0
  have Z := frozen_row G1
  have H5 : w.heap.size ≠ w.heap.size + 1 := by omega
  have hl2 : w.heap.size ≤ w2.heap.size := by omega
  obtain ⟨D, hD⟩ : ∃ D, D = d.down := ⟨_, rfl⟩
  rw [← hD] at C3 ⊢
  have HD := Lib.hid hD
  clear hD
  cases D with
  | true =>
    have U := Lib.hid (show burnF d = d.fuse ∧ downP d = true from ⟨by simp [burnF, downP, ← HD.out], by simp [downP, ← HD.out]⟩)
    go_wp2_with fail
    refine bodyPost_ret (results_ct rfl _ _ (w.heap.size + 1) _ _ _ _ rfl (put4_heap ((setFar H5 3 _).trans G1) _ _ _ _) Tryd.underlying25 rfl size_disk) rfl ?_
    exact ⟨⟨_, _, by rw [U.out.1, U.out.2] <;> rfl, C, Nat.le_trans hl2 hC1, by simpa [put4] using hC4, ((O4.setOther ⟨w.heap.size, 3, none⟩ _ hg0 hC1).put4 hg1 hC1 _ _ _ _).lower hl2⟩, put4_below (hB4.setCell (p := ⟨w.heap.size, 3, none⟩) (Nat.le_refl _) _) (by omega) _ _ _ _⟩
  | false =>
  by_cases hz : d.fuse = 0
  · have t0 : ((d.fuse : Int) == 0) = true := by rw [beq_iff_eq]; exact hz
    have U := Lib.hid (show burnF d = d.fuse ∧ downP d = true from ⟨by simp [burnF, downP, hz], by simp [downP, hz]⟩)
    clear hz
    go_wp2_with fail
    refine bodyPost_ret (results_ct rfl _ _ (w.heap.size + 1) _ _ _ _ rfl (put4_heap ((setFar H5 3 _).trans G1) _ _ _ _) Tryd.underlying25 rfl size_disk) rfl ?_
    exact ⟨⟨_, _, by rw [U.out.1, U.out.2] <;> rfl, C, Nat.le_trans hl2 hC1, by simpa [put4] using hC4, ((O4.setOther ⟨w.heap.size, 3, none⟩ _ hg0 hC1).put4 hg1 hC1 _ _ _ _).lower hl2⟩, put4_below (hB4.setCell (p := ⟨w.heap.size, 3, none⟩) (Nat.le_refl _) _) (by omega) _ _ _ _⟩
  · have t0 : ((d.fuse : Int) == 0) = false := by rw [beq_eq_false_iff_ne]; exact hz
    have hf := HF.out
    by_cases hp : 0 < d.fuse
    · have U := Lib.hid (show burnF d = d.fuse - 1 ∧ downP d = false from ⟨by simp [burnF, downP, ← HD.out, hz, hp], by simp [downP, ← HD.out, hz]⟩)
      clear hz
      go_wp2_with fail
      refine bodyPost_ret (results_ct rfl _ _ (w.heap.size + 1) _ _ _ _ rfl (put4_heap ((setFar H5 2 _).trans G1) _ _ _ _) Tryd.underlying25 rfl size_disk) rfl ?_
      exact ⟨⟨_, _, by rw [U.out.1, U.out.2] <;> rfl, C, Nat.le_trans hl2 hC1, by simpa [put4] using hC4, ((O4.setOther ⟨w.heap.size, 2, none⟩ _ hg0 hC1).put4 hg1 hC1 _ _ _ _).lower hl2⟩, put4_below (hB4.setCell (p := ⟨w.heap.size, 2, none⟩) (Nat.le_refl _) _) (by omega) _ _ _ _⟩
    · have U := Lib.hid (show burnF d = d.fuse ∧ downP d = false from ⟨by simp [burnF, downP, ← HD.out, hz, hp], by simp [downP, ← HD.out, hz]⟩)
      clear hz
      go_wp2_with fail
      refine bodyPost_ret (results_ct rfl _ _ (w.heap.size + 1) _ _ _ _ rfl (put4_heap (G1) _ _ _ _) Tryd.underlying25 rfl size_disk) rfl ?_
      exact ⟨⟨_, _, by rw [U.out.1, U.out.2] <;> rfl, C, Nat.le_trans hl2 hC1, by simpa [put4] using hC4, (O4.put4 hg1 hC1 _ _ _ _).lower hl2⟩, put4_below (hB4) (by omega) _ _ _ _⟩
end Go.Proofs.YtaijompnohkmaaaDoor
/- Layer 1 (sector), the document's answer: Arm. -/
namespace Go.Proofs.YtaijompnohkmaaaDoor
open Go.RowKit
set_option maxRecDepth 100000 in
set_option maxHeartbeats 1000000 in
theorem refarm_any {B : Nat} (v : Value) (d : DiskP) (fuse : Int) (w : World) (h : DiskV B w v d) :
    Calls Tryd.prog 28 #[v, .int .i64 fuse] w fun e w' => (∃ v', e = .returned (.tuple #[v', .int .i64 (armP d fuse).2]) ∧ DiskV w'.heap.size w' v' (armP d fuse).1) ∧ Below w.heap.size w w' := by
  obtain ⟨a1, n1, a2, n2, rfl, hs, hl⟩ := h.tight.parts
  clear h
  have F := Fr2.new (w := w) hs hl
  obtain ⟨w2, hw2⟩ : ∃ w2, w2 = (w.alloc (.cells #[.slice a1 d.secs.length n1, .slice a2 d.loose.length n2, .int .i64 d.fuse, .bool d.down] 25)).alloc (.cells #[.slice none 0 0, .slice none 0 0, .int .i64 0, .bool false] 25) := ⟨_, rfl⟩
  have hb2 : Below w.heap.size w w2 := by rw [hw2]; exact Below.alloc (Below.alloc (Below.refl _ _) (Nat.le_refl _) _) (by simp) _
  have hle : w.heap.size + 2 ≤ w2.heap.size := by rw [hw2]; simp
  rw [← hw2] at F
  clear hs hl
  have k1 := refright_any _ d w2 F.diskV
  have H3 : w.heap.size ≤ w.heap.size + 1 := by omega
  have C0 := cell_of_row w2 _ 0 _ _ _ F.g0
  have C1 := cell_of_row w2 _ 1 _ _ _ F.g0
  have C2 := cell_of_row w2 _ 2 _ _ _ F.g0
  have C3 := cell_of_row w2 _ 3 _ _ _ F.g0
  obtain ⟨R, hR⟩ : ∃ R, R = rightB d := ⟨_, rfl⟩
  rw [← hR] at k1
  have HR := Lib.hid hR
  clear hR
  go_enter Tryd.func28, Tryd.ntmps28
  go_wp2_with fail
  rw [← hw2]
  clear hw2
  refine k1.mono ?_
  rintro e w3 ⟨rfl, hb3⟩
  have F := F.below hb3 (by omega) (by omega)
  have hbb := hb2.trans (hb3.mono hb2.size)
  clear k1 C0 C1 C2 C3
  have C0 := cell_of_row w3 _ 0 _ _ _ F.g0
  have C1 := cell_of_row w3 _ 1 _ _ _ F.g0
  have C2 := cell_of_row w3 _ 2 _ _ _ F.g0
  have C3 := cell_of_row w3 _ 3 _ _ _ F.g0
  have D0 := cell_of_row w3 _ 0 _ _ _ F.g2
  have D1 := cell_of_row w3 _ 1 _ _ _ F.g2
  have D2 := cell_of_row w3 _ 2 _ _ _ F.g2
  have D3 := cell_of_row w3 _ 3 _ _ _ F.g2
  have Y := frozen_row F.g0
  have Z := frozen_row F.g2
  cases R with
  | false =>
    have HP := Lib.hid (show armP d fuse = (d, 1) by simp [armP, ← HR.out])
    go_wp2_with fail
    refine bodyPost_ret (results_ct rfl _ _ (w.heap.size + 1) _ _ _ _ rfl (put4_heap F.g2 _ _ _ _) Tryd.underlying25 rfl size_disk) rfl ?_
    rw [HP.out]
    exact ⟨⟨_, rfl, DiskV.tight ⟨_, _, rfl, put4_secsV F.s H3 _ _ _ _, put4_looseV F.l H3 _ _ _ _⟩⟩, put4_below hbb H3 _ _ _ _⟩
  | true =>
    by_cases h1 : fuse < -1
    · have HP := Lib.hid (show armP d fuse = (d, 1) by simp [armP, ← HR.out, fusedB, show ¬ (-1 ≤ fuse) by omega])
      go_wp2_with fail
      refine bodyPost_ret (results_ct rfl _ _ (w.heap.size + 1) _ _ _ _ rfl (put4_heap F.g2 _ _ _ _) Tryd.underlying25 rfl size_disk) rfl ?_
      rw [HP.out]
      exact ⟨⟨_, rfl, DiskV.tight ⟨_, _, rfl, put4_secsV F.s H3 _ _ _ _, put4_looseV F.l H3 _ _ _ _⟩⟩, put4_below hbb H3 _ _ _ _⟩
    by_cases h2 : 1099511627776 < fuse
    · have HP := Lib.hid (show armP d fuse = (d, 1) by simp [armP, ← HR.out, fusedB, show ¬ (fuse ≤ 1099511627776) by omega])
      go_wp2_with fail
      refine bodyPost_ret (results_ct rfl _ _ (w.heap.size + 1) _ _ _ _ rfl (put4_heap F.g2 _ _ _ _) Tryd.underlying25 rfl size_disk) rfl ?_
      rw [HP.out]
      exact ⟨⟨_, rfl, DiskV.tight ⟨_, _, rfl, put4_secsV F.s H3 _ _ _ _, put4_looseV F.l H3 _ _ _ _⟩⟩, put4_below hbb H3 _ _ _ _⟩
    · have HP := Lib.hid (show armP d fuse = ({ d with fuse := fuse }, 0) by simp [armP, ← HR.out, fusedB, show (-1 ≤ fuse) by omega, show (fuse ≤ 1099511627776) by omega])
      go_wp2_with fail
      have hb1 := (Below.refl w.heap.size w3).setCell (p := ⟨w.heap.size, 2, none⟩) (Nat.le_refl _) (.int .i64 fuse)
      refine bodyPost_ret (results_ct rfl _ _ (w.heap.size + 1) _ _ _ _ rfl (put4_heap ((setFar (by omega) 2 _).trans F.g2) _ _ _ _) Tryd.underlying25 rfl size_disk) rfl ?_
      rw [HP.out]
      exact ⟨⟨_, rfl, DiskV.mk (d := { d with fuse := fuse }) (put4_secsV (F.s.below hb1) H3 _ _ _ _) (put4_looseV (F.l.below hb1) H3 _ _ _ _)⟩, put4_below (hbb.trans hb1) H3 _ _ _ _⟩
end Go.Proofs.YtaijompnohkmaaaDoor
/- Layer 1 (sector), the document's answer: done. -/
namespace Go.Proofs.YtaijompnohkmaaaDoor
open Go.RowKit
set_option maxRecDepth 100000 in
set_option maxHeartbeats 2000000 in
theorem done_any {B : Nat} (v : Value) (d : DiskP) (mask : Int) (w : World) (h : DiskV B w v d) (hr : rightB d = true) (hm0 : 0 ≤ mask) (hm : mask < 2 ^ 64) :
    Calls Tryd.prog 55 #[v, .int .u64 mask] w fun e w' => (∃ sv, e = .returned (.agg #[sv, .slice none 0 0, .int .i64 d.fuse, .bool d.down]) ∧ SecsO w.heap.size w' sv (settleN d.secs d.loose (stay mask) d.loose.length)) ∧ Below w.heap.size w w' := by
  obtain ⟨a1, n1, a2, n2, rfl, hs, hl⟩ := h.tight.parts
  clear h
  have hl0 := hl
  have F := Fr2.new (w := w) hs hl
  obtain ⟨w2, hw2⟩ : ∃ w2, w2 = (w.alloc (.cells #[.slice a1 d.secs.length n1, .slice a2 d.loose.length n2, .int .i64 d.fuse, .bool d.down] 25)).alloc (.cells #[.slice none 0 0, .slice none 0 0, .int .i64 0, .bool false] 25) := ⟨_, rfl⟩
  have hB : Below w.heap.size w w2 := by rw [hw2]; exact Below.alloc (Below.alloc (Below.refl _ _) (Nat.le_refl _) _) (by simp) _
  have hle : w.heap.size + 2 ≤ w2.heap.size := by rw [hw2]; simp
  rw [← hw2] at F
  have hrs : d.secs.length ≤ 2 ^ 40 ∧ d.loose.length ≤ 2 ^ 40 := by
    simp only [rightB, Bool.and_eq_true, decide_eq_true_eq] at hr
    omega
  have k1 := copy_any _ d w2 F.diskV hrs
  have HT := Lib.hid (fun k hk => there_of_right hr k hk)
  have HM := Lib.hid (And.intro hm0 hm)
  have C0 := cell_of_row w2 _ 0 _ _ _ F.g0
  have C1 := cell_of_row w2 _ 1 _ _ _ F.g0
  have C2 := cell_of_row w2 _ 2 _ _ _ F.g0
  have C3 := cell_of_row w2 _ 3 _ _ _ F.g0
  clear hs hl hr hm0 hm
  obtain ⟨mk, hmk⟩ := Int.eq_ofNat_of_zero_le HM.out.1
  go_enter Tryd.func55, Tryd.ntmps55
  go_wp2_with fail
  rw [← hw2]
  clear hw2
  refine k1.mono ?_
  rintro e w3 ⟨⟨sv, lv, rfl, C, hC1, hC2, ho, r, hlo⟩, hb3⟩
  obtain ⟨b1, m1, rfl⟩ := ho.form
  obtain ⟨b2, m2, rfl⟩ := hlo.form
  have HNE := Lib.hid (show 0 < d.secs.length → ∀ g, b1 = some ⟨g, 0, none⟩ → w3.heap.size ≠ g from fun hp g hg => by
    obtain ⟨_, a, cap, hv, _, _, h3⟩ := ho.secs.2
    cases hv
    obtain ⟨b, off, hb, hlt, _⟩ := h3 hp
    rw [hg] at hb
    cases hb
    omega)
  have F := F.below hb3 (by omega) (by omega)
  have hB := hB.trans (hb3.mono hB.size)
  have hs3 : w.heap.size + 2 ≤ w3.heap.size := Nat.le_trans hle hb3.size
  clear k1 C0 C1 C2 C3 hb3 r hlo hC1 hC2
  obtain ⟨w4, hw4⟩ : ∃ w4, w4 = w3.alloc (.cells #[.slice b1 d.secs.length m1, .slice none 0 0, .int .i64 d.fuse, .bool d.down] 25) := ⟨_, rfl⟩
  have hb4 : Below w3.heap.size w3 w4 := by rw [hw4]; exact Below.alloc (Below.refl _ _) (Nat.le_refl _) _
  have G5 : w4.heap[w3.heap.size]? = some (.cells #[.slice b1 d.secs.length m1, .slice none 0 0, .int .i64 d.fuse, .bool d.down] 25 (0, 0)) := by rw [hw4]; exact heap_alloc_new w3 _
  have F := F.below hb4 (by omega) (by omega)
  have ho := ho.keep hb4 (Nat.le_refl _)
  have hB := hB.trans (hb4.mono hB.size)
  have hs4 : w3.heap.size + 1 ≤ w4.heap.size := by have := block_lt G5; omega
  have ho4 := ho.lower hle
  have HW4 := Lib.hid hw4
  clear hw4 ho
  obtain ⟨_, _, _, hv, _, hcap2, _⟩ := hl0.2
  cases hv
  unfold maxLen at hcap2
  obtain ⟨iz, zz, hi46, _, hsz46, _, _⟩ := zero_parts infoz_write
  obtain ⟨i44, hi44, hs44⟩ := info44
  have HL := Lib.hid hl0
  go_wp2_with fail
  rw [← HW4.out]
  go_loopw [6] (fun i wr => ∃ k : Nat, k ≤ d.loose.length ∧ i = .int .i64 k ∧ SecsO (w.heap.size + 2) wr (.slice b1 d.secs.length m1) (settleN d.secs d.loose (stay mask) k) ∧ Fr2 w.heap.size w.heap.size wr (.slice a1 d.secs.length n1) (.slice a2 d.loose.length n2) d ∧ wr.heap[w3.heap.size]? = some (.cells #[.slice b1 d.secs.length m1, .slice none 0 0, .int .i64 d.fuse, .bool d.down] 25 (0, 0)) ∧ Below w.heap.size w wr) (fun i _ => d.loose.length - (intOf i).toNat)
  case atStart => exact ⟨0, Nat.zero_le _, rfl, ho4, F, G5, hB⟩
  case round =>
    obtain ⟨k, hk, rfl, ho, F, G5, hB⟩ := hrel
    have C1 := cell_of_row wr _ 1 _ _ _ F.g0
    clear ho4
    by_cases hlt : k < d.loose.length
    · obtain ⟨hls, _, a, cap, hv, hnc, hcap, hcells⟩ := HL.out
      cases hv
      unfold maxLen at hcap
      obtain ⟨b, off, rfl, hBb, hc⟩ := hcells (by omega)
      have hat := flat_at wcells 65 d.loose (fun x hx => by rw [length_wcells, hls x hx]) k d.loose[k] (List.getElem?_eq_getElem hlt)
      obtain ⟨x, hx⟩ : ∃ x, x = d.loose[k] := ⟨_, rfl⟩
      rw [← hx] at hat
      have hxl : x.data.length = 64 := by rw [hx]; exact hls _ (List.getElem_mem hlt)
      obtain ⟨m, hm, hmlt⟩ := HT.out k hlt
      rw [← hx] at hm
      have hset : settleN d.secs d.loose (stay mask) (k + 1) = if stay mask k then (settleN d.secs d.loose (stay mask) k).set m x.data else settleN d.secs d.loose (stay mask) k := by
        show (match d.loose[k]? with | some x => _ | none => _) = _
        rw [List.getElem?_eq_getElem hlt, ← hx]
        simp only [hm, Int.toNat_natCast]
      have HS := Lib.hid hset
      have hcc : ∀ j u, (wcells x)[j]? = some u → wr.cell? ⟨b, off + (k * 65 + j), none⟩ = some u := fun j u hj => (hB.cell (p := ⟨b, off + (k * 65 + j), none⟩) hBb).trans (hc _ _ (hat j u hj))
      have E0 := hcc 0 (.int .i64 (m : Int)) (by simp [wcells, hm])
      rw [Nat.add_zero] at E0
      have hld := run_load_big (P := Tryd.prog) (t := 73) Tryd.underlying73 (.inl ⟨_, _, rfl⟩) hi44 (w := wr.drew) (b := b) (off := off + k * 65 + 1) (cs := u8s x.data) hs44 (by rw [length_u8s, hxl])
        (fun j u hj => by
          have e : off + k * 65 + 1 + j = off + (k * 65 + (j + 1)) := by omega
          rw [e]
          exact hcc (j + 1) u (by simpa [wcells] using hj))
      obtain ⟨X, hX⟩ : ∃ X, X = (u8s x.data).toArray := ⟨_, rfl⟩
      rw [← hX] at hld
      have HX := Lib.hid hX
      obtain ⟨q, hq⟩ : ∃ q, q = stay mask k := ⟨_, rfl⟩
      have hqq : (bits BinOp.and IntKind.u64 ((mk : Int) / 2 ^ (k % 64)) 1 == 1) = q := by rw [hq, hmk]; rfl
      have HQ := Lib.hid hq
      clear hx hset hcc hat hc hcells hX hq
      have hmk1 : mk < 2 ^ 64 := by have := HM.out; omega
      rw [hmk]
      have HMK := Lib.hid hmk
      clear hmk
      cases q with
      | false =>
        go_wp2_with fail
        go_roundw
        case rel =>
          refine ⟨k + 1, by omega, by go_num, ?_, F, G5, hB⟩
          rw [← HMK.out, HS.out, ← HQ.out]
          exact ho
        case measure => simp [intOf]; omega
      | true =>
        have C5 := cell_of_row wr _ 0 _ _ _ G5
        have hl1 : ((m : Int) < (d.secs.length : Int)) := by omega
        obtain ⟨g, rfl, hgB, hgw, w7, hst7, ho7, hb7, hsz7, hoth7⟩ := SecsO.lay (P := Tryd.prog) (show SecsO (w.heap.size + 2) wr.drew (.slice b1 d.secs.length m1) (settleN d.secs d.loose (stay mask) k) from ho) m x.data (by rw [length_settleN]; exact hmlt) hxl hi44 hs44
        rw [← HX.out] at hst7
        have hne : w3.heap.size ≠ g := HNE.out (by omega) g rfl
        have F7 := (show Fr2 w.heap.size w.heap.size wr.drew _ _ d from ⟨F.g0, F.g2, F.s, F.l⟩).below hb7 (by omega) (by omega)
        have G7 := (hoth7 w3.heap.size hne).trans (show wr.drew.heap[w3.heap.size]? = _ from G5)
        have hB7 := (below_draws hB 1).trans (hb7.mono (by omega))
        go_wp2_with fail
        go_still_tail 15, (by kernel_rfl)
        refine still_load (.tmp 36) 73 rfl rfl rfl hld ?_
        repeat still_step
        refine wpStill_nil ?_
        change wpList _ _ _ _ _ wr.drew
        clear hld
        refine wp_store_at (.tmp 38) (.tmp 37) 73 rfl rfl rfl rfl hst7 ?_
        clear hst7
        go_wp2_with fail
        go_roundw
        case rel =>
          refine ⟨k + 1, by omega, by go_num, ?_, F7, G7, hB7⟩
          rw [← HMK.out, HS.out, ← HQ.out]
          exact ho7
        case measure => simp [intOf]; omega
    · obtain rfl : k = d.loose.length := by omega
      have c0 := cell_of_row wr _ 0 _ _ _ G5
      have c1 := cell_of_row wr _ 1 _ _ _ G5
      have c2 := cell_of_row wr _ 2 _ _ _ G5
      have c3 := cell_of_row wr _ 3 _ _ _ G5
      have D0 := cell_of_row wr _ 0 _ _ _ F.g2
      have D1 := cell_of_row wr _ 1 _ _ _ F.g2
      have D2 := cell_of_row wr _ 2 _ _ _ F.g2
      have D3 := cell_of_row wr _ 3 _ _ _ F.g2
      have Z := frozen_row F.g2
      have hl2 : w.heap.size + 1 < w.heap.size + 2 := by omega
      go_wp2_with fail
      refine bodyPost_ret (results_cell_row rfl _ _ (w.heap.size + 1) _ _ _ _ rfl (put4_heap F.g2 _ _ _ _) Tryd.underlying25 rfl size_disk) rfl ?_
      exact ⟨⟨_, rfl, (put4_secs ho hl2 _ _ _ _).lower (by omega)⟩, put4_below hB (by omega) _ _ _ _⟩
end Go.Proofs.YtaijompnohkmaaaDoor
/- Layer 1 (sector), the document's answer: Flush, Start. -/
namespace Go.Proofs.YtaijompnohkmaaaDoor
open Go.RowKit
theorem stay_all_lt : ∀ j : Fin 64, (bits BinOp.and IntKind.u64 ((18446744073709551615 : Int) / 2 ^ (j : Nat)) 1 == 1) = true := by decide
theorem stay_all : stay 18446744073709551615 = fun _ => true := by
  funext k
  exact stay_all_lt ⟨k % 64, Nat.mod_lt _ (by decide)⟩
theorem DiskO.diskV {B C : Nat} {w : World} {sv lv : Value} {d : DiskP} (h : DiskO B C w sv lv d) (f : Int) (b : Bool) : DiskV w.heap.size w (.agg #[sv, lv, .int .i64 f, .bool b]) { d with fuse := f, down := b } :=
  ⟨sv, lv, rfl, h.1.secs, h.2.2.loose⟩
theorem right_bounds {d : DiskP} (hr : rightB d = true) : (d.secs.length ≤ 2 ^ 40 ∧ d.loose.length ≤ 2 ^ 40) ∧ (-1 ≤ d.fuse ∧ d.fuse ≤ 2 ^ 40) := by
  simp only [rightB, fusedB, Bool.and_eq_true, decide_eq_true_eq] at hr
  omega
theorem right_burn {d : DiskP} (hr : rightB d = true) : rightB { d with fuse := burnF d, down := downP d } = true := by
  simp only [rightB, fusedB, Bool.and_eq_true, decide_eq_true_eq] at hr ⊢
  refine ⟨⟨⟨hr.1.1.1, hr.1.1.2⟩, ?_⟩, hr.2⟩
  simp only [burnF]
  split
  · omega
  · split <;> omega
set_option maxRecDepth 100000 in
set_option maxHeartbeats 1000000 in
theorem refflush_any {B : Nat} (v : Value) (d : DiskP) (w : World) (h : DiskV B w v d) :
    Calls Tryd.prog 73 #[v] w fun e w' => (∃ v', e = .returned (.tuple #[v', .int .i64 (flushP d).2]) ∧ DiskV w'.heap.size w' v' (flushP d).1) ∧ Below w.heap.size w w' := by
  obtain ⟨a1, n1, a2, n2, rfl, hs, hl⟩ := h.tight.parts
  clear h
  have F := Fr2.new (w := w) hs hl
  obtain ⟨w2, hw2⟩ : ∃ w2, w2 = (w.alloc (.cells #[.slice a1 d.secs.length n1, .slice a2 d.loose.length n2, .int .i64 d.fuse, .bool d.down] 25)).alloc (.cells #[.slice none 0 0, .slice none 0 0, .int .i64 0, .bool false] 25) := ⟨_, rfl⟩
  have hB : Below w.heap.size w w2 := by rw [hw2]; exact Below.alloc (Below.alloc (Below.refl _ _) (Nat.le_refl _) _) (by simp) _
  have hle : w.heap.size + 2 ≤ w2.heap.size := by rw [hw2]; simp
  rw [← hw2] at F
  clear hs hl
  have k1 := refright_any _ d w2 F.diskV
  have H3 : w.heap.size ≤ w.heap.size + 1 := by omega
  have C0 := cell_of_row w2 _ 0 _ _ _ F.g0
  have C1 := cell_of_row w2 _ 1 _ _ _ F.g0
  have C2 := cell_of_row w2 _ 2 _ _ _ F.g0
  have C3 := cell_of_row w2 _ 3 _ _ _ F.g0
  obtain ⟨R, hR⟩ : ∃ R, R = rightB d := ⟨_, rfl⟩
  rw [← hR] at k1
  have HR := Lib.hid hR
  clear hR
  go_enter Tryd.func73, Tryd.ntmps73
  go_wp2_with fail
  rw [← hw2]
  clear hw2
  refine k1.mono ?_
  rintro e w3 ⟨rfl, hb3⟩
  have F := F.below hb3 (by omega) (by omega)
  have hB := hB.trans (hb3.mono hB.size)
  have hle := Nat.le_trans hle hb3.size
  have hle3 := Lib.hid hle
  clear k1 C0 C1 C2 C3 hb3
  have C0 := cell_of_row w3 _ 0 _ _ _ F.g0
  have C1 := cell_of_row w3 _ 1 _ _ _ F.g0
  have C2 := cell_of_row w3 _ 2 _ _ _ F.g0
  have C3 := cell_of_row w3 _ 3 _ _ _ F.g0
  have D0 := cell_of_row w3 _ 0 _ _ _ F.g2
  have D1 := cell_of_row w3 _ 1 _ _ _ F.g2
  have D2 := cell_of_row w3 _ 2 _ _ _ F.g2
  have D3 := cell_of_row w3 _ 3 _ _ _ F.g2
  have Z := frozen_row F.g2
  cases R with
  | false =>
    have HP := Lib.hid (show flushP d = (d, 1) by simp [flushP, ← HR.out])
    go_wp2_with fail
    refine bodyPost_ret (results_ct rfl _ _ (w.heap.size + 1) _ _ _ _ rfl (put4_heap F.g2 _ _ _ _) Tryd.underlying25 rfl size_disk) rfl ?_
    rw [HP.out]
    exact ⟨⟨_, rfl, DiskV.tight ⟨_, _, rfl, put4_secsV F.s H3 _ _ _ _, put4_looseV F.l H3 _ _ _ _⟩⟩, put4_below hB H3 _ _ _ _⟩
  | true =>
    have hR := HR.out.symm
    have hbd := right_bounds hR
    have k1 := deed_any _ d w3 F.diskV hbd.1 hbd.2
    have HRB := Lib.hid (right_burn hR)
    have HFP := Lib.hid (show flushP d = if downP d then ({ d with fuse := burnF d, down := true }, 9) else (⟨settleN d.secs d.loose (fun _ => true) d.loose.length, [], burnF d, false⟩, 0) by simp [flushP, hR])
    clear hR hbd
    go_wp2_with fail
    refine k1.mono ?_
    rintro e w4 ⟨⟨sv, lv, rfl, C, hC1, hC2, O⟩, hb4⟩
    obtain ⟨b1, m1, rfl⟩ := O.1.form
    obtain ⟨b2, m2, rfl⟩ := O.2.2.form
    have F := F.below hb4 (by omega) (by omega)
    have hB := hB.trans (hb4.mono hB.size)
    have hle := Nat.le_trans hle hb4.size
    clear k1 C0 C1 C2 C3 D0 D1 D2 D3 Z hb4
    obtain ⟨D, hD⟩ : ∃ D, D = downP d := ⟨_, rfl⟩
    obtain ⟨f, hf⟩ : ∃ f, f = burnF d := ⟨_, rfl⟩
    have HRB := HRB.out
    have HFP := HFP.out
    rw [← hD, ← hf] at HFP HRB ⊢
    obtain ⟨w5, hw5⟩ : ∃ w5, w5 = w4.alloc (.cells #[.slice b1 d.secs.length m1, .slice b2 d.loose.length m2, .int .i64 f, .bool D] 25) := ⟨_, rfl⟩
    have hb5 : Below w4.heap.size w4 w5 := by rw [hw5]; exact Below.alloc (Below.refl _ _) (Nat.le_refl _) _
    have G := heap_alloc_new w4 (.cells #[.slice b1 d.secs.length m1, .slice b2 d.loose.length m2, .int .i64 f, .bool D] 25)
    rw [← hw5] at G
    have F := F.below hb5 (by omega) (by omega)
    have hdv := (O.diskV f D).below hb5
    have O5 : DiskO w3.heap.size C w5 _ _ d := ⟨O.1.keep hb5 (Nat.le_refl _), O.2.1.below (hb5.mono hC2), O.2.2.keep hb5 (Nat.le_refl _)⟩
    have hl3 : w.heap.size + 1 < w3.heap.size := by have := hle3.out; omega
    have hB := hB.trans (hb5.mono hB.size)
    have C0 := cell_of_row w5 _ 0 _ _ _ G
    have C1 := cell_of_row w5 _ 1 _ _ _ G
    have C2 := cell_of_row w5 _ 2 _ _ _ G
    have C3 := cell_of_row w5 _ 3 _ _ _ G
    have hs5 : w4.heap.size + 1 ≤ w5.heap.size := by have := block_lt G; omega
    have HP := Lib.hid HFP
    have HRB := Lib.hid HRB
    have HW5 := Lib.hid hw5
    clear HFP hD hf hw5 O hb5
    have hld := run_loadVar_row (P := Tryd.prog) w5 w4.heap.size 25 25 _ (0, 0) _ G Tryd.underlying25 rfl size_disk
    cases D with
    | true =>
      go_wp2_with (refine wp_load_to (w' := w5) (.tmp 4) 25 rfl rfl ?_ rfl hld ?_; (exact HW5.out); refine Halt.in ?_)
      refine Halt.out ?_
      clear hld
      have D0 := cell_of_row w5 _ 0 _ _ _ F.g2
      have D1 := cell_of_row w5 _ 1 _ _ _ F.g2
      have D2 := cell_of_row w5 _ 2 _ _ _ F.g2
      have D3 := cell_of_row w5 _ 3 _ _ _ F.g2
      have Z := frozen_row F.g2
      go_wp2_with fail
      refine bodyPost_ret (results_ct rfl _ _ (w.heap.size + 1) _ _ _ _ rfl (put4_heap F.g2 _ _ _ _) Tryd.underlying25 rfl size_disk) rfl ?_
      rw [HP.out]
      exact ⟨⟨_, rfl, (O5.put4 hl3 hC1 _ _ _ _).diskV f true⟩, put4_below hB H3 _ _ _ _⟩
    | false =>
      have k2 := done_any _ _ 18446744073709551615 w5 hdv HRB.out (by decide) (by decide)
      rw [stay_all] at k2
      go_wp2_with (refine wp_load_to (w' := w5) (.tmp 4) 25 rfl rfl ?_ rfl hld ?_; (exact HW5.out); refine Halt.in ?_)
      refine Halt.out ?_
      clear hld
      go_wp2_with fail
      refine k2.mono ?_
      rintro e w6 ⟨⟨sv, rfl, ho⟩, hb6⟩
      obtain ⟨b3, m3, hsv⟩ := ho.form
      subst hsv
      have F := F.below hb6 (by omega) (by omega)
      have hB := hB.trans (hb6.mono hB.size)
      have hl6 : w.heap.size + 1 < w5.heap.size := by omega
      clear k2 C0 C1 C2 C3 hb6
      have D0 := cell_of_row w6 _ 0 _ _ _ F.g2
      have D1 := cell_of_row w6 _ 1 _ _ _ F.g2
      have D2 := cell_of_row w6 _ 2 _ _ _ F.g2
      have D3 := cell_of_row w6 _ 3 _ _ _ F.g2
      have Z := frozen_row F.g2
      go_wp2_with fail
      refine bodyPost_ret (results_ct rfl _ _ (w.heap.size + 1) _ _ _ _ rfl (put4_heap F.g2 _ _ _ _) Tryd.underlying25 rfl size_disk) rfl ?_
      rw [HP.out]
      exact ⟨⟨_, rfl, ⟨_, _, rfl, (put4_secs ho hl6 _ _ _ _).secs, Loose.nil _ _⟩⟩, put4_below hB H3 _ _ _ _⟩
end Go.Proofs.YtaijompnohkmaaaDoor
/- Layer 1 (sector), the document's answer: Start. -/
namespace Go.Proofs.YtaijompnohkmaaaDoor
open Go.RowKit
set_option maxRecDepth 100000 in
set_option maxHeartbeats 1000000 in
theorem refstart_any {B : Nat} (v : Value) (d : DiskP) (mask : Int) (w : World) (h : DiskV B w v d) (hm0 : 0 ≤ mask) (hm : mask < 2 ^ 64) :
    Calls Tryd.prog 29 #[v, .int .u64 mask] w fun e w' => (∃ v', e = .returned (.tuple #[v', .int .i64 (startP d mask).2]) ∧ DiskV w'.heap.size w' v' (startP d mask).1) ∧ Below w.heap.size w w' := by
  obtain ⟨a1, n1, a2, n2, rfl, hs, hl⟩ := h.tight.parts
  have HM := Lib.hid (And.intro hm0 hm)
  clear h hm0 hm
  have F := Fr2.new (w := w) hs hl
  obtain ⟨w2, hw2⟩ : ∃ w2, w2 = (w.alloc (.cells #[.slice a1 d.secs.length n1, .slice a2 d.loose.length n2, .int .i64 d.fuse, .bool d.down] 25)).alloc (.cells #[.slice none 0 0, .slice none 0 0, .int .i64 0, .bool false] 25) := ⟨_, rfl⟩
  have hB : Below w.heap.size w w2 := by rw [hw2]; exact Below.alloc (Below.alloc (Below.refl _ _) (Nat.le_refl _) _) (by simp) _
  have hle : w.heap.size + 2 ≤ w2.heap.size := by rw [hw2]; simp
  rw [← hw2] at F
  clear hs hl
  have k1 := refright_any _ d w2 F.diskV
  have H3 : w.heap.size ≤ w.heap.size + 1 := by omega
  have C0 := cell_of_row w2 _ 0 _ _ _ F.g0
  have C1 := cell_of_row w2 _ 1 _ _ _ F.g0
  have C2 := cell_of_row w2 _ 2 _ _ _ F.g0
  have C3 := cell_of_row w2 _ 3 _ _ _ F.g0
  obtain ⟨R, hR⟩ : ∃ R, R = rightB d := ⟨_, rfl⟩
  rw [← hR] at k1
  have HR := Lib.hid hR
  clear hR
  go_enter Tryd.func29, Tryd.ntmps29
  go_wp2_with fail
  rw [← hw2]
  clear hw2
  refine k1.mono ?_
  rintro e w3 ⟨rfl, hb3⟩
  have F := F.below hb3 (by omega) (by omega)
  have hB := hB.trans (hb3.mono hB.size)
  have hle := Nat.le_trans hle hb3.size
  have hle3 := Lib.hid hle
  clear k1 C0 C1 C2 C3 hb3
  have C0 := cell_of_row w3 _ 0 _ _ _ F.g0
  have C1 := cell_of_row w3 _ 1 _ _ _ F.g0
  have C2 := cell_of_row w3 _ 2 _ _ _ F.g0
  have C3 := cell_of_row w3 _ 3 _ _ _ F.g0
  have D0 := cell_of_row w3 _ 0 _ _ _ F.g2
  have D1 := cell_of_row w3 _ 1 _ _ _ F.g2
  have D2 := cell_of_row w3 _ 2 _ _ _ F.g2
  have D3 := cell_of_row w3 _ 3 _ _ _ F.g2
  have Z := frozen_row F.g2
  cases R with
  | false =>
    have HP := Lib.hid (show startP d mask = (d, 1) by simp [startP, ← HR.out])
    go_wp2_with fail
    refine bodyPost_ret (results_ct rfl _ _ (w.heap.size + 1) _ _ _ _ rfl (put4_heap F.g2 _ _ _ _) Tryd.underlying25 rfl size_disk) rfl ?_
    rw [HP.out]
    exact ⟨⟨_, rfl, DiskV.tight ⟨_, _, rfl, put4_secsV F.s H3 _ _ _ _, put4_looseV F.l H3 _ _ _ _⟩⟩, put4_below hB H3 _ _ _ _⟩
  | true =>
    have hR := HR.out.symm
    have k1 := done_any _ d mask w3 F.diskV hR HM.out.1 HM.out.2
    have HP := Lib.hid (show startP d mask = (⟨settleN d.secs d.loose (stay mask) d.loose.length, [], -1, false⟩, 0) by simp [startP, hR])
    clear hR
    go_wp2_with fail
    refine k1.mono ?_
    rintro e w4 ⟨⟨sv, rfl, ho⟩, hb4⟩
    obtain ⟨b1, m1, hsv⟩ := ho.form
    rw [length_settleN] at hsv
    subst hsv
    have F := F.below hb4 (by omega) (by omega)
    have hB := hB.trans (hb4.mono hB.size)
    have hle := Nat.le_trans hle hb4.size
    clear k1 C0 C1 C2 C3 D0 D1 D2 D3 Z hb4
    have D0 := cell_of_row w4 _ 0 _ _ _ F.g2
    have D1 := cell_of_row w4 _ 1 _ _ _ F.g2
    have D2 := cell_of_row w4 _ 2 _ _ _ F.g2
    have D3 := cell_of_row w4 _ 3 _ _ _ F.g2
    have Z := frozen_row F.g2
    have hlt4 : w.heap.size + 1 < w4.heap.size := by omega
    have hl3 : w.heap.size + 1 < w3.heap.size := by have := hle3.out; omega
    go_wp2_with fail
    have e1 := put4_heap F.g2 (.slice b1 d.secs.length m1) (.slice none 0 0) (.int .i64 (-1)) (.bool false)
    have hB5 := put4_below hB H3 (.slice b1 d.secs.length m1) (.slice none 0 0) (.int .i64 (-1)) (.bool false)
    have ho5 := put4_secs ho hl3 (.slice b1 d.secs.length m1) (.slice none 0 0) (.int .i64 (-1)) (.bool false)
    refine bodyPost_ret (results_ct rfl _ _ (w.heap.size + 1) _ _ _ _ rfl ((alloc_old _ _ (block_lt e1)).trans e1) Tryd.underlying25 rfl size_disk) rfl ?_
    rw [HP.out]
    exact ⟨⟨_, rfl, ⟨_, _, rfl, (ho5.keep (Below.alloc (Below.refl _ _) (Nat.le_refl _) _) (Nat.le_refl _)).secs, Loose.nil _ _⟩⟩, Below.alloc hB5 hB5.size _⟩
end Go.Proofs.YtaijompnohkmaaaDoor
/- append, once more: what is of another type stays. -/
namespace Go.Proofs.YtaijompnohkmaaaDoor
open Go.RowKit
theorem run_append2 {P : Program} {B : Nat} {w : World} {v x : Value} {sz n m bytes : Nat} {cs news : List Value} (t xt ty e : TypeId) (i : TypeInfo) (z : Value)
    (ht : P.underlying t = some (.slice e)) (hxt : (∃ e', P.underlying xt = some (.slice e')) ∨ P.underlying xt = some .string) (hi : P.info? e = some i) (hz : i.zero = some z) (hsz : i.size = sz) (hby : i.bytes = bytes) (hzs : z.cells.size = sz)
    (hown : Own B w e v sz n cs) (hsrc : Src P w x sz m news) (h1 : ∀ u ∈ news, u.oneCell' = true) (h63 : n + m ≤ maxLen) (hroom : (n + m) * bytes ≤ 140737488355328) (hB : B ≤ w.heap.size) :
    ∃ v' w', (Builtin.append_ #[t, xt] ty #[v, x]).run P w = .ok v' w' ∧ Own B w' e v' sz (n + m) (cs ++ news) ∧ Below B w w' ∧ (∀ (T : Nat) (cs' : Array Value) (t' : TypeId) (fr : Nat × Nat), w.heap[T]? = some (.cells cs' t' fr) → t' ≠ e → w'.heap[T]? = w.heap[T]?) := by
  subst hsz
  subst hby
  obtain ⟨hl, a, cap, rfl, hnc, hcap, halt⟩ := hown
  obtain ⟨hnl, hlen, hfirst⟩ := hsrc
  have hf0 := hfirst w (fun _ => rfl)
  have hf1 := hfirst w.drew (fun p => by simp)
  have hll : (cs ++ news).length = (n + m) * i.size := by rw [List.length_append, hl, hnl, Nat.add_mul]
  by_cases hfit : n + m ≤ cap
  · rcases halt with h0 | ⟨g, cur, rfl, hg, hh, hs, htake⟩
    · subst h0
      obtain ⟨rfl, rfl⟩ : n = 0 ∧ m = 0 := by omega
      have e1 : cs = [] := List.eq_nil_of_length_eq_zero (by simpa using hl)
      have e2 : news = [] := List.eq_nil_of_length_eq_zero (by simpa using hnl)
      subst e1; subst e2
      refine ⟨.slice a 0 0, w, ?_, Own.none _ _ _ _ _, Below.refl _ _, fun _ _ _ _ _ _ => rfl⟩
      rcases hxt with ⟨e', hxt⟩ | hxt <;> cases a <;> simp [Builtin.append_, run_underlying ht, run_underlying hxt, sizeOf, typeInfo, hi, hlen, hf0, storeCells]
    · have hst := run_storeCells_at P g (n * i.size) e news 0 cur w hh (by rw [hs, hnl, Nat.add_zero, ← Nat.add_mul]; exact Nat.mul_le_mul_right _ hfit) h1
      simp only [Nat.add_zero] at hst
      refine ⟨.slice (some ⟨g, 0, Option.none⟩) (n + m) cap, w.setRow g (cur.toList.take (n * i.size) ++ news ++ cur.toList.drop (n * i.size + news.length)).toArray, ?_, ⟨hll, _, cap, rfl, hfit, hcap, .inr ⟨g, _, rfl, hg, setRow_heap w g cur _ e _ hh, ?_, ?_⟩⟩, ?_, ?_⟩
      · rcases hxt with ⟨e', hxt⟩ | hxt <;> simp [Builtin.append_, run_underlying ht, run_underlying hxt, sizeOf, typeInfo, hi, hlen, hf0, hfit, Addr.add_lit, hst]
      · have : n * i.size + news.length ≤ cap * i.size := by rw [hnl, ← Nat.add_mul]; exact Nat.mul_le_mul_right _ hfit
        simp only [List.size_toArray, List.length_append, List.length_take, List.length_drop, Array.length_toList]
        omega
      · rw [htake, ← hll]
        exact List.take_left
      · exact ⟨rfl, rfl, rfl, by simp [World.setRow], fun k hk => setRow_other w g k _ (by omega)⟩
      · intro T cs' t' fr hT hne
        refine setRow_other w g T _ (fun e' => ?_)
        subst e'
        rw [hh] at hT
        cases hT
        exact hne rfl
  · have hfo : (Builtin.firstCells i.size n (.slice a n cap)).run P w.drew = .ok cs.toArray w.drew := by
      have hr : Row w.heap.size w (.slice a n cap) i.size n cs := Own.row ⟨hl, a, cap, rfl, hnc, hcap, halt⟩
      exact hr.src.2.2 w.drew (fun p => by simp)
    have h63' : ¬ (9223372036854775807 < ((n : Int) + (m : Int))) := by unfold maxLen at h63; omega
    have h48' : ¬ (281474976710656 < Builtin.nextslicecap (n + m) cap * i.bytes) := Nat.not_lt.2 (growslice_fits (by omega) hroom)
    have hge := grownCap_ge w (n + m) cap e
    have hcm := grownCap_le_maxLen w (n + m) cap e h63
    refine ⟨.slice (some ⟨w.heap.size, 0, Option.none⟩) (n + m) (grownCap w (n + m) cap e), w.drew.alloc (.cells (cs.toArray ++ news.toArray ++ Builtin.zeroCells z.cells (grownCap w (n + m) cap e - (n + m))) e), ?_,
      ⟨hll, _, _, rfl, hge, hcm, .inr ⟨w.heap.size, _, rfl, hB, heap_alloc_new w.drew _, ?_, ?_⟩⟩, ?_, ?_⟩
    · rcases hxt with ⟨e', hxt⟩ | hxt <;> (simp [Builtin.append_, run_underlying ht, run_underlying hxt, sizeOf, typeInfo, zeroValue, hi, hz, hlen, hfit, h63', h48', Question.forced, hf1, hfo, newRow, grownCap]; (congr 2; apply Array.ext'; simp [List.append_assoc]))
    · simp only [Array.size_append, List.size_toArray, size_zeroCells, hzs, hl, hnl, ← Nat.add_mul]
      congr 1
      omega
    · simp only [Array.toList_append, List.append_assoc]
      rw [← List.append_assoc, ← hll]
      exact List.take_left
    · exact ⟨rfl, rfl, rfl, by simp, fun k hk => Below.heap_alloc w.drew _ k (Nat.lt_of_lt_of_le hk hB)⟩
    · intro T cs' t' fr hT _
      exact Below.heap_alloc w.drew _ T (block_lt hT)
theorem wp_append2 {P : Program} {ops : Array Oper} {rest : List Oper} {o : Oper} {a : Act} {w : World} {Q : Exit → Act → World → Prop} (hgd : o.guard = Option.none) (s y : Operand) (t xt e : TypeId)
    (ho : o.op = .call { callee := .builtin .append, args := #[s, y], argTypes := #[t, xt] }) (i : TypeInfo) (z : Value) (sz bytes : Nat)
    (ht : P.underlying t = some (.slice e)) (hxt : (∃ e', P.underlying xt = some (.slice e')) ∨ P.underlying xt = some .string) (hi : P.info? e = some i) (hz : i.zero = some z) (hsz : i.size = sz) (hby : i.bytes = bytes) (hzs : z.cells.size = sz)
    {B : Nat} {v x : Value} {n m : Nat} {cs news : List Value} (hs : a.eval s = v) (hx : a.eval y = x)
    (hown : Own B w e v sz n cs) (hsrc : Src P w x sz m news) (h1 : ∀ u ∈ news, u.oneCell' = true) (h63 : n + m ≤ maxLen) (hroom : (n + m) * bytes ≤ 140737488355328) (hB : B ≤ w.heap.size)
    (h : ∀ v' w', Own B w' e v' sz (n + m) (cs ++ news) → Below B w w' → (∀ (T : Nat) (cs' : Array Value) (t' : TypeId) (fr : Nat × Nat), w.heap[T]? = some (.cells cs' t' fr) → t' ≠ e → w'.heap[T]? = w.heap[T]?) → wpList P ops Q rest (a.put o.dst v') w') : wpList P ops Q (o :: rest) a w := by
  refine wpList_plain hgd fun K hK => ?_
  obtain ⟨v', w', hr, h2, h3, h4⟩ := run_append2 (P := P) t xt o.type e i z ht hxt hi hz hsz hby hzs hown hsrc h1 h63 hroom hB
  subst hs
  subst hx
  unfold Oper.wp execOp
  simp only [ho, resolve, invoke, builtin, Sem.run_bind, Sem.run_pure, Result.andThen_ok, List.map_toArray, List.map_cons, List.map_nil, hr]
  exact hK _ _ (h v' w' h2 h3 h4)
/-- An own slice outlives a write into a block of another type. -/
theorem Own.setType {B : Nat} {w : World} {e t : TypeId} {v : Value} {sz n : Nat} {cs : List Value} {cs' : Array Value} {fr : Nat × Nat} (h : Own B w e v sz n cs) (p : Addr) (u : Value) (hp : w.heap[p.block]? = some (.cells cs' t fr)) (ht : t ≠ e) : Own B (w.setCell p u) e v sz n cs := by
  obtain ⟨h1, a, cap, rfl, h2, h3, h4⟩ := h
  refine ⟨h1, a, cap, rfl, h2, h3, ?_⟩
  rcases h4 with h4 | ⟨g, cur, rfl, hg, hh, hs, ht'⟩
  · exact .inl h4
  · refine .inr ⟨g, cur, rfl, hg, ?_, hs, ht'⟩
    simp only [World.setCell, Array.getElem?_modify]
    rw [if_neg (fun e' => by rw [e', hh] at hp; cases hp; exact ht rfl)]
    exact hh
end Go.Proofs.YtaijompnohkmaaaDoor
