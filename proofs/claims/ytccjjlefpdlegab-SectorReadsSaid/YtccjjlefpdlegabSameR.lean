/- Layer 1 (sector), the document's answer: Same, of any two disks. -/
import Derived.Test.YtccjjlefpdlegabSameS
namespace Go.Proofs.Ytccjjlefpdlegab
open Go.RowKit
theorem sameB_secs {d d' : DiskP} (h : d.secs ≠ d'.secs) : sameB d d' = false := by simp [sameB, h]
theorem sameB_loose {d d' : DiskP} (h : d.loose.map pr ≠ d'.loose.map pr) : sameB d d' = false := by simp [sameB, h]
theorem sameB_all {d d' : DiskP} (h1 : d.secs = d'.secs) (h2 : d.loose.map pr = d'.loose.map pr) (h3 : d.fuse = d'.fuse) (h4 : d.down = d'.down) : sameB d d' = true := by simp [sameB, h1, h2, h3, h4]
set_option maxRecDepth 100000 in
set_option maxHeartbeats 4000000 in
theorem sameR_any {B B' : Nat} (v v' : Value) (d d' : DiskP) (w : World) (h : DiskV B w v d) (h' : DiskV B' w v' d') :
    Calls Try.prog 15 #[v, v'] w fun e w' => e = .returned (.bool (sameB d d')) ∧ Below w.heap.size w w' := by
  obtain ⟨a1, n1, a2, n2, rfl, hs, hl⟩ := h.tight.parts
  obtain ⟨c1, m1, c2, m2, rfl, hs', hl'⟩ := h'.tight.parts
  clear h h'
  obtain ⟨_, _, _, hv, q1, p1, _⟩ := hs.2
  cases hv
  obtain ⟨_, _, _, hv, q2, p2, _⟩ := hl.2
  cases hv
  obtain ⟨_, _, _, hv, q3, p3, _⟩ := hs'.2
  cases hv
  obtain ⟨_, _, _, hv, q4, p4, _⟩ := hl'.2
  cases hv
  unfold maxLen at p1 p2 p3 p4
  obtain ⟨L, hL⟩ : ∃ L, L = d.secs.length := ⟨_, rfl⟩
  obtain ⟨M, hM⟩ : ∃ M, M = d.loose.length := ⟨_, rfl⟩
  obtain ⟨L', hL'⟩ : ∃ L, L = d'.secs.length := ⟨_, rfl⟩
  obtain ⟨M', hM'⟩ : ∃ M, M = d'.loose.length := ⟨_, rfl⟩
  rw [← hL] at q1 hs ⊢
  rw [← hM] at q2 hl ⊢
  rw [← hL'] at q3 hs' ⊢
  rw [← hM'] at q4 hl' ⊢
  obtain ⟨f, hf⟩ : ∃ f, f = d.fuse := ⟨_, rfl⟩
  obtain ⟨f', hf'⟩ : ∃ f, f = d'.fuse := ⟨_, rfl⟩
  obtain ⟨b, hb⟩ : ∃ f, f = d.down := ⟨_, rfl⟩
  obtain ⟨b', hb'⟩ : ∃ f, f = d'.down := ⟨_, rfl⟩
  rw [← hf, ← hb, ← hf', ← hb']
  obtain ⟨w2, hw2⟩ : ∃ w2, w2 = (w.alloc (.cells #[.slice a1 L n1, .slice a2 M n2, .int .i64 f, .bool b] 27)).alloc (.cells #[.slice c1 L' m1, .slice c2 M' m2, .int .i64 f', .bool b'] 27) := ⟨_, rfl⟩
  have hB : Below w.heap.size w w2 := by rw [hw2]; exact Below.alloc (Below.alloc (Below.refl _ _) (Nat.le_refl _) _) (by simp) _
  have G0 : w2.heap[w.heap.size]? = some (.cells #[.slice a1 L n1, .slice a2 M n2, .int .i64 f, .bool b] 27 (0, 0)) := by rw [hw2]; exact heap_alloc2_old w _ _
  have G1 : w2.heap[w.heap.size + 1]? = some (.cells #[.slice c1 L' m1, .slice c2 M' m2, .int .i64 f', .bool b'] 27 (0, 0)) := by rw [hw2]; exact heap_alloc2_new w _ _
  have HS := Lib.hid hs
  have HS' := Lib.hid hs'
  have HL := Lib.hid hl
  have HL' := Lib.hid hl'
  have HW2 := Lib.hid hw2
  have HLL := Lib.hid hL
  have HMM := Lib.hid hM
  have HLL' := Lib.hid hL'
  have HMM' := Lib.hid hM'
  have HF := Lib.hid hf
  have HF' := Lib.hid hf'
  have HBB := Lib.hid hb
  have HBB' := Lib.hid hb'
  clear hs hs' hl hl' hw2 hL hM hL' hM' hf hf' hb hb'
  have C0 := cell_of_row w2 _ 0 _ _ _ G0
  have C1 := cell_of_row w2 _ 1 _ _ _ G0
  have C2 := cell_of_row w2 _ 2 _ _ _ G0
  have C3 := cell_of_row w2 _ 3 _ _ _ G0
  have E0 := cell_of_row w2 _ 0 _ _ _ G1
  have E1 := cell_of_row w2 _ 1 _ _ _ G1
  have E2 := cell_of_row w2 _ 2 _ _ _ G1
  have E3 := cell_of_row w2 _ 3 _ _ _ G1
  have hg46 : Try.prog.eqGuardType Try.prog.depth 46 = false := by kernel_rfl
  by_cases hLE : L = L'
  rotate_left
  · have q0 : ((L : Int) != (L' : Int)) = true := by simp; omega
    have HD := Lib.hid (sameB_secs (d := d) (d' := d') (fun e => hLE (by rw [HLL.out, HLL'.out, e])))
    clear hLE
    go_enter Try.func15, Try.ntmps15
    go_upto_region 1 with (fail)
    rw [← HW2.out]
    go_wp2_with fail
    go_ret
    exact ⟨by rw [HD.out]; rfl, hB⟩
  by_cases hME : M = M'
  rotate_left
  · have q0 : ((L : Int) != (L' : Int)) = false := by simp; omega
    have q00 : ((M : Int) != (M' : Int)) = true := by simp; omega
    have HD := Lib.hid (sameB_loose (d := d) (d' := d') (fun e => hME (by
      have := congrArg List.length e
      rw [List.length_map, List.length_map] at this
      rw [HMM.out, HMM'.out, this])))
    clear hME hLE
    go_enter Try.func15, Try.ntmps15
    go_upto_region 1 with (fail)
    rw [← HW2.out]
    go_wp2_with fail
    go_ret
    exact ⟨by rw [HD.out]; rfl, hB⟩
  subst hLE
  subst hME
  by_cases hfe : f = f'
  rotate_left
  · have q0 : (f != f') = true := by simpa using hfe
    have HD := Lib.hid (show sameB d d' = false by simp [sameB, ← HF.out, ← HF'.out, hfe])
    go_enter Try.func15, Try.ntmps15
    go_upto_region 1 with (fail)
    rw [← HW2.out]
    go_wp2_with fail
    go_ret
    exact ⟨by rw [HD.out]; rfl, hB⟩
  subst hfe
  by_cases hbe : b = b'
  rotate_left
  · have q0 : (b != b') = true := by simpa using hbe
    have HD := Lib.hid (show sameB d d' = false by simp [sameB, ← HBB.out, ← HBB'.out, hbe])
    cases b <;> cases b' <;> first
      | exact absurd rfl hbe
      | (go_enter Try.func15, Try.ntmps15
         go_upto_region 1 with (fail)
         rw [← HW2.out]
         go_wp2_with fail
         go_ret
         exact ⟨by rw [HD.out]; rfl, hB⟩)
  subst hbe
  go_enter Try.func15, Try.ntmps15
  go_upto_region 1 with (fail)
  rw [← HW2.out]
  have q5 : (b != b) = false := by simp
  go_wp2_with fail
  clear C0 C1 C2 C3 E0 E1 E2 E3 q5
  go_loopw [5] (fun i wr => ∃ k : Nat, k ≤ L ∧ i = .int .i64 k ∧ (∀ j, j < k → d.secs[j]? = d'.secs[j]?) ∧ Below w.heap.size w wr ∧ wr.heap[w.heap.size]? = some (.cells #[.slice a1 L n1, .slice a2 M n2, .int .i64 f, .bool b] 27 (0, 0)) ∧ wr.heap[w.heap.size + 1]? = some (.cells #[.slice c1 L m1, .slice c2 M m2, .int .i64 f, .bool b] 27 (0, 0))) (fun i _ => L - (intOf i).toNat)
  case atStart => exact ⟨0, Nat.zero_le _, rfl, fun j h => absurd h (Nat.not_lt_zero _), hB, G0, G1⟩
  case round =>
    obtain ⟨k, hk, rfl, hpre, hBr, R0, R1⟩ := hrel
    have HP := Lib.hid hpre
    clear hpre
    have C0 := cell_of_row wr _ 0 _ _ _ R0
    have C1 := cell_of_row wr _ 0 _ _ _ R1
    by_cases hlt : k < L
    · have hlt1 : k < d.secs.length := HLL.out ▸ hlt
      have hlt2 : k < d'.secs.length := HLL'.out ▸ hlt
      obtain ⟨ba, oa, rfl, hBa, e1, _, _, hlA⟩ := load_sec HS.out hlt1
      obtain ⟨bb, ob, rfl, hBb, e2, _, _, hlB⟩ := load_sec HS'.out hlt2
      have hlA := hlA wr.drew (fun p hp => hBr.cell hp)
      have hlB := hlB wr.drew (fun p hp => hBr.cell hp)
      obtain ⟨X, hX⟩ : ∃ X, X = (u8s d.secs[k]).toArray := ⟨_, rfl⟩
      obtain ⟨Y, hY⟩ : ∃ X, X = (u8s d'.secs[k]).toArray := ⟨_, rfl⟩
      obtain ⟨q, hq0⟩ : ∃ q, q = decide (d.secs[k] = d'.secs[k]) := ⟨_, rfl⟩
      have hq : (Op.equalIn 10000 33 (.agg X) (.agg Y)).run Try.prog wr.drew = .ok q wr.drew := by
        rw [hX, hY, hq0]
        exact equal44 (HS.out.1 _ (List.getElem_mem hlt1)) (HS'.out.1 _ (List.getElem_mem hlt2)) _
      rw [← hX] at hlA
      rw [← hY] at hlB
      have HQ := Lib.hid hq0
      clear hX hY e1 e2 hq0
      have hB2 := below_draws hBr 1
      have S0 : (wr.drewN 1).heap[w.heap.size]? = _ := R0
      have S1 : (wr.drewN 1).heap[w.heap.size + 1]? = _ := R1
      cases q with
      | true =>
        go_wp2_with fail
        refine wp_region_still_lit (by kernel_rfl) (by kernel_rfl) ?_
        repeat still_step
        refine still_load (.tmp 47) 33 rfl rfl rfl hlA ?_
        repeat still_step
        refine still_load (.tmp 52) 33 rfl rfl rfl hlB ?_
        repeat still_step
        refine wpStill_nil ?_
        change Exit.then _ _ _ _ (wr.drewN 1)
        go_wp2_with fail
        go_roundw
        case rel =>
          refine ⟨k + 1, by omega, by go_num, fun j hj => ?_, hB2, S0, S1⟩
          by_cases hjk : j < k
          · exact HP.out j hjk
          · obtain rfl : j = k := by omega
            rw [List.getElem?_eq_getElem hlt1, List.getElem?_eq_getElem hlt2, of_decide_eq_true HQ.out.symm]
        case measure => simp [intOf]; omega
      | false =>
        go_wp2_with fail
        refine wp_region_still_lit (by kernel_rfl) (by kernel_rfl) ?_
        repeat still_step
        refine still_load (.tmp 47) 33 rfl rfl rfl hlA ?_
        repeat still_step
        refine still_load (.tmp 52) 33 rfl rfl rfl hlB ?_
        repeat still_step
        refine wpStill_nil ?_
        change Exit.then _ _ _ _ (wr.drewN 1)
        go_wp2_with fail
        go_ret
        have hd := sameB_secs (d := d) (d' := d') (fun e => by
          have h := of_decide_eq_false HQ.out.symm
          have e2 := congrArg (fun l => l[k]?) e
          simp only [List.getElem?_eq_getElem hlt1, List.getElem?_eq_getElem hlt2, Option.some.injEq] at e2
          exact h e2)
        exact ⟨by rw [hd]; rfl, hB2⟩
    · have HSEC := Lib.hid (show d.secs = d'.secs from List.ext_getElem? fun j => by
        by_cases hj : j < L
        · exact HP.out j (by omega)
        · have := HLL.out
          have := HLL'.out
          rw [List.getElem?_eq_none (by omega), List.getElem?_eq_none (by omega)])
      go_wp2_with fail
      have hBr1 := hBr
      have R01 := R0
      have R11 := R1
      clear C0 C1 hBr R0 R1 HP
      go_loopw [6] (fun i wr => ∃ k : Nat, k ≤ M ∧ i = .int .i64 k ∧ (∀ j, j < k → (d.loose.map pr)[j]? = (d'.loose.map pr)[j]?) ∧ Below w.heap.size w wr ∧ wr.heap[w.heap.size]? = some (.cells #[.slice a1 L n1, .slice a2 M n2, .int .i64 f, .bool b] 27 (0, 0)) ∧ wr.heap[w.heap.size + 1]? = some (.cells #[.slice c1 L m1, .slice c2 M m2, .int .i64 f, .bool b] 27 (0, 0))) (fun i _ => M - (intOf i).toNat)
      case atStart => exact ⟨0, Nat.zero_le _, rfl, fun j h => absurd h (Nat.not_lt_zero _), hBr1, R01, R11⟩
      case round =>
        obtain ⟨k, hk, rfl, hpre, hBr, R0, R1⟩ := hrel
        have HP := Lib.hid hpre
        clear hpre
        have C0 := cell_of_row wr _ 1 _ _ _ R0
        have C1 := cell_of_row wr _ 1 _ _ _ R1
        by_cases hlt : k < M
        · have h1 : k < d.loose.length := HMM.out ▸ hlt
          have h2 : k < d'.loose.length := HMM'.out ▸ hlt
          obtain ⟨ba, oa, rfl, hBa, e1, _, _, hlA⟩ := load_loose HL.out h1
          obtain ⟨bb, ob, rfl, hBb, e2, _, _, hlB⟩ := load_loose HL'.out h2
          have hlA := hlA wr.drew (fun p hp => hBr.cell hp)
          have hlB := hlB wr.drew (fun p hp => hBr.cell hp)
          obtain ⟨X, hX⟩ : ∃ X, X = (wcells d.loose[k]).toArray := ⟨_, rfl⟩
          obtain ⟨Y, hY⟩ : ∃ Y, Y = (wcells d'.loose[k]).toArray := ⟨_, rfl⟩
          have g1 := HL.out.1 _ (List.getElem_mem h1)
          have g2 := HL'.out.1 _ (List.getElem_mem h2)
          obtain ⟨x, hx⟩ : ∃ x, x = d.loose[k].at_ := ⟨_, rfl⟩
          obtain ⟨y, hy⟩ : ∃ y, y = d'.loose[k].at_ := ⟨_, rfl⟩
          obtain ⟨q, hqd⟩ : ∃ q, q = decide (d.loose[k].data = d'.loose[k].data) := ⟨_, rfl⟩
          have hX0 : X[0]? = some (.int .i64 x) := by rw [hX, hx]; simp [wcells]
          have hY0 : Y[0]? = some (.int .i64 y) := by rw [hY, hy]; simp [wcells]
          have hq : (Op.equalIn 9999 33 (.agg (X.extract 1 65)) (.agg (Y.extract 1 65))).run Try.prog wr.drew = .ok q wr.drew := by
            rw [hX, hY, wextract g1, wextract g2, hqd]
            exact equal44_in 9997 g1 g2 _
          have HE := Lib.hid (show (decide (x = y) && q) = decide (pr d.loose[k] = pr d'.loose[k]) by
            rw [hqd, hx, hy]
            simp only [pr, Prod.mk.injEq, Bool.decide_and])
          rw [← hX] at hlA
          rw [← hY] at hlB
          clear hX hY e1 e2 hqd hx hy g1 g2
          have hB2 := below_draws hBr 1
          have S0 : (wr.drewN 1).heap[w.heap.size]? = _ := R0
          have S1 : (wr.drewN 1).heap[w.heap.size + 1]? = _ := R1
          have hno : false = decide (pr d.loose[k] = pr d'.loose[k]) → sameB d d' = false := fun h => sameB_loose (fun e => by
            have := of_decide_eq_false h.symm
            have e2 := congrArg (fun l => l[k]?) e
            simp only [List.getElem?_map, List.getElem?_eq_getElem h1, List.getElem?_eq_getElem h2, Option.map_some, Option.some.injEq] at e2
            exact this e2)
          have HNO := Lib.hid hno
          clear hno
          by_cases hxy : x = y
          · subst hxy
            have HE := Lib.hid (show q = decide (pr d.loose[k] = pr d'.loose[k]) by rw [← HE.out]; simp)
            cases q with
            | true =>
              go_wp2_with fail
              refine wp_region_still_lit (by kernel_rfl) (by kernel_rfl) ?_
              repeat still_step
              refine still_load (.tmp 65) 46 rfl rfl rfl hlA ?_
              repeat still_step
              refine still_load (.tmp 70) 46 rfl rfl rfl hlB ?_
              repeat still_step
              refine wpStill_nil ?_
              change Exit.then _ _ _ _ (wr.drewN 1)
              go_wp2_with fail
              go_roundw
              case rel =>
                refine ⟨k + 1, by omega, by go_num, fun j hj => ?_, hB2, S0, S1⟩
                by_cases hjk : j < k
                · exact HP.out j hjk
                · obtain rfl : j = k := by omega
                  rw [List.getElem?_map, List.getElem?_map, List.getElem?_eq_getElem h1, List.getElem?_eq_getElem h2, Option.map_some, Option.map_some, of_decide_eq_true HE.out.symm]
              case measure => simp [intOf]; omega
            | false =>
              go_wp2_with fail
              refine wp_region_still_lit (by kernel_rfl) (by kernel_rfl) ?_
              repeat still_step
              refine still_load (.tmp 65) 46 rfl rfl rfl hlA ?_
              repeat still_step
              refine still_load (.tmp 70) 46 rfl rfl rfl hlB ?_
              repeat still_step
              refine wpStill_nil ?_
              change Exit.then _ _ _ _ (wr.drewN 1)
              go_wp2_with fail
              go_ret
              exact ⟨by rw [HNO.out HE.out]; rfl, hB2⟩
          · have HE := Lib.hid (show false = decide (pr d.loose[k] = pr d'.loose[k]) by rw [← HE.out]; simp [hxy])
            go_wp2_with fail
            refine wp_region_still_lit (by kernel_rfl) (by kernel_rfl) ?_
            repeat still_step
            refine still_load (.tmp 65) 46 rfl rfl rfl hlA ?_
            repeat still_step
            refine still_load (.tmp 70) 46 rfl rfl rfl hlB ?_
            repeat still_step
            refine wpStill_nil ?_
            change Exit.then _ _ _ _ (wr.drewN 1)
            go_wp2_with fail
            go_ret
            exact ⟨by rw [HNO.out HE.out]; rfl, hB2⟩
        · have HLO := Lib.hid (show d.loose.map pr = d'.loose.map pr from List.ext_getElem? fun j => by
            by_cases hj : j < M
            · exact HP.out j (by omega)
            · have := HMM.out
              have := HMM'.out
              rw [List.getElem?_eq_none (by rw [List.length_map]; omega), List.getElem?_eq_none (by rw [List.length_map]; omega)])
          go_wp2_with fail
          go_ret
          have hd := sameB_all HSEC.out HLO.out (HF.out.symm.trans HF'.out) (HBB.out.symm.trans HBB'.out)
          exact ⟨by rw [hd]; rfl, hBr⟩
end Go.Proofs.Ytccjjlefpdlegab
