/- Layer 1 (sector): settle. -/
import Derived.Test.YtccjjlefpdlegabSettle
namespace Go.Proofs.Ytccjjlefpdlegab
open Go.RowKit
theorem wp_alloc_to {P : Program} {ops : Array Oper} {rest : List Oper} {o : Oper} {a : Act} {w : World} {Q : Exit → Act → World → Prop} (t : TypeId) (hgd : o.guard = none) (ho : o.op = .alloc t) {z : Value} {w' : World} (hz : (zeroValue t).run P w = .ok z w) (hw : w' = w.alloc (.cells z.cells t))
    (h : wpList P ops Q rest (a.put o.dst (.pointer (some ⟨w.heap.size, 0, none⟩))) w') : wpList P ops Q (o :: rest) a w := by
  subst hw
  exact wp_alloc_at t hgd ho hz h
theorem there_of_right {d : DiskP} (h : rightB d = true) (k : Nat) (hk : k < d.loose.length) : ∃ m : Nat, d.loose[k].at_ = (m : Int) ∧ m < d.secs.length := by
  simp only [rightB, Bool.and_eq_true, Bool.not_eq_true', badAt, List.any_eq_false] at h
  have := h.2 d.loose[k] (List.getElem_mem hk)
  simp only [Bool.not_eq_true', Bool.not_eq_false, thereB, Bool.and_eq_true, decide_eq_true_eq] at this
  refine ⟨d.loose[k].at_.toNat, by omega, by omega⟩
set_option maxRecDepth 100000 in
set_option maxHeartbeats 2000000 in
theorem settle_any {B : Nat} (v : Value) (d : DiskP) (st : Nat → Bool) (fn : Nat) (caps : Array Value) (w : World) (h : DiskV B w v d) (hr : rightB d = true)
    (hcf : ∀ args w, (callFunc fn args).run Try.prog w = .ok (.enter fn args) w) (K : ∀ (k : Nat) (w' : World), k < d.loose.length → Below w.heap.size w w' → Calls Try.prog fn (#[.int .i64 k] ++ caps) w' fun e w'' => e = .returned (.bool (st k)) ∧ Below w'.heap.size w' w'') :
    Calls Try.prog 22 #[v, .func (.func fn) #[] caps] w fun e w' => (∃ sv, e = .returned (.agg #[sv, .slice none 0 0, .int .i64 d.fuse, .bool d.down]) ∧ SecsO w.heap.size w' sv (settleN d.secs d.loose st d.loose.length)) ∧ Below w.heap.size w w' := by
  obtain ⟨a1, n1, a2, n2, rfl, hs, hl⟩ := h.tight.parts
  clear h
  have HR := Lib.hid hr
  have F := Fr2.new (w := w) hs hl
  obtain ⟨w2, hw2⟩ : ∃ w2, w2 = (w.alloc (.cells #[.slice a1 d.secs.length n1, .slice a2 d.loose.length n2, .int .i64 d.fuse, .bool d.down] 27)).alloc (.cells #[.slice none 0 0, .slice none 0 0, .int .i64 0, .bool false] 27) := ⟨_, rfl⟩
  have hb2 : Below w.heap.size w w2 := by rw [hw2]; exact Below.alloc (Below.alloc (Below.refl _ _) (Nat.le_refl _) _) (by simp) _
  have hle : w.heap.size + 2 ≤ w2.heap.size := by rw [hw2]; simp
  rw [← hw2] at F
  clear hs
  have C0 := cell_of_row w2 _ 0 _ _ _ F.g0
  have hsl : d.secs.length ≤ 2 ^ 40 := by simp only [rightB, Bool.and_eq_true, decide_eq_true_eq] at hr; omega
  have k1 := clone64_any _ d.secs w2 F.s hsl
  clear hr hsl
  go_enter Try.func22, Try.ntmps22
  go_wp2_with fail
  rw [← hw2]
  clear hw2
  go_wp2_with fail
  refine k1.mono ?_
  rintro e w3 ⟨sv, rfl, ho3, hb3⟩
  obtain ⟨b1, m1, rfl⟩ := ho3.form
  have F := F.below hb3 (by omega) (by omega)
  have hbb := hb2.trans (hb3.mono hb2.size)
  clear k1 C0
  have C1 := cell_of_row w3 _ 1 _ _ _ F.g0
  have hcap2 := hl.2
  obtain ⟨_, _, _, hv, _, hcap2, _⟩ := hcap2
  cases hv
  unfold maxLen at hcap2
  go_wp2_with fail
  obtain ⟨i0, z0, hi, hz0, hz1, hz2, hz3⟩ := zero_parts infoz_write
  obtain ⟨i1, z1, hi1, _, hs1, _, _⟩ := zero_parts infoz_sector
  have ho3 := ho3.lower hle
  have hle3 := Nat.le_trans hle hb3.size
  have hb03 := hbb
  have HT := Lib.hid (fun k hk => there_of_right HR.out k hk)
  have Hl := Lib.hid hl
  clear hb3 hb2 hcap2
  go_loopw [14] (fun i wr => ∃ k : Nat, k ≤ d.loose.length ∧ i = .int .i64 k ∧ SecsO (w.heap.size + 2) wr (.slice b1 d.secs.length m1) (settleN d.secs d.loose st k) ∧ Fr2 w.heap.size w.heap.size wr (.slice a1 d.secs.length n1) (.slice a2 d.loose.length n2) d ∧ Below w.heap.size w wr ∧ w.heap.size + 2 ≤ wr.heap.size) (fun i _ => d.loose.length - (intOf i).toNat)
  case atStart => exact ⟨0, Nat.zero_le _, rfl, ho3, F, hbb, hle3⟩
  case round =>
    obtain ⟨k, hk, rfl, ho, F, hb, hszr⟩ := hrel
    clear ho3 hle3 hbb C1
    by_cases hlt : k < d.loose.length
    · obtain ⟨hls, _, a, cap, hv, hnc, hcap, hcells⟩ := hl
      cases hv
      unfold maxLen at hcap
      obtain ⟨b, off, rfl, hBb, hc⟩ := hcells (by omega)
      have hat := flat_at wcells 65 d.loose (fun x hx => by rw [length_wcells, hls x hx]) k d.loose[k] (List.getElem?_eq_getElem hlt)
      have hld := run_load_big (P := Try.prog) (t := 46) Try.underlying46 (.inr ⟨_, rfl⟩) hi (w := wr) (b := b) (off := off + k * 65) (cs := wcells d.loose[k]) hz1 (by rw [length_wcells, hls _ (List.getElem_mem hlt)])
        (fun j u hj => by rw [Nat.add_assoc]; exact (hb.cell (p := ⟨b, off + (k * 65 + j), none⟩) hBb).trans (hc _ _ (hat j u hj)))
      obtain ⟨x, hx⟩ : ∃ x, x = d.loose[k] := ⟨_, rfl⟩
      rw [← hx] at hld
      have hxl : x.data.length = 64 := by rw [hx]; exact hls _ (List.getElem_mem hlt)
      obtain ⟨m, hm, hmlt⟩ := HT.out k hlt
      rw [← hx] at hm
      have hset : settleN d.secs d.loose st (k + 1) = if st k then (settleN d.secs d.loose st k).set m x.data else settleN d.secs d.loose st k := by
        show (match d.loose[k]? with | some x => _ | none => _) = _
        rw [List.getElem?_eq_getElem hlt, ← hx]
        simp only [hm, Int.toNat_natCast]
      have HS := Lib.hid hset
      have HX := Lib.hid hx
      clear hset hx hat hc hcells
      have hzr : (zeroValue 46).run Try.prog wr = .ok z0 wr := by simp [zeroValue, typeInfo, hi, hz0]
      obtain ⟨w4, hw4⟩ : ∃ w4, w4 = wr.alloc (.cells z0.cells 46) := ⟨_, rfl⟩
      have hn4 : w4.heap[wr.heap.size]? = some (.cells z0.cells 46 (0, 0)) := by rw [hw4]; exact heap_alloc_new wr _
      have hb4 : Below wr.heap.size wr w4 := by rw [hw4]; exact Below.alloc (Below.refl _ _) (Nat.le_refl _) _
      have hst := run_store_big (P := Try.prog) (t := 46) hi (off := 0) (cs := wcells x) hn4 (by rw [hz1, length_wcells, hxl]) (by rw [length_wcells, hxl, hz3]; decide) (oneCell_w x)
      have hcells5 : (z0.cells.toList.take 0 ++ wcells x ++ z0.cells.toList.drop (0 + (wcells x).length)).toArray = (wcells x).toArray := by
        rw [List.drop_eq_nil_of_le (by simp [length_wcells, hxl, hz3])]; simp
      rw [hcells5] at hst
      obtain ⟨w5, hw5⟩ : ∃ w5, w5 = w4.setRow wr.heap.size (wcells x).toArray := ⟨_, rfl⟩
      have hn5 : w5.heap[wr.heap.size]? = some (.cells (wcells x).toArray 46 (0, 0)) := by rw [hw5]; exact setRow_heap w4 _ _ _ _ _ hn4
      have hb5 : Below wr.heap.size w4 w5 := by rw [hw5]; exact ⟨rfl, rfl, rfl, by simp [World.setRow], fun j hj => setRow_other w4 _ j _ (by omega)⟩
      have hb5 := hb4.trans hb5
      have hs5 : wr.heap.size + 1 ≤ w5.heap.size := by have := block_lt hn5; omega
      rw [← hw5] at hst
      clear hn4 hb4 hcells5 hw5
      obtain ⟨X, hX⟩ : ∃ X, X = (wcells x).toArray := ⟨_, rfl⟩
      rw [← hX] at hst hld hn5
      have HXX := Lib.hid hX
      clear hX
      go_wp2_with (refine wp_load_at (.tmp 17) 46 rfl rfl rfl hld ?_; refine Halt.in ?_)
      refine Halt.out ?_
      refine wp_alloc_to 46 rfl rfl hzr hw4 ?_
      clear hld hzr hw4
      go_wp2_with (refine wp_store_at (.tmp 7) (.tmp 18) 46 rfl rfl rfl rfl hst ?_; refine Halt.in ?_)
      refine Halt.out ?_
      clear hst
      have ho5 := ho.keep hb5 (Nat.le_refl _)
      have F5 := F.below hb5 (by omega) (by omega)
      have hb05 := hb.trans (hb5.mono hb.size)
      have k1 := K k w5 hlt hb05
      clear ho F hb hb5
      go_wp2_with fail
      refine k1.mono ?_
      rintro e w6 ⟨rfl, hb6⟩
      have ho6 := ho5.keep hb6 (Nat.le_refl _)
      have F6 := F5.below hb6 (by omega) (by omega)
      have hn6 := (hb6.block _ (by omega)).trans hn5
      have hb06 := hb05.trans (hb6.mono hb05.size)
      have hs6 := Nat.le_trans hs5 hb6.size
      clear k1 ho5 F5 hn5 hb05 hb6 hs5
      obtain ⟨q, hq⟩ : ∃ q, q = st k := ⟨_, rfl⟩
      rw [← hq]
      have HQ := Lib.hid hq
      clear hq
      cases q with
      | false =>
        go_wp2_with fail
        go_roundw
        case rel =>
          refine ⟨k + 1, by omega, by go_num, ?_, F6, hb06, by omega⟩
          rw [HS.out, ← HQ.out]
          exact ho6
        case measure => simp [intOf]; omega
      | true =>
        have hXx : X = (Value.int .i64 (m : Int) :: u8s x.data).toArray := by rw [HXX.out, wcells, hm]
        have C0 : w6.cell? ⟨wr.heap.size, 0, none⟩ = some (.int .i64 (m : Int)) := by rw [cell_of_row w6 _ 0 _ _ _ hn6, hXx]; rfl
        have hld := run_load_big (P := Try.prog) (t := 33) Try.underlying33 (.inl ⟨_, _, rfl⟩) hi1 (w := w6) (b := wr.heap.size) (off := 1) (cs := u8s x.data) hs1 (by rw [length_u8s, hxl])
          (fun j u hj => by rw [cell_of_row w6 _ _ _ _ _ hn6, hXx]; simpa [Nat.add_comm 1 j] using hj)
        obtain ⟨g, rfl, hgB, hgw, w7, hst7, ho7, hb7, hsz7, _⟩ := ho6.lay (P := Try.prog) m x.data (by rw [length_settleN]; exact hmlt) hxl hi1 hs1
        have F7 := F6.below hb7 (by omega) (by omega)
        have hb07 := hb06.trans (hb7.mono (by omega))
        obtain ⟨Y, hY⟩ : ∃ Y, Y = (u8s x.data).toArray := ⟨_, rfl⟩
        rw [← hY] at hld hst7
        clear hn6 hXx F6 ho6 hb06 hb7 hY
        go_wp2_with (refine wp_load_at (.tmp 25) 33 rfl rfl rfl hld ?_; refine Halt.in ?_)
        refine Halt.out ?_
        clear hld C0
        go_wp2_with (refine wp_store_at (.tmp 27) (.tmp 26) 33 rfl rfl rfl rfl hst7 ?_; refine Halt.in ?_)
        refine Halt.out ?_
        clear hst7
        go_wp2_with fail
        go_roundw
        case rel =>
          refine ⟨k + 1, by omega, by go_num, ?_, F7, hb07, by omega⟩
          rw [HS.out, ← HQ.out]
          exact ho7
        case measure => simp [intOf]; omega
    · obtain rfl : k = d.loose.length := by omega
      have C0 := cell_of_row wr _ 0 _ _ _ F.g0
      have C1 := cell_of_row wr _ 1 _ _ _ F.g0
      have C2 := cell_of_row wr _ 2 _ _ _ F.g0
      have C3 := cell_of_row wr _ 3 _ _ _ F.g0
      have D0 := cell_of_row wr _ 0 _ _ _ F.g2
      have D1 := cell_of_row wr _ 1 _ _ _ F.g2
      have D2 := cell_of_row wr _ 2 _ _ _ F.g2
      have D3 := cell_of_row wr _ 3 _ _ _ F.g2
      have Y := frozen_row F.g0
      have Z := frozen_row F.g2
      go_wp2_with fail
      have hB0 : w.heap.size < w.heap.size + 2 := by omega
      have hB1 : w.heap.size + 1 < w.heap.size + 2 := by omega
      have hne : w.heap.size ≠ w.heap.size + 1 := by omega
      have G2 : ((wr.setCell ⟨w.heap.size, 0, none⟩ (.slice b1 d.secs.length m1)).setCell ⟨w.heap.size, 1, none⟩ (.slice none 0 0)).heap[w.heap.size + 1]? = _ := ((setFar hne 1 _).trans (setFar hne 0 _)).trans F.g2
      refine bodyPost_ret (results_cell_row rfl _ _ (w.heap.size + 1) _ _ _ _ rfl (put4_heap G2 _ _ _ _) Try.underlying27 rfl size_disk) rfl ?_
      exact ⟨⟨_, rfl, (put4_secs ((ho.setOther _ _ hB0).setOther _ _ hB0) hB1 _ _ _ _).lower (by omega)⟩, put4_below ((hb.setCell (p := ⟨w.heap.size, 0, none⟩) (Nat.le_refl _) _).setCell (p := ⟨w.heap.size, 1, none⟩) (Nat.le_refl _) _) (by omega) _ _ _ _⟩
end Go.Proofs.Ytccjjlefpdlegab
