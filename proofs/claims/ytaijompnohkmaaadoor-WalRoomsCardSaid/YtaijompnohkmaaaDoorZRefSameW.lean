/- Layer 1 (sector), the document's answer: Same, of two disks that hold the same. -/
import Derived.Test.YtaijompnohkmaaaDoorML
import Derived.Test.YtaijompnohkmaaaDoorZStillLoadW
namespace Go.Proofs.YtaijompnohkmaaaDoor
open Go.RowKit
theorem equal_int (d : Nat) (a : Int) (w : World) : (Op.equalIn (d + 1) 3 (.int .i64 a) (.int .i64 a)).run Tryd.prog w = .ok true w := by
  simp [Op.equalIn, run_underlying Tryd.underlying3]
theorem wextract {x : WriteP} (hx : x.data.length = 64) : (wcells x).toArray.extract 1 65 = (u8s x.data).toArray := by
  simp [wcells]
  rw [List.take_of_length_le (by rw [length_u8s]; omega)]
/-- A row's element, loaded. -/
theorem load_sec {B : Nat} {w : World} {a : Option Addr} {n c : Nat} {ss : List (List UInt8)} (h : Secs B w (.slice a n c) ss) {k : Nat} (hk : k < ss.length) :
    ∃ b off, a = some ⟨b, off, none⟩ ∧ b < B ∧ n = ss.length ∧ n ≤ c ∧ c ≤ 2 ^ 63 - 1 ∧ ∀ w', (∀ p : Addr, p.block < B → w'.cell? p = w.cell? p) → (loadVar 73 ⟨b, off + k * 64, none⟩).run Tryd.prog w' = .ok (.agg (u8s ss[k]).toArray) w' := by
  obtain ⟨h64, _, a', cap, hv, hnc, hcap, hcells⟩ := h
  cases hv
  obtain ⟨b, off, rfl, hBb, hc⟩ := hcells (by omega)
  obtain ⟨i44, hi44, hs44⟩ := info44
  have hat := flat_at u8s 64 ss (fun x hx => by rw [length_u8s, h64 x hx]) k ss[k] (List.getElem?_eq_getElem hk)
  exact ⟨b, off, rfl, hBb, rfl, hnc, hcap, fun w' hw => run_load_big (P := Tryd.prog) (t := 73) Tryd.underlying73 (.inl ⟨_, _, rfl⟩) hi44 (w := w') (b := b) (off := off + k * 64) (cs := u8s ss[k]) hs44 (by rw [length_u8s, h64 _ (List.getElem_mem hk)])
    (fun j u hj => by rw [Nat.add_assoc]; exact (hw ⟨b, off + (k * 64 + j), none⟩ hBb).trans (hc _ _ (hat j u hj)))⟩
theorem load_loose {B : Nat} {w : World} {a : Option Addr} {n c : Nat} {ss : List WriteP} (h : Loose B w (.slice a n c) ss) {k : Nat} (hk : k < ss.length) :
    ∃ b off, a = some ⟨b, off, none⟩ ∧ b < B ∧ n = ss.length ∧ n ≤ c ∧ c ≤ 2 ^ 63 - 1 ∧ ∀ w', (∀ p : Addr, p.block < B → w'.cell? p = w.cell? p) → (loadVar 75 ⟨b, off + k * 65, none⟩).run Tryd.prog w' = .ok (.agg (wcells ss[k]).toArray) w' := by
  obtain ⟨h64, _, a', cap, hv, hnc, hcap, hcells⟩ := h
  cases hv
  obtain ⟨b, off, rfl, hBb, hc⟩ := hcells (by omega)
  obtain ⟨i46, hi46, hs46⟩ := info46
  have hat := flat_at wcells 65 ss (fun x hx => by rw [length_wcells, h64 x hx]) k ss[k] (List.getElem?_eq_getElem hk)
  exact ⟨b, off, rfl, hBb, rfl, hnc, hcap, fun w' hw => run_load_big (P := Tryd.prog) (t := 75) Tryd.underlying75 (.inr ⟨_, rfl⟩) hi46 (w := w') (b := b) (off := off + k * 65) (cs := wcells ss[k]) hs46 (by rw [length_wcells, h64 _ (List.getElem_mem hk)])
    (fun j u hj => by rw [Nat.add_assoc]; exact (hw ⟨b, off + (k * 65 + j), none⟩ hBb).trans (hc _ _ (hat j u hj)))⟩
set_option maxRecDepth 100000 in
set_option maxHeartbeats 2000000 in
theorem same_any {B B' : Nat} (v v' : Value) (d : DiskP) (w : World) (h : DiskV B w v d) (h' : DiskV B' w v' d) :
    Calls Tryd.prog 14 #[v, v'] w fun e w' => e = .returned (.bool true) ∧ Below w.heap.size w w' := by
  obtain ⟨a1, n1, a2, n2, rfl, hs, hl⟩ := h.tight.parts
  obtain ⟨c1, m1, c2, m2, rfl, hs', hl'⟩ := h'.tight.parts
  clear h h'
  obtain ⟨_, _, _, hv, q1, p1, _⟩ := hs.2
  cases hv
  obtain ⟨_, _, _, hv, q2, p2, _⟩ := hl.2
  cases hv
  obtain ⟨_, _, _, hv, q3, p3, _⟩ := hs'.2
  cases hv
  obtain ⟨_, _, _, hv, q4, p4, _⟩ := hl'.2
  cases hv
  unfold maxLen at p1 p2 p3 p4
  obtain ⟨L, hL⟩ : ∃ L, L = d.secs.length := ⟨_, rfl⟩
  obtain ⟨M, hM⟩ : ∃ M, M = d.loose.length := ⟨_, rfl⟩
  rw [← hL] at q1 q3 hs hs' ⊢
  rw [← hM] at q2 q4 hl hl' ⊢
  obtain ⟨w2, hw2⟩ : ∃ w2, w2 = (w.alloc (.cells #[.slice a1 L n1, .slice a2 M n2, .int .i64 d.fuse, .bool d.down] 25)).alloc (.cells #[.slice c1 L m1, .slice c2 M m2, .int .i64 d.fuse, .bool d.down] 25) := ⟨_, rfl⟩
  have hB : Below w.heap.size w w2 := by rw [hw2]; exact Below.alloc (Below.alloc (Below.refl _ _) (Nat.le_refl _) _) (by simp) _
  have G0 : w2.heap[w.heap.size]? = some (.cells #[.slice a1 L n1, .slice a2 M n2, .int .i64 d.fuse, .bool d.down] 25 (0, 0)) := by rw [hw2]; exact heap_alloc2_old w _ _
  have G1 : w2.heap[w.heap.size + 1]? = some (.cells #[.slice c1 L m1, .slice c2 M m2, .int .i64 d.fuse, .bool d.down] 25 (0, 0)) := by rw [hw2]; exact heap_alloc2_new w _ _
  have HS := Lib.hid hs
  have HS' := Lib.hid hs'
  have HL := Lib.hid hl
  have HL' := Lib.hid hl'
  clear hs hs' hl hl'
  have HW2 := Lib.hid hw2
  clear hw2
  have HLL := Lib.hid hL
  have HMM := Lib.hid hM
  clear hL hM
  have hg46 : Tryd.prog.eqGuardType Tryd.prog.depth 75 = false := by kernel_rfl
  go_enter Tryd.func14, Tryd.ntmps14
  go_wp2_with fail
  rw [← HW2.out]
  go_loopw [5] (fun i wr => ∃ k : Nat, k ≤ L ∧ i = .int .i64 k ∧ Below w.heap.size w wr ∧ wr.heap[w.heap.size]? = some (.cells #[.slice a1 L n1, .slice a2 M n2, .int .i64 d.fuse, .bool d.down] 25 (0, 0)) ∧ wr.heap[w.heap.size + 1]? = some (.cells #[.slice c1 L m1, .slice c2 M m2, .int .i64 d.fuse, .bool d.down] 25 (0, 0))) (fun i _ => L - (intOf i).toNat)
  case atStart => exact ⟨0, Nat.zero_le _, rfl, hB, G0, G1⟩
  case round =>
    obtain ⟨k, hk, rfl, hBr, R0, R1⟩ := hrel
    have C0 := cell_of_row wr _ 0 _ _ _ R0
    have C1 := cell_of_row wr _ 0 _ _ _ R1
    by_cases hlt : k < L
    · have hlt' : k < d.secs.length := HLL.out ▸ hlt
      obtain ⟨ba, oa, rfl, hBa, e1, _, _, hlA⟩ := load_sec HS.out hlt'
      obtain ⟨bb, ob, rfl, hBb, e2, _, _, hlB⟩ := load_sec HS'.out hlt'
      have hlA := hlA wr.drew (fun p hp => hBr.cell hp)
      have hlB := hlB wr.drew (fun p hp => hBr.cell hp)
      obtain ⟨X, hX⟩ : ∃ X, X = (u8s d.secs[k]).toArray := ⟨_, rfl⟩
      have hq : (Op.equalIn 10000 73 (.agg X) (.agg X)).run Tryd.prog wr.drew = .ok true wr.drew := by
        rw [hX]
        exact (equal44 (HS.out.1 _ (List.getElem_mem hlt')) (HS.out.1 _ (List.getElem_mem hlt')) _).trans (by simp)
      rw [← hX] at hlA hlB
      clear hX e1 e2
      go_wp2_with fail
      refine wp_region_still_lit (by kernel_rfl) (by kernel_rfl) ?_
      repeat still_step
      refine still_load (.tmp 47) 73 rfl rfl rfl hlA ?_
      repeat still_step
      refine still_load (.tmp 52) 73 rfl rfl rfl hlB ?_
      repeat still_step
      refine wpStill_nil ?_
      have hB2 := below_draws hBr 1
      have S0 : (wr.drewN 1).heap[w.heap.size]? = _ := R0
      have S1 : (wr.drewN 1).heap[w.heap.size + 1]? = _ := R1
      change Exit.then _ _ _ _ (wr.drewN 1)
      go_wp2_with fail
      go_roundw
      case rel => exact ⟨k + 1, by omega, by go_num, hB2, S0, S1⟩
      case measure => simp [intOf]; omega
    · skip
      go_wp2_with fail
      have hBr1 := hBr
      have R01 := R0
      have R11 := R1
      clear C0 C1 hBr R0 R1
      go_loopw [6] (fun i wr => ∃ k : Nat, k ≤ M ∧ i = .int .i64 k ∧ Below w.heap.size w wr ∧ wr.heap[w.heap.size]? = some (.cells #[.slice a1 L n1, .slice a2 M n2, .int .i64 d.fuse, .bool d.down] 25 (0, 0)) ∧ wr.heap[w.heap.size + 1]? = some (.cells #[.slice c1 L m1, .slice c2 M m2, .int .i64 d.fuse, .bool d.down] 25 (0, 0))) (fun i _ => M - (intOf i).toNat)
      case atStart => exact ⟨0, Nat.zero_le _, rfl, hBr1, R01, R11⟩
      case round =>
        obtain ⟨k, hk, rfl, hBr, R0, R1⟩ := hrel
        have C0 := cell_of_row wr _ 1 _ _ _ R0
        have C1 := cell_of_row wr _ 1 _ _ _ R1
        by_cases hlt : k < M
        · have hlt' : k < d.loose.length := HMM.out ▸ hlt
          obtain ⟨ba, oa, rfl, hBa, e1, _, _, hlA⟩ := load_loose HL.out hlt'
          obtain ⟨bb, ob, rfl, hBb, e2, _, _, hlB⟩ := load_loose HL'.out hlt'
          have hlA := hlA wr.drew (fun p hp => hBr.cell hp)
          have hlB := hlB wr.drew (fun p hp => hBr.cell hp)
          obtain ⟨X, hX⟩ : ∃ X, X = (wcells d.loose[k]).toArray := ⟨_, rfl⟩
          have h64 := HL.out.1 _ (List.getElem_mem hlt')
          have hx0 : X[0]? = some (.int .i64 d.loose[k].at_) := by rw [hX]; simp [wcells]
          have hq : (Op.equalIn 9999 73 (.agg (X.extract 1 65)) (.agg (X.extract 1 65))).run Tryd.prog wr.drew = .ok true wr.drew := by
            rw [hX, wextract h64]
            exact (equal44_in 9997 h64 h64 _).trans (by simp)
          have hq3 : (Op.equalIn 9999 3 (.int .i64 d.loose[k].at_) (.int .i64 d.loose[k].at_)).run Tryd.prog wr.drew = .ok true wr.drew := equal_int 9998 _ _
          obtain ⟨z, hz⟩ : ∃ z, z = d.loose[k].at_ := ⟨_, rfl⟩
          rw [← hz] at hx0 hq3
          clear hz
          rw [← hX] at hlA hlB
          clear hX e1 e2
          go_wp2_with fail
          refine wp_region_still_lit (by kernel_rfl) (by kernel_rfl) ?_
          repeat still_step
          refine still_load (.tmp 65) 75 rfl rfl rfl hlA ?_
          repeat still_step
          refine still_load (.tmp 70) 75 rfl rfl rfl hlB ?_
          repeat still_step
          refine wpStill_nil ?_
          have hB2 := below_draws hBr 1
          have S0 : (wr.drewN 1).heap[w.heap.size]? = _ := R0
          have S1 : (wr.drewN 1).heap[w.heap.size + 1]? = _ := R1
          change Exit.then _ _ _ _ (wr.drewN 1)
          go_wp2_with fail
          go_roundw
          case rel => exact ⟨k + 1, by omega, by go_num, hB2, S0, S1⟩
          case measure => simp [intOf]; omega
        · skip
          go_wp2_with fail
          go_ret
          exact ⟨rfl, hBr⟩
end Go.Proofs.YtaijompnohkmaaaDoor
