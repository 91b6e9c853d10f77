/- Layer 1 (sector), the document's answer: Read. -/
import Derived.Test.YtccjjlefpdlegabRefRight
import Derived.Test.YtccjjlefpdlegabSameR
namespace Go.Proofs.Ytccjjlefpdlegab
open Go.RowKit
theorem looseAt {B : Nat} {w : World} {a : Option Addr} {n c : Nat} {ss : List WriteP} (h : Loose B w (.slice a n c) ss) {k : Nat} (hk : k < ss.length) :
    ∃ b off, a = some ⟨b, off, none⟩ ∧ b < B ∧ n = ss.length ∧ n ≤ c ∧ c ≤ 2 ^ 63 - 1 ∧ ∀ w', (∀ p : Addr, p.block < B → w'.cell? p = w.cell? p) → w'.cell? ⟨b, off + k * 65, none⟩ = some (.int .i64 ss[k].at_) ∧ (loadVar 33 ⟨b, off + k * 65 + 1, none⟩).run Try.prog w' = .ok (.agg (u8s ss[k].data).toArray) w' := by
  obtain ⟨h64, _, a', cap, hv, hnc, hcap, hcells⟩ := h
  cases hv
  obtain ⟨b, off, rfl, hBb, hc⟩ := hcells (by omega)
  obtain ⟨i44, hi44, hs44⟩ := info44
  have hat := flat_at wcells 65 ss (fun x hx => by rw [length_wcells, h64 x hx]) k ss[k] (List.getElem?_eq_getElem hk)
  refine ⟨b, off, rfl, hBb, rfl, hnc, hcap, fun w' hw => ⟨?_, ?_⟩⟩
  · exact (hw ⟨b, off + k * 65, none⟩ hBb).trans (hc _ _ (hat 0 (.int .i64 ss[k].at_) (by simp [wcells])))
  · exact run_load_big (P := Try.prog) (t := 33) Try.underlying33 (.inl ⟨_, _, rfl⟩) hi44 (w := w') (b := b) (off := off + k * 65 + 1) (cs := u8s ss[k].data) hs44 (by rw [length_u8s, h64 _ (List.getElem_mem hk)])
      (fun j u hj => by
        have e : off + k * 65 + 1 + j = off + (k * 65 + (j + 1)) := by omega
        rw [e]
        exact (hw ⟨b, off + (k * 65 + (j + 1)), none⟩ hBb).trans (hc _ _ (hat (j + 1) u (by simpa [wcells] using hj))))
theorem zeroA : ∀ w, (zeroValue 33).run Try.prog w = .ok (.agg (Array.replicate 64 (.int .u8 0))) w ∧ (Instr.build 33 #[]).run Try.prog w = .ok (.agg (Array.replicate 64 (.int .u8 0))) w := by
  have h : (Try.prog.info? 33).bind (fun i => i.zero) = some (.agg (Array.replicate 64 (.int .u8 0))) := by kernel_rfl
  obtain ⟨i, hi, hz⟩ := Option.bind_eq_some_iff.1 h
  intro w
  have hzv : (zeroValue 33).run Try.prog w = .ok (.agg (Array.replicate 64 (.int .u8 0))) w := by simp [zeroValue, typeInfo, hi, hz]
  refine ⟨hzv, ?_⟩
  simp [Instr.build, hzv, run_underlying Try.underlying33, Instr.fill, cells_agg]
theorem zeroS_cells : (u8s zeroS).toArray = Array.replicate 64 (.int .u8 0) := by rfl
theorem lastW_take {ls : List WriteP} {a : Int} {s : List UInt8} {k : Nat} (hk : k < ls.length) : lastW (ls.take (k + 1)) a s = if ls[k].at_ = a then ls[k].data else lastW (ls.take k) a s := by
  have e : ls.take (k + 1) = ls.take k ++ [ls[k]] := by rw [List.take_add_one, List.getElem?_eq_getElem hk]; rfl
  rw [e]
  unfold lastW
  rw [List.foldl_append]
  rfl
theorem lastW_64 (at_ : Int) : ∀ (ls : List WriteP) (s : List UInt8), (∀ x ∈ ls, x.data.length = 64) → s.length = 64 → (lastW ls at_ s).length = 64
  | [], _, _, h => h
  | x :: ls, s, h, hs => by
    unfold lastW
    rw [List.foldl_cons]
    refine lastW_64 at_ ls _ (fun y hy => h y (List.mem_cons_of_mem _ hy)) ?_
    split
    · exact h x (List.mem_cons_self ..)
    · exact hs
/-- What Read's own blocks hold, in the loop. -/
structure RR (w : World) (Z : Array Value) (L n1 : Nat) (a1 a2 : Option Addr) (M n2 : Nat) (f : Int) (g6 : Nat) (x : List UInt8) (wr : World) : Prop where
  below : Below w.heap.size w wr
  g0 : wr.heap[w.heap.size]? = some (.cells #[.slice a1 L n1, .slice a2 M n2, .int .i64 f, .bool false] 27 (0, 0))
  g1 : wr.heap[w.heap.size + 1]? = some (.cells Z 33 (0, 0))
  g6 : wr.heap[g6]? = some (.cells (u8s x).toArray 33 (0, 0))
set_option maxRecDepth 100000 in
set_option maxHeartbeats 8000000 in
theorem refread_any {B : Nat} (v : Value) (d : DiskP) (at_ : Int) (w : World) (h : DiskV B w v d) :
    Calls Try.prog 13 #[v, .int .i64 at_] w fun e w' => e = .returned (.tuple #[.agg (u8s (readP d at_).1).toArray, .int .i64 (readP d at_).2]) ∧ Below w.heap.size w w' := by
  obtain ⟨Z, hZ⟩ : ∃ Z : Array Value, Z = Array.replicate 64 (.int .u8 0) := ⟨_, rfl⟩
  have HZZ := Lib.hid (show ∀ w, (zeroValue 33).run Try.prog w = .ok (.agg Z) w ∧ (Instr.build 33 #[]).run Try.prog w = .ok (.agg Z) w by rw [hZ]; exact zeroA)
  have HZC := Lib.hid (show (u8s zeroS).toArray = Z by rw [hZ]; exact zeroS_cells)
  have HZS := Lib.hid (show Z.size = 64 by rw [hZ]; simp)
  have HZO := Lib.hid (show ∀ v ∈ Z.toList, v.oneCell' = true by rw [hZ]; intro v hv; rw [Array.toList_replicate] at hv; rw [(List.mem_replicate.1 hv).2]; rfl)
  clear hZ
  obtain ⟨a1, n1, a2, n2, rfl, hs, hl⟩ := h.tight.parts
  clear h
  have p3 := hs.2.2
  have p4 := hl.2.2
  obtain ⟨_, _, hv, g1, g2, _⟩ := p3
  cases hv
  obtain ⟨_, _, hv, g3, g4, _⟩ := p4
  cases hv
  unfold maxLen at g2 g4
  obtain ⟨L, hL⟩ : ∃ L, L = d.secs.length := ⟨_, rfl⟩
  obtain ⟨M, hM⟩ : ∃ M, M = d.loose.length := ⟨_, rfl⟩
  obtain ⟨dn, hdn⟩ : ∃ b, b = d.down := ⟨_, rfl⟩
  rw [← hL] at hs g1 ⊢
  rw [← hM] at hl g3 ⊢
  rw [← hdn]
  obtain ⟨w1, hw1⟩ : ∃ w1, w1 = w.alloc (.cells #[.slice a1 L n1, .slice a2 M n2, .int .i64 d.fuse, .bool dn] 27) := ⟨_, rfl⟩
  obtain ⟨w2, hw2⟩ : ∃ w2, w2 = w1.alloc (.cells (Value.agg Z).cells 33) := ⟨_, rfl⟩
  have hb1 : Below w.heap.size w w1 := by rw [hw1]; exact Below.alloc (Below.refl _ _) (Nat.le_refl _) _
  have hs1 : w1.heap.size = w.heap.size + 1 := by rw [hw1]; simp
  have hb2 : Below w1.heap.size w1 w2 := by rw [hw2]; exact Below.alloc (Below.refl _ _) (Nat.le_refl _) _
  have G0 : w2.heap[w.heap.size]? = some (.cells #[.slice a1 L n1, .slice a2 M n2, .int .i64 d.fuse, .bool dn] 27 (0, 0)) := (hb2.block _ (by omega)).trans (by rw [hw1]; exact heap_alloc_new w _)
  have G1 : w2.heap[w.heap.size + 1]? = some (.cells Z 33 (0, 0)) := by rw [hw2, ← hs1]; exact heap_alloc_new w1 _
  have hbb := hb1.trans (hb2.mono hb1.size)
  have hs2 : w2.heap.size = w.heap.size + 2 := by rw [hw2]; simp [hs1]
  have HS := Lib.hid hs
  have HL := Lib.hid hl
  have HLL := Lib.hid hL
  have HMM := Lib.hid hM
  have HDN := Lib.hid hdn
  have HW1 := Lib.hid hw1
  have HW2 := Lib.hid hw2
  have HS1 := Lib.hid hs1
  have k1 := refright_any _ d w2 (show DiskV w.heap.size w2 (.agg #[.slice a1 L n1, .slice a2 M n2, .int .i64 d.fuse, .bool dn]) d from ⟨_, _, by rw [hdn], hs.below hbb, hl.below hbb⟩)
  obtain ⟨R, hR⟩ : ∃ R, R = rightB d := ⟨_, rfl⟩
  rw [← hR] at k1
  have HR := Lib.hid hR
  have C0 := cell_of_row w2 _ 0 _ _ _ G0
  have C1 := cell_of_row w2 _ 1 _ _ _ G0
  have C2 := cell_of_row w2 _ 2 _ _ _ G0
  have C3 := cell_of_row w2 _ 3 _ _ _ G0
  clear hs hl hL hM hdn hw1 hw2 hs1 hb1 hb2 hR
  cases R with
  | false =>
    go_enter Try.func13, Try.ntmps13
    go_wp2_with (with_reducible refine wp_alloc_to (w' := w2) 33 rfl rfl (HZZ.out _).1 (by rw [← HW1.out]; exact HW2.out) ?_; refine Halt.in ?_)
    refine Halt.out ?_
    go_wp2_with fail
    refine k1.mono ?_
    rintro e w3 ⟨rfl, hb3⟩
    clear k1 C0 C1 C2 C3
    have G0 := (hb3.block _ (block_lt G0)).trans G0
    have G1 := (hb3.block _ (block_lt G1)).trans G1
    have hbb := hbb.trans (hb3.mono hbb.size)
    have hs3 : w.heap.size + 2 ≤ w3.heap.size := by have := hb3.size; omega
    clear hb3 hs2
    have C0 := cell_of_row w3 _ 0 _ _ _ G0
    have C1 := cell_of_row w3 _ 1 _ _ _ G0
    have C2 := cell_of_row w3 _ 2 _ _ _ G0
    have C3 := cell_of_row w3 _ 3 _ _ _ G0
    have hbz := (HZZ.out w3).2
    obtain ⟨w4, hst, G4, hb4, _, _, _⟩ := store64 G1 HZS.out Z HZS.out HZO.out
    have HF := Lib.hid (show readP d at_ = (zeroS, 1) from by unfold readP; rw [← HR.out]; rfl)
    have HBB := Lib.hid (hbb.trans (hb4.mono (Nat.le_succ _)))
    have HG4 := Lib.hid G4
    clear hb4 G4 hbb G0 G1
    go_wp2_with (refine wp_build_l (L' := []) 33 [] rfl rfl rfl hbz ?_; clear hbz; refine Halt.in ?_)
    refine Halt.out ?_
    refine wp_store_at (.tmp 4) (.tmp 22) 33 rfl rfl rfl rfl hst ?_
    clear hst
    go_wp2_with fail
    refine bodyPost_ret (results_ct rfl _ _ (w.heap.size + 1) _ _ _ _ rfl HG4.out Try.underlying33 rfl (by rw [HZS.out]; exact size_sector)) rfl ?_
    rw [HF.out, HZC.out]
    exact ⟨rfl, HBB.out⟩
  | true =>
    by_cases h0 : at_ < 0
    · have q0 : decide (at_ < 0) = true := by simpa using h0
      have ht : thereB d at_ = false := by unfold thereB; rw [decide_eq_false (show ¬ 0 ≤ at_ by omega)]; rfl
      have HTH := Lib.hid ht
      clear ht
      go_enter Try.func13, Try.ntmps13
      go_wp2_with (with_reducible refine wp_alloc_to (w' := w2) 33 rfl rfl (HZZ.out _).1 (by rw [← HW1.out]; exact HW2.out) ?_; refine Halt.in ?_)
      refine Halt.out ?_
      go_wp2_with fail
      refine k1.mono ?_
      rintro e w3 ⟨rfl, hb3⟩
      clear k1 C0 C1 C2 C3
      have G0 := (hb3.block _ (block_lt G0)).trans G0
      have G1 := (hb3.block _ (block_lt G1)).trans G1
      have hbb := hbb.trans (hb3.mono hbb.size)
      have hs3 : w.heap.size + 2 ≤ w3.heap.size := by have := hb3.size; omega
      clear hb3 hs2
      have C0 := cell_of_row w3 _ 0 _ _ _ G0
      have C1 := cell_of_row w3 _ 1 _ _ _ G0
      have C2 := cell_of_row w3 _ 2 _ _ _ G0
      have C3 := cell_of_row w3 _ 3 _ _ _ G0
      have hbz := (HZZ.out w3).2
      obtain ⟨w4, hst, G4, hb4, _, _, _⟩ := store64 G1 HZS.out Z HZS.out HZO.out
      have HF := Lib.hid (show readP d at_ = (zeroS, 1) from by unfold readP; rw [← HR.out, HTH.out]; rfl)
      have HBB := Lib.hid (hbb.trans (hb4.mono (Nat.le_succ _)))
      have HG4 := Lib.hid G4
      clear hb4 G4 hbb G0 G1
      go_wp2_with (refine wp_build_l (L' := []) 33 [] rfl rfl rfl hbz ?_; clear hbz; refine Halt.in ?_)
      refine Halt.out ?_
      refine wp_store_at (.tmp 4) (.tmp 22) 33 rfl rfl rfl rfl hst ?_
      clear hst
      go_wp2_with fail
      refine bodyPost_ret (results_ct rfl _ _ (w.heap.size + 1) _ _ _ _ rfl HG4.out Try.underlying33 rfl (by rw [HZS.out]; exact size_sector)) rfl ?_
      rw [HF.out, HZC.out]
      exact ⟨rfl, HBB.out⟩
    obtain ⟨k, rfl⟩ := Int.eq_ofNat_of_zero_le (show 0 ≤ at_ by omega)
    clear h0
    have q0 : decide ((k : Int) < 0) = false := by simp
    by_cases hkL : k < L
    rotate_left
    · have q1 : decide ((L : Int) ≤ (k : Int)) = true := by simp; omega
      have ht : thereB d (k : Int) = false := by unfold thereB; rw [← HLL.out, decide_eq_false (show ¬ (k : Int) < L by omega), Bool.and_false]
      have HTH := Lib.hid ht
      clear ht
      go_enter Try.func13, Try.ntmps13
      go_wp2_with (with_reducible refine wp_alloc_to (w' := w2) 33 rfl rfl (HZZ.out _).1 (by rw [← HW1.out]; exact HW2.out) ?_; refine Halt.in ?_)
      refine Halt.out ?_
      go_wp2_with fail
      refine k1.mono ?_
      rintro e w3 ⟨rfl, hb3⟩
      clear k1 C0 C1 C2 C3
      have G0 := (hb3.block _ (block_lt G0)).trans G0
      have G1 := (hb3.block _ (block_lt G1)).trans G1
      have hbb := hbb.trans (hb3.mono hbb.size)
      have hs3 : w.heap.size + 2 ≤ w3.heap.size := by have := hb3.size; omega
      clear hb3 hs2
      have C0 := cell_of_row w3 _ 0 _ _ _ G0
      have C1 := cell_of_row w3 _ 1 _ _ _ G0
      have C2 := cell_of_row w3 _ 2 _ _ _ G0
      have C3 := cell_of_row w3 _ 3 _ _ _ G0
      have hbz := (HZZ.out w3).2
      obtain ⟨w4, hst, G4, hb4, _, _, _⟩ := store64 G1 HZS.out Z HZS.out HZO.out
      have HF := Lib.hid (show readP d (k : Int) = (zeroS, 1) from by unfold readP; rw [← HR.out, HTH.out]; rfl)
      have HBB := Lib.hid (hbb.trans (hb4.mono (Nat.le_succ _)))
      have HG4 := Lib.hid G4
      clear hb4 G4 hbb G0 G1
      go_wp2_with (refine wp_build_l (L' := []) 33 [] rfl rfl rfl hbz ?_; clear hbz; refine Halt.in ?_)
      refine Halt.out ?_
      refine wp_store_at (.tmp 4) (.tmp 22) 33 rfl rfl rfl rfl hst ?_
      clear hst
      go_wp2_with fail
      refine bodyPost_ret (results_ct rfl _ _ (w.heap.size + 1) _ _ _ _ rfl HG4.out Try.underlying33 rfl (by rw [HZS.out]; exact size_sector)) rfl ?_
      rw [HF.out, HZC.out]
      exact ⟨rfl, HBB.out⟩
    have q1 : decide ((L : Int) ≤ (k : Int)) = false := by simp; omega
    have ht : thereB d (k : Int) = true := by unfold thereB; rw [← HLL.out, decide_eq_true (show (k : Int) < L by omega), decide_eq_true (show (0 : Int) ≤ k by omega)]; rfl
    have HTH := Lib.hid ht
    clear ht
    cases dn with
    | true =>
      go_enter Try.func13, Try.ntmps13
      go_wp2_with (with_reducible refine wp_alloc_to (w' := w2) 33 rfl rfl (HZZ.out _).1 (by rw [← HW1.out]; exact HW2.out) ?_; refine Halt.in ?_)
      refine Halt.out ?_
      go_wp2_with fail
      refine k1.mono ?_
      rintro e w3 ⟨rfl, hb3⟩
      clear k1 C0 C1 C2 C3
      have G0 := (hb3.block _ (block_lt G0)).trans G0
      have G1 := (hb3.block _ (block_lt G1)).trans G1
      have hbb := hbb.trans (hb3.mono hbb.size)
      have hs3 : w.heap.size + 2 ≤ w3.heap.size := by have := hb3.size; omega
      clear hb3 hs2
      have C0 := cell_of_row w3 _ 0 _ _ _ G0
      have C1 := cell_of_row w3 _ 1 _ _ _ G0
      have C2 := cell_of_row w3 _ 2 _ _ _ G0
      have C3 := cell_of_row w3 _ 3 _ _ _ G0
      have hbz := (HZZ.out w3).2
      obtain ⟨w4, hst, G4, hb4, _, _, _⟩ := store64 G1 HZS.out Z HZS.out HZO.out
      have HF := Lib.hid (show readP d (k : Int) = (zeroS, 9) from by unfold readP; rw [← HR.out, HTH.out, ← HDN.out]; rfl)
      have HBB := Lib.hid (hbb.trans (hb4.mono (Nat.le_succ _)))
      have HG4 := Lib.hid G4
      clear hb4 G4 hbb G0 G1
      go_wp2_with (refine wp_build_l (L' := []) 33 [] rfl rfl rfl hbz ?_; clear hbz; refine Halt.in ?_)
      refine Halt.out ?_
      refine wp_store_at (.tmp 4) (.tmp 25) 33 rfl rfl rfl rfl hst ?_
      clear hst
      go_wp2_with fail
      refine bodyPost_ret (results_ct rfl _ _ (w.heap.size + 1) _ _ _ _ rfl HG4.out Try.underlying33 rfl (by rw [HZS.out]; exact size_sector)) rfl ?_
      rw [HF.out, HZC.out]
      exact ⟨rfl, HBB.out⟩
    | false =>
      have hkd : k < d.secs.length := HLL.out ▸ hkL
      have hk0 : (0 : Int) ≤ (k : Int) := by omega
      have hk1 : (k : Int) < (L : Int) := by omega
      obtain ⟨s, hsk⟩ : ∃ s, s = d.secs[k] := ⟨_, rfl⟩
      have hs64 : s.length = 64 := by rw [hsk]; exact HS.out.1 _ (List.getElem_mem hkd)
      have HF := Lib.hid (show readP d (k : Int) = (lastW d.loose (k : Int) s, 0) by unfold readP; rw [← HR.out, HTH.out, ← HDN.out, hsk]; simp [hkd])
      obtain ⟨bs, os, rfl, hBs, e1, _, _, hlS⟩ := load_sec HS.out hkd
      rw [← hsk] at hlS
      have HLS := Lib.hid hlS
      have HS64 := Lib.hid hs64
      clear e1 hsk hs64 hlS
      go_enter Try.func13, Try.ntmps13
      go_wp2_with (with_reducible refine wp_alloc_to (w' := w2) 33 rfl rfl (HZZ.out _).1 (by rw [← HW1.out]; exact HW2.out) ?_; refine Halt.in ?_)
      refine Halt.out ?_
      go_wp2_with fail
      refine k1.mono ?_
      rintro e w3 ⟨rfl, hb3⟩
      clear k1 C0 C1 C2 C3
      have G0 := (hb3.block _ (block_lt G0)).trans G0
      have G1 := (hb3.block _ (block_lt G1)).trans G1
      have hbb := hbb.trans (hb3.mono hbb.size)
      have hs3 : w.heap.size + 2 ≤ w3.heap.size := by have := hb3.size; omega
      clear hb3 hs2
      have C0 := cell_of_row w3 _ 0 _ _ _ G0
      have C1 := cell_of_row w3 _ 1 _ _ _ G0
      have C2 := cell_of_row w3 _ 2 _ _ _ G0
      have C3 := cell_of_row w3 _ 3 _ _ _ G0
      have hld := HLS.out w3 (fun p hp => hbb.cell hp)
      obtain ⟨w4, hw4⟩ : ∃ w4, w4 = w3.alloc (.cells (Value.agg Z).cells 33) := ⟨_, rfl⟩
      have hb4 : Below w3.heap.size w3 w4 := by rw [hw4]; exact Below.alloc (Below.refl _ _) (Nat.le_refl _) _
      obtain ⟨g6, hg6⟩ : ∃ g, g = w3.heap.size := ⟨_, rfl⟩
      have G6 : w4.heap[g6]? = some (.cells Z 33 (0, 0)) := by rw [hw4, hg6]; exact heap_alloc_new w3 _
      have G0 := (hb4.block _ (block_lt G0)).trans G0
      have G1 := (hb4.block _ (block_lt G1)).trans G1
      have hbb := hbb.trans (hb4.mono hbb.size)
      have hle6 : w.heap.size + 2 ≤ g6 := by rw [hg6]; exact hs3
      obtain ⟨w5, hst, G6', hb5, _, hk5, _⟩ := store64 G6 HZS.out (u8s s).toArray (by simp [length_u8s, HS64.out]) (oneCell_u8s _)
      have G0 := (hk5 w.heap.size (by omega)).trans G0
      have G1 := (hk5 (w.heap.size + 1) (by omega)).trans G1
      have hbb := hbb.trans (hb5.mono (by omega))
      have HW4 := Lib.hid hw4
      have HG6 := Lib.hid hg6
      have HI := Lib.hid (show RR w Z L n1 (some ⟨bs, os, none⟩) a2 M n2 d.fuse g6 (lastW (d.loose.take 0) (k : Int) s) w5 from ⟨hbb, G0, G1, G6'⟩)
      clear hw4 hg6 hb4 hb5 hk5 hbb G0 G1 G6 G6' hs3
      go_wp2_with (refine wp_load_at (.tmp 29) 33 rfl rfl rfl hld ?_; clear hld; refine Halt.in ?_)
      refine Halt.out ?_
      refine wp_alloc_to (w' := w4) 33 rfl rfl (HZZ.out _).1 HW4.out ?_
      rw [← HG6.out]
      refine wp_store_at (.tmp 6) (.tmp 30) 33 rfl rfl rfl rfl hst ?_
      clear hst C0 C1 C2 C3
      go_wp2_with fail
      go_loopw [7] (fun i wr => ∃ j : Nat, j ≤ M ∧ i = .int .i64 j ∧ RR w Z L n1 (some ⟨bs, os, none⟩) a2 M n2 d.fuse g6 (lastW (d.loose.take j) (k : Int) s) wr) (fun i _ => M - (intOf i).toNat)
      case atStart => exact ⟨0, Nat.zero_le _, rfl, HI.out⟩
      case round =>
        obtain ⟨j, hj, rfl, hbb, G0, G1, G6⟩ := hrel
        have hln : (lastW (d.loose.take j) (k : Int) s).length = 64 := lastW_64 _ _ _ (fun x hx => HL.out.1 x (List.mem_of_mem_take hx)) HS64.out
        have C1 := cell_of_row wr _ 1 _ _ _ G0
        by_cases hjM : j < M
        · have hjd : j < d.loose.length := HMM.out ▸ hjM
          have j0 : decide ((j : Int) < (M : Int)) = true := by simp; omega
          have j1 : (0 : Int) ≤ (j : Int) := by omega
          have j2 : (j : Int) < (M : Int) := by omega
          obtain ⟨bb, off, rfl, hBb, e1, _, _, hlA⟩ := looseAt HL.out hjd
          obtain ⟨hc, hld⟩ := hlA wr (fun p hp => hbb.cell hp)
          have htk := lastW_take (a := (k : Int)) (s := s) hjd
          obtain ⟨z, hz⟩ : ∃ z, z = d.loose[j].at_ := ⟨_, rfl⟩
          obtain ⟨y, hy⟩ : ∃ y, y = d.loose[j].data := ⟨_, rfl⟩
          have hy64 : y.length = 64 := by rw [hy]; exact HL.out.1 _ (List.getElem_mem hjd)
          rw [← hz] at hc htk
          rw [← hy] at hld htk
          have HTK := Lib.hid htk
          clear e1 hlA htk hz hy
          by_cases hzk : z = (k : Int)
          · have q5 : (z == (k : Int)) = true := by simpa using hzk
            obtain ⟨w6, hst, G6', hb6, _, hk6, _⟩ := store64 G6 (by simp [length_u8s, hln]) (u8s y).toArray (by simp [length_u8s, hy64]) (oneCell_u8s _)
            have HI := Lib.hid (show RR w Z L n1 (some ⟨bs, os, none⟩) (some ⟨bb, off, none⟩) M n2 d.fuse g6 (lastW (d.loose.take (j + 1)) (k : Int) s) w6 by
              rw [HTK.out, if_pos hzk]
              exact ⟨hbb.trans (hb6.mono (by omega)), (hk6 _ (by omega)).trans G0, (hk6 _ (by omega)).trans G1, G6'⟩)
            clear hzk hbb G0 G1 G6 G6' hb6 hk6 hln
            go_wp2_with (refine wp_load_at (.tmp 50) 33 rfl rfl rfl hld ?_; clear hld; refine Halt.in ?_)
            refine Halt.out ?_
            refine wp_store_at (.tmp 6) (.tmp 51) 33 rfl rfl rfl rfl hst ?_
            clear hst C1 hc
            go_wp2_with fail
            go_roundw
            case rel => exact ⟨j + 1, by omega, by go_num, HI.out⟩
            case measure => simp [intOf]; omega
          · have q5 : (z == (k : Int)) = false := by simpa using hzk
            have HI := Lib.hid (show RR w Z L n1 (some ⟨bs, os, none⟩) (some ⟨bb, off, none⟩) M n2 d.fuse g6 (lastW (d.loose.take (j + 1)) (k : Int) s) wr by
              rw [HTK.out, if_neg hzk]
              exact ⟨hbb, G0, G1, G6⟩)
            clear hzk hbb G0 G1 G6 hln hld
            go_wp2_with fail
            go_roundw
            case rel => exact ⟨j + 1, by omega, by go_num, HI.out⟩
            case measure => simp [intOf]; omega
        · have j0 : decide ((j : Int) < (M : Int)) = false := by simp; omega
          have hje : lastW (d.loose.take j) (k : Int) s = lastW d.loose (k : Int) s := by rw [List.take_of_length_le (by rw [← HMM.out]; omega)]
          rw [hje] at G6 hln
          have hld := run_loadVar_row (P := Try.prog) wr g6 33 33 (u8s (lastW d.loose (k : Int) s)).toArray (0, 0) _ G6 Try.underlying33 rfl (by simp only [List.size_toArray, length_u8s, hln]; exact size_sector)
          obtain ⟨w6, hst, G4, hb6, _, hk6, _⟩ := store64 G1 HZS.out (u8s (lastW d.loose (k : Int) s)).toArray (by simp [length_u8s, hln]) (oneCell_u8s _)
          have HBB := Lib.hid (hbb.trans (hb6.mono (Nat.le_succ _)))
          have HG4 := Lib.hid G4
          have HLN := Lib.hid hln
          clear hbb G0 G1 G6 G4 hb6 hk6 hje hln
          go_wp2_with (refine wp_load_at (.tmp 6) 33 rfl rfl rfl hld ?_; clear hld; refine Halt.in ?_)
          refine Halt.out ?_
          refine wp_store_at (.tmp 4) (.tmp 52) 33 rfl rfl rfl rfl hst ?_
          clear hst C1
          go_wp2_with fail
          refine bodyPost_ret (results_ct rfl _ _ (w.heap.size + 1) _ _ _ _ rfl HG4.out Try.underlying33 rfl (by simp only [List.size_toArray, length_u8s, HLN.out]; exact size_sector)) rfl ?_
          rw [HF.out]
          exact ⟨rfl, HBB.out⟩
end Go.Proofs.Ytccjjlefpdlegab
