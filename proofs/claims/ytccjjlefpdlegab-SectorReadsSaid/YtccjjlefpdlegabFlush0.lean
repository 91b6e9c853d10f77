/- Layer 1 (sector): Flush and Start. -/
import Derived.Test.YtccjjlefpdlegabSettle2
namespace Go.Proofs.Ytccjjlefpdlegab
open Go.RowKit
theorem callFunc_run {P : Program} {f : FuncId} {fn : Func} (hf : P.funcs[f]? = some fn) (hn : (fn.name == "runtime.NumGoroutine") = false) (hb : fn.body.isNone = false) (args : Array Value) (w : World) : (callFunc f args).run P w = .ok (.enter f args) w := by
  have hn' : fn.name ≠ "runtime.NumGoroutine" := by simpa using hn
  have hb' : fn.body ≠ none := by intro h; simp [h] at hb
  simp [callFunc, hf, hn', hb']
theorem cf_flush : ∀ args w, (callFunc 23 args).run Try.prog w = .ok (.enter 23 args) w := fun args w => callFunc_run Try.func23 rfl rfl args w
theorem flush1_any (k : Int) (w : World) : Calls Try.prog 23 (#[.int .i64 k] ++ #[]) w fun e w' => e = .returned (.bool true) ∧ Below w.heap.size w w' := by
  go_enter Try.func23, Try.ntmps23
  go_wp2_with fail
  go_ret
  exact ⟨rfl, Below.refl _ _⟩
/-- Does a loose write stay? -/
def stay (m : Int) (k : Nat) : Bool := bits BinOp.and IntKind.u64 (m / 2 ^ (k % 64)) 1 == 1
/-- All loose writes are done. -/
def flushP (d : DiskP) : DiskP × Int :=
  if rightB d then (if downP d then ({ d with fuse := burnF d, down := true }, 9) else (⟨settleN d.secs d.loose (fun _ => true) d.loose.length, [], burnF d, false⟩, 0)) else (d, 1)
def startP (d : DiskP) (mask : Int) : DiskP × Int :=
  if rightB d then (⟨settleN d.secs d.loose (stay mask) d.loose.length, [], -1, false⟩, 0) else (d, 1)
set_option maxRecDepth 100000 in
set_option maxHeartbeats 1000000 in
theorem flush_any {B : Nat} (v : Value) (d : DiskP) (w : World) (h : DiskV B w v d) (S : Nat → Prop) (hS : DSl S v) (hF : ∀ b, w.heap.size ≤ b → S b) :
    Calls Try.prog 9 #[v] w fun e w' => (∃ v', e = .returned (.tuple #[v', .int .i64 (flushP d).2]) ∧ DiskV w'.heap.size w' v' (flushP d).1 ∧ DSl S v') ∧ Below w.heap.size w w' := by
  obtain ⟨a1, n1, a2, n2, rfl, hs, hl⟩ := h.tight.parts
  have HSl := Lib.hid (hS _ _ _ _ rfl)
  have HFr := Lib.hid hF
  clear h hS hF
  have F := Fr2.new (w := w) hs hl
  obtain ⟨w2, hw2⟩ : ∃ w2, w2 = (w.alloc (.cells #[.slice a1 d.secs.length n1, .slice a2 d.loose.length n2, .int .i64 d.fuse, .bool d.down] 27)).alloc (.cells #[.slice none 0 0, .slice none 0 0, .int .i64 0, .bool false] 27) := ⟨_, rfl⟩
  have hb2 : Below w.heap.size w w2 := by rw [hw2]; exact Below.alloc (Below.alloc (Below.refl _ _) (Nat.le_refl _) _) (by simp) _
  have hle : w.heap.size + 2 ≤ w2.heap.size := by rw [hw2]; simp
  rw [← hw2] at F
  clear hs hl
  have k1 := right_any _ d w2 F.diskV
  have H3 : w.heap.size ≤ w.heap.size + 1 := by omega
  have C0 := cell_of_row w2 _ 0 _ _ _ F.g0
  have C1 := cell_of_row w2 _ 1 _ _ _ F.g0
  have C2 := cell_of_row w2 _ 2 _ _ _ F.g0
  have C3 := cell_of_row w2 _ 3 _ _ _ F.g0
  obtain ⟨R, hR⟩ : ∃ R, R = rightB d := ⟨_, rfl⟩
  rw [← hR] at k1
  have HR := Lib.hid hR
  clear hR
  go_enter Try.func9, Try.ntmps9
  go_wp2_with fail
  rw [← hw2]
  clear hw2
  go_wp2_with fail
  refine k1.mono ?_
  rintro e w3 ⟨rfl, hb3⟩
  have F := F.below hb3 (by omega) (by omega)
  have hbb := hb2.trans (hb3.mono hb2.size)
  have hle := Nat.le_trans hle hb3.size
  clear k1 C0 C1 C2 C3 hb2 hb3
  have C0 := cell_of_row w3 _ 0 _ _ _ F.g0
  have C1 := cell_of_row w3 _ 1 _ _ _ F.g0
  have C2 := cell_of_row w3 _ 2 _ _ _ F.g0
  have C3 := cell_of_row w3 _ 3 _ _ _ F.g0
  have D0 := cell_of_row w3 _ 0 _ _ _ F.g2
  have D1 := cell_of_row w3 _ 1 _ _ _ F.g2
  have D2 := cell_of_row w3 _ 2 _ _ _ F.g2
  have D3 := cell_of_row w3 _ 3 _ _ _ F.g2
  have Y := frozen_row F.g0
  have Z := frozen_row F.g2
  cases R with
  | false =>
    have hP : flushP d = (d, 1) := by simp [flushP, ← HR.out]
    have HP := Lib.hid hP
    clear hP
    go_wp2_with fail
    refine bodyPost_ret (results_ct rfl _ _ (w.heap.size + 1) _ _ _ _ rfl (put4_heap F.g2 _ _ _ _) Try.underlying27 rfl size_disk) rfl ?_
    rw [HP.out]
    exact ⟨⟨_, rfl, DiskV.tight ⟨_, _, rfl, put4_secsV F.s H3 _ _ _ _, put4_looseV F.l H3 _ _ _ _⟩, DSl.mk HSl.out.1 HSl.out.2⟩, put4_below hbb H3 _ _ _ _⟩
  | true =>
    have hR := HR.out.symm
    have k1 := burn_any _ d w3 F.diskV hR
    cases hD : downP d with
    | true =>
      have hP : flushP d = ({ d with fuse := burnF d, down := true }, 9) := by simp [flushP, hR, hD]
      have hE : burnE d = 9 := by simp [burnE, hD]
      rw [hD, hE] at k1
      have HP := Lib.hid hP
      clear hP hR hD hE
      go_wp2_with fail
      refine k1.mono ?_
      rintro e w5 ⟨⟨sv, lv, rfl, C, hC, ho5, r5, hl5⟩, hb5⟩
      obtain ⟨C, hC, hC5, r5, hl5⟩ := normC hC ho5 r5 hl5 hb5.size
      obtain ⟨b1, m1, rfl⟩ := ho5.form
      obtain ⟨b2, m2, rfl⟩ := hl5.form
      have F := F.below hb5 (by omega) (by omega)
      have hbb := hbb.trans (hb5.mono hbb.size)
      clear k1 hb5 C0 C1 C2 C3 D0 D1 D2 D3 Y Z
      have C0 := cell_of_row w5 _ 0 _ _ _ F.g0
      have C1 := cell_of_row w5 _ 1 _ _ _ F.g0
      have C2 := cell_of_row w5 _ 2 _ _ _ F.g0
      have C3 := cell_of_row w5 _ 3 _ _ _ F.g0
      have D0 := cell_of_row w5 _ 0 _ _ _ F.g2
      have D1 := cell_of_row w5 _ 1 _ _ _ F.g2
      have D2 := cell_of_row w5 _ 2 _ _ _ F.g2
      have D3 := cell_of_row w5 _ 3 _ _ _ F.g2
      have Y := frozen_row F.g0
      have Z := frozen_row F.g2
      go_wp2_with fail
      have hg : w.heap.size < C := by omega
      have hg3 : w.heap.size < w3.heap.size := by omega
      have hg1 : w.heap.size + 1 < C := by omega
      have hg13 : w.heap.size + 1 < w3.heap.size := by omega
      refine bodyPost_ret (results_ct rfl _ _ (w.heap.size + 1) _ _ _ _ rfl (put4_heap (w := put4 w5 w.heap.size _ _ _ _) (put4_far F.g2 (by omega) _ _ _ _) _ _ _ _) Try.underlying27 rfl size_disk) rfl ?_
      rw [HP.out]
      exact ⟨⟨_, rfl, ⟨_, _, rfl, (put4_secs (put4_secs ho5 hg3 _ _ _ _) hg13 _ _ _ _).secs, (put4_loose (put4_loose hl5 hg _ _ _ _) hg1 _ _ _ _).loose⟩, DSl.mk (ho5.2.sl fun b hb => HFr.out b (by omega)) (hl5.2.sl fun b hb => HFr.out b (by omega))⟩, put4_below (put4_below hbb (Nat.le_refl _) _ _ _ _) H3 _ _ _ _⟩
    | false =>
      have hP : flushP d = (⟨settleN d.secs d.loose (fun _ => true) d.loose.length, [], burnF d, false⟩, 0) := by simp [flushP, hR, hD]
      have hE : burnE d = 0 := by simp [burnE, hD]
      rw [hD, hE] at k1
      have HP := Lib.hid hP
      have hR2 : rightB { d with fuse := burnF d, down := false } = true := by
        simp only [rightB, fusedB, Bool.and_eq_true, decide_eq_true_eq] at hR ⊢
        refine ⟨⟨⟨hR.1.1.1, hR.1.1.2⟩, ?_⟩, hR.2⟩
        simp only [burnF, hD]
        split <;> omega
      clear hP hR hD hE
      go_wp2_with fail
      refine k1.mono ?_
      rintro e w5 ⟨⟨sv, lv, rfl, C, hC, ho5, r5, hl5⟩, hb5⟩
      obtain ⟨C, hC, hC5, r5, hl5⟩ := normC hC ho5 r5 hl5 hb5.size
      obtain ⟨b1, m1, rfl⟩ := ho5.form
      obtain ⟨b2, m2, rfl⟩ := hl5.form
      have F := F.below hb5 (by omega) (by omega)
      have hbb := hbb.trans (hb5.mono hbb.size)
      have hg : w.heap.size < C := by omega
      have hg3 : w.heap.size < w3.heap.size := by omega
      have hg1 : w.heap.size + 1 < C := by omega
      have hg13 : w.heap.size + 1 < w3.heap.size := by omega
      clear k1 C0 C1 C2 C3 D0 D1 D2 D3 Y Z
      have C0 := cell_of_row w5 _ 0 _ _ _ F.g0
      have C1 := cell_of_row w5 _ 1 _ _ _ F.g0
      have C2 := cell_of_row w5 _ 2 _ _ _ F.g0
      have C3 := cell_of_row w5 _ 3 _ _ _ F.g0
      have Y := frozen_row F.g0
      obtain ⟨w6, hw6⟩ : ∃ w6, w6 = put4 w5 w.heap.size (.slice b1 d.secs.length m1) (.slice b2 d.loose.length m2) (.int .i64 (burnF d)) (.bool false) := ⟨_, rfl⟩
      have hb56 : Below w.heap.size w5 w6 := by rw [hw6]; exact put4_below (Below.refl _ _) (Nat.le_refl _) _ _ _ _
      have E2 : w6.heap[w.heap.size + 1]? = some (.cells #[.slice none 0 0, .slice none 0 0, .int .i64 0, .bool false] 27 (0, 0)) := by rw [hw6]; exact put4_far F.g2 (by omega) _ _ _ _
      have hsz6 : w6.heap.size = w5.heap.size := by rw [hw6]; simp [put4]
      have hd6 : DiskV w6.heap.size w6 (.agg #[.slice b1 d.secs.length m1, .slice b2 d.loose.length m2, .int .i64 (burnF d), .bool false]) { d with fuse := burnF d, down := false } := by
        rw [hw6]
        exact ⟨_, _, rfl, (put4_secs ho5 hg3 _ _ _ _).secs, (put4_loose hl5 hg _ _ _ _).loose⟩
      have k2 := settle_any _ { d with fuse := burnF d, down := false } (fun _ => true) 23 #[] w6 hd6 hR2 cf_flush (fun k w' _ _ => flush1_any k w')
      have E0 : w6.heap[w.heap.size]? = some (.cells #[.slice b1 d.secs.length m1, .slice b2 d.loose.length m2, .int .i64 (burnF d), .bool false] 27 (0, 0)) := by rw [hw6]; exact put4_heap F.g0 _ _ _ _
      have hbb := hbb.trans hb56
      clear hd6 hR2 F ho5 r5 hl5 hb56
      clear hb5
      unfold put4 at hw6
      go_wp2_with fail
      rw [← hw6]
      clear hw6
      refine k2.mono ?_
      rintro e w7 ⟨⟨sv, rfl, ho7⟩, hb7⟩
      obtain ⟨b3, m3, rfl⟩ := ho7.form
      have G2 := (hb7.block _ (by omega)).trans E2
      have hg7 : w.heap.size + 1 < w6.heap.size := by omega
      have hbb := hbb.trans (hb7.mono hbb.size)
      clear k2 C0 C1 C2 C3 Y hb7 E0 E2
      have D0 := cell_of_row w7 _ 0 _ _ _ G2
      have D1 := cell_of_row w7 _ 1 _ _ _ G2
      have D2 := cell_of_row w7 _ 2 _ _ _ G2
      have D3 := cell_of_row w7 _ 3 _ _ _ G2
      have Z := frozen_row G2
      go_wp2_with fail
      refine bodyPost_ret (results_ct rfl _ _ (w.heap.size + 1) _ _ _ _ rfl (put4_heap G2 _ _ _ _) Try.underlying27 rfl size_disk) rfl ?_
      rw [HP.out]
      exact ⟨⟨_, rfl, ⟨_, _, rfl, (put4_secs ho7 hg7 _ _ _ _).secs, Loose.nil _ _⟩, DSl.mk (ho7.2.sl fun b hb => HFr.out b (by omega)) (Sl.none _ _ _)⟩, put4_below hbb H3 _ _ _ _⟩
end Go.Proofs.Ytccjjlefpdlegab
