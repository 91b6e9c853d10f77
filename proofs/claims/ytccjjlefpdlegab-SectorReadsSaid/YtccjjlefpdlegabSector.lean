/- Layer 1 (sector): the code's tests of a disk. -/
import Derived.Test.YtccjjlefpdlegabProg
import Derived.Test.YtccjjlefpdlegabBig
import Derived.Test.YtccjjlefpdlegabEq
import Derived.KernelRfl
namespace Go.Proofs.Ytccjjlefpdlegab
open Go.RowKit
theorem info_write : (Try.prog.info? 46).map (fun i => (i.size, i.bytes)) = some (65, 72) := by kernel_rfl
theorem info_sector : (Try.prog.info? 33).map (fun i => (i.size, i.bytes)) = some (64, 64) := by kernel_rfl
theorem size_parts {P : Program} {e : TypeId} {size bytes : Nat} (h : (P.info? e).map (fun i => (i.size, i.bytes)) = some (size, bytes)) : ∃ i, P.info? e = some i ∧ i.size = size ∧ i.bytes = bytes := by
  obtain ⟨i, hi, hzz⟩ := Option.map_eq_some_iff.1 h
  simp only [Prod.mk.injEq] at hzz
  exact ⟨i, hi, hzz.1, hzz.2⟩
def thereB (d : DiskP) (at_ : Int) : Bool := decide (0 ≤ at_) && decide (at_ < d.secs.length)
def fusedB (n : Int) : Bool := decide (-1 ≤ n) && decide (n ≤ 1099511627776)
set_option maxRecDepth 100000 in
theorem fused_any (n : Int) (w : World) : Calls Try.prog 19 #[.int .i64 n] w fun e w' => e = .returned (.bool (fusedB n)) ∧ w = w' := by
  by_cases h1 : -1 ≤ n
  · have hf : fusedB n = decide (n ≤ 1099511627776) := by simp [fusedB, h1]
    rw [hf]
    clear hf
    go_enter Try.func19, Try.ntmps19
    go_wp2
    go_ret
    exact ⟨rfl, rfl⟩
  · have hf : fusedB n = false := by simp [fusedB, h1]
    rw [hf]
    have t0 : decide (-1 ≤ n) = false := by simp; omega
    clear hf h1
    go_enter Try.func19, Try.ntmps19
    go_wp2
    go_ret
    exact ⟨rfl, rfl⟩
set_option maxRecDepth 100000 in
theorem there_any {B : Nat} (v : Value) (d : DiskP) (at_ : Int) (w : World) (h : DiskV B w v d) :
    Calls Try.prog 20 #[v, .int .i64 at_] w fun e w' => e = .returned (.bool (thereB d at_)) ∧ Below w.heap.size w w' := by
  obtain ⟨sv, lv, rfl, ⟨_, _, a, cap, rfl, hnc, hcap, _⟩, ⟨_, _, a2, cap2, rfl, _⟩⟩ := h
  unfold maxLen at hcap
  have hb : Below w.heap.size w (w.alloc (.cells #[.slice a d.secs.length cap, .slice a2 d.loose.length cap2, .int .i64 d.fuse, .bool d.down] 27)) := Below.alloc (Below.refl _ _) (Nat.le_refl _) _
  by_cases h1 : 0 ≤ at_
  · have hf : thereB d at_ = decide (at_ < d.secs.length) := by simp [thereB, h1]
    rw [hf]
    clear hf
    go_enter Try.func20, Try.ntmps20
    go_wp2
    go_ret
    exact ⟨rfl, hb⟩
  · have hf : thereB d at_ = false := by simp [thereB, h1]
    rw [hf]
    have t0 : decide (0 ≤ at_) = false := by simp; omega
    clear hf h1
    go_enter Try.func20, Try.ntmps20
    go_wp2
    go_ret
    exact ⟨rfl, hb⟩
/-- A disk lies whole in block g. -/
def DiskAt (B g : Nat) (w : World) (d : DiskP) : Prop := ∃ sv lv, w.heap[g]? = some (.cells #[sv, lv, .int .i64 d.fuse, .bool d.down] 27 (0, 0)) ∧ Secs B w sv d.secs ∧ Loose B w lv d.loose
theorem DiskAt.below {B g B' : Nat} {w w' : World} {d : DiskP} (h : DiskAt B g w d) (hb : Below B' w w') (hg : g < B') (hB : B ≤ B') : DiskAt B g w' d := by
  obtain ⟨sv, lv, h1, h2, h3⟩ := h
  exact ⟨sv, lv, (hb.block g hg).trans h1, h2.below (hb.mono hB), h3.below (hb.mono hB)⟩
set_option maxRecDepth 100000 in
theorem pred_any {B g : Nat} (A : Array Value) (at_ : Int) (d : DiskP) (w : World) (h : DiskAt B g w d) (hA : A[0]? = some (.int .i64 at_)) :
    Calls Try.prog 27 #[.agg A, .pointer (some ⟨g, 0, none⟩)] w fun e w' => e = .returned (.bool (!thereB d at_)) ∧ Below w.heap.size w w' := by
  obtain ⟨sv, lv, h1, h2, h3⟩ := h
  have hg : g < w.heap.size := block_lt h1
  have hb : Below w.heap.size w (w.alloc (.cells A 46)) := Below.alloc (Below.refl _ _) (Nat.le_refl _) _
  have c0 := cell_of_row w g 0 _ _ _ h1
  have c1 := cell_of_row w g 1 _ _ _ h1
  have c2 := cell_of_row w g 2 _ _ _ h1
  have c3 := cell_of_row w g 3 _ _ _ h1
  have hd : DiskV w.heap.size w (.agg #[sv, lv, .int .i64 d.fuse, .bool d.down]) d := ⟨sv, lv, rfl, h2.tight, h3.tight⟩
  have hd2 := hd.below hb
  have k1 := there_any _ d at_ _ hd2
  go_enter Try.func27, Try.ntmps27
  go_wp2_with fail
  refine k1.mono ?_
  rintro e w1 ⟨rfl, hb1⟩
  go_wp2_with fail
  go_ret
  exact ⟨rfl, hb.trans (hb1.mono hb.size)⟩
/-- Which write lies nowhere; -1: none. -/
def badAt (d : DiskP) (ls : List WriteP) : Bool := ls.any fun x => !thereB d x.at_
theorem badAt_none (d : DiskP) (ls : List WriteP) (h : ∀ k (hk : k < ls.length), thereB d ls[k].at_ = true) : badAt d ls = false := by
  unfold badAt
  rw [List.any_eq_false]
  intro x hx
  obtain ⟨k, hk, rfl⟩ := List.getElem_of_mem hx
  simp [h k hk]
theorem badAt_some (d : DiskP) (ls : List WriteP) (k : Nat) (hk : k < ls.length) (h : thereB d ls[k].at_ = false) : badAt d ls = true := by
  unfold badAt
  rw [List.any_eq_true]
  exact ⟨ls[k], List.getElem_mem hk, by simp [h]⟩
set_option maxRecDepth 100000 in
set_option maxHeartbeats 1000000 in
theorem index_any {B g : Nat} (v : Value) (ls : List WriteP) (d : DiskP) (w : World) (h : DiskAt B g w d) (hB : B ≤ g) (hl : Loose B w v ls) :
    Calls Try.prog 33 #[v, .func (.func 27) #[] #[.pointer (some ⟨g, 0, none⟩)]] w fun e w' => (∃ z : Int, e = .returned (.int .i64 z) ∧ (decide (0 ≤ z)) = badAt d ls) ∧ Below w.heap.size w w' := by
  obtain ⟨hls, _, a, cap, rfl, hnc, hcap, hcells⟩ := hl
  unfold maxLen at hcap
  have hg : g < w.heap.size := by obtain ⟨_, _, h1, _⟩ := h; exact block_lt h1
  obtain ⟨i0, hi, hsz, _⟩ := size_parts info_write
  go_enter Try.func33, Try.ntmps33
  go_wp2
  go_loopw [8] (fun i wr => ∃ k : Nat, k ≤ ls.length ∧ i = .int .i64 k ∧ (∀ j (hj : j < ls.length), j < k → thereB d ls[j].at_ = true) ∧ Below w.heap.size w wr) (fun i _ => ls.length - (intOf i).toNat)
  case atStart => exact ⟨0, Nat.zero_le _, rfl, fun j _ h => absurd h (Nat.not_lt_zero _), Below.refl _ _⟩
  case round =>
    obtain ⟨k, hk, rfl, hpre, hb⟩ := hrel
    by_cases hlt : k < ls.length
    · obtain ⟨b, off, rfl, hBb, hc⟩ := hcells (by omega)
      have hBw : b < w.heap.size := Nat.lt_trans (Nat.lt_of_lt_of_le hBb hB) hg
      have hat := flat_at wcells 65 ls (fun x hx => by rw [length_wcells, hls x hx]) k ls[k] (List.getElem?_eq_getElem hlt)
      have hld := run_load_big (P := Try.prog) (t := 46) Try.underlying46 (.inr ⟨_, rfl⟩) hi (w := wr) (b := b) (off := off + k * 65) (cs := wcells ls[k]) hsz (by rw [length_wcells, hls _ (List.getElem_mem hlt)])
        (fun j u hj => by rw [Nat.add_assoc]; exact (hb.cell (p := ⟨b, off + (k * 65 + j), none⟩) hBw).trans (hc _ _ (hat j u hj)))
      have HP := Lib.hid hpre
      have hA : (wcells ls[k]).toArray[0]? = some (.int .i64 ls[k].at_) := by simp [wcells]
      have hd : DiskAt B g wr d := h.below hb hg (Nat.le_trans hB (Nat.le_of_lt hg))
      have k1 := pred_any _ _ d wr hd hA
      obtain ⟨q, hq⟩ : ∃ q, q = thereB d ls[k].at_ := ⟨_, rfl⟩
      rw [← hq] at k1
      have HQ := Lib.hid hq
      clear hpre hc hat hcells hA hd hq
      obtain ⟨A, hAe⟩ : ∃ A, A = (wcells ls[k]).toArray := ⟨_, rfl⟩
      rw [← hAe] at hld k1
      clear hAe
      cases q with
      | true =>
        go_wp2_with (refine wp_load_at (.tmp 14) 46 rfl rfl rfl hld ?_)
        refine k1.mono ?_
        rintro e w1 ⟨rfl, hb1⟩
        go_wp2_with fail
        go_roundw
        case rel =>
          refine ⟨k + 1, by omega, by go_num, fun j hj hjk => ?_, hb.trans (hb1.mono hb.size)⟩
          by_cases hjk2 : j < k
          · exact HP.out j hj hjk2
          · obtain rfl : j = k := by omega
            exact HQ.out.symm
        case measure => simp [intOf]; omega
      | false =>
        go_wp2_with (refine wp_load_at (.tmp 14) 46 rfl rfl rfl hld ?_)
        refine k1.mono ?_
        rintro e w1 ⟨rfl, hb1⟩
        go_wp2_with fail
        go_ret
        exact ⟨⟨k, rfl, by rw [badAt_some d ls k hlt HQ.out.symm]; simp⟩, hb.trans (hb1.mono hb.size)⟩
    · have hke : k = ls.length := by omega
      subst hke
      have HP := Lib.hid hpre
      clear hpre hcells
      go_wp2_with fail
      go_ret
      exact ⟨⟨-1, rfl, by rw [badAt_none d ls (fun j hj => HP.out j hj hj)]; decide⟩, hb⟩
end Go.Proofs.Ytccjjlefpdlegab
