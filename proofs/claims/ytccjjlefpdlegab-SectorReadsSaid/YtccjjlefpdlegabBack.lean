/- Layer 1 (sector): slices.Backward over loose writes: what the iterator yields, in order. -/
import Derived.Test.YtccjjlefpdlegabIn
namespace Go.Proofs.Ytccjjlefpdlegab
open Go.RowKit Go.Shelf
attribute [local go_sem] Oper.semAt_some
abbrev W64 := { x : WriteP // x.data.length = 64 }
def upto {α : Type} (f : Nat → α) (k : Nat) : List α := (List.range k).map f
theorem upto_succ {α : Type} (f : Nat → α) (k : Nat) : upto f (k + 1) = upto f k ++ [f k] := by simp [upto, List.range_succ]
theorem upto_length {α : Type} (f : Nat → α) (k : Nat) : (upto f k).length = k := by simp [upto]
def sub64 (ls : List WriteP) (k : Nat) : W64 := if h : (ls[k]?.getD ⟨0, zeroS⟩).data.length = 64 then ⟨_, h⟩ else ⟨⟨0, zeroS⟩, rfl⟩
theorem sub64_at {ls : List WriteP} (h : ∀ x ∈ ls, x.data.length = 64) {k : Nat} (hk : k < ls.length) : (sub64 ls k).1 = ls[k] := by
  have e : ls[k]?.getD ⟨0, zeroS⟩ = ls[k] := by simp [hk]
  have h1 : (ls[k]?.getD ⟨0, zeroS⟩).data.length = 64 := by rw [e]; exact h _ (List.getElem_mem hk)
  unfold sub64
  rw [dif_pos h1]
  exact e
/-- What comes behind k writes. -/
def backAt (ls : List WriteP) (k : Nat) : Int × W64 := ((ls.length : Int) - 1 - k, sub64 ls (ls.length - 1 - k))
def encW (x : Int × W64) : Array Value := #[.int .i64 x.1, .agg (wcells x.2.1).toArray]
theorem backward_any (a : Option Addr) (n c : Nat) (w : World) :
    Calls Try.prog 25 #[.slice a n c] w fun e w' => e = .returned (.func (.func 32) #[] #[.pointer (some ⟨w.heap.size, 0, none⟩)]) ∧ w' = w.alloc (.cells #[.slice a n c] 25) := by
  go_enter Try.func25, Try.ntmps25
  go_wp2_with fail
  go_ret
  exact ⟨rfl, rfl⟩
set_option maxRecDepth 100000 in
set_option maxHeartbeats 2000000 in
theorem backward1_in (n : Nat) (hn : 1 ≤ n) (l Bs n₀ : Nat) (v : Value) (ls : List WriteP) (hlen : ls.length ≤ 2 ^ 40) (hBs0 : Bs < n₀) (J Jx : List (Int × W64) → World → Prop)
    (hY : ∀ pre x W, J pre W → pre.length < ls.length → YieldAt Fence.wide (n - 1) Try.prog l (encW x) W fun e W' =>
      (e = .returned (.bool true) ∧ J (pre ++ [x]) W' ∧ Below n₀ W W') ∨ (e = .returned (.bool false) ∧ Jx (pre ++ [x]) W'))
    (W : World) (hBs : W.cell? ⟨Bs, 0, none⟩ = some v) (hl : Loose n₀ W v ls) (h0 : J [] W) :
    CallsIn Fence.wide n Try.prog 32 #[.func (.yield l) #[] #[], .pointer (some ⟨Bs, 0, none⟩)] W fun e W' => (∃ v, e = .returned v) ∧
      ((∃ ys, ys = upto (backAt ls) ls.length ∧ J ys W') ∨ (∃ pre, (∃ k, k ≤ ls.length ∧ pre = upto (backAt ls) k) ∧ Jx pre W')) := by
  have hl0 := hl
  obtain ⟨hls, _, a, cap, rfl, hnc, hcap, hcells⟩ := hl
  unfold maxLen at hcap
  have HY := Lib.hid hY
  clear hY
  refine callsIn_of_wp Try.func32 rfl trivial ?_ rfl
  simp only [Try.ntmps32, List.size_toArray, List.length_cons, List.length_nil, Nat.reduceAdd, Nat.reduceSub, Array.replicate_succ, Array.replicate_zero, List.push_toArray, List.append_toArray, List.nil_append, List.cons_append]
  obtain ⟨i0, z0, hi, hz0, hz1, hz2, hz3⟩ := zero_parts infoz_write
  gi_wp2
  gi_loopw [3] (fun i wr => ∃ k m : Nat, k + m = ls.length ∧ i = .int .i64 ((m : Int) - 1) ∧ J (upto (backAt ls) k) wr ∧ Below n₀ W wr) (fun i _ => (intOf i + 1).toNat)
  case atStart => exact ⟨0, ls.length, by omega, rfl, h0, Below.refl _ _⟩
  case round =>
    obtain ⟨k, m, hkm, rfl, hJ, hb⟩ := hrel
    have hbs := (hb.cell (p := ⟨Bs, 0, none⟩) hBs0).trans hBs
    cases m with
    | zero =>
      gi_wp2
      obtain rfl : k = ls.length := by omega
      go_end0
      exact ⟨⟨_, rfl⟩, .inl ⟨_, rfl, hJ⟩⟩
    | succ m =>
      have hm : (((m + 1 : Nat) : Int) - 1) = (m : Int) := by omega
      rw [hm]
      have hlt : m < ls.length := by omega
      obtain ⟨b, off, rfl, hBb, hc⟩ := hcells (by omega)
      have hat := flat_at wcells 65 ls (fun x hx => by rw [length_wcells, hls x hx]) m ls[m] (List.getElem?_eq_getElem hlt)
      have hld := run_load_big (P := Try.prog) (t := 46) Try.underlying46 (.inr ⟨_, rfl⟩) hi (w := wr) (b := b) (off := off + m * 65) (cs := wcells ls[m]) hz1 (by rw [length_wcells, hls _ (List.getElem_mem hlt)])
        (fun j u hj => by rw [Nat.add_assoc]; exact (hb.cell (p := ⟨b, off + (m * 65 + j), none⟩) hBb).trans (hc _ _ (hat j u hj)))
      have hba : backAt ls k = ((m : Int), sub64 ls m) := by
        unfold backAt
        have e1 : ls.length - 1 - k = m := by omega
        have e2 : (ls.length : Int) - 1 - k = m := by omega
        rw [e1, e2]
      obtain ⟨fn, tmps, assign, body, hy, hR⟩ := HY.out _ (backAt ls k) wr hJ (by rw [upto_length]; omega)
      unfold encW at hy
      rw [hba] at hy
      simp only [sub64_at hls hlt] at hy
      obtain ⟨X, hX⟩ : ∃ X, X = (wcells ls[m]).toArray := ⟨_, rfl⟩
      rw [← hX] at hld hy
      have HX := Lib.hid hX
      clear hX hat hc hcells hba
      gi_wp2_with (refine wpin_load_to (w' := wr) (.tmp 15) 46 rfl rfl ?_ rfl hld ?_; (exact rfl))
      refine hR.mono ?_
      rintro e W3 (⟨rfl, hJ3, hb3⟩ | ⟨rfl, hJx3⟩)
      · gi_wp2
        go_roundw
        case rel => exact ⟨k + 1, m, by omega, rfl, by rw [upto_succ]; exact hJ3, hb.trans hb3⟩
        case measure => simp [intOf]
      · gi_wp2
        refine bodyPost_ret (results_none rfl _ _ _) rfl ?_
        exact ⟨⟨_, rfl⟩, .inr ⟨_, ⟨k + 1, by omega, (upto_succ _ _).symm⟩, hJx3⟩⟩
/-- slices.Backward(ls) hands back a value that gives the writes from the last to the first. -/
theorem backward_stops (n : Nat) (hn : 1 ≤ n) (Bs n₀ : Nat) (v : Value) (ls : List WriteP) (hlen : ls.length ≤ 2 ^ 40) (hBs0 : Bs < n₀) (w : World) (hn₀ : n₀ ≤ w.heap.size) (hBs : w.cell? ⟨Bs, 0, none⟩ = some v) (hl : Loose n₀ w v ls) :
    SeqStopsK Fence.wide n Try.prog 32 #[.pointer (some ⟨Bs, 0, none⟩)] encW (Below n₀) (fun ys => ys = upto (backAt ls) ls.length) (fun pre => ∃ k, k ≤ ls.length ∧ pre = upto (backAt ls) k) ls.length w := fun l J Jx W hW _ _ hY h0 =>
  backward1_in n hn l Bs n₀ v ls hlen hBs0 J Jx hY W ((hW.cell (p := ⟨Bs, 0, none⟩) (Nat.lt_of_lt_of_le hBs0 hn₀)).trans hBs) (hl.below (hW.mono hn₀)) h0
end Go.Proofs.Ytccjjlefpdlegab
