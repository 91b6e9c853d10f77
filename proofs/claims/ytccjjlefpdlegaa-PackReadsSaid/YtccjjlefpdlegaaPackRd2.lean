/- Layer 3 (pack): the code's reader, its other methods. -/
import Derived.Test.YtccjjlefpdlegaaPackRd
namespace Go.Proofs.Ytccjjlefpdlegaa
open Go.RowKit PackP
theorem u64_i64 (n : Nat) (h : n ≤ 2 ^ 62) : IntKind.i64.wrap (n : Int) = n := by
  simp only [IntKind.wrap, IntKind.bits, IntKind.signed]
  simp
  omega
set_option maxRecDepth 100000 in
set_option maxHeartbeats 1000000 in
theorem rtext_any (B g : Nat) (w : World) (r : RS) (h : RdAt 73 B g w r) :
    Calls Try.prog 19 #[.pointer (some ⟨g, 0, none⟩)] w fun e w' => e = .returned (.string (strB r.text.2)) ∧ RdEnd 73 B g w w' r.text.1 := by
  have kn := fun (w : World) (a : Option Addr) => eql_ptr_nil Try.underlying32 w a
  rcases ht : r.take 4 with ⟨r1, _ | b⟩
  · have hnum : r.text = (r1, []) := by unfold RS.text; rw [ht]
    have HN := Lib.hid hnum
    have HT := Lib.hid ht
    clear hnum ht
    go_enter Try.func19, Try.ntmps19
    go_wp2_with (go_at_call 46; ((refine (take_none B g _ r r1 4 _ (by omega) rfl h HT.out).mono ?_); rintro e w1 ⟨v1, rfl, hE, hb⟩))
    go_ret
    rw [HN.out]
    exact ⟨rfl, hE⟩
  · obtain ⟨he, he1, hbl, _, _, _⟩ := take_some_e ht
    obtain ⟨N, hN⟩ : ∃ N, N = numOf b := ⟨_, rfl⟩
    have hNl : N < 2 ^ 32 := by
      have := numOf_lt b
      rw [hbl] at this; omega
    have HT := Lib.hid ht
    have HNe := Lib.hid hN
    have hbl' : b.length ≤ 8 := by omega
    by_cases hg : 4096 < N
    · have hnum : r.text = ({ r1 with e := 4 }, []) := by unfold RS.text; rw [ht]; simp only; rw [if_pos (by omega)]
      have hfl : r1.fail true 4 = { r1 with e := 4 } := by simp [RS.fail, he1]
      have htk : ∀ n, ({ r1 with e := 4 } : RS).take n = ({ r1 with e := 4 }, none) := by intro n; simp [RS.take]
      have t0 : decide (4096 < (N : Int)) = true := by simp; omega
      have HN := Lib.hid hnum
      have HF := Lib.hid hfl
      have HK := Lib.hid htk
      clear hnum ht hfl hN hg hbl he he1 htk
      go_enter Try.func19, Try.ntmps19
      go_wp2_with (go_at_call 46; ((refine (take_some B g _ r r1 4 _ b (by omega) rfl h HT.out).mono ?_); rintro e w1 ⟨v1, rfl, hE, hb⟩; have hR1 := hE.1))
      go_wp2_with (first
        | (go_at_call 47; ((refine (number_any B _ b _ hb hbl').mono ?_); rintro e w2 ⟨rfl, rfl⟩; rw [← HNe.out]))
        | (go_at_call 48; ((with_reducible refine (fail_any B g _ r1 _ _ hR1).mono ?_); rintro e w2 ⟨rfl, hE2⟩; rw [HF.out] at hE2; have hR2 := hE2.1))
        | (go_at_call 46; ((refine (take_none B g _ _ _ N _ (by omega) rfl hR2 (HK.out N)).mono ?_); rintro e w3 ⟨v3, rfl, hE3, hb3⟩; have kc := run_bytes_string (P := Try.prog) Try.underlying22 Try.underlying5 Try.underlying9 hb3)))
      go_ret
      rw [HN.out]
      exact ⟨rfl, hE3.1, only_trans (only_trans hE.2 hE2.2) hE3.2⟩
    · have hfl : r1.fail false 4 = r1 := by simp [RS.fail]
      have t0 : decide (4096 < (N : Int)) = false := by simp; omega
      have HF := Lib.hid hfl
      rcases ht2 : r1.take N with ⟨r2, _ | s⟩
      · have hnum : r.text = (r2, []) := by unfold RS.text; rw [ht]; simp only; rw [if_neg (by omega), ← hN, ht2]
        have HN := Lib.hid hnum
        have HK := Lib.hid ht2
        clear hnum ht hfl hN hg hbl he he1 ht2
        go_enter Try.func19, Try.ntmps19
        go_wp2_with (go_at_call 46; ((refine (take_some B g _ r r1 4 _ b (by omega) rfl h HT.out).mono ?_); rintro e w1 ⟨v1, rfl, hE, hb⟩; have hR1 := hE.1))
        go_wp2_with (first
          | (go_at_call 47; ((refine (number_any B _ b _ hb hbl').mono ?_); rintro e w2 ⟨rfl, rfl⟩; rw [← HNe.out]))
          | (go_at_call 48; ((with_reducible refine (fail_any B g _ r1 _ _ hR1).mono ?_); rintro e w2 ⟨rfl, hE2⟩; rw [HF.out] at hE2; have hR2 := hE2.1))
          | (go_at_call 46; ((refine (take_none B g _ _ _ N _ (by omega) rfl hR2 HK.out).mono ?_); rintro e w3 ⟨v3, rfl, hE3, hb3⟩; have kc := run_bytes_string (P := Try.prog) Try.underlying22 Try.underlying5 Try.underlying9 hb3)))
        go_ret
        rw [HN.out]
        exact ⟨rfl, hE3.1, only_trans (only_trans hE.2 hE2.2) hE3.2⟩
      · have hnum : r.text = (r2, s) := by unfold RS.text; rw [ht]; simp only; rw [if_neg (by omega), ← hN, ht2]
        have HN := Lib.hid hnum
        have HK := Lib.hid ht2
        clear hnum ht hfl hN hg hbl he he1 ht2
        go_enter Try.func19, Try.ntmps19
        go_wp2_with (go_at_call 46; ((refine (take_some B g _ r r1 4 _ b (by omega) rfl h HT.out).mono ?_); rintro e w1 ⟨v1, rfl, hE, hb⟩; have hR1 := hE.1))
        go_wp2_with (first
          | (go_at_call 47; ((refine (number_any B _ b _ hb hbl').mono ?_); rintro e w2 ⟨rfl, rfl⟩; rw [← HNe.out]))
          | (go_at_call 48; ((with_reducible refine (fail_any B g _ r1 _ _ hR1).mono ?_); rintro e w2 ⟨rfl, hE2⟩; rw [HF.out] at hE2; have hR2 := hE2.1))
          | (go_at_call 46; ((refine (take_some B g _ _ _ N _ s (by omega) rfl hR2 HK.out).mono ?_); rintro e w3 ⟨v3, rfl, hE3, hb3⟩; have kc := run_bytes_string (P := Try.prog) Try.underlying22 Try.underlying5 Try.underlying9 hb3)))
        go_ret
        rw [HN.out]
        exact ⟨rfl, hE3.1, only_trans (only_trans hE.2 hE2.2) hE3.2⟩
set_option maxRecDepth 100000 in
set_option maxHeartbeats 1000000 in
theorem rfail_any (B g : Nat) (w : World) (r : RS) (bad : Bool) (h : RdAt 73 B g w r) :
    Calls Try.prog 22 #[.pointer (some ⟨g, 0, none⟩), .bool bad] w fun e w' => e = .returned (.tuple #[]) ∧ RdEnd 73 B g w w' (r.fail bad 3) := by
  have kn := fun (w : World) (a : Option Addr) => neq_ptr_nil Try.underlying32 w a
  go_enter Try.func22, Try.ntmps22
  go_wp2_with (go_at_call 48; ((with_reducible refine (fail_any B g _ r _ _ h).mono ?_); rintro e w2 ⟨rfl, hE2⟩))
  go_end0
  exact ⟨rfl, hE2⟩
set_option maxRecDepth 100000 in
set_option maxHeartbeats 1000000 in
theorem rerr_any (B g : Nat) (w : World) (r : RS) (h : RdAt 73 B g w r) :
    Calls Try.prog 21 #[.pointer (some ⟨g, 0, none⟩)] w fun e w' => e = .returned (.int .i64 r.e) ∧ w = w' := by
  have kn := fun (w : World) (a : Option Addr) => eql_ptr_nil Try.underlying32 w a
  obtain ⟨v, _, _, _, _, hc1, _, _⟩ := h.parts
  go_enter Try.func21, Try.ntmps21
  go_wp2
  go_ret
  exact ⟨rfl, rfl⟩
set_option maxRecDepth 100000 in
set_option maxHeartbeats 1000000 in
theorem rdone_any (B g : Nat) (w : World) (r : RS) (h : RdAt 73 B g w r) :
    Calls Try.prog 20 #[.pointer (some ⟨g, 0, none⟩)] w fun e w' => e = .returned (.int .i64 r.doneE) ∧ RdEnd 73 B g w w' (r.fail (decide (0 < r.b.length)) 3) := by
  have kn := fun (w : World) (a : Option Addr) => eql_ptr_nil Try.underlying32 w a
  obtain ⟨v, _, hv, _, hc0, _, _, _⟩ := h.parts
  obtain ⟨_, a, cap, rfl, hnc, hcap, _⟩ := hv
  unfold maxLen at hcap
  have hd : (r.fail (decide (0 < r.b.length)) 3).e = r.doneE := by
    unfold RS.fail RS.doneE
    by_cases h1 : r.e = 0 <;> by_cases h2 : 0 < r.b.length <;> simp [h1, h2]
  obtain ⟨L, hL⟩ : ∃ L, L = r.b.length := ⟨_, rfl⟩
  rw [← hL] at hc0 hnc hd ⊢
  obtain ⟨r2, hr2⟩ : ∃ r2, r2 = r.fail (decide (0 < L)) 3 := ⟨_, rfl⟩
  rw [← hr2] at hd ⊢
  have HD := Lib.hid hd
  have HR := Lib.hid hr2
  clear hd hr2 hL
  go_enter Try.func20, Try.ntmps20
  go_wp2_with (go_at_call 22; ((with_reducible refine (rfail_any B g _ r _ h).mono ?_); rintro e w2 ⟨rfl, hE2⟩; rw [← HR.out] at hE2; obtain ⟨v2, _, _, _, _, hc2, _, _⟩ := hE2.1.parts; rw [HD.out] at hc2))
  go_ret
  exact ⟨rfl, hE2⟩
set_option maxRecDepth 100000 in
set_option maxHeartbeats 1000000 in
theorem rcount_any (B g : Nat) (w : World) (r : RS) (most : Int) (h : RdAt 73 B g w r) :
    Calls Try.prog 36 #[.pointer (some ⟨g, 0, none⟩), .int .i64 most] w fun e w' => e = .returned (.int .i64 (r.count most).2) ∧ RdEnd 73 B g w w' (r.count most).1 := by
  have kn := fun (w : World) (a : Option Addr) => eql_ptr_nil Try.underlying32 w a
  rcases hnum : r.num with ⟨r1, n⟩
  have hc : r.count most = if r1.e = 0 then (if most < n then ({ r1 with e := 4 }, 0) else (r1, n)) else (r1, 0) := by unfold RS.count; rw [hnum]
  have HN := Lib.hid hnum
  have hb := rnum_any B g w r h
  rw [hnum] at hb
  obtain ⟨r2, hr2⟩ : ∃ r2, r2 = r1.fail (decide (most < n)) 4 := ⟨_, rfl⟩
  have hfin : r.count most = (r2, if r2.e = 0 then n else 0) := by
    rw [hc, hr2]
    unfold RS.fail
    by_cases h1 : r1.e = 0 <;> by_cases h2 : most < n <;> simp [h1, h2]
  have HC := Lib.hid hfin
  have HR := Lib.hid hr2
  obtain ⟨E, hE⟩ : ∃ E, E = r2.e := ⟨_, rfl⟩
  have HE := Lib.hid hE
  clear hc hnum hfin hr2 hE
  by_cases h0 : E = 0
  · have H0 := Lib.hid h0
    clear h0
    go_enter Try.func36, Try.ntmps36
    go_wp2_with (first
      | (go_at_call 18; ((with_reducible refine hb.mono ?_); rintro e w1 ⟨rfl, hE1⟩; have hR1 := hE1.1))
      | (go_at_call 48; ((with_reducible refine (fail_any B g _ r1 _ _ hR1).mono ?_); rintro e w2 ⟨rfl, hE2⟩; rw [← HR.out] at hE2; obtain ⟨v2, _, _, _, _, hc2, _, _⟩ := hE2.1.parts; rw [← HE.out, H0.out] at hc2)))
    go_ret
    rw [HC.out, if_pos (by rw [← HE.out]; exact H0.out)]
    exact ⟨rfl, hE2.1, only_trans hE1.2 hE2.2⟩
  · have t0 : (E == 0) = false := by rw [beq_eq_false_iff_ne]; exact h0
    have H0 := Lib.hid h0
    clear h0
    go_enter Try.func36, Try.ntmps36
    go_wp2_with (first
      | (go_at_call 18; ((with_reducible refine hb.mono ?_); rintro e w1 ⟨rfl, hE1⟩; have hR1 := hE1.1))
      | (go_at_call 48; ((with_reducible refine (fail_any B g _ r1 _ _ hR1).mono ?_); rintro e w2 ⟨rfl, hE2⟩; rw [← HR.out] at hE2; obtain ⟨v2, _, _, _, _, hc2, _, _⟩ := hE2.1.parts; rw [← HE.out] at hc2)))
    go_ret
    rw [HC.out, if_neg (by rw [← HE.out]; exact H0.out)]
    exact ⟨rfl, hE2.1, only_trans hE1.2 hE2.2⟩
set_option maxRecDepth 100000 in
set_option maxHeartbeats 1000000 in
theorem from_any (B : Nat) (v : Value) (bs : List UInt8) (w : World) (h : Bytes B w v bs) :
    Calls Try.prog 17 #[v] w fun e w' => e = .returned (.pointer (some ⟨w.heap.size, 0, none⟩)) ∧ RdAt 73 w.heap.size w.heap.size w' ⟨bs, 0⟩ ∧ Below w.heap.size w w' := by
  replace h := h.tight
  have h' := h
  obtain ⟨_, a, cap, rfl, _⟩ := h'
  go_enter Try.func17, Try.ntmps17
  go_wp2
  go_ret
  have hb : Below w.heap.size w (w.alloc (.cells #[.slice a bs.length cap, .int .i64 0] 73)) := Below.alloc (Below.refl _ _) (Nat.le_refl _) _
  exact ⟨rfl, ⟨_, heap_alloc_new w _, h.below hb, Nat.le_refl _⟩, hb⟩
theorem from_at (B B' : Nat) (v : Value) (bs : List UInt8) (w : World) (h : Bytes B w v bs) (hB : B ≤ w.heap.size) :
    Calls Try.prog 17 #[v] w fun e w' => e = .returned (.pointer (some ⟨w.heap.size, 0, none⟩)) ∧ RdAt 73 B w.heap.size w' ⟨bs, 0⟩ ∧ Below w.heap.size w w' := by
  have h' := h
  obtain ⟨_, a, cap, rfl, _⟩ := h'
  go_enter Try.func17, Try.ntmps17
  go_wp2
  go_ret
  have hb : Below w.heap.size w (w.alloc (.cells #[.slice a bs.length cap, .int .i64 0] 73)) := Below.alloc (Below.refl _ _) (Nat.le_refl _) _
  exact ⟨rfl, ⟨_, heap_alloc_new w _, h.below (hb.mono hB), hB⟩, hb⟩
set_option maxRecDepth 100000 in
theorem num_nil (w : World) : Calls Try.prog 18 #[.pointer none] w fun e w' => e = .returned (.int .i64 0) ∧ w = w' := by
  have kn := fun (w : World) (a : Option Addr) => eql_ptr_nil Try.underlying32 w a
  go_enter Try.func18, Try.ntmps18
  go_wp2
  go_ret
  exact ⟨rfl, rfl⟩
set_option maxRecDepth 100000 in
theorem done_nil (w : World) : Calls Try.prog 20 #[.pointer none] w fun e w' => e = .returned (.int .i64 0) ∧ w = w' := by
  have kn := fun (w : World) (a : Option Addr) => eql_ptr_nil Try.underlying32 w a
  go_enter Try.func20, Try.ntmps20
  go_wp2
  go_ret
  exact ⟨rfl, rfl⟩
end Go.Proofs.Ytccjjlefpdlegaa
