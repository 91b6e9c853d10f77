/- Layer 3 (pack): the code's reader, its other methods. -/
import Derived.Test.YtaijompnohkmaaaGreatDoorMA
import Derived.ChangeArms
import Derived.OpenShut
import Derived.DataReads
import Derived.Lib.Strings
set_option linter.unusedSimpArgs false
set_option linter.unusedVariables false
namespace Go.Proofs.YtaijompnohkmaaaGreatDoor
open Go.RowKit PackP
set_option maxRecDepth 100000 in
set_option maxHeartbeats 1000000 in
theorem rerr_any (B g : Nat) (w : World) (r : RS) (h : RdAt 118 B g w r) :
    Calls Tryz.prog 151 #[.pointer (some ⟨g, 0, none⟩)] w fun e w' => e = .returned (.int .i64 r.e) ∧ w = w' := by
  have kn := fun (w : World) (a : Option Addr) => eql_ptr_nil Tryz.underlying78 w a
  obtain ⟨v, _, _, _, _, hc1, _, _⟩ := h.parts
  go_enter Tryz.func151, Tryz.ntmps151
  go_wp2
  go_ret
  exact ⟨rfl, rfl⟩
set_option maxRecDepth 100000 in
set_option maxHeartbeats 1000000 in
theorem from_any (B : Nat) (v : Value) (bs : List UInt8) (w : World) (h : Bytes B w v bs) :
    Calls Tryz.prog 46 #[v] w fun e w' => e = .returned (.pointer (some ⟨w.heap.size, 0, none⟩)) ∧ RdAt 118 w.heap.size w.heap.size w' ⟨bs, 0⟩ ∧ Below w.heap.size w w' := by
  replace h := h.tight
  have h' := h
  obtain ⟨_, a, cap, rfl, _⟩ := h'
  go_enter Tryz.func46, Tryz.ntmps46
  go_wp2
  go_ret
  have hb : Below w.heap.size w (w.alloc (.cells #[.slice a bs.length cap, .int .i64 0] 118)) := Below.alloc (Below.refl _ _) (Nat.le_refl _) _
  exact ⟨rfl, ⟨_, heap_alloc_new w _, h.below hb, Nat.le_refl _⟩, hb⟩
theorem from_at (B B' : Nat) (v : Value) (bs : List UInt8) (w : World) (h : Bytes B w v bs) (hB : B ≤ w.heap.size) :
    Calls Tryz.prog 46 #[v] w fun e w' => e = .returned (.pointer (some ⟨w.heap.size, 0, none⟩)) ∧ RdAt 118 B w.heap.size w' ⟨bs, 0⟩ ∧ Below w.heap.size w w' := by
  have h' := h
  obtain ⟨_, a, cap, rfl, _⟩ := h'
  go_enter Tryz.func46, Tryz.ntmps46
  go_wp2
  go_ret
  have hb : Below w.heap.size w (w.alloc (.cells #[.slice a bs.length cap, .int .i64 0] 118)) := Below.alloc (Below.refl _ _) (Nat.le_refl _) _
  exact ⟨rfl, ⟨_, heap_alloc_new w _, h.below (hb.mono hB), hB⟩, hb⟩
set_option maxRecDepth 100000 in
theorem num_nil (w : World) : Calls Tryz.prog 48 #[.pointer none] w fun e w' => e = .returned (.int .i64 0) ∧ w = w' := by
  have kn := fun (w : World) (a : Option Addr) => eql_ptr_nil Tryz.underlying78 w a
  go_enter Tryz.func48, Tryz.ntmps48
  go_wp2
  go_ret
  exact ⟨rfl, rfl⟩
end Go.Proofs.YtaijompnohkmaaaGreatDoor
/- Layer 3 (pack): the code's reader: texts, counts, the end. -/
namespace Go.Proofs.YtaijompnohkmaaaGreatDoor
open Go.RowKit PackP
theorem u64_i64 (n : Nat) (h : n ≤ 2 ^ 62) : IntKind.i64.wrap (n : Int) = n := by
  simp only [IntKind.wrap, IntKind.bits, IntKind.signed]
  simp
  omega
set_option maxRecDepth 100000 in
set_option maxHeartbeats 1000000 in
theorem rtext_any (B g : Nat) (w : World) (r : RS) (h : RdAt 118 B g w r) :
    Calls Tryz.prog 50 #[.pointer (some ⟨g, 0, none⟩)] w fun e w' => e = .returned (.string (strB r.text.2)) ∧ RdEnd 118 B g w w' r.text.1 := by
  have kn := fun (w : World) (a : Option Addr) => eql_ptr_nil Tryz.underlying78 w a
  rcases ht : r.take 4 with ⟨r1, _ | b⟩
  · have hnum : r.text = (r1, []) := by unfold RS.text; rw [ht]
    have HN := Lib.hid hnum
    have HT := Lib.hid ht
    clear hnum ht
    go_enter Tryz.func50, Tryz.ntmps50
    go_wp2_with (go_at_call 86; ((refine (take_none B g _ r r1 4 _ (by omega) rfl h HT.out).mono ?_); rintro e w1 ⟨v1, rfl, hE, hb⟩))
    go_ret
    rw [HN.out]
    exact ⟨rfl, hE⟩
  · obtain ⟨he, he1, hbl, _, _, _⟩ := take_some_e ht
    obtain ⟨N, hN⟩ : ∃ N, N = numOf b := ⟨_, rfl⟩
    have hNl : N < 2 ^ 32 := by
      have := numOf_lt b
      rw [hbl] at this; omega
    have HT := Lib.hid ht
    have HNe := Lib.hid hN
    have hbl' : b.length ≤ 8 := by omega
    by_cases hg : 4096 < N
    · have hnum : r.text = ({ r1 with e := 4 }, []) := by unfold RS.text; rw [ht]; simp only; rw [if_pos (by omega)]
      have hfl : r1.fail true 4 = { r1 with e := 4 } := by simp [RS.fail, he1]
      have htk : ∀ n, ({ r1 with e := 4 } : RS).take n = ({ r1 with e := 4 }, none) := by intro n; simp [RS.take]
      have t0 : decide (4096 < (N : Int)) = true := by simp; omega
      have HN := Lib.hid hnum
      have HF := Lib.hid hfl
      have HK := Lib.hid htk
      clear hnum ht hfl hN hg hbl he he1 htk
      go_enter Tryz.func50, Tryz.ntmps50
      go_wp2_with (go_at_call 86; ((refine (take_some B g _ r r1 4 _ b (by omega) rfl h HT.out).mono ?_); rintro e w1 ⟨v1, rfl, hE, hb⟩; have hR1 := hE.1))
      go_wp2_with (first
        | (go_at_call 87; ((refine (number_any B _ b _ hb hbl').mono ?_); rintro e w2 ⟨rfl, rfl⟩; rw [← HNe.out]))
        | (go_at_call 85; ((with_reducible refine (fail_any B g _ r1 _ _ hR1).mono ?_); rintro e w2 ⟨rfl, hE2⟩; rw [HF.out] at hE2; have hR2 := hE2.1))
        | (go_at_call 86; ((refine (take_none B g _ _ _ N _ (by omega) rfl hR2 (HK.out N)).mono ?_); rintro e w3 ⟨v3, rfl, hE3, hb3⟩; have kc := run_bytes_string (P := Tryz.prog) Tryz.underlying23 Tryz.underlying5 Tryz.underlying9 hb3)))
      go_ret
      rw [HN.out]
      exact ⟨rfl, hE3.1, only_trans (only_trans hE.2 hE2.2) hE3.2⟩
    · have hfl : r1.fail false 4 = r1 := by simp [RS.fail]
      have t0 : decide (4096 < (N : Int)) = false := by simp; omega
      have HF := Lib.hid hfl
      rcases ht2 : r1.take N with ⟨r2, _ | s⟩
      · have hnum : r.text = (r2, []) := by unfold RS.text; rw [ht]; simp only; rw [if_neg (by omega), ← hN, ht2]
        have HN := Lib.hid hnum
        have HK := Lib.hid ht2
        clear hnum ht hfl hN hg hbl he he1 ht2
        go_enter Tryz.func50, Tryz.ntmps50
        go_wp2_with (go_at_call 86; ((refine (take_some B g _ r r1 4 _ b (by omega) rfl h HT.out).mono ?_); rintro e w1 ⟨v1, rfl, hE, hb⟩; have hR1 := hE.1))
        go_wp2_with (first
          | (go_at_call 87; ((refine (number_any B _ b _ hb hbl').mono ?_); rintro e w2 ⟨rfl, rfl⟩; rw [← HNe.out]))
          | (go_at_call 85; ((with_reducible refine (fail_any B g _ r1 _ _ hR1).mono ?_); rintro e w2 ⟨rfl, hE2⟩; rw [HF.out] at hE2; have hR2 := hE2.1))
          | (go_at_call 86; ((refine (take_none B g _ _ _ N _ (by omega) rfl hR2 HK.out).mono ?_); rintro e w3 ⟨v3, rfl, hE3, hb3⟩; have kc := run_bytes_string (P := Tryz.prog) Tryz.underlying23 Tryz.underlying5 Tryz.underlying9 hb3)))
        go_ret
        rw [HN.out]
        exact ⟨rfl, hE3.1, only_trans (only_trans hE.2 hE2.2) hE3.2⟩
      · have hnum : r.text = (r2, s) := by unfold RS.text; rw [ht]; simp only; rw [if_neg (by omega), ← hN, ht2]
        have HN := Lib.hid hnum
        have HK := Lib.hid ht2
        clear hnum ht hfl hN hg hbl he he1 ht2
        go_enter Tryz.func50, Tryz.ntmps50
        go_wp2_with (go_at_call 86; ((refine (take_some B g _ r r1 4 _ b (by omega) rfl h HT.out).mono ?_); rintro e w1 ⟨v1, rfl, hE, hb⟩; have hR1 := hE.1))
        go_wp2_with (first
          | (go_at_call 87; ((refine (number_any B _ b _ hb hbl').mono ?_); rintro e w2 ⟨rfl, rfl⟩; rw [← HNe.out]))
          | (go_at_call 85; ((with_reducible refine (fail_any B g _ r1 _ _ hR1).mono ?_); rintro e w2 ⟨rfl, hE2⟩; rw [HF.out] at hE2; have hR2 := hE2.1))
          | (go_at_call 86; ((refine (take_some B g _ _ _ N _ s (by omega) rfl hR2 HK.out).mono ?_); rintro e w3 ⟨v3, rfl, hE3, hb3⟩; have kc := run_bytes_string (P := Tryz.prog) Tryz.underlying23 Tryz.underlying5 Tryz.underlying9 hb3)))
        go_ret
        rw [HN.out]
        exact ⟨rfl, hE3.1, only_trans (only_trans hE.2 hE2.2) hE3.2⟩
set_option maxRecDepth 100000 in
set_option maxHeartbeats 1000000 in
theorem rfail_any (B g : Nat) (w : World) (r : RS) (bad : Bool) (h : RdAt 118 B g w r) :
    Calls Tryz.prog 49 #[.pointer (some ⟨g, 0, none⟩), .bool bad] w fun e w' => e = .returned (.tuple #[]) ∧ RdEnd 118 B g w w' (r.fail bad 3) := by
  have kn := fun (w : World) (a : Option Addr) => neq_ptr_nil Tryz.underlying78 w a
  go_enter Tryz.func49, Tryz.ntmps49
  go_wp2_with (go_at_call 85; ((with_reducible refine (fail_any B g _ r _ _ h).mono ?_); rintro e w2 ⟨rfl, hE2⟩))
  go_end0
  exact ⟨rfl, hE2⟩
set_option maxRecDepth 100000 in
set_option maxHeartbeats 1000000 in
theorem rdone_any (B g : Nat) (w : World) (r : RS) (h : RdAt 118 B g w r) :
    Calls Tryz.prog 51 #[.pointer (some ⟨g, 0, none⟩)] w fun e w' => e = .returned (.int .i64 r.doneE) ∧ RdEnd 118 B g w w' (r.fail (decide (0 < r.b.length)) 3) := by
  have kn := fun (w : World) (a : Option Addr) => eql_ptr_nil Tryz.underlying78 w a
  obtain ⟨v, _, hv, _, hc0, _, _, _⟩ := h.parts
  obtain ⟨_, a, cap, rfl, hnc, hcap, _⟩ := hv
  unfold maxLen at hcap
  have hd : (r.fail (decide (0 < r.b.length)) 3).e = r.doneE := by
    unfold RS.fail RS.doneE
    by_cases h1 : r.e = 0 <;> by_cases h2 : 0 < r.b.length <;> simp [h1, h2]
  obtain ⟨L, hL⟩ : ∃ L, L = r.b.length := ⟨_, rfl⟩
  rw [← hL] at hc0 hnc hd ⊢
  obtain ⟨r2, hr2⟩ : ∃ r2, r2 = r.fail (decide (0 < L)) 3 := ⟨_, rfl⟩
  rw [← hr2] at hd ⊢
  have HD := Lib.hid hd
  have HR := Lib.hid hr2
  clear hd hr2 hL
  go_enter Tryz.func51, Tryz.ntmps51
  go_wp2_with (go_at_call 49; ((with_reducible refine (rfail_any B g _ r _ h).mono ?_); rintro e w2 ⟨rfl, hE2⟩; rw [← HR.out] at hE2; obtain ⟨v2, _, _, _, _, hc2, _, _⟩ := hE2.1.parts; rw [HD.out] at hc2))
  go_ret
  exact ⟨rfl, hE2⟩
set_option maxRecDepth 100000 in
set_option maxHeartbeats 1000000 in
theorem rcount_any (B g : Nat) (w : World) (r : RS) (most : Int) (h : RdAt 118 B g w r) :
    Calls Tryz.prog 47 #[.pointer (some ⟨g, 0, none⟩), .int .i64 most] w fun e w' => e = .returned (.int .i64 (r.count most).2) ∧ RdEnd 118 B g w w' (r.count most).1 := by
  have kn := fun (w : World) (a : Option Addr) => eql_ptr_nil Tryz.underlying78 w a
  rcases hnum : r.num with ⟨r1, n⟩
  have hc : r.count most = if r1.e = 0 then (if most < n then ({ r1 with e := 4 }, 0) else (r1, n)) else (r1, 0) := by unfold RS.count; rw [hnum]
  have HN := Lib.hid hnum
  have hb := rnum_any B g w r h
  rw [hnum] at hb
  obtain ⟨r2, hr2⟩ : ∃ r2, r2 = r1.fail (decide (most < n)) 4 := ⟨_, rfl⟩
  have hfin : r.count most = (r2, if r2.e = 0 then n else 0) := by
    rw [hc, hr2]
    unfold RS.fail
    by_cases h1 : r1.e = 0 <;> by_cases h2 : most < n <;> simp [h1, h2]
  have HC := Lib.hid hfin
  have HR := Lib.hid hr2
  obtain ⟨E, hE⟩ : ∃ E, E = r2.e := ⟨_, rfl⟩
  have HE := Lib.hid hE
  clear hc hnum hfin hr2 hE
  by_cases h0 : E = 0
  · have H0 := Lib.hid h0
    clear h0
    go_enter Tryz.func47, Tryz.ntmps47
    go_wp2_with (first
      | (go_at_call 48; ((with_reducible refine hb.mono ?_); rintro e w1 ⟨rfl, hE1⟩; have hR1 := hE1.1))
      | (go_at_call 85; ((with_reducible refine (fail_any B g _ r1 _ _ hR1).mono ?_); rintro e w2 ⟨rfl, hE2⟩; rw [← HR.out] at hE2; obtain ⟨v2, _, _, _, _, hc2, _, _⟩ := hE2.1.parts; rw [← HE.out, H0.out] at hc2)))
    go_ret
    rw [HC.out, if_pos (by rw [← HE.out]; exact H0.out)]
    exact ⟨rfl, hE2.1, only_trans hE1.2 hE2.2⟩
  · have t0 : (E == 0) = false := by rw [beq_eq_false_iff_ne]; exact h0
    have H0 := Lib.hid h0
    clear h0
    go_enter Tryz.func47, Tryz.ntmps47
    go_wp2_with (first
      | (go_at_call 48; ((with_reducible refine hb.mono ?_); rintro e w1 ⟨rfl, hE1⟩; have hR1 := hE1.1))
      | (go_at_call 85; ((with_reducible refine (fail_any B g _ r1 _ _ hR1).mono ?_); rintro e w2 ⟨rfl, hE2⟩; rw [← HR.out] at hE2; obtain ⟨v2, _, _, _, _, hc2, _, _⟩ := hE2.1.parts; rw [← HE.out] at hc2)))
    go_ret
    rw [HC.out, if_neg (by rw [← HE.out]; exact H0.out)]
    exact ⟨rfl, hE2.1, only_trans hE1.2 hE2.2⟩
set_option maxRecDepth 100000 in
theorem done_nil (w : World) : Calls Tryz.prog 51 #[.pointer none] w fun e w' => e = .returned (.int .i64 0) ∧ w = w' := by
  have kn := fun (w : World) (a : Option Addr) => eql_ptr_nil Tryz.underlying78 w a
  go_enter Tryz.func51, Tryz.ntmps51
  go_wp2
  go_ret
  exact ⟨rfl, rfl⟩
end Go.Proofs.YtaijompnohkmaaaGreatDoor
/- Layer 3 (pack): the reference's reader. -/
namespace Go.Proofs.YtaijompnohkmaaaGreatDoor
open Go.RowKit PackP
theorem fold_ge (bs : List UInt8) : ∀ a : Nat, a * 256 ^ bs.length ≤ bs.foldl (fun n c => n * 256 + c.toNat) a := by
  induction bs with
  | nil => intro a; simp
  | cons c bs ih =>
    intro a
    have h := ih (a * 256 + c.toNat)
    rw [List.foldl_cons, List.length_cons, Nat.pow_succ, Nat.mul_comm (256 ^ bs.length) 256, ← Nat.mul_assoc]
    exact Nat.le_trans (Nat.mul_le_mul_right _ (by omega)) h
theorem numOf_ge (bs : List UInt8) (k : Nat) (hk : k < bs.length) : numOf (bs.take k) * 256 ≤ numOf bs := by
  have h : numOf bs = (bs.drop k).foldl (fun n c => n * 256 + c.toNat) (numOf (bs.take k)) := by
    unfold numOf
    rw [← List.foldl_append, List.take_append_drop]
  rw [h]
  refine Nat.le_trans (Nat.mul_le_mul_left _ ?_) (fold_ge _ _)
  have : 1 ≤ (bs.drop k).length := by rw [List.length_drop]; omega
  exact Nat.le_trans (by decide) (Nat.pow_le_pow_right (by decide) this)
/-- What the reference makes of bytes: -1 above 2^62. -/
def refN (bs : List UInt8) : Int := if 4611686018427387904 < numOf bs then -1 else (numOf bs : Int)
set_option maxRecDepth 100000 in
set_option maxHeartbeats 1000000 in
theorem refNumber_any (B : Nat) (v : Value) (bs : List UInt8) (w : World) (h : Bytes B w v bs) (hl : bs.length ≤ 8) :
    Calls Tryz.prog 88 #[v] w fun e w' => e = .returned (.int .i64 (refN bs)) ∧ w = w' := by
  obtain ⟨_, a, cap, rfl, hnc, hcap, hcells⟩ := h
  unfold maxLen at hcap
  go_enter Tryz.func88, Tryz.ntmps88
  go_wp2
  go_loop [3, 4] (fun t i => ∃ k : Nat, k ≤ bs.length ∧ i = .int .i64 k ∧ t = .int .i64 (numOf (bs.take k))) (fun _ i => bs.length - (intOf i).toNat)
  case atStart => exact ⟨0, Nat.zero_le _, rfl, rfl⟩
  case round =>
    obtain ⟨k, hk, rfl, rfl⟩ := hrel
    by_cases hlt : k < bs.length
    · obtain ⟨b, off, rfl, hB, hc⟩ := hcells (by omega)
      have hcell := hc k _ (u8s_at hlt)
      have hN : Hid (numOf (bs.take (k + 1)) = numOf (bs.take k) * 256 + bs[k].toNat) := by
        rw [List.take_succ_eq_append_getElem hlt, numOf_snoc]; exact rfl
      have hge := Lib.hid (numOf_ge bs k hlt)
      obtain ⟨N, hNe⟩ : ∃ N, N = numOf (bs.take k) := ⟨_, rfl⟩
      rw [← hNe] at hN hge
      rw [← hNe]
      obtain ⟨c, hce⟩ : ∃ c, c = bs[k] := ⟨_, rfl⟩
      rw [← hce] at hcell hN
      have hcl : c.toNat < 256 := c.toNat_lt
      clear hNe hc hcells hce
      by_cases hbig : 36028797018963968 ≤ N
      · have t0 : decide (36028797018963968 ≤ (N : Int)) = true := by simp; omega
        have hr : refN bs = -1 := by unfold refN; rw [if_pos (by have := hge.out; omega)]
        have HR := Lib.hid hr
        clear hr hbig
        go_wp2
        go_ret
        exact ⟨ret_int HR.out.symm, rfl⟩
      · have t0 : decide (36028797018963968 ≤ (N : Int)) = false := by simp; omega
        have hb : N < 2 ^ 55 := by omega
        clear hbig
        go_wp2
        all_goals
          go_round
          case rel => exact ⟨k + 1, by omega, by go_num, by rw [hN.out]; go_num⟩
          case measure => simp [intOf]; omega
    · have hke : k = bs.length := by omega
      subst hke
      rw [List.take_length]
      obtain ⟨N, hNe⟩ : ∃ N, N = numOf bs := ⟨_, rfl⟩
      rw [← hNe]
      by_cases hbig : 4611686018427387904 < N
      · have t0 : decide (4611686018427387904 < (N : Int)) = true := by simp; omega
        have hr : refN bs = -1 := by unfold refN; rw [if_pos (by omega)]
        have HR := Lib.hid hr
        clear hr hbig hNe
        go_wp2
        go_ret
        exact ⟨ret_int HR.out.symm, rfl⟩
      · have t0 : decide (4611686018427387904 < (N : Int)) = false := by simp; omega
        have hr : refN bs = N := by unfold refN; rw [if_neg (by omega), hNe]
        have HR := Lib.hid hr
        clear hr hbig hNe
        go_wp2
        go_ret
        exact ⟨ret_int HR.out.symm, rfl⟩
/-- What the reference's take leaves. -/
def RTakeEnd (T : TypeId) (B g : Nat) (w : World) (r : RS) (n : Nat) (e : Ending) (w' : World) : Prop :=
  RdEnd T B g w w' (r.take n).1 ∧ ∃ v, Bytes B w' v ((r.take n).2.getD []) ∧ e = .returned v
set_option maxRecDepth 100000 in
set_option maxHeartbeats 1000000 in
theorem refTake_any (B g : Nat) (w : World) (r : RS) (n : Nat) (hn : n ≤ 2 ^ 62) (h : RdAt 87 B g w r) :
    Calls Tryz.prog 89 #[.pointer (some ⟨g, 0, none⟩), .int .i64 n] w (RTakeEnd 87 B g w r n) := by
  have H := Lib.hid h
  by_cases he : r.e = 0
  · by_cases hs : r.b.length < n
    · have ht : r.take n = ({ r with e := 2 }, none) := by unfold RS.take; rw [if_pos he, if_pos hs]
      have HT := Lib.hid ht
      obtain ⟨v, _, hv, _, hc0, hc1, _, hf1⟩ := h.parts
      obtain ⟨_, a, cap, rfl, hnc, hcap, _⟩ := hv
      unfold maxLen at hcap
      obtain ⟨L, hL⟩ : ∃ L, L = r.b.length := ⟨_, rfl⟩
      rw [← hL] at hc0 hnc hs
      rw [he] at hc1
      have t0 : decide ((L : Int) < (n : Int)) = true := by simp; omega
      have h3 := h.setE 2
      have HE : Hid (RdEnd 87 B g w (w.setCell ⟨g, 1, none⟩ (.int .i64 2)) { r with e := 2 }) := ⟨h3, only_set _ _ _ _⟩
      clear ht hL he h h3
      go_enter Tryz.func89, Tryz.ntmps89
      go_wp2
      go_ret
      unfold RTakeEnd
      rw [HT.out]
      exact ⟨HE.out, _, nil_bytes _ _, rfl⟩
    · have ht : r.take n = ({ r with b := r.b.drop n }, some (r.b.take n)) := by unfold RS.take; rw [if_pos he, if_neg hs]
      have HT := Lib.hid ht
      obtain ⟨a, cap, v1, a2, l2, c2, hc0, hc1, hf0, kv1, kv2, hb1, hb2⟩ := h.cut n (by omega)
      obtain ⟨L, hL⟩ : ∃ L, L = r.b.length := ⟨_, rfl⟩
      rw [← hL] at hc0 kv1 kv2 hs
      rw [he] at hc1
      have hle : n ≤ L := by omega
      have HB1 := Lib.hid hb1
      have HB2 := Lib.hid hb2
      clear ht hL he h hb1 hb2 hs
      go_enter Tryz.func89, Tryz.ntmps89
      go_wp2
      go_ret
      unfold RTakeEnd
      rw [HT.out]
      exact ⟨HB2.out, _, HB1.out, rfl⟩
  · have ht : r.take n = (r, none) := by unfold RS.take; rw [if_neg he]
    have HT := Lib.hid ht
    obtain ⟨v, _, hv, _, hc0, hc1, _, hf1⟩ := h.parts
    obtain ⟨E, hEe⟩ : ∃ E, E = r.e := ⟨_, rfl⟩
    rw [← hEe] at hc1
    have t0 : (E == 0) = false := by rw [beq_eq_false_iff_ne, hEe]; exact he
    clear ht he h hEe
    go_enter Tryz.func89, Tryz.ntmps89
    go_wp2
    go_ret
    unfold RTakeEnd
    rw [HT.out]
    exact ⟨⟨H.out, only_refl _ _⟩, _, nil_bytes _ _, rfl⟩
theorem refTake_at (B g : Nat) (w : World) (r r1 : RS) (n : Nat) (z : Int) (b : Option (List UInt8)) (hn : n ≤ 2 ^ 62) (hz : z = n) (h : RdAt 87 B g w r) (ht : r.take n = (r1, b)) :
    Calls Tryz.prog 89 #[.pointer (some ⟨g, 0, none⟩), .int .i64 z] w fun e w' => ∃ v, e = .returned v ∧ RdEnd 87 B g w w' r1 ∧ Bytes B w' v (b.getD []) := by
  subst hz
  refine (refTake_any B g w r n hn h).mono fun e w' ⟨h1, v, h2, h3⟩ => ?_
  rw [ht] at h1 h2
  exact ⟨v, h3, h1, h2⟩
set_option maxRecDepth 100000 in
set_option maxHeartbeats 1000000 in
theorem refRNum_any (B g : Nat) (w : World) (r : RS) (h : RdAt 87 B g w r) :
    Calls Tryz.prog 53 #[.pointer (some ⟨g, 0, none⟩)] w fun e w' => e = .returned (.int .i64 r.num.2) ∧ RdEnd 87 B g w w' r.num.1 := by
  rcases ht : r.take 8 with ⟨r1, _ | b⟩
  · have hnum : r.num = (r1, 0) := by unfold RS.num; rw [ht]
    have he := take_none_e ht
    obtain ⟨E, hEe⟩ : ∃ E, E = r1.e := ⟨_, rfl⟩
    have t0 : (E == 0) = false := by rw [beq_eq_false_iff_ne, hEe]; exact he
    have HE := Lib.hid hEe
    have HN := Lib.hid hnum
    have HT := Lib.hid ht
    have hl0 : (([] : List UInt8)).length ≤ 8 := by decide
    clear hnum ht he hEe
    go_enter Tryz.func53, Tryz.ntmps53
    go_wp2_with (first
      | (go_at_call 89; ((refine (refTake_at B g _ r r1 8 _ none (by omega) rfl h HT.out).mono ?_); rintro e w1 ⟨v1, rfl, hE, hb⟩; obtain ⟨v2, _, _, _, _, hc2, _, _⟩ := hE.1.parts; rw [← HE.out] at hc2; replace hb : Bytes B w1 v1 [] := hb))
      | (go_at_call 88; ((refine (refNumber_any B _ [] _ hb hl0).mono ?_); rintro e w2 ⟨rfl, rfl⟩)))
    all_goals
      go_ret
      rw [HN.out]
      exact ⟨rfl, hE⟩
  · obtain ⟨he, he1, hbl, _, _, _⟩ := take_some_e ht
    have hbl' : b.length ≤ 8 := by omega
    obtain ⟨Z, hZ⟩ : ∃ Z, Z = refN b := ⟨_, rfl⟩
    have HT := Lib.hid ht
    have HZ := Lib.hid hZ
    have HE := Lib.hid he1
    by_cases hg : 4611686018427387904 < numOf b
    · have hnum : r.num = ({ r1 with e := 3 }, 0) := by unfold RS.num; rw [ht]; simp only; rw [if_pos hg]
      have hZ1 : Z = -1 := by rw [hZ]; unfold refN; rw [if_pos hg]
      have t0 : decide (Z < 0) = true := by rw [hZ1]; decide
      have HN := Lib.hid hnum
      clear hnum ht hZ hg hbl he he1 hZ1
      go_enter Tryz.func53, Tryz.ntmps53
      go_wp2_with (first
        | (go_at_call 89; ((refine (refTake_at B g _ r r1 8 _ (some b) (by omega) rfl h HT.out).mono ?_); rintro e w1 ⟨v1, rfl, hE, hb⟩; obtain ⟨v2, _, _, _, _, hc2, _, hf2⟩ := hE.1.parts; rw [HE.out] at hc2; replace hb : Bytes B w1 v1 b := hb; have hR3 : RdEnd 87 B g w (w1.setCell ⟨g, 1, none⟩ (.int .i64 3)) { r1 with e := 3 } := ⟨hE.1.setE 3, only_trans hE.2 (only_set _ _ _ _)⟩; have HR3 := Lib.hid hR3; clear hR3))
        | (go_at_call 88; ((refine (refNumber_any B _ b _ hb hbl').mono ?_); rintro e w2 ⟨rfl, rfl⟩; rw [← HZ.out])))
      all_goals
        go_ret
        rw [HN.out]
        exact ⟨rfl, HR3.out⟩
    · have hnum : r.num = (r1, Z) := by unfold RS.num; rw [ht]; simp only; rw [if_neg hg, hZ]; unfold refN; rw [if_neg hg]
      have hZ1 : 0 ≤ Z := by rw [hZ]; unfold refN; rw [if_neg hg]; omega
      have t0 : decide (Z < 0) = false := by simp; omega
      have HN := Lib.hid hnum
      clear hnum ht hZ hg hbl he he1 hZ1
      go_enter Tryz.func53, Tryz.ntmps53
      go_wp2_with (first
        | (go_at_call 89; ((refine (refTake_at B g _ r r1 8 _ (some b) (by omega) rfl h HT.out).mono ?_); rintro e w1 ⟨v1, rfl, hE, hb⟩; obtain ⟨v2, _, _, _, _, hc2, _, hf2⟩ := hE.1.parts; rw [HE.out] at hc2; replace hb : Bytes B w1 v1 b := hb))
        | (go_at_call 88; ((refine (refNumber_any B _ b _ hb hbl').mono ?_); rintro e w2 ⟨rfl, rfl⟩; rw [← HZ.out])))
      all_goals
        go_ret
        rw [HN.out]
        exact ⟨rfl, hE⟩
end Go.Proofs.YtaijompnohkmaaaGreatDoor
/- Layer 3 (pack), the document's reader: texts, refusals, the end, counts. -/
namespace Go.Proofs.YtaijompnohkmaaaGreatDoor
open Go.RowKit PackP
set_option maxRecDepth 100000 in
set_option maxHeartbeats 1000000 in
theorem refRText_any (B g : Nat) (w : World) (r : RS) (h : RdAt 87 B g w r) :
    Calls Tryz.prog 55 #[.pointer (some ⟨g, 0, none⟩)] w fun e w' => e = .returned (.string (strB r.text.2)) ∧ RdEnd 87 B g w w' r.text.1 := by
  rcases ht : r.take 4 with ⟨r1, _ | b⟩
  · have hnum : r.text = (r1, []) := by unfold RS.text; rw [ht]
    have he := take_none_e ht
    obtain ⟨E, hEe⟩ : ∃ E, E = r1.e := ⟨_, rfl⟩
    have t0 : (E == 0) = false := by rw [beq_eq_false_iff_ne, hEe]; exact he
    have HE := Lib.hid hEe
    have HN := Lib.hid hnum
    have HT := Lib.hid ht
    have hl0 : (([] : List UInt8)).length ≤ 8 := by decide
    clear hnum ht he hEe
    go_enter Tryz.func55, Tryz.ntmps55
    go_wp2_with (first
      | (go_at_call 89; ((refine (refTake_at B g _ r r1 4 _ none (by omega) rfl h HT.out).mono ?_); rintro e w1 ⟨v1, rfl, hE, hb⟩; obtain ⟨v2, _, _, _, _, hc2, _, _⟩ := hE.1.parts; rw [← HE.out] at hc2; replace hb : Bytes B w1 v1 [] := hb))
      | (go_at_call 88; ((refine (refNumber_any B _ [] _ hb hl0).mono ?_); rintro e w2 ⟨rfl, rfl⟩)))
    all_goals
      go_ret
      rw [HN.out]
      exact ⟨rfl, hE⟩
  · obtain ⟨he, he1, hbl, _, _, _⟩ := take_some_e ht
    have hbl' : b.length ≤ 8 := by omega
    obtain ⟨N, hN⟩ : ∃ N, N = numOf b := ⟨_, rfl⟩
    have hNl : N < 2 ^ 32 := by
      have := numOf_lt b
      rw [hbl] at this; omega
    have hZ : refN b = (N : Int) := by unfold refN; rw [if_neg (by omega), hN]
    have HT := Lib.hid ht
    have HZ := Lib.hid hZ
    have HE := Lib.hid he1
    by_cases hg : 4096 < N
    · have hnum : r.text = ({ r1 with e := 4 }, []) := by unfold RS.text; rw [ht]; simp only; rw [if_pos (by omega)]
      have HN := Lib.hid hnum
      clear hnum ht hZ hbl he he1 hN
      go_enter Tryz.func55, Tryz.ntmps55
      go_wp2_with (first
        | (go_at_call 89; ((refine (refTake_at B g _ r r1 4 _ (some b) (by omega) rfl h HT.out).mono ?_); rintro e w1 ⟨v1, rfl, hE, hb⟩; obtain ⟨v2, _, _, _, _, hc2, _, hf2⟩ := hE.1.parts; rw [HE.out] at hc2; replace hb : Bytes B w1 v1 b := hb; have hR3 : RdEnd 87 B g w (w1.setCell ⟨g, 1, none⟩ (.int .i64 4)) { r1 with e := 4 } := ⟨hE.1.setE 4, only_trans hE.2 (only_set _ _ _ _)⟩; have HR3 := Lib.hid hR3; clear hR3))
        | (go_at_call 88; ((refine (refNumber_any B _ b _ hb hbl').mono ?_); rintro e w2 ⟨rfl, rfl⟩; rw [HZ.out])))
      all_goals
        go_ret
        rw [HN.out]
        exact ⟨rfl, HR3.out⟩
    · rcases ht2 : r1.take N with ⟨r2, s⟩
      have hnum : r.text = (r2, s.getD []) := by unfold RS.text; rw [ht]; simp only; rw [if_neg (by omega), ← hN, ht2]; cases s <;> rfl
      have hle : N ≤ 4096 := by omega
      have HN := Lib.hid hnum
      have HK := Lib.hid ht2
      clear hnum ht hZ hg hbl he he1 ht2 hN
      go_enter Tryz.func55, Tryz.ntmps55
      go_wp2_with (first
        | (go_at_call 88; ((refine (refNumber_any B _ b _ hb hbl').mono ?_); rintro e w2 ⟨rfl, rfl⟩; rw [HZ.out]; have hR1 := hE.1))
        | (go_at_call 89; ((refine (refTake_at B g _ r1 r2 N _ s (by omega) rfl hR1 HK.out).mono ?_); rintro e w3 ⟨v3, rfl, hE3, hb3⟩; have kc := run_bytes_string (P := Tryz.prog) Tryz.underlying23 Tryz.underlying5 Tryz.underlying9 hb3))
        | (go_at_call 89; ((refine (refTake_at B g _ r r1 4 _ (some b) (by omega) rfl h HT.out).mono ?_); rintro e w1 ⟨v1, rfl, hE, hb⟩; obtain ⟨v2, _, _, _, _, hc2, _, hf2⟩ := hE.1.parts; rw [HE.out] at hc2; replace hb : Bytes B w1 v1 b := hb)))
      all_goals
        go_ret
        rw [HN.out]
        exact ⟨rfl, hE3.1, only_trans hE.2 hE3.2⟩
set_option maxRecDepth 100000 in
set_option maxHeartbeats 1000000 in
theorem refRFail_any (B g : Nat) (w : World) (r : RS) (bad : Bool) (h : RdAt 87 B g w r) :
    Calls Tryz.prog 54 #[.pointer (some ⟨g, 0, none⟩), .bool bad] w fun e w' => e = .returned (.tuple #[]) ∧ RdEnd 87 B g w w' (r.fail bad 3) := by
  have H := Lib.hid h
  obtain ⟨v, _, _, _, _, hc1, _, hf1⟩ := h.parts
  obtain ⟨E, hE⟩ : ∃ E, E = r.e := ⟨_, rfl⟩
  rw [← hE] at hc1
  by_cases h0 : E = 0
  · cases bad with
    | false =>
      have hr : r.fail false 3 = r := by simp [RS.fail]
      have HR := Lib.hid hr
      subst h0
      clear hr hE h
      go_enter Tryz.func54, Tryz.ntmps54
      go_wp2
      go_end0
      exact ⟨rfl, by rw [HR.out]; exact ⟨H.out, only_refl _ _⟩⟩
    | true =>
      have hr : r.fail true 3 = { r with e := 3 } := by simp [RS.fail, ← hE, h0]
      have HR := Lib.hid hr
      subst h0
      clear hr hE h
      go_enter Tryz.func54, Tryz.ntmps54
      go_wp2
      go_end0
      exact ⟨rfl, by rw [HR.out]; exact ⟨H.out.setE 3, only_set _ _ _ _⟩⟩
  · have hr : r.fail bad 3 = r := by simp [RS.fail, ← hE, h0]
    have HR := Lib.hid hr
    have t0 : (E == 0) = false := by rw [beq_eq_false_iff_ne]; exact h0
    clear hr hE h h0
    go_enter Tryz.func54, Tryz.ntmps54
    go_wp2
    go_end0
    exact ⟨rfl, by rw [HR.out]; exact ⟨H.out, only_refl _ _⟩⟩
set_option maxRecDepth 100000 in
set_option maxHeartbeats 1000000 in
theorem refRDone_any (B g : Nat) (w : World) (r : RS) (h : RdAt 87 B g w r) :
    Calls Tryz.prog 56 #[.pointer (some ⟨g, 0, none⟩)] w fun e w' => e = .returned (.int .i64 r.doneE) ∧ w = w' := by
  obtain ⟨v, _, hv, _, hc0, hc1, _, hf1⟩ := h.parts
  obtain ⟨_, a, cap, rfl, hnc, hcap, _⟩ := hv
  unfold maxLen at hcap
  have hd : r.doneE = if r.e = 0 ∧ 0 < r.b.length then 3 else r.e := rfl
  obtain ⟨L, hL⟩ : ∃ L, L = r.b.length := ⟨_, rfl⟩
  obtain ⟨E, hE⟩ : ∃ E, E = r.e := ⟨_, rfl⟩
  rw [← hL, ← hE] at hd
  rw [← hL] at hc0 hnc
  rw [← hE] at hc1
  have HD := Lib.hid hd
  clear hd hL hE h
  by_cases h0 : E = 0
  · subst h0
    by_cases hl : 0 < L
    · have t0 : decide (0 < (L : Int)) = true := by simp; omega
      go_enter Tryz.func56, Tryz.ntmps56
      go_wp2
      all_goals
        go_ret
        exact ⟨ret_int (by rw [HD.out]; simp [hl]), rfl⟩
    · have hl' : L = 0 := by omega
      subst hl'
      go_enter Tryz.func56, Tryz.ntmps56
      go_wp2
      all_goals
        go_ret
        exact ⟨ret_int (by rw [HD.out]; rfl), rfl⟩
  · have t0 : (E == 0) = false := by rw [beq_eq_false_iff_ne]; exact h0
    have H0 := Lib.hid h0
    clear h0
    go_enter Tryz.func56, Tryz.ntmps56
    go_wp2
    all_goals
      go_ret
      exact ⟨ret_int (by rw [HD.out, if_neg (fun hh => H0.out hh.1)]), rfl⟩
set_option maxRecDepth 100000 in
set_option maxHeartbeats 1000000 in
theorem refRCount_any (B g : Nat) (w : World) (r : RS) (most : Int) (h : RdAt 87 B g w r) :
    Calls Tryz.prog 52 #[.pointer (some ⟨g, 0, none⟩), .int .i64 most] w fun e w' => e = .returned (.int .i64 (r.count most).2) ∧ RdEnd 87 B g w w' (r.count most).1 := by
  rcases hnum : r.num with ⟨r1, n⟩
  have hc : r.count most = if r1.e = 0 then (if most < n then ({ r1 with e := 4 }, 0) else (r1, n)) else (r1, 0) := by unfold RS.count; rw [hnum]
  have hb := refRNum_any B g w r h
  rw [hnum] at hb
  have HC := Lib.hid hc
  obtain ⟨E, hE⟩ : ∃ E, E = r1.e := ⟨_, rfl⟩
  have HE := Lib.hid hE
  clear hc hnum hE
  by_cases h0 : E = 0
  · have H0 := Lib.hid h0
    clear h0
    by_cases hm : most < n
    · go_enter Tryz.func52, Tryz.ntmps52
      go_wp2_with (go_at_call 53; ((with_reducible refine hb.mono ?_); rintro e w1 ⟨rfl, hE1⟩; obtain ⟨v2, _, _, _, _, hc2, _, hf2⟩ := hE1.1.parts; rw [← HE.out, H0.out] at hc2; have hR3 : RdEnd 87 B g w (w1.setCell ⟨g, 1, none⟩ (.int .i64 4)) { r1 with e := 4 } := ⟨hE1.1.setE 4, only_trans hE1.2 (only_set _ _ _ _)⟩; have HR3 := Lib.hid hR3; clear hR3))
      go_ret
      rw [HC.out, if_pos (by rw [← HE.out]; exact H0.out), if_pos hm]
      exact ⟨rfl, HR3.out⟩
    · have hle : n ≤ most := by omega
      go_enter Tryz.func52, Tryz.ntmps52
      go_wp2_with (go_at_call 53; ((with_reducible refine hb.mono ?_); rintro e w1 ⟨rfl, hE1⟩; obtain ⟨v2, _, _, _, _, hc2, _, hf2⟩ := hE1.1.parts; rw [← HE.out, H0.out] at hc2))
      go_ret
      rw [HC.out, if_pos (by rw [← HE.out]; exact H0.out), if_neg (by omega)]
      exact ⟨rfl, hE1⟩
  · have t0 : (E == 0) = false := by rw [beq_eq_false_iff_ne]; exact h0
    have H0 := Lib.hid h0
    clear h0
    go_enter Tryz.func52, Tryz.ntmps52
    go_wp2_with (go_at_call 53; ((with_reducible refine hb.mono ?_); rintro e w1 ⟨rfl, hE1⟩; obtain ⟨v2, _, _, _, _, hc2, _, hf2⟩ := hE1.1.parts; rw [← HE.out] at hc2))
    go_ret
    rw [HC.out, if_neg (by rw [← HE.out]; exact H0.out)]
    exact ⟨rfl, hE1⟩
end Go.Proofs.YtaijompnohkmaaaGreatDoor
/- Layer 6 (kv), as plain functions: pairs, changes, and what changes do. -/
namespace Go.Proofs.YtaijompnohkmaaaGreatDoor
namespace KvP
open PackP
structure PairP where
  key : List UInt8
  val : List UInt8
structure ChangeP where
  key : List UInt8
  val : List UInt8
  gone : Bool
def mayP (k v : List UInt8) : Bool := decide (1 ≤ k.length) && decide (k.length ≤ 64) && decide (v.length ≤ 4096)
/-- Pairs by rising keys. -/
def Rising (l : List PairP) : Prop := l.Pairwise (fun a b => a.key < b.key)
instance (l : List PairP) : Decidable (Rising l) := inferInstanceAs (Decidable (List.Pairwise _ _))
def pairsB (l : List PairP) : Bool := decide (l.length ≤ 400) && l.all (fun p => mayP p.key p.val) && decide (Rising l)
def okC (c : ChangeP) : Bool := mayP c.key c.val && !(c.gone && decide (c.val ≠ []))
def changesB (l : List ChangeP) : Bool := decide (l.length ≤ 400) && l.all okC
/-- A key's value. -/
def getP (l : List PairP) (k : List UInt8) : Option (List UInt8) := (l.find? (fun p => decide (p.key = k))).map PairP.val
def putK : List PairP → List UInt8 → List UInt8 → List PairP
  | [], k, v => [⟨k, v⟩]
  | p :: l, k, v => if p.key < k then p :: putK l k v else if p.key = k then ⟨k, v⟩ :: l else ⟨k, v⟩ :: p :: l
def delK (l : List PairP) (k : List UInt8) : List PairP := l.filter (fun p => decide (p.key ≠ k))
def do1 (l : List PairP) (c : ChangeP) : List PairP := if c.gone then delK l c.key else putK l c.key c.val
def doP (l : List PairP) (c : List ChangeP) : List PairP := c.foldl do1 l
def changeB (c : ChangeP) : List UInt8 := if c.gone then numB 1 ++ textB c.key else numB 0 ++ textB c.key ++ textB c.val
def bytesP (l : List ChangeP) : List UInt8 := numB l.length ++ (l.map changeB).flatten
def encodeP (l : List ChangeP) : List UInt8 × Int := if changesB l then (if 6000 < (bytesP l).length then ([], 4) else (bytesP l, 0)) else ([], 1)
/-- One change is read. -/
def dec1 (r : RS) : RS × ChangeP :=
  let (r, k) := r.num
  let r := r.fail (decide (1 < k)) 3
  let (r, key) := r.text
  if k = 1 then (r, ⟨key, [], true⟩) else let (r, val) := r.text; (r, ⟨key, val, false⟩)
def decN : Nat → RS → RS × List ChangeP
  | 0, r => (r, [])
  | n + 1, r => let (r, c) := dec1 r; let (r, l) := decN n r; (r, c :: l)
theorem lt_trans3 {a b c : List UInt8} (h : a < b) (h' : b < c) : a < c := List.lt_trans h h'
theorem not_lt_of {a b : List UInt8} (h : a < b) : ¬ b < a := List.lt_asymm h
theorem lt_of_not {a b : List UInt8} (h : ¬ a < b) (h' : ¬ a = b) : b < a := by
  rcases Std.Trichotomous.rel_or_eq_or_rel_swap (r := fun x y : List UInt8 => x < y) (a := a) (b := b) with h1 | h1 | h1
  · exact absurd h1 h
  · exact absurd h1 h'
  · exact h1
theorem mem_putK {l : List PairP} {k v : List UInt8} {p : PairP} (h : p ∈ putK l k v) : p = ⟨k, v⟩ ∨ p ∈ l := by
  induction l with
  | nil => exact .inl (List.mem_singleton.1 h)
  | cons q l ih =>
    rw [putK] at h
    split at h
    · rcases List.mem_cons.1 h with h | h
      · exact .inr (h ▸ List.mem_cons_self ..)
      · rcases ih h with h | h
        · exact .inl h
        · exact .inr (List.mem_cons_of_mem _ h)
    · split at h
      · rcases List.mem_cons.1 h with h | h
        · exact .inl h
        · exact .inr (List.mem_cons_of_mem _ h)
      · rcases List.mem_cons.1 h with h | h
        · exact .inl h
        · exact .inr h
theorem Rising.put {l : List PairP} (h : Rising l) (k v : List UInt8) : Rising (putK l k v) := by
  induction l with
  | nil => exact List.pairwise_singleton ..
  | cons q l ih =>
    obtain ⟨h1, h2⟩ := List.pairwise_cons.1 h
    rw [putK]
    split
    · rename_i hq
      refine List.pairwise_cons.2 ⟨fun p hp => ?_, ih h2⟩
      rcases mem_putK hp with rfl | hp
      · exact hq
      · exact h1 p hp
    · split
      · rename_i hq
        subst hq
        exact List.pairwise_cons.2 ⟨fun p hp => h1 p hp, h2⟩
      · rename_i h3 h4
        have hk := lt_of_not h3 h4
        refine List.pairwise_cons.2 ⟨fun p hp => ?_, h⟩
        rcases List.mem_cons.1 hp with rfl | hp
        · exact hk
        · exact lt_trans3 hk (h1 p hp)
theorem Rising.del {l : List PairP} (h : Rising l) (k : List UInt8) : Rising (delK l k) := h.filter _
theorem Rising.do1 {l : List PairP} (h : Rising l) (c : ChangeP) : Rising (do1 l c) := by
  unfold KvP.do1
  split
  · exact h.del _
  · exact h.put _ _
theorem Rising.doP {l : List PairP} (h : Rising l) (c : List ChangeP) : Rising (doP l c) := by
  unfold KvP.doP
  induction c generalizing l with
  | nil => exact h
  | cons x c ih => exact ih (h.do1 x)
theorem getP_nil (k : List UInt8) : getP [] k = none := rfl
theorem getP_cons (p : PairP) (l : List PairP) (k : List UInt8) : getP (p :: l) k = if p.key = k then some p.val else getP l k := by
  unfold getP
  rw [List.find?_cons]
  by_cases h : p.key = k
  · simp [h]
  · simp [h]
theorem getP_put (l : List PairP) (k v x : List UInt8) : getP (putK l k v) x = if k = x then some v else getP l x := by
  induction l with
  | nil => rw [putK, getP_cons]
  | cons q l ih =>
    rw [putK]
    split
    · rename_i hq
      rw [getP_cons, ih, getP_cons]
      by_cases h1 : k = x
      · subst h1
        have : q.key ≠ k := fun e => List.lt_irrefl k (e ▸ hq)
        simp [this]
      · rw [if_neg h1]
        simp [h1]
    · split
      · rename_i hq
        rw [getP_cons, getP_cons, hq]
        by_cases h1 : k = x
        · simp [h1]
        · simp [h1]
      · rw [getP_cons]
theorem getP_del (l : List PairP) (k x : List UInt8) : getP (delK l k) x = if k = x then none else getP l x := by
  induction l with
  | nil => simp [delK, getP_nil]
  | cons q l ih =>
    unfold delK at ih ⊢
    rw [List.filter_cons]
    by_cases hq : q.key = k
    · rw [if_neg (by simp [hq]), ih, getP_cons, hq]
      by_cases h1 : k = x
      · simp [h1]
      · simp [h1]
    · rw [if_pos (by simp [hq]), getP_cons, ih, getP_cons]
      by_cases h1 : k = x
      · subst h1
        simp [hq]
      · simp [h1]
theorem getP_do1 (l : List PairP) (c : ChangeP) (x : List UInt8) : getP (do1 l c) x = if c.key = x then (if c.gone then none else some c.val) else getP l x := by
  unfold do1
  by_cases h : c.gone = true
  · rw [if_pos h, getP_del, if_pos h]
  · rw [if_neg h, getP_put, if_neg h]
/-- Rising pairs with the same values are the same. -/
theorem getP_none_lt {l : List PairP} {k : List UInt8} (h : ∀ p ∈ l, k < p.key) : getP l k = none := by
  induction l with
  | nil => rfl
  | cons q l ih =>
    have hq := h q (List.mem_cons_self ..)
    have : q.key ≠ k := fun e => List.lt_irrefl k (e ▸ hq)
    rw [getP_cons, if_neg this]
    exact ih (fun p hp => h p (List.mem_cons_of_mem _ hp))
theorem rising_ext {l l' : List PairP} (h : Rising l) (h' : Rising l') (he : ∀ k, getP l k = getP l' k) : l = l' := by
  induction l generalizing l' with
  | nil =>
    cases l' with
    | nil => rfl
    | cons q l' =>
      have := he q.key
      rw [getP_nil, getP_cons, if_pos rfl] at this
      cases this
  | cons p l ih =>
    obtain ⟨h1, h2⟩ := List.pairwise_cons.1 h
    cases l' with
    | nil =>
      have := he p.key
      rw [getP_nil, getP_cons, if_pos rfl] at this
      cases this
    | cons q l' =>
      obtain ⟨h1', h2'⟩ := List.pairwise_cons.1 h'
      have hk : p.key = q.key := by
        by_cases e : p.key = q.key
        · exact e
        · by_cases hlt : p.key < q.key
          · have := he p.key
            rw [getP_cons, if_pos rfl, getP_none_lt (l := q :: l') (fun x hx => by
              rcases List.mem_cons.1 hx with rfl | hx
              · exact hlt
              · exact lt_trans3 hlt (h1' x hx))] at this
            cases this
          · have hgt := lt_of_not hlt e
            have := he q.key
            rw [getP_cons (p := q), if_pos rfl, getP_none_lt (l := p :: l) (fun x hx => by
              rcases List.mem_cons.1 hx with rfl | hx
              · exact hgt
              · exact lt_trans3 hgt (h1 x hx))] at this
            cases this
      have hv : p.val = q.val := by
        have := he p.key
        rw [getP_cons, if_pos rfl, getP_cons, if_pos hk.symm] at this
        exact Option.some.inj this
      have hpq : p = q := by
        cases p
        cases q
        simp only at hk hv
        rw [hk, hv]
      subst hpq
      rw [ih h2 h2' (fun k => by
        by_cases e : p.key = k
        · subst e
          rw [getP_none_lt h1, getP_none_lt h1']
        · have := he k
          rwa [getP_cons, if_neg e, getP_cons, if_neg e] at this)]
end KvP
end Go.Proofs.YtaijompnohkmaaaGreatDoor
/- Layer 6 (kv), plainly: where a key's place is among pairs, and what putting, deleting, getting and beginnings are there. -/
namespace Go.Proofs.YtaijompnohkmaaaGreatDoor
namespace KvP
/-- A key's place: how many pairs at the head have smaller keys. -/
def placeN (l : List PairP) (k : List UInt8) : Nat := (l.takeWhile (fun p => decide (p.key < k))).length
def thereN (l : List PairP) (k : List UInt8) : Bool := match l[placeN l k]? with | some p => decide (p.key = k) | none => false
theorem placeN_nil (k : List UInt8) : placeN [] k = 0 := rfl
theorem placeN_cons (p : PairP) (l : List PairP) (k : List UInt8) : placeN (p :: l) k = if p.key < k then placeN l k + 1 else 0 := by
  unfold placeN
  rw [List.takeWhile_cons]
  by_cases h : p.key < k
  · simp [h]
  · simp [h]
theorem placeN_le (l : List PairP) (k : List UInt8) : placeN l k ≤ l.length := by
  induction l with
  | nil => exact Nat.le_refl _
  | cons p l ih =>
    rw [placeN_cons]
    split
    · simpa using ih
    · exact Nat.zero_le _
theorem placeN_below (l : List PairP) (k : List UInt8) : ∀ i (h : i < l.length), i < placeN l k → l[i].key < k := by
  induction l with
  | nil => intro i h; cases h
  | cons p l ih =>
    intro i h hi
    rw [placeN_cons] at hi
    split at hi
    · rename_i hp
      cases i with
      | zero => exact hp
      | succ i => exact ih i (by simpa using h) (by omega)
    · cases hi
theorem placeN_at (l : List PairP) (k : List UInt8) (h : placeN l k < l.length) : ¬ l[placeN l k].key < k := by
  induction l with
  | nil => cases h
  | cons p l ih =>
    by_cases hp : p.key < k
    · have e : placeN (p :: l) k = placeN l k + 1 := by rw [placeN_cons, if_pos hp]
      have h2 : placeN l k < l.length := by rw [e] at h; simpa using h
      have := ih h2
      simp only [e, List.getElem_cons_succ]
      exact this
    · have e : placeN (p :: l) k = 0 := by rw [placeN_cons, if_neg hp]
      simp only [e, List.getElem_cons_zero]
      exact hp
theorem placeN_of {l : List PairP} {k : List UInt8} {n : Nat} (hn : n ≤ l.length) (h1 : ∀ i (h : i < l.length), i < n → l[i].key < k) (h2 : ∀ h : n < l.length, ¬ l[n].key < k) : placeN l k = n := by
  rcases Nat.lt_trichotomy (placeN l k) n with h | h | h
  · exact absurd (h1 _ (by omega) h) (placeN_at l k (by omega))
  · exact h
  · have := placeN_le l k
    exact absurd (placeN_below l k n (by omega) h) (h2 (by omega))
theorem thereN_cons (p : PairP) (l : List PairP) (k : List UInt8) : thereN (p :: l) k = if p.key < k then thereN l k else decide (p.key = k) := by
  unfold thereN
  by_cases h : p.key < k
  · rw [placeN_cons, if_pos h, if_pos h, List.getElem?_cons_succ]
  · rw [placeN_cons, if_neg h, if_neg h]
    rfl
theorem putK_place (l : List PairP) (k v : List UInt8) : putK l k v = l.take (placeN l k) ++ ⟨k, v⟩ :: l.drop (placeN l k + (if thereN l k then 1 else 0)) := by
  induction l with
  | nil => rfl
  | cons p l ih =>
    rw [putK, thereN_cons, placeN_cons]
    by_cases h : p.key < k
    · rw [if_pos h, if_pos h, if_pos h, ih, List.take_succ_cons, Nat.add_right_comm, List.drop_succ_cons, List.cons_append]
    · rw [if_neg h, if_neg h, if_neg h]
      by_cases he : p.key = k
      · simp [he]
      · simp [he]
theorem Rising.tail {p : PairP} {l : List PairP} (h : Rising (p :: l)) : Rising l := (List.pairwise_cons.1 h).2
theorem Rising.head {p : PairP} {l : List PairP} (h : Rising (p :: l)) : ∀ q ∈ l, p.key < q.key := (List.pairwise_cons.1 h).1
theorem delK_eq_of {l : List PairP} {k : List UInt8} (h : ∀ q ∈ l, q.key ≠ k) : delK l k = l := List.filter_eq_self.2 (fun q hq => decide_eq_true (h q hq))
theorem delK_place {l : List PairP} (hr : Rising l) (k : List UInt8) : delK l k = if thereN l k then l.take (placeN l k) ++ l.drop (placeN l k + 1) else l := by
  induction l with
  | nil => rfl
  | cons p l ih =>
    have i2 := ih hr.tail
    rw [thereN_cons, placeN_cons]
    by_cases h : p.key < k
    · have hne : p.key ≠ k := fun e => List.lt_irrefl k (e ▸ h)
      have : delK (p :: l) k = p :: delK l k := by
        unfold delK
        rw [List.filter_cons, if_pos (by simpa using hne)]
      rw [this, i2, if_pos h, if_pos h]
      cases thereN l k <;> simp
    · rw [if_neg h, if_neg h]
      have hb : ∀ q ∈ l, q.key ≠ k := fun q hq e => by
        have h1 := hr.head q hq
        rw [e] at h1
        exact h h1
      by_cases he : p.key = k
      · have : delK (p :: l) k = delK l k := by
          unfold delK
          rw [List.filter_cons, if_neg (by simpa using he)]
        rw [this, delK_eq_of hb]
        simp [he]
      · have : delK (p :: l) k = p :: delK l k := by
          unfold delK
          rw [List.filter_cons, if_pos (by simpa using he)]
        rw [this, delK_eq_of hb]
        simp [he]
theorem getP_none_of {l : List PairP} {k : List UInt8} (h : ∀ q ∈ l, q.key ≠ k) : getP l k = none := by
  unfold getP
  rw [List.find?_eq_none.2 (fun q hq => by simpa using h q hq)]
  rfl
theorem getP_place {l : List PairP} (hr : Rising l) (k : List UInt8) : getP l k = if thereN l k then (l[placeN l k]?).map PairP.val else none := by
  induction l with
  | nil => rfl
  | cons p l ih =>
    have i2 := ih hr.tail
    rw [getP_cons, thereN_cons, placeN_cons]
    by_cases h : p.key < k
    · have hne : p.key ≠ k := fun e => List.lt_irrefl k (e ▸ h)
      rw [if_neg hne, i2, if_pos h, if_pos h]
      rfl
    · rw [if_neg h, if_neg h]
      by_cases he : p.key = k
      · simp [he]
      · have hb : ∀ q ∈ l, q.key ≠ k := fun q hq e => by
          have h1 := hr.head q hq
          rw [e] at h1
          exact h h1
        rw [if_neg he, getP_none_of hb]
        simp [he]
/-- Does a key begin so? -/
def begB (p : List UInt8) (q : PairP) : Bool := p.isPrefixOf q.key
theorem prefix_not_lt {p q : List UInt8} (h : p <+: q) : ¬ q < p := by
  obtain ⟨t, rfl⟩ := h
  induction p with
  | nil => intro h; cases h
  | cons a p ih =>
    intro h
    rw [List.cons_append, List.cons_lt_cons_iff] at h
    rcases h with h | ⟨_, h⟩
    · exact absurd h (UInt8.lt_irrefl a)
    · exact ih h
theorem prefix_between : ∀ {p q r : List UInt8}, p <+: r → ¬ q < p → q < r → p <+: q
  | [], q, r, _, _, _ => List.nil_prefix
  | a :: p, [], r, _, h2, _ => absurd (List.nil_lt_cons a p) h2
  | a :: p, b :: q, [], h1, _, _ => by simp at h1
  | a :: p, b :: q, c :: r, h1, h2, h3 => by
    rw [List.cons_prefix_cons] at h1
    obtain ⟨rfl, h1⟩ := h1
    rw [List.cons_lt_cons_iff] at h2 h3
    rcases h3 with h3 | ⟨rfl, h3⟩
    · exact absurd (.inl h3) h2
    · exact List.cons_prefix_cons.2 ⟨rfl, prefix_between h1 (fun h => h2 (.inr ⟨rfl, h⟩)) h3⟩
theorem begs_place {l : List PairP} (hr : Rising l) (p : List UInt8) : l.filter (begB p) = (l.drop (placeN l p)).takeWhile (begB p) := by
  induction l with
  | nil => rfl
  | cons q l ih =>
    have i2 := ih hr.tail
    rw [placeN_cons]
    by_cases h : q.key < p
    · have hb : begB p q = false := by
        rw [Bool.eq_false_iff]
        intro hp
        exact prefix_not_lt (List.isPrefixOf_iff_prefix.1 hp) h
      rw [if_pos h, List.filter_cons, hb, i2]
      rfl
    · rw [if_neg h, List.drop_zero, List.filter_cons, List.takeWhile_cons]
      cases hb : begB p q with
      | true =>
        simp only [if_true]
        congr 1
        rw [i2]
        have hz : placeN l p = 0 := by
          cases l with
          | nil => rfl
          | cons x l =>
            rw [placeN_cons, if_neg]
            intro hx
            exact h (lt_trans3 (hr.head x (List.mem_cons_self ..)) hx)
        rw [hz, List.drop_zero]
      | false =>
        simp only [Bool.false_eq_true, if_false]
        refine List.filter_eq_nil_iff.2 (fun x hx hp => ?_)
        have := prefix_between (List.isPrefixOf_iff_prefix.1 hp) h (hr.head x hx)
        have hb2 : begB p q = true := List.isPrefixOf_iff_prefix.2 this
        rw [hb] at hb2
        cases hb2
end KvP
end Go.Proofs.YtaijompnohkmaaaGreatDoor
/- What an argument that can be read gives the walk: slices, strings, structs and arrays, one law each, put together by type. -/
namespace Go.Proofs.YtaijompnohkmaaaGreatDoor
open Go.RowKit Go.ChangeShapes Go.WideShapes
/-- Cells of type t that can be read are cells of something of α. -/
def Opens {α : Type} (P : Program) (W : World) (t : TypeId) (R : α → List Value → Prop) : Prop :=
  ∀ (H : Type) (enc : TypeId × Value → H) (fuel : Nat) (cs : List Value) (x : DataW H × List MemPlace), DataW.trod enc P W 0 (fun _ => true) true fuel t cs = some x →
    (∀ n ∈ DataW.weights P t x.1, n ≤ reachBytes) → ∃ a, R a cs
section
variable {P : Program} {W : World} {t : TypeId}
theorem opens_bool (ht : P.underlying t = some .bool) : Opens P W t (fun (b : Bool) cs => cs = [.bool b]) := fun _ _ _ _ _ h _ =>
  let ⟨b, h1, _⟩ := DataW.trod_bool ht h; ⟨b, h1⟩
theorem opens_int {k : IntKind} (ht : P.underlying t = some (.int k)) : Opens P W t (fun (z : Int) cs => cs = [.int k z] ∧ (Lit.int k z).wf = true) := fun _ _ _ _ _ h _ =>
  let ⟨z, h1, _, h2⟩ := DataW.trod_int ht h; ⟨z, h1, h2⟩
theorem opens_string (ht : P.underlying t = some .string) : Opens P W t (fun (s : ByteArray) cs => cs = [.string s] ∧ s.size ≤ reachBytes) := fun _ _ _ _ x h hw => by
  obtain ⟨s, h1, rfl, h2⟩ := DataW.trod_string ht h
  exact ⟨s, h1, by simpa [DataW.weights] using hw⟩
theorem wf_i64 {z : Int} (h : (Lit.int .i64 z).wf = true) : -9223372036854775808 ≤ z ∧ z ≤ 9223372036854775807 := by
  have h' := h
  simp [Lit.wf, IntKind.min, IntKind.max, IntKind.signed, IntKind.bits] at h'
  omega
theorem wf_u8 {z : Int} (h : (Lit.int .u8 z).wf = true) : 0 ≤ z ∧ z < 256 := by
  have h' := h
  simp [Lit.wf, IntKind.min, IntKind.max, IntKind.signed, IntKind.bits] at h'
  omega
theorem wf_u16 {z : Int} (h : (Lit.int .u16 z).wf = true) : 0 ≤ z ∧ z < 65536 := by
  have h' := h
  simp [Lit.wf, IntKind.min, IntKind.max, IntKind.signed, IntKind.bits] at h'
  omega
theorem wf_u32 {z : Int} (h : (Lit.int .u32 z).wf = true) : 0 ≤ z ∧ z < 4294967296 := by
  have h' := h
  simp [Lit.wf, IntKind.min, IntKind.max, IntKind.signed, IntKind.bits] at h'
  omega
theorem wf_u64 {z : Int} (h : (Lit.int .u64 z).wf = true) : 0 ≤ z ∧ z < 18446744073709551616 := by
  have h' := h
  simp [Lit.wf, IntKind.min, IntKind.max, IntKind.signed, IntKind.bits] at h'
  omega
theorem opens_u8 (ht : P.underlying t = some (.int .u8)) : Opens P W t (fun (b : UInt8) cs => cs = [u8 b]) := fun H enc fuel cs x h hx => by
  obtain ⟨z, rfl, hw⟩ := opens_int ht H enc fuel cs x h hx
  have hz := wf_u8 hw
  refine ⟨UInt8.ofNat z.toNat, ?_⟩
  unfold u8
  congr 2
  rw [UInt8.toNat_ofNat']
  omega
theorem add_plain' (b off k : Nat) : (⟨b, off, none⟩ : Addr).add k = ⟨b, off + k, none⟩ := by
  unfold Addr.add; split <;> simp_all
theorem flatten_get {css : List (List Value)} {sz : Nat} (hsz : ∀ c ∈ css, c.length = sz) : ∀ (i j : Nat) (c : List Value), css[i]? = some c → j < sz → css.flatten[i * sz + j]? = c[j]? := by
  induction css with
  | nil => intro i j c h; simp at h
  | cons c0 css ih =>
    intro i j c h hj
    have h0 : c0.length = sz := hsz c0 (List.mem_cons_self ..)
    cases i with
    | zero =>
      simp only [List.getElem?_cons_zero, Option.some.injEq] at h
      subst h
      rw [List.flatten_cons, Nat.zero_mul, Nat.zero_add, List.getElem?_append_left (by omega)]
    | succ i =>
      simp only [List.getElem?_cons_succ] at h
      rw [List.flatten_cons, List.getElem?_append_right (by rw [h0, Nat.succ_mul]; omega), h0]
      have e : (i + 1) * sz + j - sz = i * sz + j := by rw [Nat.succ_mul]; omega
      rw [e]
      exact ih (fun c hc => hsz c (List.mem_cons_of_mem _ hc)) i j c h hj
theorem flatten_len {css : List (List Value)} {sz : Nat} (hsz : ∀ c ∈ css, c.length = sz) : css.flatten.length = css.length * sz := by
  induction css with
  | nil => simp
  | cons c css ih =>
    rw [List.flatten_cons, List.length_append, ih (fun c hc => hsz c (List.mem_cons_of_mem _ hc)), hsz c (List.mem_cons_self ..), List.length_cons, Nat.succ_mul]; omega
/-- A slice of things of α: its row of cells, cut into the things' own. -/
def SliceR {α : Type} (B : Nat) (W : World) (sz by_ : Nat) (R : α → List Value → Prop) (xs : List α) (cs : List Value) : Prop :=
  xs.length * by_ ≤ reachBytes ∧ ∃ (v : Value) (css : List (List Value)), cs = [v] ∧ css.length = xs.length ∧ (∀ c ∈ css, c.length = sz) ∧ Row B W v sz xs.length css.flatten ∧ ∀ (i : Nat) (a : α) (c : List Value), xs[i]? = some a → css[i]? = some c → R a c
theorem choose_list {β γ : Type} (n : Nat) (q : Nat → β → γ → Prop) (h : ∀ i, i < n → ∃ b c, q i b c) : ∃ (bs : List β) (cs : List γ), bs.length = n ∧ cs.length = n ∧ ∀ (i : Nat) b c, bs[i]? = some b → cs[i]? = some c → q i b c := by
  induction n with
  | zero => exact ⟨[], [], rfl, rfl, fun i b c hb => by simp at hb⟩
  | succ n ih =>
    obtain ⟨bs, cs, h1, h2, h3⟩ := ih (fun i hi => h i (by omega))
    obtain ⟨b, c, hq⟩ := h n (by omega)
    refine ⟨bs ++ [b], cs ++ [c], by simp [h1], by simp [h2], fun i b' c' hb hc => ?_⟩
    by_cases hi : i < n
    · rw [List.getElem?_append_left (by omega)] at hb hc
      exact h3 i b' c' hb hc
    · have hin : i = n := by
        have : i < (bs ++ [b]).length := (List.getElem?_eq_some_iff.1 hb).1
        simp [h1] at this; omega
      subst hin
      rw [List.getElem?_append_right (by omega), h1] at hb
      rw [List.getElem?_append_right (by omega), h2] at hc
      simp at hb hc
      subst hb; subst hc
      exact hq
theorem mem_weightsAll {H : Type} {e : TypeId} : ∀ (ds : List (DataW H)) (i : Nat) (d : DataW H), ds[i]? = some d → ∀ n ∈ DataW.weights P e d, n ∈ DataW.weightsAll P e ds
  | [], i, d, h, _, _ => by simp at h
  | d0 :: ds, 0, d, h, n, hn => by
    simp only [List.getElem?_cons_zero, Option.some.injEq] at h
    subst h
    rw [DataW.weightsAll]
    exact List.mem_append_left _ hn
  | d0 :: ds, i + 1, d, h, n, hn => by
    rw [DataW.weightsAll]
    exact List.mem_append_right _ (mem_weightsAll ds i d (by simpa using h) n hn)
theorem mem_weightsEach {H : Type} : ∀ (ts : List TypeId) (ds : List (DataW H)) (i : Nat) (t : TypeId) (d : DataW H), ts[i]? = some t → ds[i]? = some d → ∀ n ∈ DataW.weights P t d, n ∈ DataW.weightsEach P ts ds
  | [], _, _, _, _, h, _, _, _ => by simp at h
  | _ :: _, [], _, _, _, _, h, _, _ => by simp at h
  | t0 :: ts, d0 :: ds, 0, t, d, ht, hd, n, hn => by
    simp only [List.getElem?_cons_zero, Option.some.injEq] at ht hd
    subst ht; subst hd
    rw [DataW.weightsEach]
    exact List.mem_append_left _ hn
  | t0 :: ts, d0 :: ds, i + 1, t, d, ht, hd, n, hn => by
    rw [DataW.weightsEach]
    exact List.mem_append_right _ (mem_weightsEach ts ds i t d (by simpa using ht) (by simpa using hd) n hn)
theorem opens_slice {α : Type} {e : TypeId} {R : α → List Value → Prop} (ht : P.underlying t = some (.slice e)) (hsz : 0 < P.cellsOf e) (he : Opens P W e R) :
    Opens P W t (SliceR W.heap.size W (P.cellsOf e) (P.bytesOf e) R) := fun H enc fuel cs x h hwt => by
  rcases DataW.trod_slice ht h with ⟨rfl, _⟩ | ⟨a, len, cap, elems, rest, n, _, rfl, rfl, _, hl, hm, hlen, hel, _, _⟩
  · exact ⟨[], by simp, .slice none 0 0, [], rfl, rfl, by simp, Row.nil _ _ _, fun i a c h => by simp at h⟩
  · have hw1 : DataW.weights P t (DataW.slice (elems.map (·.1)) (rest.map (·.1))) = (elems.length + rest.length) * P.bytesOf e :: (DataW.weightsAll P e (elems.map (·.1)) ++ DataW.weightsAll P e (rest.map (·.1))) := by
      rw [DataW.weights]; simp [ht]
    simp only [hw1] at hwt
    have each : ∀ i, i < len → ∃ (b : α) (c : List Value), W.cells? 0 (a.add (i * P.cellsOf e)) (P.cellsOf e) = some c ∧ R b c := fun i hi => by
      have h1 := hel i hi
      rw [List.getElem?_eq_getElem (by omega)] at h1
      obtain ⟨c, h2, h3⟩ := Option.bind_eq_some_iff.1 h1
      obtain ⟨b, hb⟩ := he H enc n c _ h3 (fun m hm => hwt m (List.mem_cons_of_mem _ (List.mem_append_left _ (mem_weightsAll _ i _ (by rw [List.getElem?_map, List.getElem?_eq_getElem (by omega)]; rfl) m hm))))
      exact ⟨b, c, h2, hb⟩
    obtain ⟨xs, css, h1, h2, h3⟩ := choose_list len _ each
    have hcl : ∀ c ∈ css, c.length = P.cellsOf e := fun c hc => by
      obtain ⟨i, hi, rfl⟩ := List.getElem_of_mem hc
      have := h3 i _ _ (List.getElem?_eq_getElem (by omega)) (List.getElem?_eq_getElem hi)
      exact (World.cells?_some this.1).2.1
    refine ⟨xs, ?_, _, css, rfl, by omega, hcl, ⟨by rw [flatten_len hcl, h2, h1], some a, cap, by rw [h1], by omega, hm, fun hn => ?_⟩, fun i b c hb hc => (h3 i b c hb hc).2⟩
    · have := hwt _ (List.mem_cons_self ..)
      exact Nat.le_trans (Nat.mul_le_mul_right _ (by omega)) this
    rw [h1] at hn
    have key : ∀ i j, i < len → j < P.cellsOf e → W.cell? ((a.add (i * P.cellsOf e)).add j) = css.flatten[i * P.cellsOf e + j]? := fun i j hi hj => by
      have := h3 i _ _ (List.getElem?_eq_getElem (by omega)) (List.getElem?_eq_getElem (show i < css.length by omega))
      rw [(World.cells?_some this.1).2.2 j hj, flatten_get hcl i j _ (List.getElem?_eq_getElem (by omega)) hj]
    have h00 := key 0 0 hn hsz
    have hfl : css.flatten.length = len * P.cellsOf e := by rw [flatten_len hcl, h2]
    have hpos : 0 < len * P.cellsOf e := Nat.mul_pos hn hsz
    have e0 : (a.add (0 * P.cellsOf e)).add 0 = a := by simp [Addr.add]
    rw [e0, Nat.zero_mul, Nat.zero_add, List.getElem?_eq_getElem (by omega)] at h00
    obtain ⟨b, off, spot⟩ := a
    have hs : spot = none := by
      unfold World.cell? at h00
      split at h00
      · cases spot with
        | none => rfl
        | some s => simp at h00
      · cases h00
    subst hs
    refine ⟨b, off, rfl, World.block_lt_of_cell? W _ h00, fun k u hk => ?_⟩
    have hk' : k < len * P.cellsOf e := by rw [← hfl]; exact (List.getElem?_eq_some_iff.1 hk).1
    have hdiv : k / P.cellsOf e < len := (Nat.div_lt_iff_lt_mul hsz).2 hk'
    have hmod := Nat.mod_lt k hsz
    have hke : k / P.cellsOf e * P.cellsOf e + k % P.cellsOf e = k := by rw [Nat.mul_comm]; exact Nat.div_add_mod k _
    have := key (k / P.cellsOf e) (k % P.cellsOf e) hdiv hmod
    rw [add_plain', add_plain', Nat.add_assoc, hke] at this
    rw [this, hk]
/-- A slice argument's value. -/
theorem open_slice_val {α : Type} {e : TypeId} {R : List α → List Value → Prop} {H : Type} {enc : TypeId × Value → H} {base : Nat} {v : Value} {d : DataW H} {ps : List MemPlace} (ht : P.underlying t = some (.slice e))
    (ho : Opens P W t R) (hval : Value.okWide P W .any base t v) (h : DataW.Trod enc P W 0 (fun _ => true) true t v d ps) (hw : ∀ n ∈ DataW.weights P t d, n ≤ reachBytes) : ∃ xs, R xs [v] := by
  obtain ⟨a, len, cap, rfl⟩ := okWide_slice ht hval
  obtain ⟨fuel, hf⟩ := h
  exact ho H enc fuel _ _ hf hw
theorem flatten_u8 : ∀ (css : List (List Value)) (bs : List UInt8), css.length = bs.length → (∀ (i : Nat) (a : UInt8) (c : List Value), bs[i]? = some a → css[i]? = some c → c = [u8 a]) → css.flatten = u8s bs := by
  intro css
  induction css with
  | nil => intro bs h _; cases bs <;> simp_all [u8s]
  | cons c css ih =>
    intro bs h h2
    cases bs with
    | nil => simp at h
    | cons b bs =>
      rw [List.flatten_cons, h2 0 b c rfl rfl, ih bs (by simpa using h) (fun i a c ha hc => h2 (i + 1) a c (by simpa using ha) (by simpa using hc))]
      rfl
theorem sliceR_bytes {B : Nat} {bs : List UInt8} {cs : List Value} (h : SliceR B W 1 1 (fun (b : UInt8) cs => cs = [u8 b]) bs cs) : bs.length ≤ reachBytes ∧ ∃ v, cs = [v] ∧ Bytes B W v bs := by
  obtain ⟨h0, v, css, rfl, h1, _, h2, h3⟩ := h
  refine ⟨by omega, v, rfl, ?_⟩
  rw [flatten_u8 css bs h1 h3] at h2
  exact h2
/-- What a slice of bytes that came in is. -/
def BytesR (W : World) (bs : List UInt8) (cs : List Value) : Prop := bs.length ≤ reachBytes ∧ ∃ v, cs = [v] ∧ Bytes W.heap.size W v bs
theorem opens_bytes {e : TypeId} (ht : P.underlying t = some (.slice e)) (he : P.underlying e = some (.int .u8)) (hc : P.cellsOf e = 1) (hb : P.bytesOf e = 1) : Opens P W t (BytesR W) :=
  fun H enc fuel cs x h hw => by
    obtain ⟨bs, hb'⟩ := opens_slice ht (by omega) (opens_u8 he) H enc fuel cs x h hw
    rw [hc, hb] at hb'
    exact ⟨bs, sliceR_bytes hb'⟩
/-- What a slice of slices of bytes that came in is. -/
def PiecesR (W : World) (ls : List (List UInt8)) (cs : List Value) : Prop := ls.length * 24 ≤ reachBytes ∧ (∀ l ∈ ls, l.length ≤ reachBytes) ∧ ∃ v, cs = [v] ∧ Pieces W.heap.size W v ls
theorem sliceR_pieces {ls : List (List UInt8)} {cs : List Value} (h : SliceR W.heap.size W 1 24 (BytesR W) ls cs) : PiecesR W ls cs := by
  obtain ⟨h0, v, css, rfl, h1, h2, h3, h4⟩ := h
  refine ⟨h0, fun l hl => ?_, v, rfl, css.flatten, h3, fun k hk => ?_⟩
  · obtain ⟨k, hk, rfl⟩ := List.getElem_of_mem hl
    exact (h4 k _ _ (List.getElem?_eq_getElem hk) (List.getElem?_eq_getElem (by omega))).1
  · obtain ⟨_, u, h5, h6⟩ := h4 k _ _ (List.getElem?_eq_getElem hk) (List.getElem?_eq_getElem (by omega))
    refine ⟨u, ?_, h6⟩
    have := flatten_get h2 k 0 _ (List.getElem?_eq_getElem (by omega)) (by omega)
    rw [Nat.mul_one, Nat.add_zero] at this
    rw [this, h5]
    rfl
theorem opens_pieces {e e2 : TypeId} (ht : P.underlying t = some (.slice e)) (hc : P.cellsOf e = 1) (hb : P.bytesOf e = 24) (he : P.underlying e = some (.slice e2)) (he2 : P.underlying e2 = some (.int .u8)) (hc2 : P.cellsOf e2 = 1) (hb2 : P.bytesOf e2 = 1) :
    Opens P W t (PiecesR W) :=
  fun H enc fuel cs x h hw => by
    obtain ⟨bs, hb'⟩ := opens_slice ht (by omega) (opens_bytes he he2 hc2 hb2) H enc fuel cs x h hw
    rw [hc, hb] at hb'
    exact ⟨bs, sliceR_pieces hb'⟩
end
end Go.Proofs.YtaijompnohkmaaaGreatDoor
/- Layer 6 (kv): pairs and changes in slices. -/
namespace Go.Proofs.YtaijompnohkmaaaGreatDoor
open Go.RowKit KvP
/-- A text, as a string. -/
def str (s : List UInt8) : Value := .string ⟨s.toArray⟩
theorem str_of (s : ByteArray) : Value.string s = str s.data.toList := by
  unfold str
  congr 1
def pairCells (p : PairP) : List Value := [str p.key, str p.val]
def changeCells (c : ChangeP) : List Value := [str c.key, str c.val, .bool c.gone]
/-- Pairs, in a slice. -/
def PairsV (B : Nat) (w : World) (v : Value) (l : List PairP) : Prop := Row B w v 2 l.length (l.map pairCells).flatten
/-- Changes, in a slice. -/
def ChangesV (B : Nat) (w : World) (v : Value) (l : List ChangeP) : Prop := Row B w v 3 l.length (l.map changeCells).flatten
theorem PairsV.below {B : Nat} {w w' : World} {v : Value} {l : List PairP} (h : PairsV B w v l) (hb : Below B w w') : PairsV B w' v l := Row.below h hb
theorem PairsV.tight {B : Nat} {w : World} {v : Value} {l : List PairP} (h : PairsV B w v l) : PairsV w.heap.size w v l := Row.tight h (by decide)
theorem ChangesV.below {B : Nat} {w w' : World} {v : Value} {l : List ChangeP} (h : ChangesV B w v l) (hb : Below B w w') : ChangesV B w' v l := Row.below h hb
theorem ChangesV.tight {B : Nat} {w : World} {v : Value} {l : List ChangeP} (h : ChangesV B w v l) : ChangesV w.heap.size w v l := Row.tight h (by decide)
theorem load_pair {B : Nat} {w : World} {a : Option Addr} {n c : Nat} {l : List PairP} (h : PairsV B w (.slice a n c) l) {k : Nat} (hk : k < l.length) :
    ∃ b off, a = some ⟨b, off, none⟩ ∧ b < B ∧ ∀ w', Below B w w' → w'.cell? ⟨b, off + k * 2, none⟩ = some (str l[k].key) ∧ w'.cell? ⟨b, off + k * 2 + 1, none⟩ = some (str l[k].val) := by
  obtain ⟨hl, a0, cap, hv, hnc, hcap, hcells⟩ := h
  cases hv
  obtain ⟨b, off, rfl, hBb, hc⟩ := hcells (by omega)
  have hlen : ∀ c ∈ l.map pairCells, c.length = 2 := fun c hc => by obtain ⟨p, _, rfl⟩ := List.mem_map.1 hc; rfl
  have hat : (l.map pairCells)[k]? = some (pairCells l[k]) := by rw [List.getElem?_map, List.getElem?_eq_getElem hk]; rfl
  have one : ∀ j (x : Value), j < 2 → (pairCells l[k])[j]? = some x → ∀ w', Below B w w' → w'.cell? ⟨b, off + (k * 2 + j), none⟩ = some x := fun j x hj hx w' hw => by
    have e := flatten_get hlen k j _ hat hj
    rw [hx] at e
    exact (hw.cell (p := ⟨b, off + (k * 2 + j), none⟩) hBb).trans (hc (k * 2 + j) x e)
  exact ⟨b, off, rfl, hBb, fun w' hw => ⟨by simpa using one 0 _ (by decide) rfl w' hw, by have := one 1 _ (by decide) rfl w' hw; rwa [← Nat.add_assoc] at this⟩⟩
theorem load_change {B : Nat} {w : World} {a : Option Addr} {n c : Nat} {l : List ChangeP} (h : ChangesV B w (.slice a n c) l) {k : Nat} (hk : k < l.length) :
    ∃ b off, a = some ⟨b, off, none⟩ ∧ b < B ∧ ∀ w', Below B w w' → w'.cell? ⟨b, off + k * 3, none⟩ = some (str l[k].key) ∧ w'.cell? ⟨b, off + k * 3 + 1, none⟩ = some (str l[k].val) ∧ w'.cell? ⟨b, off + k * 3 + 2, none⟩ = some (.bool l[k].gone) := by
  obtain ⟨hl, a0, cap, hv, hnc, hcap, hcells⟩ := h
  cases hv
  obtain ⟨b, off, rfl, hBb, hc⟩ := hcells (by omega)
  have hlen : ∀ c ∈ l.map changeCells, c.length = 3 := fun c hc => by obtain ⟨p, _, rfl⟩ := List.mem_map.1 hc; rfl
  have hat : (l.map changeCells)[k]? = some (changeCells l[k]) := by rw [List.getElem?_map, List.getElem?_eq_getElem hk]; rfl
  have one : ∀ j (x : Value), j < 3 → (changeCells l[k])[j]? = some x → ∀ w', Below B w w' → w'.cell? ⟨b, off + (k * 3 + j), none⟩ = some x := fun j x hj hx w' hw => by
    have e := flatten_get hlen k j _ hat hj
    rw [hx] at e
    exact (hw.cell (p := ⟨b, off + (k * 3 + j), none⟩) hBb).trans (hc (k * 3 + j) x e)
  exact ⟨b, off, rfl, hBb, fun w' hw => ⟨by simpa using one 0 _ (by decide) rfl w' hw, by have := one 1 _ (by decide) rfl w' hw; rwa [← Nat.add_assoc] at this, by have := one 2 _ (by decide) rfl w' hw; rwa [← Nat.add_assoc] at this⟩⟩
end Go.Proofs.YtaijompnohkmaaaGreatDoor
/- Layer 6 (kv): may a key and a value be; the code's and the document's. -/
namespace Go.Proofs.YtaijompnohkmaaaGreatDoor
open Go.RowKit KvP
theorem str_list (s : List UInt8) : (ByteArray.mk s.toArray).toList = s := by rw [Lib.toList_data]
theorem str_size (s : List UInt8) : (ByteArray.mk s.toArray).size = s.length := by simp [ByteArray.size]
set_option maxRecDepth 100000 in
set_option maxHeartbeats 1000000 in
theorem may_any (k v : List UInt8) (w : World) : Calls Tryz.prog 80 #[str k, str v] w fun e w' => e = .returned (.bool (mayP k v)) ∧ w = w' := by
  unfold str
  obtain ⟨a, ha⟩ : ∃ a, a = ByteArray.mk k.toArray := ⟨_, rfl⟩
  obtain ⟨b, hb⟩ : ∃ b, b = ByteArray.mk v.toArray := ⟨_, rfl⟩
  have a1 : a.toList = k := by rw [ha, str_list]
  have a2 : a.size = k.length := by rw [ha, str_size]
  have b2 : b.size = v.length := by rw [hb, str_size]
  rw [← ha, ← hb]
  have HA1 := Lib.hid a1
  have HA2 := Lib.hid a2
  have HB2 := Lib.hid b2
  clear ha hb a1 a2 b2
  by_cases h0 : k = []
  · have q0 : a.toList.isEmpty = true := by rw [HA1.out, h0]; rfl
    have hm : mayP k v = false := by rw [h0]; rfl
    rw [hm]
    clear h0 hm
    go_enter Tryz.func80, Tryz.ntmps80
    go_wp2_with fail
    go_ret
    exact ⟨rfl, rfl⟩
  · have q0 : a.toList.isEmpty = false := by rw [HA1.out]; cases k <;> simp_all
    have h1 : 1 ≤ k.length := List.length_pos_iff.2 h0
    by_cases h2 : k.length ≤ 64
    · have q1 : decide ((a.size : Int) ≤ 64) = true := by rw [HA2.out]; simp; omega
      have hm : mayP k v = decide ((b.size : Int) ≤ 4096) := by
        rw [HB2.out]
        unfold mayP
        rw [decide_eq_true h1, decide_eq_true h2]
        simp only [Bool.true_and]
        by_cases h : v.length ≤ 4096
        · rw [decide_eq_true h, decide_eq_true (by omega)]
        · rw [decide_eq_false h, decide_eq_false (by omega)]
      rw [hm]
      clear h0 hm h1 h2
      go_enter Tryz.func80, Tryz.ntmps80
      go_wp2_with fail
      go_ret
      exact ⟨by simp, rfl⟩
    · have q1 : decide ((a.size : Int) ≤ 64) = false := by rw [HA2.out]; simp; omega
      have hm : mayP k v = false := by
        unfold mayP
        rw [decide_eq_false h2]
        simp
      rw [hm]
      clear h0 hm h1 h2
      go_enter Tryz.func80, Tryz.ntmps80
      go_wp2_with fail
      go_ret
      exact ⟨rfl, rfl⟩
set_option maxRecDepth 100000 in
set_option maxHeartbeats 1000000 in
theorem refmay_any (k v : List UInt8) (w : World) : Calls Tryz.prog 71 #[str k, str v] w fun e w' => e = .returned (.bool (mayP k v)) ∧ w = w' := by
  unfold str
  obtain ⟨a, ha⟩ : ∃ a, a = ByteArray.mk k.toArray := ⟨_, rfl⟩
  obtain ⟨b, hb⟩ : ∃ b, b = ByteArray.mk v.toArray := ⟨_, rfl⟩
  have a2 : a.size = k.length := by rw [ha, str_size]
  have b2 : b.size = v.length := by rw [hb, str_size]
  rw [← ha, ← hb]
  have HA2 := Lib.hid a2
  have HB2 := Lib.hid b2
  clear ha hb a2 b2
  by_cases h0 : 1 ≤ k.length
  · have q0 : decide ((1 : Int) ≤ (a.size : Int)) = true := by rw [HA2.out]; simp; omega
    by_cases h2 : k.length ≤ 64
    · have q1 : decide ((a.size : Int) ≤ 64) = true := by rw [HA2.out]; simp; omega
      have hm : mayP k v = decide ((b.size : Int) ≤ 4096) := by
        rw [HB2.out]
        unfold mayP
        rw [decide_eq_true h0, decide_eq_true h2]
        simp only [Bool.true_and]
        by_cases h : v.length ≤ 4096
        · rw [decide_eq_true h, decide_eq_true (by omega)]
        · rw [decide_eq_false h, decide_eq_false (by omega)]
      rw [hm]
      clear h0 hm h2
      go_enter Tryz.func71, Tryz.ntmps71
      go_wp2_with fail
      go_ret
      exact ⟨by simp, rfl⟩
    · have q1 : decide ((a.size : Int) ≤ 64) = false := by rw [HA2.out]; simp; omega
      have hm : mayP k v = false := by
        unfold mayP
        rw [decide_eq_false h2]
        simp
      rw [hm]
      clear h0 hm h2
      go_enter Tryz.func71, Tryz.ntmps71
      go_wp2_with fail
      go_ret
      exact ⟨by simp, rfl⟩
  · have q0 : decide ((1 : Int) ≤ (a.size : Int)) = false := by rw [HA2.out]; simp; omega
    have hm : mayP k v = false := by
      unfold mayP
      rw [decide_eq_false h0]
      rfl
    rw [hm]
    clear h0 hm
    go_enter Tryz.func71, Tryz.ntmps71
    go_wp2_with fail
    go_ret
    exact ⟨by simp, rfl⟩
end Go.Proofs.YtaijompnohkmaaaGreatDoor
