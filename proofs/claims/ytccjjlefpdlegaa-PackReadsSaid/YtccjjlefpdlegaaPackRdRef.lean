/- Layer 3 (pack): the reference's reader. -/
import Derived.Test.YtccjjlefpdlegaaPackRd
namespace Go.Proofs.Ytccjjlefpdlegaa
open Go.RowKit PackP
theorem fold_ge (bs : List UInt8) : ∀ a : Nat, a * 256 ^ bs.length ≤ bs.foldl (fun n c => n * 256 + c.toNat) a := by
  induction bs with
  | nil => intro a; simp
  | cons c bs ih =>
    intro a
    have h := ih (a * 256 + c.toNat)
    rw [List.foldl_cons, List.length_cons, Nat.pow_succ, Nat.mul_comm (256 ^ bs.length) 256, ← Nat.mul_assoc]
    exact Nat.le_trans (Nat.mul_le_mul_right _ (by omega)) h
theorem numOf_ge (bs : List UInt8) (k : Nat) (hk : k < bs.length) : numOf (bs.take k) * 256 ≤ numOf bs := by
  have h : numOf bs = (bs.drop k).foldl (fun n c => n * 256 + c.toNat) (numOf (bs.take k)) := by
    unfold numOf
    rw [← List.foldl_append, List.take_append_drop]
  rw [h]
  refine Nat.le_trans (Nat.mul_le_mul_left _ ?_) (fold_ge _ _)
  have : 1 ≤ (bs.drop k).length := by rw [List.length_drop]; omega
  exact Nat.le_trans (by decide) (Nat.pow_le_pow_right (by decide) this)
/-- What the reference makes of bytes: -1 above 2^62. -/
def refN (bs : List UInt8) : Int := if 4611686018427387904 < numOf bs then -1 else (numOf bs : Int)
set_option maxRecDepth 100000 in
set_option maxHeartbeats 1000000 in
theorem refNumber_any (B : Nat) (v : Value) (bs : List UInt8) (w : World) (h : Bytes B w v bs) (hl : bs.length ≤ 8) :
    Calls Try.prog 59 #[v] w fun e w' => e = .returned (.int .i64 (refN bs)) ∧ w = w' := by
  obtain ⟨_, a, cap, rfl, hnc, hcap, hcells⟩ := h
  unfold maxLen at hcap
  go_enter Try.func59, Try.ntmps59
  go_wp2
  go_loop [3, 4] (fun t i => ∃ k : Nat, k ≤ bs.length ∧ i = .int .i64 k ∧ t = .int .i64 (numOf (bs.take k))) (fun _ i => bs.length - (intOf i).toNat)
  case atStart => exact ⟨0, Nat.zero_le _, rfl, rfl⟩
  case round =>
    obtain ⟨k, hk, rfl, rfl⟩ := hrel
    by_cases hlt : k < bs.length
    · obtain ⟨b, off, rfl, hB, hc⟩ := hcells (by omega)
      have hcell := hc k _ (u8s_at hlt)
      have hN : Hid (numOf (bs.take (k + 1)) = numOf (bs.take k) * 256 + bs[k].toNat) := by
        rw [List.take_succ_eq_append_getElem hlt, numOf_snoc]; exact rfl
      have hge := Lib.hid (numOf_ge bs k hlt)
      obtain ⟨N, hNe⟩ : ∃ N, N = numOf (bs.take k) := ⟨_, rfl⟩
      rw [← hNe] at hN hge
      rw [← hNe]
      obtain ⟨c, hce⟩ : ∃ c, c = bs[k] := ⟨_, rfl⟩
      rw [← hce] at hcell hN
      have hcl : c.toNat < 256 := c.toNat_lt
      clear hNe hc hcells hce
      by_cases hbig : 36028797018963968 ≤ N
      · have t0 : decide (36028797018963968 ≤ (N : Int)) = true := by simp; omega
        have hr : refN bs = -1 := by unfold refN; rw [if_pos (by have := hge.out; omega)]
        have HR := Lib.hid hr
        clear hr hbig
        go_wp2
        go_ret
        exact ⟨ret_int HR.out.symm, rfl⟩
      · have t0 : decide (36028797018963968 ≤ (N : Int)) = false := by simp; omega
        have hb : N < 2 ^ 55 := by omega
        clear hbig
        go_wp2
        all_goals
          go_round
          case rel => exact ⟨k + 1, by omega, by go_num, by rw [hN.out]; go_num⟩
          case measure => simp [intOf]; omega
    · have hke : k = bs.length := by omega
      subst hke
      rw [List.take_length]
      obtain ⟨N, hNe⟩ : ∃ N, N = numOf bs := ⟨_, rfl⟩
      rw [← hNe]
      by_cases hbig : 4611686018427387904 < N
      · have t0 : decide (4611686018427387904 < (N : Int)) = true := by simp; omega
        have hr : refN bs = -1 := by unfold refN; rw [if_pos (by omega)]
        have HR := Lib.hid hr
        clear hr hbig hNe
        go_wp2
        go_ret
        exact ⟨ret_int HR.out.symm, rfl⟩
      · have t0 : decide (4611686018427387904 < (N : Int)) = false := by simp; omega
        have hr : refN bs = N := by unfold refN; rw [if_neg (by omega), hNe]
        have HR := Lib.hid hr
        clear hr hbig hNe
        go_wp2
        go_ret
        exact ⟨ret_int HR.out.symm, rfl⟩
/-- What the reference's take leaves. -/
def RTakeEnd (T : TypeId) (B g : Nat) (w : World) (r : RS) (n : Nat) (e : Ending) (w' : World) : Prop :=
  RdEnd T B g w w' (r.take n).1 ∧ ∃ v, Bytes B w' v ((r.take n).2.getD []) ∧ e = .returned v
set_option maxRecDepth 100000 in
set_option maxHeartbeats 1000000 in
theorem refTake_any (B g : Nat) (w : World) (r : RS) (n : Nat) (hn : n ≤ 2 ^ 62) (h : RdAt 65 B g w r) :
    Calls Try.prog 60 #[.pointer (some ⟨g, 0, none⟩), .int .i64 n] w (RTakeEnd 65 B g w r n) := by
  have H := Lib.hid h
  by_cases he : r.e = 0
  · by_cases hs : r.b.length < n
    · have ht : r.take n = ({ r with e := 2 }, none) := by unfold RS.take; rw [if_pos he, if_pos hs]
      have HT := Lib.hid ht
      obtain ⟨v, _, hv, _, hc0, hc1, _, hf1⟩ := h.parts
      obtain ⟨_, a, cap, rfl, hnc, hcap, _⟩ := hv
      unfold maxLen at hcap
      obtain ⟨L, hL⟩ : ∃ L, L = r.b.length := ⟨_, rfl⟩
      rw [← hL] at hc0 hnc hs
      rw [he] at hc1
      have t0 : decide ((L : Int) < (n : Int)) = true := by simp; omega
      have h3 := h.setE 2
      have HE : Hid (RdEnd 65 B g w (w.setCell ⟨g, 1, none⟩ (.int .i64 2)) { r with e := 2 }) := ⟨h3, only_set _ _ _ _⟩
      clear ht hL he h h3
      go_enter Try.func60, Try.ntmps60
      go_wp2
      go_ret
      unfold RTakeEnd
      rw [HT.out]
      exact ⟨HE.out, _, nil_bytes _ _, rfl⟩
    · have ht : r.take n = ({ r with b := r.b.drop n }, some (r.b.take n)) := by unfold RS.take; rw [if_pos he, if_neg hs]
      have HT := Lib.hid ht
      obtain ⟨a, cap, v1, a2, l2, c2, hc0, hc1, hf0, kv1, kv2, hb1, hb2⟩ := h.cut n (by omega)
      obtain ⟨L, hL⟩ : ∃ L, L = r.b.length := ⟨_, rfl⟩
      rw [← hL] at hc0 kv1 kv2 hs
      rw [he] at hc1
      have hle : n ≤ L := by omega
      have HB1 := Lib.hid hb1
      have HB2 := Lib.hid hb2
      clear ht hL he h hb1 hb2 hs
      go_enter Try.func60, Try.ntmps60
      go_wp2
      go_ret
      unfold RTakeEnd
      rw [HT.out]
      exact ⟨HB2.out, _, HB1.out, rfl⟩
  · have ht : r.take n = (r, none) := by unfold RS.take; rw [if_neg he]
    have HT := Lib.hid ht
    obtain ⟨v, _, hv, _, hc0, hc1, _, hf1⟩ := h.parts
    obtain ⟨E, hEe⟩ : ∃ E, E = r.e := ⟨_, rfl⟩
    rw [← hEe] at hc1
    have t0 : (E == 0) = false := by rw [beq_eq_false_iff_ne, hEe]; exact he
    clear ht he h hEe
    go_enter Try.func60, Try.ntmps60
    go_wp2
    go_ret
    unfold RTakeEnd
    rw [HT.out]
    exact ⟨⟨H.out, only_refl _ _⟩, _, nil_bytes _ _, rfl⟩
theorem refTake_at (B g : Nat) (w : World) (r r1 : RS) (n : Nat) (z : Int) (b : Option (List UInt8)) (hn : n ≤ 2 ^ 62) (hz : z = n) (h : RdAt 65 B g w r) (ht : r.take n = (r1, b)) :
    Calls Try.prog 60 #[.pointer (some ⟨g, 0, none⟩), .int .i64 z] w fun e w' => ∃ v, e = .returned v ∧ RdEnd 65 B g w w' r1 ∧ Bytes B w' v (b.getD []) := by
  subst hz
  refine (refTake_any B g w r n hn h).mono fun e w' ⟨h1, v, h2, h3⟩ => ?_
  rw [ht] at h1 h2
  exact ⟨v, h3, h1, h2⟩
set_option maxRecDepth 100000 in
set_option maxHeartbeats 1000000 in
theorem refRNum_any (B g : Nat) (w : World) (r : RS) (h : RdAt 65 B g w r) :
    Calls Try.prog 34 #[.pointer (some ⟨g, 0, none⟩)] w fun e w' => e = .returned (.int .i64 r.num.2) ∧ RdEnd 65 B g w w' r.num.1 := by
  rcases ht : r.take 8 with ⟨r1, _ | b⟩
  · have hnum : r.num = (r1, 0) := by unfold RS.num; rw [ht]
    have he := take_none_e ht
    obtain ⟨E, hEe⟩ : ∃ E, E = r1.e := ⟨_, rfl⟩
    have t0 : (E == 0) = false := by rw [beq_eq_false_iff_ne, hEe]; exact he
    have HE := Lib.hid hEe
    have HN := Lib.hid hnum
    have HT := Lib.hid ht
    have hl0 : (([] : List UInt8)).length ≤ 8 := by decide
    clear hnum ht he hEe
    go_enter Try.func34, Try.ntmps34
    go_wp2_with (first
      | (go_at_call 60; ((refine (refTake_at B g _ r r1 8 _ none (by omega) rfl h HT.out).mono ?_); rintro e w1 ⟨v1, rfl, hE, hb⟩; obtain ⟨v2, _, _, _, _, hc2, _, _⟩ := hE.1.parts; rw [← HE.out] at hc2; replace hb : Bytes B w1 v1 [] := hb))
      | (go_at_call 59; ((refine (refNumber_any B _ [] _ hb hl0).mono ?_); rintro e w2 ⟨rfl, rfl⟩)))
    all_goals
      go_ret
      rw [HN.out]
      exact ⟨rfl, hE⟩
  · obtain ⟨he, he1, hbl, _, _, _⟩ := take_some_e ht
    have hbl' : b.length ≤ 8 := by omega
    obtain ⟨Z, hZ⟩ : ∃ Z, Z = refN b := ⟨_, rfl⟩
    have HT := Lib.hid ht
    have HZ := Lib.hid hZ
    have HE := Lib.hid he1
    by_cases hg : 4611686018427387904 < numOf b
    · have hnum : r.num = ({ r1 with e := 3 }, 0) := by unfold RS.num; rw [ht]; simp only; rw [if_pos hg]
      have hZ1 : Z = -1 := by rw [hZ]; unfold refN; rw [if_pos hg]
      have t0 : decide (Z < 0) = true := by rw [hZ1]; decide
      have HN := Lib.hid hnum
      clear hnum ht hZ hg hbl he he1 hZ1
      go_enter Try.func34, Try.ntmps34
      go_wp2_with (first
        | (go_at_call 60; ((refine (refTake_at B g _ r r1 8 _ (some b) (by omega) rfl h HT.out).mono ?_); rintro e w1 ⟨v1, rfl, hE, hb⟩; obtain ⟨v2, _, _, _, _, hc2, _, hf2⟩ := hE.1.parts; rw [HE.out] at hc2; replace hb : Bytes B w1 v1 b := hb; have hR3 : RdEnd 65 B g w (w1.setCell ⟨g, 1, none⟩ (.int .i64 3)) { r1 with e := 3 } := ⟨hE.1.setE 3, only_trans hE.2 (only_set _ _ _ _)⟩; have HR3 := Lib.hid hR3; clear hR3))
        | (go_at_call 59; ((refine (refNumber_any B _ b _ hb hbl').mono ?_); rintro e w2 ⟨rfl, rfl⟩; rw [← HZ.out])))
      all_goals
        go_ret
        rw [HN.out]
        exact ⟨rfl, HR3.out⟩
    · have hnum : r.num = (r1, Z) := by unfold RS.num; rw [ht]; simp only; rw [if_neg hg, hZ]; unfold refN; rw [if_neg hg]
      have hZ1 : 0 ≤ Z := by rw [hZ]; unfold refN; rw [if_neg hg]; omega
      have t0 : decide (Z < 0) = false := by simp; omega
      have HN := Lib.hid hnum
      clear hnum ht hZ hg hbl he he1 hZ1
      go_enter Try.func34, Try.ntmps34
      go_wp2_with (first
        | (go_at_call 60; ((refine (refTake_at B g _ r r1 8 _ (some b) (by omega) rfl h HT.out).mono ?_); rintro e w1 ⟨v1, rfl, hE, hb⟩; obtain ⟨v2, _, _, _, _, hc2, _, hf2⟩ := hE.1.parts; rw [HE.out] at hc2; replace hb : Bytes B w1 v1 b := hb))
        | (go_at_call 59; ((refine (refNumber_any B _ b _ hb hbl').mono ?_); rintro e w2 ⟨rfl, rfl⟩; rw [← HZ.out])))
      all_goals
        go_ret
        rw [HN.out]
        exact ⟨rfl, hE⟩
set_option maxRecDepth 100000 in
set_option maxHeartbeats 1000000 in
theorem refRText_any (B g : Nat) (w : World) (r : RS) (h : RdAt 65 B g w r) :
    Calls Try.prog 35 #[.pointer (some ⟨g, 0, none⟩)] w fun e w' => e = .returned (.string (strB r.text.2)) ∧ RdEnd 65 B g w w' r.text.1 := by
  rcases ht : r.take 4 with ⟨r1, _ | b⟩
  · have hnum : r.text = (r1, []) := by unfold RS.text; rw [ht]
    have he := take_none_e ht
    obtain ⟨E, hEe⟩ : ∃ E, E = r1.e := ⟨_, rfl⟩
    have t0 : (E == 0) = false := by rw [beq_eq_false_iff_ne, hEe]; exact he
    have HE := Lib.hid hEe
    have HN := Lib.hid hnum
    have HT := Lib.hid ht
    have hl0 : (([] : List UInt8)).length ≤ 8 := by decide
    clear hnum ht he hEe
    go_enter Try.func35, Try.ntmps35
    go_wp2_with (first
      | (go_at_call 60; ((refine (refTake_at B g _ r r1 4 _ none (by omega) rfl h HT.out).mono ?_); rintro e w1 ⟨v1, rfl, hE, hb⟩; obtain ⟨v2, _, _, _, _, hc2, _, _⟩ := hE.1.parts; rw [← HE.out] at hc2; replace hb : Bytes B w1 v1 [] := hb))
      | (go_at_call 59; ((refine (refNumber_any B _ [] _ hb hl0).mono ?_); rintro e w2 ⟨rfl, rfl⟩)))
    all_goals
      go_ret
      rw [HN.out]
      exact ⟨rfl, hE⟩
  · obtain ⟨he, he1, hbl, _, _, _⟩ := take_some_e ht
    have hbl' : b.length ≤ 8 := by omega
    obtain ⟨N, hN⟩ : ∃ N, N = numOf b := ⟨_, rfl⟩
    have hNl : N < 2 ^ 32 := by
      have := numOf_lt b
      rw [hbl] at this; omega
    have hZ : refN b = (N : Int) := by unfold refN; rw [if_neg (by omega), hN]
    have HT := Lib.hid ht
    have HZ := Lib.hid hZ
    have HE := Lib.hid he1
    by_cases hg : 4096 < N
    · have hnum : r.text = ({ r1 with e := 4 }, []) := by unfold RS.text; rw [ht]; simp only; rw [if_pos (by omega)]
      have HN := Lib.hid hnum
      clear hnum ht hZ hbl he he1 hN
      go_enter Try.func35, Try.ntmps35
      go_wp2_with (first
        | (go_at_call 60; ((refine (refTake_at B g _ r r1 4 _ (some b) (by omega) rfl h HT.out).mono ?_); rintro e w1 ⟨v1, rfl, hE, hb⟩; obtain ⟨v2, _, _, _, _, hc2, _, hf2⟩ := hE.1.parts; rw [HE.out] at hc2; replace hb : Bytes B w1 v1 b := hb; have hR3 : RdEnd 65 B g w (w1.setCell ⟨g, 1, none⟩ (.int .i64 4)) { r1 with e := 4 } := ⟨hE.1.setE 4, only_trans hE.2 (only_set _ _ _ _)⟩; have HR3 := Lib.hid hR3; clear hR3))
        | (go_at_call 59; ((refine (refNumber_any B _ b _ hb hbl').mono ?_); rintro e w2 ⟨rfl, rfl⟩; rw [HZ.out])))
      all_goals
        go_ret
        rw [HN.out]
        exact ⟨rfl, HR3.out⟩
    · rcases ht2 : r1.take N with ⟨r2, s⟩
      have hnum : r.text = (r2, s.getD []) := by unfold RS.text; rw [ht]; simp only; rw [if_neg (by omega), ← hN, ht2]; cases s <;> rfl
      have hle : N ≤ 4096 := by omega
      have HN := Lib.hid hnum
      have HK := Lib.hid ht2
      clear hnum ht hZ hg hbl he he1 ht2 hN
      go_enter Try.func35, Try.ntmps35
      go_wp2_with (first
        | (go_at_call 59; ((refine (refNumber_any B _ b _ hb hbl').mono ?_); rintro e w2 ⟨rfl, rfl⟩; rw [HZ.out]; have hR1 := hE.1))
        | (go_at_call 60; ((refine (refTake_at B g _ r1 r2 N _ s (by omega) rfl hR1 HK.out).mono ?_); rintro e w3 ⟨v3, rfl, hE3, hb3⟩; have kc := run_bytes_string (P := Try.prog) Try.underlying22 Try.underlying5 Try.underlying9 hb3))
        | (go_at_call 60; ((refine (refTake_at B g _ r r1 4 _ (some b) (by omega) rfl h HT.out).mono ?_); rintro e w1 ⟨v1, rfl, hE, hb⟩; obtain ⟨v2, _, _, _, _, hc2, _, hf2⟩ := hE.1.parts; rw [HE.out] at hc2; replace hb : Bytes B w1 v1 b := hb)))
      all_goals
        go_ret
        rw [HN.out]
        exact ⟨rfl, hE3.1, only_trans hE.2 hE3.2⟩
set_option maxRecDepth 100000 in
set_option maxHeartbeats 1000000 in
theorem refRFail_any (B g : Nat) (w : World) (r : RS) (bad : Bool) (h : RdAt 65 B g w r) :
    Calls Try.prog 38 #[.pointer (some ⟨g, 0, none⟩), .bool bad] w fun e w' => e = .returned (.tuple #[]) ∧ RdEnd 65 B g w w' (r.fail bad 3) := by
  have H := Lib.hid h
  obtain ⟨v, _, _, _, _, hc1, _, hf1⟩ := h.parts
  obtain ⟨E, hE⟩ : ∃ E, E = r.e := ⟨_, rfl⟩
  rw [← hE] at hc1
  by_cases h0 : E = 0
  · cases bad with
    | false =>
      have hr : r.fail false 3 = r := by simp [RS.fail]
      have HR := Lib.hid hr
      subst h0
      clear hr hE h
      go_enter Try.func38, Try.ntmps38
      go_wp2
      go_end0
      exact ⟨rfl, by rw [HR.out]; exact ⟨H.out, only_refl _ _⟩⟩
    | true =>
      have hr : r.fail true 3 = { r with e := 3 } := by simp [RS.fail, ← hE, h0]
      have HR := Lib.hid hr
      subst h0
      clear hr hE h
      go_enter Try.func38, Try.ntmps38
      go_wp2
      go_end0
      exact ⟨rfl, by rw [HR.out]; exact ⟨H.out.setE 3, only_set _ _ _ _⟩⟩
  · have hr : r.fail bad 3 = r := by simp [RS.fail, ← hE, h0]
    have HR := Lib.hid hr
    have t0 : (E == 0) = false := by rw [beq_eq_false_iff_ne]; exact h0
    clear hr hE h h0
    go_enter Try.func38, Try.ntmps38
    go_wp2
    go_end0
    exact ⟨rfl, by rw [HR.out]; exact ⟨H.out, only_refl _ _⟩⟩
set_option maxRecDepth 100000 in
set_option maxHeartbeats 1000000 in
theorem refRDone_any (B g : Nat) (w : World) (r : RS) (h : RdAt 65 B g w r) :
    Calls Try.prog 39 #[.pointer (some ⟨g, 0, none⟩)] w fun e w' => e = .returned (.int .i64 r.doneE) ∧ w = w' := by
  obtain ⟨v, _, hv, _, hc0, hc1, _, hf1⟩ := h.parts
  obtain ⟨_, a, cap, rfl, hnc, hcap, _⟩ := hv
  unfold maxLen at hcap
  have hd : r.doneE = if r.e = 0 ∧ 0 < r.b.length then 3 else r.e := rfl
  obtain ⟨L, hL⟩ : ∃ L, L = r.b.length := ⟨_, rfl⟩
  obtain ⟨E, hE⟩ : ∃ E, E = r.e := ⟨_, rfl⟩
  rw [← hL, ← hE] at hd
  rw [← hL] at hc0 hnc
  rw [← hE] at hc1
  have HD := Lib.hid hd
  clear hd hL hE h
  by_cases h0 : E = 0
  · subst h0
    by_cases hl : 0 < L
    · have t0 : decide (0 < (L : Int)) = true := by simp; omega
      go_enter Try.func39, Try.ntmps39
      go_wp2
      all_goals
        go_ret
        exact ⟨ret_int (by rw [HD.out]; simp [hl]), rfl⟩
    · have hl' : L = 0 := by omega
      subst hl'
      go_enter Try.func39, Try.ntmps39
      go_wp2
      all_goals
        go_ret
        exact ⟨ret_int (by rw [HD.out]; rfl), rfl⟩
  · have t0 : (E == 0) = false := by rw [beq_eq_false_iff_ne]; exact h0
    have H0 := Lib.hid h0
    clear h0
    go_enter Try.func39, Try.ntmps39
    go_wp2
    all_goals
      go_ret
      exact ⟨ret_int (by rw [HD.out, if_neg (fun hh => H0.out hh.1)]), rfl⟩
set_option maxRecDepth 100000 in
set_option maxHeartbeats 1000000 in
theorem refRCount_any (B g : Nat) (w : World) (r : RS) (most : Int) (h : RdAt 65 B g w r) :
    Calls Try.prog 37 #[.pointer (some ⟨g, 0, none⟩), .int .i64 most] w fun e w' => e = .returned (.int .i64 (r.count most).2) ∧ RdEnd 65 B g w w' (r.count most).1 := by
  rcases hnum : r.num with ⟨r1, n⟩
  have hc : r.count most = if r1.e = 0 then (if most < n then ({ r1 with e := 4 }, 0) else (r1, n)) else (r1, 0) := by unfold RS.count; rw [hnum]
  have hb := refRNum_any B g w r h
  rw [hnum] at hb
  have HC := Lib.hid hc
  obtain ⟨E, hE⟩ : ∃ E, E = r1.e := ⟨_, rfl⟩
  have HE := Lib.hid hE
  clear hc hnum hE
  by_cases h0 : E = 0
  · have H0 := Lib.hid h0
    clear h0
    by_cases hm : most < n
    · go_enter Try.func37, Try.ntmps37
      go_wp2_with (go_at_call 34; ((with_reducible refine hb.mono ?_); rintro e w1 ⟨rfl, hE1⟩; obtain ⟨v2, _, _, _, _, hc2, _, hf2⟩ := hE1.1.parts; rw [← HE.out, H0.out] at hc2; have hR3 : RdEnd 65 B g w (w1.setCell ⟨g, 1, none⟩ (.int .i64 4)) { r1 with e := 4 } := ⟨hE1.1.setE 4, only_trans hE1.2 (only_set _ _ _ _)⟩; have HR3 := Lib.hid hR3; clear hR3))
      go_ret
      rw [HC.out, if_pos (by rw [← HE.out]; exact H0.out), if_pos hm]
      exact ⟨rfl, HR3.out⟩
    · have hle : n ≤ most := by omega
      go_enter Try.func37, Try.ntmps37
      go_wp2_with (go_at_call 34; ((with_reducible refine hb.mono ?_); rintro e w1 ⟨rfl, hE1⟩; obtain ⟨v2, _, _, _, _, hc2, _, hf2⟩ := hE1.1.parts; rw [← HE.out, H0.out] at hc2))
      go_ret
      rw [HC.out, if_pos (by rw [← HE.out]; exact H0.out), if_neg (by omega)]
      exact ⟨rfl, hE1⟩
  · have t0 : (E == 0) = false := by rw [beq_eq_false_iff_ne]; exact h0
    have H0 := Lib.hid h0
    clear h0
    go_enter Try.func37, Try.ntmps37
    go_wp2_with (go_at_call 34; ((with_reducible refine hb.mono ?_); rintro e w1 ⟨rfl, hE1⟩; obtain ⟨v2, _, _, _, _, hc2, _, hf2⟩ := hE1.1.parts; rw [← HE.out] at hc2))
    go_ret
    rw [HC.out, if_neg (by rw [← HE.out]; exact H0.out)]
    exact ⟨rfl, hE1⟩
end Go.Proofs.Ytccjjlefpdlegaa
