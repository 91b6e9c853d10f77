/- Layer 5 (wal), plainly: the document's reading of a mark is the program's. -/
import Derived.Test.YtaijompnohkmaaaDoorMP
import Derived.Deep.CutRange
namespace Go.Proofs.YtaijompnohkmaaaDoor
namespace WalP
open PackP
theorem be_numOf : ∀ (k : Nat) (bs : List UInt8), bs.length = k → be k (numOf bs) = bs
  | 0, bs, h => by rw [List.eq_nil_of_length_eq_zero h]; rfl
  | k + 1, bs, h => by
    obtain ⟨init, c, rfl⟩ : ∃ init c, bs = init ++ [c] := by
      rcases List.eq_nil_or_concat bs with e | ⟨i, c, e⟩
      · rw [e] at h; simp at h
      · exact ⟨i, c, by simpa using e⟩
    have hl : init.length = k := by simpa using h
    rw [numOf_snoc, be_low]
    have h1 : (numOf init * 256 + c.toNat) / 256 = numOf init := by have := c.toNat_lt; omega
    have h2 : UInt8.ofNat (numOf init * 256 + c.toNat) = c := by
      apply UInt8.toNat_inj.1
      rw [UInt8.toNat_ofNat']
      have := c.toNat_lt
      omega
    rw [h1, h2, be_numOf k init hl]
theorem num_ok {r : RS} (h : r.num.1.e = 0) : r.e = 0 ∧ 8 ≤ r.b.length ∧ r.num.1.b = r.b.drop 8 ∧ 0 ≤ r.num.2 ∧ r.num.2 ≤ 4611686018427387904 ∧ numB r.num.2 = r.b.take 8 := by
  by_cases he : r.e = 0
  · by_cases hl : r.b.length < 8
    · have e : r.num = ({ r with e := 2 }, 0) := by unfold RS.num RS.take; simp [he, hl]
      rw [e] at h
      cases h
    · have ht : r.take 8 = ({ r with b := r.b.drop 8 }, some (r.b.take 8)) := by unfold RS.take; simp [he, hl]
      by_cases hn : 4611686018427387904 < numOf (r.b.take 8)
      · have e : r.num = ({ r with b := r.b.drop 8, e := 3 }, 0) := by unfold RS.num; rw [ht]; simp [hn]
        rw [e] at h
        cases h
      · have e : r.num = ({ r with b := r.b.drop 8 }, (numOf (r.b.take 8) : Int)) := by unfold RS.num; rw [ht]; simp [hn]
        rw [e]
        refine ⟨he, by omega, rfl, by show (0 : Int) ≤ numOf _; omega, by show ((numOf (r.b.take 8) : Nat) : Int) ≤ _; omega, ?_⟩
        show numB (numOf (r.b.take 8) : Nat) = _
        have hc : clamp ((numOf (r.b.take 8) : Nat) : Int) = numOf (r.b.take 8) := by
          unfold clamp
          split
          · omega
          · split
            · omega
            · omega
        unfold numB
        rw [hc, be_numOf 8 _ (by rw [List.length_take]; omega)]
  · have e : r.num = (r, 0) := by unfold RS.num RS.take; simp [he]
    rw [e] at h
    exact absurd h he
/-- The reader behind so many numbers, and the next number. -/
def rsK (r : RS) : Nat → RS
  | 0 => r
  | k + 1 => (rsK r k).num.1
def nvK (r : RS) (k : Nat) : Int := (rsK r k).num.2
def rs0 (s : List UInt8) : RS := ⟨(s.drop 4).take 32, 0⟩
/-- What the document asks of a mark, but for the zeros behind. -/
def refGood (s : List UInt8) : Bool :=
  decide ((rsK (rs0 s) 4).e = 0) && (decide (s.take 4 = [87, 76, 79, 71]) && (decide (1 ≤ nvK (rs0 s) 0) && (decide (nvK (rs0 s) 0 ≤ 1099511627776) && (decide (0 < takesZ (nvK (rs0 s) 2)) && decide (nvK (rs0 s) 3 < 2 ^ 32)))))
theorem readMark_eq (s : List UInt8) : readMark s = (⟨nvK (rs0 s) 0, nvK (rs0 s) 1, nvK (rs0 s) 2, nvK (rs0 s) 3 % 4294967296⟩, decide ((rsK (rs0 s) 4).e = 0) && decide (s = markS (nvK (rs0 s) 0) (nvK (rs0 s) 1) (nvK (rs0 s) 2) (nvK (rs0 s) 3 % 4294967296)) && decide (1 ≤ nvK (rs0 s) 0) && decide (nvK (rs0 s) 0 ≤ 1099511627776) && decide (0 < takesZ (nvK (rs0 s) 2))) := rfl
theorem numB_inj {a b : Int} (ha : 0 ≤ a) (ha' : a ≤ 4611686018427387904) (hb : 0 ≤ b) (hb' : b ≤ 4611686018427387904) (h : numB a = numB b) : a = b := by
  have h1 := num_back a ha ha' []
  have h2 := num_back b hb hb' []
  rw [h] at h1
  have := h1.symm.trans h2
  injection this with _ h3
theorem refread_law {s : List UInt8} (hs : s.length = 64) : (readMark s).2 = (refGood s && (s.drop 36).all (· == 0)) ∧ ((readMark s).2 = true → (readMark s).1 = ⟨nvK (rs0 s) 0, nvK (rs0 s) 1, nvK (rs0 s) 2, nvK (rs0 s) 3⟩) := by
  rw [readMark_eq]
  by_cases h4 : (rsK (rs0 s) 4).e = 0
  · obtain ⟨h3, l3, e3, p3, q3, n3⟩ := num_ok (r := rsK (rs0 s) 3) h4
    obtain ⟨h2, l2, e2, p2, q2, n2⟩ := num_ok (r := rsK (rs0 s) 2) h3
    obtain ⟨h1, l1, e1, p1, q1, n1⟩ := num_ok (r := rsK (rs0 s) 1) h2
    obtain ⟨h0, l0, e0, p0, q0, n0⟩ := num_ok (r := rsK (rs0 s) 0) h1
    have b1 : (rsK (rs0 s) 1).b = ((s.drop 4).take 32).drop 8 := e0
    have b2 : (rsK (rs0 s) 2).b = (((s.drop 4).take 32).drop 8).drop 8 := by rw [← b1]; exact e1
    have b3 : (rsK (rs0 s) 3).b = ((((s.drop 4).take 32).drop 8).drop 8).drop 8 := by rw [← b2]; exact e2
    have b0 : (rsK (rs0 s) 0).b = (s.drop 4).take 32 := rfl
    rw [b0] at n0
    rw [b1] at n1
    rw [b2] at n2
    rw [b3] at n3
    change numB (nvK (rs0 s) 0) = _ at n0
    change numB (nvK (rs0 s) 1) = _ at n1
    change numB (nvK (rs0 s) 2) = _ at n2
    change numB (nvK (rs0 s) 3) = _ at n3
    change 0 ≤ nvK (rs0 s) 3 at p3
    change nvK (rs0 s) 3 ≤ _ at q3
    obtain ⟨a, ha⟩ : ∃ a, a = nvK (rs0 s) 0 := ⟨_, rfl⟩
    obtain ⟨b, hb⟩ : ∃ a, a = nvK (rs0 s) 1 := ⟨_, rfl⟩
    obtain ⟨c, hc⟩ : ∃ a, a = nvK (rs0 s) 2 := ⟨_, rfl⟩
    obtain ⟨d, hd⟩ : ∃ a, a = nvK (rs0 s) 3 := ⟨_, rfl⟩
    have hcut : s = s.take 4 ++ (numB a ++ (numB b ++ (numB c ++ numB d))) ++ s.drop 36 := by
      rw [ha, hb, hc, hd, n0, n1, n2, n3]
      obtain ⟨L, hL⟩ : ∃ L, L = (s.drop 4).take 32 := ⟨_, rfl⟩
      rw [← hL]
      have hLl : L.length = 32 := by rw [hL, List.length_take, List.length_drop]; omega
      have h8 : (((L.drop 8).drop 8).drop 8).take 8 = ((L.drop 8).drop 8).drop 8 := List.take_of_length_le (by simp only [List.length_drop]; omega)
      rw [h8, List.take_append_drop, List.take_append_drop, List.take_append_drop, hL, List.append_assoc, show s.drop 36 = (s.drop 4).drop 32 by rw [List.drop_drop], List.take_append_drop, List.take_append_drop]
    rw [← ha, ← hb, ← hc, ← hd]
    rw [← hd] at p3 q3
    have hmark : ∀ d' : Int, 0 ≤ d' → d' ≤ 4611686018427387904 → (s = markS a b c d' ↔ s.take 4 = [87, 76, 79, 71] ∧ d = d' ∧ (s.drop 36).all (· == 0) = true) := by
      intro d' hd0 hd1
      have hm : markS a b c d' = [87, 76, 79, 71] ++ (numB a ++ (numB b ++ (numB c ++ numB d'))) ++ List.replicate 28 0 := by
        unfold markS pad64
        rw [List.take_of_length_le (by rw [length_markB]; omega), length_markB]
        rfl
      have hz : (s.drop 36).all (· == 0) = true ↔ s.drop 36 = List.replicate 28 0 := by
        rw [List.eq_replicate_iff, List.all_eq_true]
        constructor
        · intro h
          exact ⟨by rw [List.length_drop, hs], fun x hx => by simpa using h x hx⟩
        · intro h x hx
          simpa using h.2 x hx
      rw [hz, hm]
      constructor
      · intro h
        rw [hcut] at h
        obtain ⟨h1, h2⟩ := List.append_inj h (by simp [length_numB]; omega)
        obtain ⟨h3, h4⟩ := List.append_inj h1 (by simp; omega)
        obtain ⟨_, h5⟩ := List.append_inj h4 (by simp [length_numB])
        obtain ⟨_, h6⟩ := List.append_inj h5 (by simp [length_numB])
        obtain ⟨_, h7⟩ := List.append_inj h6 (by simp [length_numB])
        exact ⟨h3, numB_inj p3 q3 hd0 hd1 h7, h2⟩
      · rintro ⟨h1, rfl, h3⟩
        rw [← h1, ← h3]
        exact hcut
    have hm := hmark (d % 4294967296) (by omega) (by omega)
    unfold refGood
    rw [← ha, ← hc, ← hd]
    constructor
    · rw [Bool.eq_iff_iff]
      simp only [Bool.and_eq_true, decide_eq_true_eq, h4, true_and, hm]
      constructor
      · rintro ⟨⟨⟨⟨x1, x2, x3⟩, x4⟩, x5⟩, x6⟩
        exact ⟨⟨x1, x4, x5, x6, by omega⟩, x3⟩
      · rintro ⟨⟨x1, x4, x5, x6, x7⟩, x3⟩
        exact ⟨⟨⟨⟨x1, by omega, x3⟩, x4⟩, x5⟩, x6⟩
    · intro h
      simp only [Bool.and_eq_true, decide_eq_true_eq, hm] at h
      rw [← h.1.1.1.2.2.1]
  · have e1 : decide ((rsK (rs0 s) 4).e = 0) = false := by simpa using h4
    unfold refGood
    rw [e1]
    simp
end WalP
end Go.Proofs.YtaijompnohkmaaaDoor
/- Layer 3 (pack): the reference's reader. -/
namespace Go.Proofs.YtaijompnohkmaaaDoor
open Go.RowKit PackP
theorem fold_ge (bs : List UInt8) : ∀ a : Nat, a * 256 ^ bs.length ≤ bs.foldl (fun n c => n * 256 + c.toNat) a := by
  induction bs with
  | nil => intro a; simp
  | cons c bs ih =>
    intro a
    have h := ih (a * 256 + c.toNat)
    rw [List.foldl_cons, List.length_cons, Nat.pow_succ, Nat.mul_comm (256 ^ bs.length) 256, ← Nat.mul_assoc]
    exact Nat.le_trans (Nat.mul_le_mul_right _ (by omega)) h
theorem numOf_ge (bs : List UInt8) (k : Nat) (hk : k < bs.length) : numOf (bs.take k) * 256 ≤ numOf bs := by
  have h : numOf bs = (bs.drop k).foldl (fun n c => n * 256 + c.toNat) (numOf (bs.take k)) := by
    unfold numOf
    rw [← List.foldl_append, List.take_append_drop]
  rw [h]
  refine Nat.le_trans (Nat.mul_le_mul_left _ ?_) (fold_ge _ _)
  have : 1 ≤ (bs.drop k).length := by rw [List.length_drop]; omega
  exact Nat.le_trans (by decide) (Nat.pow_le_pow_right (by decide) this)
/-- What the reference makes of bytes: -1 above 2^62. -/
def refN (bs : List UInt8) : Int := if 4611686018427387904 < numOf bs then -1 else (numOf bs : Int)
set_option maxRecDepth 100000 in
set_option maxHeartbeats 1000000 in
theorem refNumber_any (B : Nat) (v : Value) (bs : List UInt8) (w : World) (h : Bytes B w v bs) (hl : bs.length ≤ 8) :
    Calls Tryd.prog 97 #[v] w fun e w' => e = .returned (.int .i64 (refN bs)) ∧ w = w' := by
  obtain ⟨_, a, cap, rfl, hnc, hcap, hcells⟩ := h
  unfold maxLen at hcap
  go_enter Tryd.func97, Tryd.ntmps97
  go_wp2
  go_loop [3, 4] (fun t i => ∃ k : Nat, k ≤ bs.length ∧ i = .int .i64 k ∧ t = .int .i64 (numOf (bs.take k))) (fun _ i => bs.length - (intOf i).toNat)
  case atStart => exact ⟨0, Nat.zero_le _, rfl, rfl⟩
  case round =>
    obtain ⟨k, hk, rfl, rfl⟩ := hrel
    by_cases hlt : k < bs.length
    · obtain ⟨b, off, rfl, hB, hc⟩ := hcells (by omega)
      have hcell := hc k _ (u8s_at hlt)
      have hN : Hid (numOf (bs.take (k + 1)) = numOf (bs.take k) * 256 + bs[k].toNat) := by
        rw [List.take_succ_eq_append_getElem hlt, numOf_snoc]; exact rfl
      have hge := Lib.hid (numOf_ge bs k hlt)
      obtain ⟨N, hNe⟩ : ∃ N, N = numOf (bs.take k) := ⟨_, rfl⟩
      rw [← hNe] at hN hge
      rw [← hNe]
      obtain ⟨c, hce⟩ : ∃ c, c = bs[k] := ⟨_, rfl⟩
      rw [← hce] at hcell hN
      have hcl : c.toNat < 256 := c.toNat_lt
      clear hNe hc hcells hce
      by_cases hbig : 36028797018963968 ≤ N
      · have t0 : decide (36028797018963968 ≤ (N : Int)) = true := by simp; omega
        have hr : refN bs = -1 := by unfold refN; rw [if_pos (by have := hge.out; omega)]
        have HR := Lib.hid hr
        clear hr hbig
        go_wp2
        go_ret
        exact ⟨ret_int HR.out.symm, rfl⟩
      · have t0 : decide (36028797018963968 ≤ (N : Int)) = false := by simp; omega
        have hb : N < 2 ^ 55 := by omega
        clear hbig
        go_wp2
        all_goals
          go_round
          case rel => exact ⟨k + 1, by omega, by go_num, by rw [hN.out]; go_num⟩
          case measure => simp [intOf]; omega
    · have hke : k = bs.length := by omega
      subst hke
      rw [List.take_length]
      obtain ⟨N, hNe⟩ : ∃ N, N = numOf bs := ⟨_, rfl⟩
      rw [← hNe]
      by_cases hbig : 4611686018427387904 < N
      · have t0 : decide (4611686018427387904 < (N : Int)) = true := by simp; omega
        have hr : refN bs = -1 := by unfold refN; rw [if_pos (by omega)]
        have HR := Lib.hid hr
        clear hr hbig hNe
        go_wp2
        go_ret
        exact ⟨ret_int HR.out.symm, rfl⟩
      · have t0 : decide (4611686018427387904 < (N : Int)) = false := by simp; omega
        have hr : refN bs = N := by unfold refN; rw [if_neg (by omega), hNe]
        have HR := Lib.hid hr
        clear hr hbig hNe
        go_wp2
        go_ret
        exact ⟨ret_int HR.out.symm, rfl⟩
/-- What the reference's take leaves. -/
def RTakeEnd (T : TypeId) (B g : Nat) (w : World) (r : RS) (n : Nat) (e : Ending) (w' : World) : Prop :=
  RdEnd T B g w w' (r.take n).1 ∧ ∃ v, Bytes B w' v ((r.take n).2.getD []) ∧ e = .returned v
set_option maxRecDepth 100000 in
set_option maxHeartbeats 1000000 in
theorem refTake_any (B g : Nat) (w : World) (r : RS) (n : Nat) (hn : n ≤ 2 ^ 62) (h : RdAt 130 B g w r) :
    Calls Tryd.prog 98 #[.pointer (some ⟨g, 0, none⟩), .int .i64 n] w (RTakeEnd 130 B g w r n) := by
  have H := Lib.hid h
  by_cases he : r.e = 0
  · by_cases hs : r.b.length < n
    · have ht : r.take n = ({ r with e := 2 }, none) := by unfold RS.take; rw [if_pos he, if_pos hs]
      have HT := Lib.hid ht
      obtain ⟨v, _, hv, _, hc0, hc1, _, hf1⟩ := h.parts
      obtain ⟨_, a, cap, rfl, hnc, hcap, _⟩ := hv
      unfold maxLen at hcap
      obtain ⟨L, hL⟩ : ∃ L, L = r.b.length := ⟨_, rfl⟩
      rw [← hL] at hc0 hnc hs
      rw [he] at hc1
      have t0 : decide ((L : Int) < (n : Int)) = true := by simp; omega
      have h3 := h.setE 2
      have HE : Hid (RdEnd 130 B g w (w.setCell ⟨g, 1, none⟩ (.int .i64 2)) { r with e := 2 }) := ⟨h3, only_set _ _ _ _⟩
      clear ht hL he h h3
      go_enter Tryd.func98, Tryd.ntmps98
      go_wp2
      go_ret
      unfold RTakeEnd
      rw [HT.out]
      exact ⟨HE.out, _, nil_bytes _ _, rfl⟩
    · have ht : r.take n = ({ r with b := r.b.drop n }, some (r.b.take n)) := by unfold RS.take; rw [if_pos he, if_neg hs]
      have HT := Lib.hid ht
      obtain ⟨a, cap, v1, a2, l2, c2, hc0, hc1, hf0, kv1, kv2, hb1, hb2⟩ := h.cut n (by omega)
      obtain ⟨L, hL⟩ : ∃ L, L = r.b.length := ⟨_, rfl⟩
      rw [← hL] at hc0 kv1 kv2 hs
      rw [he] at hc1
      have hle : n ≤ L := by omega
      have HB1 := Lib.hid hb1
      have HB2 := Lib.hid hb2
      clear ht hL he h hb1 hb2 hs
      go_enter Tryd.func98, Tryd.ntmps98
      go_wp2
      go_ret
      unfold RTakeEnd
      rw [HT.out]
      exact ⟨HB2.out, _, HB1.out, rfl⟩
  · have ht : r.take n = (r, none) := by unfold RS.take; rw [if_neg he]
    have HT := Lib.hid ht
    obtain ⟨v, _, hv, _, hc0, hc1, _, hf1⟩ := h.parts
    obtain ⟨E, hEe⟩ : ∃ E, E = r.e := ⟨_, rfl⟩
    rw [← hEe] at hc1
    have t0 : (E == 0) = false := by rw [beq_eq_false_iff_ne, hEe]; exact he
    clear ht he h hEe
    go_enter Tryd.func98, Tryd.ntmps98
    go_wp2
    go_ret
    unfold RTakeEnd
    rw [HT.out]
    exact ⟨⟨H.out, only_refl _ _⟩, _, nil_bytes _ _, rfl⟩
theorem refTake_at (B g : Nat) (w : World) (r r1 : RS) (n : Nat) (z : Int) (b : Option (List UInt8)) (hn : n ≤ 2 ^ 62) (hz : z = n) (h : RdAt 130 B g w r) (ht : r.take n = (r1, b)) :
    Calls Tryd.prog 98 #[.pointer (some ⟨g, 0, none⟩), .int .i64 z] w fun e w' => ∃ v, e = .returned v ∧ RdEnd 130 B g w w' r1 ∧ Bytes B w' v (b.getD []) := by
  subst hz
  refine (refTake_any B g w r n hn h).mono fun e w' ⟨h1, v, h2, h3⟩ => ?_
  rw [ht] at h1 h2
  exact ⟨v, h3, h1, h2⟩
set_option maxRecDepth 100000 in
set_option maxHeartbeats 1000000 in
theorem refRNum_any (B g : Nat) (w : World) (r : RS) (h : RdAt 130 B g w r) :
    Calls Tryd.prog 82 #[.pointer (some ⟨g, 0, none⟩)] w fun e w' => e = .returned (.int .i64 r.num.2) ∧ RdEnd 130 B g w w' r.num.1 := by
  rcases ht : r.take 8 with ⟨r1, _ | b⟩
  · have hnum : r.num = (r1, 0) := by unfold RS.num; rw [ht]
    have he := take_none_e ht
    obtain ⟨E, hEe⟩ : ∃ E, E = r1.e := ⟨_, rfl⟩
    have t0 : (E == 0) = false := by rw [beq_eq_false_iff_ne, hEe]; exact he
    have HE := Lib.hid hEe
    have HN := Lib.hid hnum
    have HT := Lib.hid ht
    have hl0 : (([] : List UInt8)).length ≤ 8 := by decide
    clear hnum ht he hEe
    go_enter Tryd.func82, Tryd.ntmps82
    go_wp2_with (first
      | (go_at_call 98; ((refine (refTake_at B g _ r r1 8 _ none (by omega) rfl h HT.out).mono ?_); rintro e w1 ⟨v1, rfl, hE, hb⟩; obtain ⟨v2, _, _, _, _, hc2, _, _⟩ := hE.1.parts; rw [← HE.out] at hc2; replace hb : Bytes B w1 v1 [] := hb))
      | (go_at_call 97; ((refine (refNumber_any B _ [] _ hb hl0).mono ?_); rintro e w2 ⟨rfl, rfl⟩)))
    all_goals
      go_ret
      rw [HN.out]
      exact ⟨rfl, hE⟩
  · obtain ⟨he, he1, hbl, _, _, _⟩ := take_some_e ht
    have hbl' : b.length ≤ 8 := by omega
    obtain ⟨Z, hZ⟩ : ∃ Z, Z = refN b := ⟨_, rfl⟩
    have HT := Lib.hid ht
    have HZ := Lib.hid hZ
    have HE := Lib.hid he1
    by_cases hg : 4611686018427387904 < numOf b
    · have hnum : r.num = ({ r1 with e := 3 }, 0) := by unfold RS.num; rw [ht]; simp only; rw [if_pos hg]
      have hZ1 : Z = -1 := by rw [hZ]; unfold refN; rw [if_pos hg]
      have t0 : decide (Z < 0) = true := by rw [hZ1]; decide
      have HN := Lib.hid hnum
      clear hnum ht hZ hg hbl he he1 hZ1
      go_enter Tryd.func82, Tryd.ntmps82
      go_wp2_with (first
        | (go_at_call 98; ((refine (refTake_at B g _ r r1 8 _ (some b) (by omega) rfl h HT.out).mono ?_); rintro e w1 ⟨v1, rfl, hE, hb⟩; obtain ⟨v2, _, _, _, _, hc2, _, hf2⟩ := hE.1.parts; rw [HE.out] at hc2; replace hb : Bytes B w1 v1 b := hb; have hR3 : RdEnd 130 B g w (w1.setCell ⟨g, 1, none⟩ (.int .i64 3)) { r1 with e := 3 } := ⟨hE.1.setE 3, only_trans hE.2 (only_set _ _ _ _)⟩; have HR3 := Lib.hid hR3; clear hR3))
        | (go_at_call 97; ((refine (refNumber_any B _ b _ hb hbl').mono ?_); rintro e w2 ⟨rfl, rfl⟩; rw [← HZ.out])))
      all_goals
        go_ret
        rw [HN.out]
        exact ⟨rfl, HR3.out⟩
    · have hnum : r.num = (r1, Z) := by unfold RS.num; rw [ht]; simp only; rw [if_neg hg, hZ]; unfold refN; rw [if_neg hg]
      have hZ1 : 0 ≤ Z := by rw [hZ]; unfold refN; rw [if_neg hg]; omega
      have t0 : decide (Z < 0) = false := by simp; omega
      have HN := Lib.hid hnum
      clear hnum ht hZ hg hbl he he1 hZ1
      go_enter Tryd.func82, Tryd.ntmps82
      go_wp2_with (first
        | (go_at_call 98; ((refine (refTake_at B g _ r r1 8 _ (some b) (by omega) rfl h HT.out).mono ?_); rintro e w1 ⟨v1, rfl, hE, hb⟩; obtain ⟨v2, _, _, _, _, hc2, _, hf2⟩ := hE.1.parts; rw [HE.out] at hc2; replace hb : Bytes B w1 v1 b := hb))
        | (go_at_call 97; ((refine (refNumber_any B _ b _ hb hbl').mono ?_); rintro e w2 ⟨rfl, rfl⟩; rw [← HZ.out])))
      all_goals
        go_ret
        rw [HN.out]
        exact ⟨rfl, hE⟩
end Go.Proofs.YtaijompnohkmaaaDoor
/- Layer 5 (wal), the document's answer: a mark is read. -/
namespace Go.Proofs.YtaijompnohkmaaaDoor
open Go.RowKit WalP PackP
/-- Four numbers, of which so many are known. -/
def rowN (r : RS) (k : Nat) : List Value := (List.range 4).map fun j => .int .i64 (if j < k then nvK r j else 0)
theorem rowN_old (r : RS) (k : Nat) (h : k < 4) : (rowN r k)[k]? = some (.int .i64 0) := by
  simp [rowN, h]
theorem rowN_set (r : RS) (k : Nat) (h : k < 4) : (rowN r k).set k (.int .i64 (nvK r k)) = rowN r (k + 1) := by
  obtain rfl | rfl | rfl | rfl : k = 0 ∨ k = 1 ∨ k = 2 ∨ k = 3 := by omega
  all_goals simp [rowN, List.range, List.range.loop]
theorem rowN_all (r : RS) : rowN r 4 = [.int .i64 (nvK r 0), .int .i64 (nvK r 1), .int .i64 (nvK r 2), .int .i64 (nvK r 3)] := rfl
theorem size_four : (Tryd.prog.info? 105).map (·.size) = some 4 := by kernel_rfl
set_option maxRecDepth 100000 in
set_option maxHeartbeats 4000000 in
theorem refMarkRead_any {s : List UInt8} (hs : s.length = 64) (w : World) :
    Calls Tryd.prog 64 #[.agg (u8s s).toArray] w fun e w' => e = .returned (.tuple #[.agg #[.int .i64 (nvK (rs0 s) 0), .int .i64 (nvK (rs0 s) 1), .int .i64 (nvK (rs0 s) 2), .int .i64 (nvK (rs0 s) 3)], .bool (readMark s).2]) ∧ Below w.heap.size w w' := by
  rw [(refread_law hs).1]
  obtain ⟨G, hG⟩ : ∃ G, G = refGood s := ⟨_, rfl⟩
  rw [← hG]
  unfold refGood at hG
  obtain ⟨r0, hr0⟩ : ∃ r0, r0 = rs0 s := ⟨_, rfl⟩
  rw [← hr0] at hG ⊢
  obtain ⟨X, hX⟩ : ∃ X, X = (u8s s).toArray := ⟨_, rfl⟩
  rw [← hX]
  have hXs : X.size = 64 := by rw [hX]; simp [length_u8s, hs]
  obtain ⟨w4, hw4, hb4, hs4, R0, R1, R2, R3⟩ := four w (.cells X 73) (.cells #[.int .i64 0, .int .i64 0, .int .i64 0, .int .i64 0] 105) (.cells #[.int .i64 0, .int .i64 0, .int .i64 0, .int .i64 0] 105) (.cells #[.slice (some ⟨w.heap.size, 4, none⟩) 32 60, .int .i64 0] 130)
  have hby := bytes_of_row (bs := s) 4 32 60 (hX ▸ R0) (by omega) (by omega) (by decide)
  have hby : Bytes (w.heap.size + 1 + 1) w4 (.slice (some ⟨w.heap.size, 4, none⟩) 32 60) ((s.drop 4).take 32) := by
    have hl : ((s.drop 4).take 32).length = 32 := by rw [List.length_take, List.length_drop]; omega
    obtain ⟨h1, a, cap, hv, h2, h3, h4⟩ := hby
    rw [hl] at hv h2 h4
    cases hv
    refine ⟨h1, _, _, by rw [hl], by omega, h3, fun hn => ?_⟩
    obtain ⟨b, off, hv, h5, h6⟩ := h4 (by omega)
    cases hv
    exact ⟨_, _, rfl, by omega, h6⟩
  have hR0 : RdAt 130 (w.heap.size + 1 + 1) (w.heap.size + 1 + 1 + 1) w4 (rsK r0 0) := by
    rw [hr0]
    exact ⟨_, R3, hby, by omega⟩
  have HW4 := Lib.hid hw4
  have HX := Lib.hid hX
  have HG := Lib.hid hG
  have HHS := Lib.hid hs
  have HR0 := Lib.hid hR0
  have HB4 := Lib.hid hb4
  have hrow0 : w4.heap[w.heap.size + 1 + 1]? = some (.cells (rowN r0 0).toArray 105 (0, 0)) := R2
  have HROW0 := Lib.hid hrow0
  have hlt4 : w.heap.size + 1 + 1 + 1 < w4.heap.size := by omega
  clear hw4 hX hG hr0 hs hR0 hby hb4 hrow0 R2 R3
  go_enter Tryd.func64, Tryd.ntmps64
  go_upto_region 3 with (fail)
  rw [← HW4.out]
  go_wp2_with fail
  go_loopw [6] (fun z wr => ∃ k : Nat, k ≤ 4 ∧ z = .int .i64 k ∧ RdAt 130 (w.heap.size + 1 + 1) (w.heap.size + 1 + 1 + 1) wr (rsK r0 k) ∧ wr.heap[w.heap.size + 1 + 1]? = some (.cells (rowN r0 k).toArray 105 (0, 0)) ∧ Below (w.heap.size + 1 + 1) w4 wr) (fun z _ => 4 - (intOf z).toNat)
  case atStart => exact ⟨0, by decide, rfl, HR0.out, HROW0.out, Below.refl _ _⟩
  case round =>
    obtain ⟨k, hk, rfl, hR, hrow, hb⟩ := hrel
    by_cases hlt : k < 4
    · have k0 : decide ((k : Int) < 4) = true := by simp; omega
      have kn := refRNum_any _ _ wr (rsK r0 k) hR
      have HROW := Lib.hid hrow
      have HB := Lib.hid hb
      have HLT := Lib.hid (Nat.lt_of_lt_of_le hlt4 hb.size)
      have k1 : (0 : Int) ≤ (k : Int) := by omega
      have k2 : (k : Int) < 4 := by omega
      clear hR hrow hb
      go_wp2_with fail
      refine kn.mono ?_
      rintro e w5 ⟨rfl, hR5, ho5⟩
      have hrow5 := (ho5.block _ (by have := HLT.out; omega) (fun e => by injection e with e; omega)).trans HROW.out
      have hb5 := HB.out.trans (below_of_only ho5 (by omega) (by have := HLT.out; omega))
      have hcell : w5.cell? ⟨w.heap.size + 1 + 1, k, none⟩ = some (.int .i64 0) := by
        rw [cell_of_row w5 _ k _ _ _ hrow5]
        simpa using rowN_old r0 k hlt
      have hfz := frozen_row hrow5
      have hset : (w5.setCell ⟨w.heap.size + 1 + 1, k, none⟩ (.int .i64 (nvK r0 k))).heap[w.heap.size + 1 + 1]? = some (.cells (rowN r0 (k + 1)).toArray 105 (0, 0)) := by
        rw [← rowN_set r0 k hlt]
        simp [World.setCell, Array.getElem?_modify, hrow5]
      have hR6 : RdAt 130 (w.heap.size + 1 + 1) (w.heap.size + 1 + 1 + 1) (w5.setCell ⟨w.heap.size + 1 + 1, k, none⟩ (.int .i64 (nvK r0 k))) (rsK r0 (k + 1)) :=
        hR5.far (only_set w5 _ _ _) (fun j hj => by cases hj; exact ⟨by omega, by omega⟩)
      have hb6 := hb5.setCell (p := ⟨w.heap.size + 1 + 1, k, none⟩) (Nat.le_refl _) (.int .i64 (nvK r0 k))
      have HS := Lib.hid hset
      have HR6 := Lib.hid hR6
      have HB6 := Lib.hid hb6
      have hnv : (rsK r0 k).num.2 = nvK r0 k := rfl
      rw [hnv]
      clear kn hrow5 hb5 hset hR6 hb6 hR5 ho5 hnv
      go_wp2_with fail
      go_roundw
      case rel => exact ⟨k + 1, by omega, by go_num, HR6.out, HS.out, HB6.out⟩
      case measure => simp [intOf]; omega
    · obtain rfl : k = 4 := by omega
      rw [rowN_all] at hrow
      obtain ⟨v, hRr, _, _⟩ := id hR
      have hE := cell_of_row wr _ 1 _ _ _ hRr
      have X0 := (hb.block _ (by omega)).trans R0
      have X1 := (hb.block _ (by omega)).trans R1
      have N0 := cell_of_row wr _ 0 _ _ _ hrow
      have N1 := cell_of_row wr _ 1 _ _ _ hrow
      have N2 := cell_of_row wr _ 2 _ _ _ hrow
      have N3 := cell_of_row wr _ 3 _ _ _ hrow
      have hby := bytes_of_row (bs := s) 0 4 64 (HX.out ▸ X0) (by have := HHS.out; omega) (by decide) (by decide)
      have kc := run_bytes_string (P := Tryd.prog) Tryd.underlying43 Tryd.underlying5 Tryd.underlying9 hby
      rw [List.drop_zero] at kc
      have hW : strB [87, 76, 79, 71] = { data := #[87, 76, 79, 71] } := rfl
      have kt := refTakes_any (nvK r0 2) wr
      obtain ⟨E, hEe⟩ : ∃ E, E = (rsK r0 4).e := ⟨_, rfl⟩
      obtain ⟨a, ha⟩ : ∃ x, x = nvK r0 0 := ⟨_, rfl⟩
      obtain ⟨b, hb'⟩ : ∃ x, x = nvK r0 1 := ⟨_, rfl⟩
      obtain ⟨c, hc⟩ : ∃ x, x = nvK r0 2 := ⟨_, rfl⟩
      obtain ⟨d, hd⟩ : ∃ x, x = nvK r0 3 := ⟨_, rfl⟩
      rw [← hEe] at hE
      rw [← ha, ← hb', ← hc, ← hd] at hrow
      rw [← ha] at N0
      rw [← hb'] at N1
      rw [← hc] at N2 kt
      rw [← hd] at N3
      obtain ⟨tk, htk⟩ : ∃ x, x = takesZ c := ⟨_, rfl⟩
      rw [← htk] at kt
      obtain ⟨st, hst⟩ : ∃ st, st = strB (s.take 4) := ⟨_, rfl⟩
      rw [← hst] at kc
      obtain ⟨c0, h0⟩ : ∃ c, (E == 0) = c := ⟨_, rfl⟩
      obtain ⟨c1, h1⟩ : ∃ c, decide (st.toList = [87, 76, 79, 71]) = c := ⟨_, rfl⟩
      obtain ⟨c2, h2⟩ : ∃ c, decide (1 ≤ a) = c := ⟨_, rfl⟩
      obtain ⟨c3, h3⟩ : ∃ c, decide (a ≤ 1099511627776) = c := ⟨_, rfl⟩
      obtain ⟨c4, h4⟩ : ∃ c, decide (0 < tk) = c := ⟨_, rfl⟩
      obtain ⟨c5, h5⟩ : ∃ c, decide (d < 4294967296) = c := ⟨_, rfl⟩
      have hGG : G = (c0 && (c1 && (c2 && (c3 && (c4 && c5))))) := by
        rw [← h0, ← h1, ← h2, ← h3, ← h4, ← h5, HG.out, ← hEe, ← ha, ← hc, ← hd, ← htk]
        have e1 : st.toList = s.take 4 := by rw [hst, ByteArray.toList_eq]; rfl
        have e2 : (E == 0) = decide (E = 0) := by rw [Bool.eq_iff_iff]; simp
        rw [e1, e2]
        rfl
      have HGG := Lib.hid hGG
      have HX0 := Lib.hid X0
      have HX1 := Lib.hid X1
      have HABCD := Lib.hid (show _ ∧ _ ∧ _ ∧ _ from ⟨ha, hb', hc, hd⟩)
      have HROW := Lib.hid hrow
      have HB := Lib.hid hb
      clear hGG hEe ha hb' hc hd htk hst hR hRr hby X0 X1 hrow hb hW
      go_upto_region 7 with (fail)
      go_cut [7] from 18 to 46 (fun s7 wx => s7 = .bool G ∧ wx = wr)
      case first =>
        cases c0 with
        | false =>
          go_wp2_with fail
          go_meet
          case rel => exact ⟨by rw [HGG.out]; rfl, rfl⟩
        | true =>
        cases c1 with
        | false =>
          replace h1 : ¬ st.toList = [87, 76, 79, 71] := by simpa using h1
          go_wp2_with fail
          go_meet
          case rel => exact ⟨by rw [HGG.out]; rfl, rfl⟩
        | true =>
        replace h1 : st.toList = [87, 76, 79, 71] := by simpa using h1
        cases c2 with
        | false =>
          go_wp2_with fail
          go_meet
          case rel => exact ⟨by rw [HGG.out]; rfl, rfl⟩
        | true =>
        cases c3 with
        | false =>
          go_wp2_with fail
          go_meet
          case rel => exact ⟨by rw [HGG.out]; rfl, rfl⟩
        | true =>
        cases c4 with
        | false =>
          go_wp2_with fail
          refine kt.mono ?_
          rintro e w9 ⟨rfl, rfl⟩
          go_wp2_with fail
          go_meet
          case rel => exact ⟨by rw [HGG.out]; rfl, rfl⟩
        | true =>
          go_wp2_with fail
          refine kt.mono ?_
          rintro e w9 ⟨rfl, rfl⟩
          go_wp2_with fail
          go_meet
          case rel => exact ⟨by rw [HGG.out]; rfl, rfl⟩
      case rest =>
        obtain ⟨rfl, rfl⟩ := hcut
        clear kt kc N0 N1 N2 N3 hE h0 h1 h2 h3 h4 h5
        go_wp2_with fail
        go_loop [7, 8] (fun g z => ∃ j : Nat, j ≤ 28 ∧ z = .int .i64 (36 + (j : Int)) ∧ g = .bool (G && ((s.drop 36).take j).all (· == 0))) (fun _ z => 64 - (intOf z).toNat)
        case atStart => exact ⟨0, by decide, rfl, by simp⟩
        case round =>
          obtain ⟨j, hj, rfl, rfl⟩ := hrel
          obtain ⟨gb, hgb⟩ : ∃ gb, gb = (G && ((s.drop 36).take j).all (· == 0)) := ⟨_, rfl⟩
          rw [← hgb]
          have HGB := Lib.hid hgb
          clear hgb
          by_cases hlt : j < 28
          · have k0 : decide (36 + (j : Int) < 64) = true := by simp; omega
            have hjs : 36 + j < s.length := by rw [HHS.out]; omega
            have hcell : wc.cell? ⟨w.heap.size, 36 + j, none⟩ = some (.int .u8 (s[36 + j].toNat : Int)) := by
              rw [cell_of_row wc _ (36 + j) _ _ _ HX0.out, HX.out]
              simpa using u8s_at hjs
            have hnext : (G && ((s.drop 36).take (j + 1)).all (· == 0)) = (gb && (s[36 + j] == 0)) := by
              have e : (s.drop 36).take (j + 1) = (s.drop 36).take j ++ [s[36 + j]] := by
                rw [List.take_add_one, List.getElem?_drop, List.getElem?_eq_getElem hjs]; rfl
              rw [e, List.all_append, HGB.out, Bool.and_assoc]
              simp
            have HN := Lib.hid hnext
            obtain ⟨cv, hcv⟩ : ∃ cv, cv = s[36 + j] := ⟨_, rfl⟩
            rw [← hcv] at hcell HN
            have hbeq : (cv == 0) = ((cv.toNat : Int) == 0) := by
              rw [Bool.eq_iff_iff]
              simp only [beq_iff_eq]
              constructor
              · intro h; rw [h]; rfl
              · intro h; apply UInt8.toNat_inj.1; rw [show (0 : UInt8).toNat = 0 from rfl]; omega
            rw [hbeq] at HN
            obtain ⟨q, hq⟩ : ∃ q, ((cv.toNat : Int) == 0) = q := ⟨_, rfl⟩
            rw [hq] at HN
            have j1 : (0 : Int) ≤ 36 + (j : Int) := by omega
            have j2 : 36 + (j : Int) < 64 := by omega
            have j3 : (36 + (j : Int)).toNat = 36 + j := by omega
            clear hcv hnext hbeq hjs
            cases gb with
            | false =>
              go_wp2_with fail
              go_round
              case rel => exact ⟨j + 1, by omega, by go_num, by rw [HN.out]; rfl⟩
              case measure => simp [intOf]; omega
            | true =>
              go_wp2_with fail
              go_round
              case rel => exact ⟨j + 1, by omega, by go_num, by rw [HN.out]; rfl⟩
              case measure => simp [intOf]; omega
          · obtain rfl : j = 28 := by omega
            have hrow := HROW.out
            have N0 := cell_of_row wc _ 0 _ _ _ hrow
            have N1 := cell_of_row wc _ 1 _ _ _ hrow
            have N2 := cell_of_row wc _ 2 _ _ _ hrow
            have N3 := cell_of_row wc _ 3 _ _ _ hrow
            have M0 := cell_of_row wc _ 0 _ _ _ HX1.out
            have M1 := cell_of_row wc _ 1 _ _ _ HX1.out
            have M2 := cell_of_row wc _ 2 _ _ _ HX1.out
            have M3 := cell_of_row wc _ 3 _ _ _ HX1.out
            have Z := frozen_row HX1.out
            obtain ⟨wz, hwz⟩ : ∃ wz, wz = put4 wc (w.heap.size + 1) (.int .i64 a) (.int .i64 b) (.int .i64 c) (.int .i64 d) := ⟨_, rfl⟩
            have hz := put4_heap HX1.out (.int .i64 a) (.int .i64 b) (.int .i64 c) (.int .i64 d)
            have hbz := put4_below (HB4.out.trans (HB.out.mono (by omega))) (show w.heap.size ≤ w.heap.size + 1 by omega) (.int .i64 a) (.int .i64 b) (.int .i64 c) (.int .i64 d)
            rw [← hwz] at hz hbz
            dsimp only [put4] at hwz
            have HWZ := Lib.hid hwz
            have HZ := Lib.hid hz
            have HBZ := Lib.hid hbz
            have HFIN := Lib.hid (show gb = (G && (s.drop 36).all (· == 0)) by
              have h := HGB.out
              rwa [List.take_of_length_le (by rw [List.length_drop, HHS.out]; decide)] at h)
            clear hwz hz hbz hrow
            go_wp2_with fail
            rw [← HWZ.out]
            refine bodyPost_ret (results_ctM rfl _ _ (w.heap.size + 1) _ _ _ _ rfl HZ.out Tryd.underlying105 rfl size_four) rfl ?_
            obtain ⟨H1, H2, H3, H4⟩ := HABCD.out
            exact ⟨by rw [← H1, ← H2, ← H3, ← H4, ← HFIN.out]; rfl, HBZ.out⟩
end Go.Proofs.YtaijompnohkmaaaDoor
/- Layer 5 (wal), the document's answer: a half's generation. -/
namespace Go.Proofs.YtaijompnohkmaaaDoor
open Go.RowKit WalP PackP
theorem genV_view (d : DiskP) (h : Int) : genV (viewP d h) = genS (half d) (readP d (h * half d)).1 := by
  have hl : (viewP d h).length = half d := by unfold viewP; simp
  rw [← genS_eq, hl]
  by_cases h0 : half d = 0
  · unfold genS
    rw [if_pos (.inl h0), if_pos (.inl h0)]
  · have e : (viewP d h).getD 0 [] = (readP d (h * half d)).1 := by
      unfold viewP
      rw [List.getD_eq_getElem?_getD, List.getElem?_map, List.getElem?_range (by omega)]
      simp
    rw [e]
set_option maxRecDepth 100000 in
set_option maxHeartbeats 4000000 in
theorem refGen_any {B : Nat} (v : Value) (d : DiskP) (h : Int) (w : World) (hd : DiskV B w v d) (hS : d.secs.length ≤ 4096) (hh : h = 0 ∨ h = 1) :
    Calls Tryd.prog 35 #[v, .int .i64 h] w fun e w' => e = .returned (.int .i64 (genV (viewP d h))) ∧ Below w.heap.size w w' := by
  rw [genV_view]
  have hd := hd.tight
  obtain ⟨p1, q1, p2, q2, rfl, _, _⟩ := hd.parts
  obtain ⟨w1, hw1⟩ : ∃ w1, w1 = w.alloc (.cells #[.slice p1 d.secs.length q1, .slice p2 d.loose.length q2, .int .i64 d.fuse, .bool d.down] 25) := ⟨_, rfl⟩
  have hb1 : Below w.heap.size w w1 := by rw [hw1]; exact Below.alloc (Below.refl _ _) (Nat.le_refl _) _
  have R0 : w1.heap[w.heap.size]? = some (.cells #[.slice p1 d.secs.length q1, .slice p2 d.loose.length q2, .int .i64 d.fuse, .bool d.down] 25 (0, 0)) := by rw [hw1]; exact heap_alloc_new w _
  have hd1 := (hd.below hb1).tight
  obtain ⟨H, hH⟩ : ∃ H, H = half d := ⟨_, rfl⟩
  have hSH : (d.secs.length : Int) / 2 = (H : Int) := by rw [hH]; unfold half; omega
  rw [← hH]
  have hH2 : H ≤ 2048 := by rw [hH]; unfold half; omega
  have hm0 : 0 ≤ h * (H : Int) := by rcases hh with h | h <;> rw [h] <;> omega
  have hm1 : h * (H : Int) ≤ 4096 := by rcases hh with h | h <;> rw [h] <;> omega
  obtain ⟨at_, hat⟩ : ∃ a, a = h * (H : Int) := ⟨_, rfl⟩
  have ks := refSector_any _ d at_ w1 hd1
  have hxl := walReadLen hd1 at_
  rw [← hat]
  obtain ⟨s, hs⟩ : ∃ s, s = (readP d at_).1 := ⟨_, rfl⟩
  rw [← hs] at ks hxl ⊢
  obtain ⟨X, hX⟩ : ∃ X, X = (u8s s).toArray := ⟨_, rfl⟩
  have km := fun w => refMarkRead_any hxl w
  rw [← hX] at ks km
  have hlaw := (refread_law hxl).2
  obtain ⟨a, ha⟩ : ∃ x, x = nvK (rs0 s) 0 := ⟨_, rfl⟩
  obtain ⟨b, hb'⟩ : ∃ x, x = nvK (rs0 s) 1 := ⟨_, rfl⟩
  obtain ⟨c, hc⟩ : ∃ x, x = nvK (rs0 s) 2 := ⟨_, rfl⟩
  obtain ⟨dd, hdd⟩ : ∃ x, x = nvK (rs0 s) 3 := ⟨_, rfl⟩
  obtain ⟨ok, hok⟩ : ∃ x, x = (readMark s).2 := ⟨_, rfl⟩
  rw [← ha, ← hb', ← hc, ← hdd, ← hok] at km hlaw
  obtain ⟨tk, htk⟩ : ∃ t, t = takesZ c := ⟨_, rfl⟩
  have kt := fun w => refTakes_any c w
  rw [← htk] at kt
  have hg : ok = true → genS H s = if H = 0 ∨ b ≠ 0 ∨ (H : Int) < tk then 0 else a := fun h => by
    have h1 := hlaw h
    unfold genS
    rw [h1, ← hok, h, htk]
    simp
  have hg0 : ok = false → genS H s = 0 := fun h => by
    unfold genS
    rw [if_pos (.inr (.inl (by rw [← hok]; exact h)))]
  obtain ⟨R, hR⟩ : ∃ R, R = genS H s := ⟨_, rfl⟩
  rw [← hR] at hg hg0 ⊢
  have HG := Lib.hid hg
  have HG0 := Lib.hid hg0
  have HW1 := Lib.hid hw1
  have HAT := Lib.hid hat
  have HSH := Lib.hid hSH
  have hRz : H = 0 → R = 0 := fun h => by rw [hR]; unfold genS; rw [if_pos (.inl h)]
  have HRZ := Lib.hid hRz
  have C0 := cell_of_row w1 _ 0 _ _ _ R0
  clear hg hg0 hw1 hat hSH hs hX hlaw ha hb' hc hdd hok htk hR hd hd1 hxl hRz hH
  go_enter Tryd.func35, Tryd.ntmps35
  go_upto_region 1 with (fail)
  rw [← HW1.out]
  go_upto_region 2 with (fail)
  rw [HSH.out]
  clear C0
  by_cases h0 : H = 0
  · have q0 : ((H : Int) == 0) = true := by simp [h0]
    have HF := Lib.hid (HRZ.out h0)
    clear h0
    go_wp2_with fail
    go_ret
    exact ⟨by rw [HF.out]; rfl, hb1⟩
  · have q0 : ((H : Int) == 0) = false := by simp; omega
    have C0 := cell_of_row w1 _ 0 _ _ _ R0
    have C1 := cell_of_row w1 _ 1 _ _ _ R0
    have C2 := cell_of_row w1 _ 2 _ _ _ R0
    have C3 := cell_of_row w1 _ 3 _ _ _ R0
    have H0 := Lib.hid h0
    clear h0
    go_wp2_with fail
    rw [← HAT.out]
    refine ks.mono ?_
    rintro e w2 ⟨rfl, hb2⟩
    have km := km w2
    clear ks C0 C1 C2 C3
    go_wp2_with fail
    refine km.mono ?_
    rintro e w3 ⟨rfl, hb3⟩
    clear km
    have hb03 : Below w.heap.size w w3 := (hb1.trans (hb2.mono hb1.size)).trans (hb3.mono (Nat.le_trans hb1.size hb2.size))
    obtain ⟨w4, hw4⟩ : ∃ w4, w4 = w3.alloc (.cells #[.int .i64 a, .int .i64 b, .int .i64 c, .int .i64 dd] 105) := ⟨_, rfl⟩
    have hb4 : Below w.heap.size w w4 := by rw [hw4]; exact hb03.alloc hb03.size _
    have R4 : w4.heap[w3.heap.size]? = some (.cells #[.int .i64 a, .int .i64 b, .int .i64 c, .int .i64 dd] 105 (0, 0)) := by rw [hw4]; exact heap_alloc_new w3 _
    have N0 := cell_of_row w4 _ 0 _ _ _ R4
    have N1 := cell_of_row w4 _ 1 _ _ _ R4
    have N2 := cell_of_row w4 _ 2 _ _ _ R4
    have HW4 := Lib.hid hw4
    have HB4 := Lib.hid hb4
    have kt := kt w4
    obtain ⟨c1, h1⟩ : ∃ x, (b != 0) = x := ⟨_, rfl⟩
    obtain ⟨c2, h2⟩ : ∃ x, decide ((H : Int) < tk) = x := ⟨_, rfl⟩
    have hfin : ok = true → R = if (c1 || c2) = true then 0 else a := fun h => by
      rw [HG.out h, ← h1, ← h2]
      by_cases hb0 : b = 0
      · simp [hb0, H0.out]
      · simp [hb0, H0.out]
    have HFIN := Lib.hid hfin
    clear hfin hw4 hb4 hb03 hb2 hb3 R4 hb1 hd
    go_upto_region 5 with (fail)
    rw [← HW4.out]
    cases ok with
    | false =>
      have HF := Lib.hid (HG0.out rfl)
      go_wp2_with fail
      go_ret
      exact ⟨by rw [HF.out]; rfl, HB4.out⟩
    | true =>
      have HF := Lib.hid (HFIN.out rfl)
      cases c1 with
      | true =>
        go_wp2_with fail
        go_ret
        exact ⟨by rw [HF.out]; rfl, HB4.out⟩
      | false =>
        cases c2 with
        | true =>
          go_wp2_with fail
          refine kt.mono ?_
          rintro e w9 ⟨rfl, rfl⟩
          go_wp2_with fail
          go_ret
          exact ⟨by rw [HF.out]; rfl, HB4.out⟩
        | false =>
          go_wp2_with fail
          refine kt.mono ?_
          rintro e w9 ⟨rfl, rfl⟩
          go_wp2_with fail
          go_ret
          exact ⟨by rw [HF.out]; rfl, HB4.out⟩
end Go.Proofs.YtaijompnohkmaaaDoor
/- Layer 5 (wal), the document's answer: a half's records. -/
namespace Go.Proofs.YtaijompnohkmaaaDoor
open Go.RowKit WalP PackP
theorem flat_short {L : List (List UInt8)} (h64 : ∀ s ∈ L, s.length = 64) {k m : Nat} (hk : k ≤ L.length) (hm : m ≤ 64 * k) : ((L.take k).flatten).take m = (L.flatten).take m := by
  have e : L.flatten = (L.take k).flatten ++ (L.drop k).flatten := by rw [← List.flatten_append, List.take_append_drop]
  rw [e, List.take_append_of_le_length]
  rw [flat64_eq _ (fun s hs => h64 s (List.mem_of_mem_take hs)), List.length_take, Nat.min_eq_left hk]
  exact hm
theorem round_parts2 {B : Nat} {wr w8 : World} {lv : Value} {list : List (List UInt8)} {a : Option Addr} {n c : Nat} {bs : List UInt8} (hw8 : w8 = wr.alloc (.cells #[.slice a n c] 43)) (h : RecsV B wr lv list) (hv : Bytes wr.heap.size wr (.slice a n c) bs) :
    Below wr.heap.size wr w8 ∧ Src Tryd.prog w8 (.slice (some ⟨wr.heap.size, 0, none⟩) 1 1) 1 1 [.slice a n c] ∧ ∃ vs : List Value, vs.length = list.length ∧ Own B w8 43 lv 1 list.length vs ∧ (∀ (k : Nat) (h : k < list.length), ∃ u, vs[k]? = some u ∧ Bytes w8.heap.size w8 u list[k] ∧ Apart lv u ∧ Sl (fun b => B ≤ b) u) ∧ Bytes w8.heap.size w8 (.slice a n c) bs := by
  have hb8 : Below wr.heap.size wr w8 := by rw [hw8]; exact Below.alloc (Below.refl _ _) (Nat.le_refl _) _
  obtain ⟨vs, h1, h2⟩ := h.below hb8
  refine ⟨hb8, ?_, vs, by have := h1.1; omega, h1, h2, (hv.below hb8).tight⟩
  rw [hw8]
  exact Row.src (B := wr.heap.size + 1) (Row.fresh (w := wr) rfl (Nat.le_refl _) (by decide) (fun k u hk => by simpa using hk))
theorem view_at (d : DiskP) (h : Int) (i : Nat) (hi : i < half d) : (viewP d h)[i]? = some (readP d (h * half d + i)).1 := by
  unfold viewP
  rw [List.getElem?_map, List.getElem?_range hi]; rfl
theorem view_len (d : DiskP) (h : Int) : (viewP d h).length = half d := by unfold viewP; simp
set_option maxRecDepth 100000 in
set_option maxHeartbeats 8000000 in
theorem refRecords_any {B : Nat} (v : Value) (d : DiskP) (h g : Int) (w : World) (hd : DiskV B w v d) (hS : d.secs.length ≤ 4096) (hh : h = 0 ∨ h = 1) :
    Calls Tryd.prog 36 #[v, .int .i64 h, .int .i64 g] w fun e w' => (∃ lv, e = .returned (.tuple #[lv, .int .i64 (refRecs (viewP d h) g).2.1, .int .i64 (refRecs (viewP d h) g).2.2]) ∧ PiecesS (fun b => w.heap.size ≤ b) w'.heap.size w' lv (refRecs (viewP d h) g).1) ∧ Below w.heap.size w w' := by
  have hd := hd.tight
  obtain ⟨p1, q1, p2, q2, rfl, _, _⟩ := hd.parts
  obtain ⟨w1, hw1⟩ : ∃ w1, w1 = w.alloc (.cells #[.slice p1 d.secs.length q1, .slice p2 d.loose.length q2, .int .i64 d.fuse, .bool d.down] 25) := ⟨_, rfl⟩
  have hb1 : Below w.heap.size w w1 := by rw [hw1]; exact Below.alloc (Below.refl _ _) (Nat.le_refl _) _
  have R0 : w1.heap[w.heap.size]? = some (.cells #[.slice p1 d.secs.length q1, .slice p2 d.loose.length q2, .int .i64 d.fuse, .bool d.down] 25 (0, 0)) := by rw [hw1]; exact heap_alloc_new w _
  have hd1 := (hd.below hb1).tight
  obtain ⟨l, hl⟩ : ∃ l, l = viewP d h := ⟨_, rfl⟩
  obtain ⟨N, hN⟩ : ∃ N, N = half d := ⟨_, rfl⟩
  have hSH : (d.secs.length : Int) / 2 = (N : Int) := by rw [hN]; unfold half; omega
  have hN2 : N ≤ 2048 := by rw [hN]; unfold half; omega
  have hm0 : 0 ≤ h * (N : Int) := by rcases hh with h | h <;> rw [h] <;> omega
  have hm1 : h * (N : Int) ≤ 4096 := by rcases hh with h | h <;> rw [h] <;> omega
  have hlen : l.length = N := by rw [hl, hN]; exact view_len d h
  have hat : ∀ i, i < N → l[i]? = some (readP d (h * (N : Int) + i)).1 := fun i hi => by rw [hl, hN]; exact view_at d h i (hN ▸ hi)
  have h64 : ∀ s ∈ l, s.length = 64 := fun s hs => by
    rw [hl] at hs
    unfold viewP at hs
    obtain ⟨i, _, rfl⟩ := List.mem_map.1 hs
    exact walReadLen hd1 _
  have ks : ∀ (i : Nat) (z : Int), i < N → z = h * (N : Int) + i → ∀ w', Below w1.heap.size w1 w' → ∃ s, l[i]? = some s ∧ s.length = 64 ∧ Calls Tryd.prog 65 #[.agg #[.slice p1 d.secs.length q1, .slice p2 d.loose.length q2, .int .i64 d.fuse, .bool d.down], .int .i64 z] w' fun e w'' => e = .returned (.agg (u8s s).toArray) ∧ Below w'.heap.size w' w'' := fun i z hi hz w' hb => by
    refine ⟨_, hat i hi, walReadLen hd1 _, ?_⟩
    rw [hz]
    exact refSector_any _ d _ w' (hd1.below hb)
  rw [← hl]
  have HW1 := Lib.hid hw1
  have HSH := Lib.hid hSH
  have HLEN := Lib.hid hlen
  have H64 := Lib.hid h64
  have KS := Lib.hid ks
  have HB1 := Lib.hid hb1
  have HR0 := Lib.hid R0
  have C0 := cell_of_row w1 _ 0 _ _ _ R0
  clear hw1 hSH hlen hat h64 ks hl hN hd hd1 hb1 R0
  go_enter Tryd.func36, Tryd.ntmps36
  go_upto_region 1 with (fail)
  rw [← HW1.out]
  go_upto_region 2 with (fail)
  rw [HSH.out]
  clear C0
  go_wp2_with fail
  go_loopw [10, 11] (fun lv u wr => ∃ (list : List (List UInt8)) (used f : Nat), RecsV w1.heap.size wr lv list ∧ u = .int .i64 used ∧ used ≤ N ∧ list.length ≤ used ∧ N + 1 ≤ f + used ∧ refRecs l g = refGo l g f list used ∧ Below w1.heap.size w1 wr) (fun _ u _ => N - (intOf u).toNat)
  case atStart => exact ⟨[], 0, N + 1, RecsV.nil _ _, rfl, Nat.zero_le _, Nat.zero_le _, by omega, by unfold refRecs; rw [HLEN.out], Below.refl _ _⟩
  case round =>
    obtain ⟨list, used, f, hlv, rfl, hu, hlu, hf, hrec, hb⟩ := hrel
    obtain ⟨la, lc, rfl⟩ := hlv.form
    have HLV := Lib.hid hlv
    have HREC := Lib.hid hrec
    have HB := Lib.hid hb
    clear hlv hrec hb
    obtain ⟨f, rfl⟩ : ∃ f', f = f' + 1 := ⟨f - 1, by omega⟩
    by_cases hun : used < N
    · have u0 : decide ((used : Int) < (N : Int)) = true := by simp; omega
      have hus : used < l.length := by rw [HLEN.out]; exact hun
      obtain ⟨s, hls, hsl, kc⟩ := KS.out used (h * (N : Int) + (used : Int)) hun rfl wr HB.out
      have hls2 : l[used] = s := by rw [List.getElem?_eq_getElem hus] at hls; exact Option.some.inj hls
      have R0 := (HB.out.block _ (block_lt HR0.out)).trans HR0.out
      have C0 := cell_of_row wr _ 0 _ _ _ R0
      have C1 := cell_of_row wr _ 1 _ _ _ R0
      have C2 := cell_of_row wr _ 2 _ _ _ R0
      have C3 := cell_of_row wr _ 3 _ _ _ R0
      obtain ⟨X, hX⟩ : ∃ X, X = (u8s s).toArray := ⟨_, rfl⟩
      have km := fun w => refMarkRead_any hsl w
      rw [← hX] at kc km
      have hlaw := (refread_law hsl).2
      obtain ⟨a, ha⟩ : ∃ x, x = nvK (rs0 s) 0 := ⟨_, rfl⟩
      obtain ⟨b, hb'⟩ : ∃ x, x = nvK (rs0 s) 1 := ⟨_, rfl⟩
      obtain ⟨c, hc⟩ : ∃ x, x = nvK (rs0 s) 2 := ⟨_, rfl⟩
      obtain ⟨dd, hdd⟩ : ∃ x, x = nvK (rs0 s) 3 := ⟨_, rfl⟩
      obtain ⟨ok, hok⟩ : ∃ x, x = (readMark s).2 := ⟨_, rfl⟩
      rw [← ha, ← hb', ← hc, ← hdd, ← hok] at km hlaw
      have hm : ok = true → readMark l[used] = (⟨a, b, c, dd⟩, true) := fun h => by rw [hls2]; exact Prod.ext (hlaw h) (by rw [← hok]; exact h)
      have hmf : ok = false → refGo l g (f + 1) list used = (list, used, 0) := fun h => ref_stop hus (m := (readMark l[used]).1) (ok := (readMark l[used]).2) rfl (.inl (by rw [hls2, ← hok]; exact h))
      obtain ⟨n, hn⟩ : ∃ n : Nat, takesZ c = (n : Int) := ⟨(takesZ c).toNat, by unfold takesZ; split <;> omega⟩
      have hn95 : n ≤ 95 := by unfold takesZ at hn; split at hn <;> omega
      have kt := fun w => refTakes_any c w
      rw [hn] at kt
      have HM := Lib.hid hm
      have HMF := Lib.hid hmf
      have HUS := Lib.hid hus
      have HNZ := Lib.hid hn
      clear hX hls hls2 hlaw ha hb' hc hdd hok hm hmf hn R0
      go_upto_region 5 with (fail)
      go_wp2_with fail
      refine kc.mono ?_
      rintro e w2 ⟨rfl, hb2⟩
      have km := km w2
      clear kc C0 C1 C2 C3
      go_wp2_with fail
      refine km.mono ?_
      rintro e w3 ⟨rfl, hb3⟩
      clear km
      obtain ⟨g4, hg4⟩ : ∃ g4, g4 = w3.heap.size := ⟨_, rfl⟩
      obtain ⟨w4, hw4⟩ : ∃ w4, w4 = w3.alloc (.cells #[.int .i64 a, .int .i64 b, .int .i64 c, .int .i64 dd] 105) := ⟨_, rfl⟩
      have hbr3 : Below wr.heap.size wr w3 := hb2.trans (hb3.mono hb2.size)
      have hbr4 : Below wr.heap.size wr w4 := by rw [hw4]; exact hbr3.alloc hbr3.size _
      have R4 : w4.heap[g4]? = some (.cells #[.int .i64 a, .int .i64 b, .int .i64 c, .int .i64 dd] 105 (0, 0)) := by rw [hw4, hg4]; exact heap_alloc_new w3 _
      have HW4 := Lib.hid hw4
      have HG4 := Lib.hid hg4
      have HBR4 := Lib.hid hbr4
      have HR4 := Lib.hid R4
      have HG4W := Lib.hid (show wr.heap.size ≤ g4 by rw [hg4]; exact hbr3.size)
      have HLV4 := Lib.hid (HLV.out.below hbr4)
      have HB4 := Lib.hid (HB.out.trans (hbr4.mono HB.out.size))
      clear hw4 hg4 hb2 hb3 hbr3 hbr4 R4
      go_upto_region 6 with (fail)
      rw [← HW4.out, ← HG4.out]
      have A0 := cell_of_row w4 _ 0 _ _ _ HR4.out
      have A1 := cell_of_row w4 _ 1 _ _ _ HR4.out
      have A2 := cell_of_row w4 _ 2 _ _ _ HR4.out
      have kt4 := kt w4
      have HBB := Lib.hid (HB1.out.trans (HB4.out.mono HB1.out.size))
      have hwu : IntKind.i64.wrap ((used : Int) + n) = ((used + n : Nat) : Int) := by
        simp only [IntKind.wrap, IntKind.bits, IntKind.signed]
        simp
        omega
      cases ok with
      | false =>
        have HR := Lib.hid (HREC.out.trans (HMF.out rfl))
        go_wp2_with fail
        refine bodyPost_ret (v := .tuple #[.slice la list.length lc, .int .i64 used, .int .i64 0]) (by simp [results, Tryd.results36, go_sem]) rfl ?_
        rw [HR.out]
        exact ⟨⟨_, rfl, HLV4.out.pieces.weak (fun b h => Nat.le_trans HB1.out.size h)⟩, HBB.out⟩
      | true =>
      have HMM := Lib.hid (HM.out rfl)
      clear HM
      obtain ⟨c1, h1⟩ : ∃ x, (a != g) = x := ⟨_, rfl⟩
      cases c1 with
      | true =>
        have HR := Lib.hid (HREC.out.trans (ref_stop hus HMM.out (.inr (.inl (by simpa using h1)))))
        go_wp2_with fail
        refine bodyPost_ret (v := .tuple #[.slice la list.length lc, .int .i64 used, .int .i64 0]) (by simp [results, Tryd.results36, go_sem]) rfl ?_
        rw [HR.out]
        exact ⟨⟨_, rfl, HLV4.out.pieces.weak (fun b h => Nat.le_trans HB1.out.size h)⟩, HBB.out⟩
      | false =>
      have hag : a = g := by simpa using h1
      have HAG := Lib.hid hag
      clear hag
      obtain ⟨c2, h2⟩ : ∃ x, (b != (list.length : Int)) = x := ⟨_, rfl⟩
      cases c2 with
      | true =>
        have HR := Lib.hid (HREC.out.trans (ref_stop hus HMM.out (.inr (.inr (.inl (by simpa using h2))))))
        go_wp2_with fail
        refine bodyPost_ret (v := .tuple #[.slice la list.length lc, .int .i64 used, .int .i64 0]) (by simp [results, Tryd.results36, go_sem]) rfl ?_
        rw [HR.out]
        exact ⟨⟨_, rfl, HLV4.out.pieces.weak (fun b h => Nat.le_trans HB1.out.size h)⟩, HBB.out⟩
      | false =>
      have hbl : b = (list.length : Int) := by simpa using h2
      have HBL := Lib.hid hbl
      clear hbl
      by_cases h3 : N - used < n
      · have k3 : decide ((N : Int) < ((used + n : Nat) : Int)) = true := by simp; omega
        have HR := Lib.hid (HREC.out.trans (ref_stop hus HMM.out (.inr (.inr (.inr (by show l.length - used < (takesZ c).toNat; rw [HNZ.out, HLEN.out]; omega))))))
        go_wp2_with fail
        refine kt4.mono ?_
        rintro e w9 ⟨rfl, rfl⟩
        clear kt4
        go_wp2_with fail
        refine bodyPost_ret (v := .tuple #[.slice la list.length lc, .int .i64 used, .int .i64 0]) (by simp [results, Tryd.results36, go_sem]) rfl ?_
        rw [HR.out]
        exact ⟨⟨_, rfl, HLV4.out.pieces.weak (fun b h => Nat.le_trans HB1.out.size h)⟩, HBB.out⟩
      · have k3 : decide ((N : Int) < ((used + n : Nat) : Int)) = false := by simp; omega
        obtain ⟨hc1, hc2, hc3⟩ : 1 ≤ c ∧ c ≤ 6000 ∧ (n : Int) = 1 + (c + 63) / 64 := by
          have h0 : 0 < takesZ c := mark_takes HMM.out
          have h1 := HNZ.out
          unfold takesZ at h0 h1
          split at h0
          · omega
          · rename_i h2
            rw [if_neg h2] at h1
            omega
        obtain ⟨k, hk⟩ : ∃ k : Nat, n = k + 1 := ⟨n - 1, by omega⟩
        obtain ⟨cn, hcn⟩ : ∃ cn : Nat, c = (cn : Int) := ⟨c.toNat, by omega⟩
        subst hcn
        have hkc : cn ≤ 64 * k := by omega
        have hck : 64 * k < cn + 64 := by omega
        have hcn6 : cn ≤ 6000 := by omega
        have HK := Lib.hid hk
        have HUN := Lib.hid (show used + n ≤ N ∧ 1 ≤ n by omega)
        clear hk hc1 hc2 hc3
        go_wp2_with fail
        refine kt4.mono ?_
        rintro e w9 ⟨rfl, rfl⟩
        clear kt4 A0 A1
        go_wp2_with fail
        obtain ⟨wo, hwo⟩ : ∃ wo, wo = wr := ⟨_, rfl⟩
        subst hwo
        obtain ⟨z0, hz0, hzr⟩ := zero44
        have HZ0 := Lib.hid hz0
        have HZR := Lib.hid hzr
        clear hz0 hzr A2
        go_loopw [14, 15] (fun bv z wx => ∃ j : Nat, j ≤ cn ∧ z = .int .i64 j ∧ OwnB w4.heap.size wx bv ((l.drop (used + 1)).flatten.take j) ∧ Below w4.heap.size w4 wx) (fun _ z _ => cn - (intOf z).toNat)
        case atStart => exact ⟨0, Nat.zero_le _, rfl, Own.none _ _ _ _ _, Below.refl _ _⟩
        case round =>
          obtain ⟨j, hj, rfl, hown, hbx⟩ := hrel
          have hM := (hbx.block g4 (block_lt HR4.out)).trans HR4.out
          have hb1r := HB4.out.trans (hbx.mono HB4.out.size)
          have HOWN := Lib.hid hown
          have HBX := Lib.hid hbx
          have A2 := cell_of_row wr _ 2 _ _ _ hM
          by_cases hjk : j < cn
          · have j0 : decide ((j : Int) < (cn : Int)) = true := by simp; omega
            have hkk := HK.out
            obtain ⟨s', hls, hsl', kc⟩ := KS.out (used + 1 + j / 64) (h * (N : Int) + (used : Int) + 1 + (j : Int) / 64) (by omega) (by omega) wr hb1r
            have R0 := (hb1r.block _ (block_lt HR0.out)).trans HR0.out
            have C0 := cell_of_row wr _ 0 _ _ _ R0
            have C1 := cell_of_row wr _ 1 _ _ _ R0
            have C2 := cell_of_row wr _ 2 _ _ _ R0
            have C3 := cell_of_row wr _ 3 _ _ _ R0
            obtain ⟨Y, hY⟩ : ∃ Y, Y = (u8s s').toArray := ⟨_, rfl⟩
            have hYs : Y.size = 64 := by rw [hY]; simp [length_u8s, hsl']
            have hYo : ∀ v ∈ Y.toList, v.oneCell' = true := by rw [hY]; exact oneCell_u8s _
            rw [← hY] at kc
            have hjm : j % 64 < s'.length := by rw [hsl']; exact Nat.mod_lt _ (by decide)
            have hstep := flat_byte (l := l) H64.out (u := used + 1) (i := j) (by rw [HLEN.out]; omega) hls hjm
            have hcY : Y[j % 64]? = some (.int .u8 (s'[j % 64].toNat : Int)) := by rw [hY]; simpa using u8s_at hjm
            obtain ⟨cv, hcv⟩ : ∃ cv, cv = s'[j % 64] := ⟨_, rfl⟩
            rw [← hcv] at hstep hcY
            have HSTEP := Lib.hid hstep
            have HY := Lib.hid (show Y.size = 64 ∧ (∀ v ∈ Y.toList, v.oneCell' = true) ∧ Y[j % 64]? = some (.int .u8 (cv.toNat : Int)) from ⟨hYs, hYo, hcY⟩)
            clear hown hbx hM hb1r hls hsl' R0 hY hYs hYo hjm hstep hcY hcv hkk
            go_wp2_with fail
            refine kc.mono ?_
            rintro e w5 ⟨rfl, hb5⟩
            obtain ⟨w7, hw7, s7, g7, l7, hgg⟩ := box_alloc HZ0.out hb5
            obtain ⟨w8, hst, hbox⟩ := box_store HY.out.1 HY.out.2.1 g7 hgg s7
            have HW7 := Lib.hid hw7
            have HBOX := Lib.hid hbox
            have HST := Lib.hid hst
            clear kc C0 C1 C2 C3 hw7 s7 g7 l7 hgg hst hbox
            go_wp2_with (refine wp_alloc_to (w' := w7) 73 rfl rfl (HZR.out _) HW7.out ?_; refine Halt.in ?_)
            refine Halt.out ?_
            refine wp_store_at (.tmp 16) (.tmp 75) 73 rfl rfl rfl rfl HST.out ?_
            obtain ⟨g5, hg5⟩ : ∃ g, g = w5.heap.size := ⟨_, rfl⟩
            rw [← hg5] at HBOX ⊢
            have hcell : w8.cell? ⟨g5, j % 64, none⟩ = some (.int .u8 (cv.toNat : Int)) := by
              rw [cell_of_row w8 g5 (j % 64) _ _ _ HBOX.out.2.1]
              exact HY.out.2.2
            have HG5 := Lib.hid hg5
            clear hg5
            have hb58 : Below wr.heap.size wr w8 := HBOX.out.2.2
            have hb89 : Below w8.heap.size w8 (w8.alloc (.cells #[.int .u8 (cv.toNat : Int)] 5)) := Below.alloc (Below.refl _ _) (Nat.le_refl _) _
            have hb9 : Below wr.heap.size wr (w8.alloc (.cells #[.int .u8 (cv.toNat : Int)] 5)) := hb58.trans (hb89.mono hb58.size)
            have hown9 : OwnB w4.heap.size (w8.alloc (.cells #[.int .u8 (cv.toNat : Int)] 5)) u14 ((l.drop (used + 1)).flatten.take j) := HOWN.out.below hb9 (Nat.le_refl _)
            have hsrc9 : Src Tryd.prog (w8.alloc (.cells #[.int .u8 (cv.toNat : Int)] 5)) (.slice (some ⟨w8.heap.size, 0, none⟩) 1 1) 1 [cv].length (u8s [cv]) := Row.src (B := w8.heap.size + 1) (Row.fresh (w := w8) rfl (Nat.le_refl _) (by decide) (fun k u hk => by simpa [u8s, Go.Proofs.YtaijompnohkmaaaDoor.u8] using hk))
            have hl46 : ((l.drop (used + 1)).flatten.take j).length + [cv].length ≤ 2 ^ 46 := by
              have : ((l.drop (used + 1)).flatten.take j).length ≤ j := List.length_take_le _ _
              simp only [List.length_singleton]
              omega
            have hB9 : w4.heap.size ≤ (w8.alloc (.cells #[.int .u8 (cv.toNat : Int)] 5)).heap.size := Nat.le_trans HBX.out.size hb9.size
            have HSR := Lib.hid hsrc9
            have HL46 := Lib.hid hl46
            have HB9 := Lib.hid hb9
            clear hsrc9 hl46 hb58 hb89 hb9 hb5
            go_wp2_with (at_builtin; refine ap_u8 rfl (.tmp 76) (.tmp 81) 43 rfl (.inl ⟨_, Tryd.underlying43⟩) rfl rfl hown9 HSR.out HL46.out hB9 ?_; intro v2 w10 hown2 hb2)
            have HF := Lib.hid (show OwnB w4.heap.size w10 v2 ((l.drop (used + 1)).flatten.take (j + 1)) by rw [HSTEP.out]; exact hown2)
            have HBF := Lib.hid ((HBX.out.trans (HB9.out.mono HBX.out.size)).trans (hb2.mono (by have := HB9.out.size; have := HBX.out.size; omega)))
            clear hown2 hb2 hown9 hB9
            go_wp2_with fail
            go_roundw
            case rel => exact ⟨j + 1, by omega, by go_num, HF.out, HBF.out⟩
            case measure => simp [intOf]; omega
          · have j0 : decide ((j : Int) < (cn : Int)) = false := by simp; omega
            obtain rfl : j = cn := by omega
            have hkk := HK.out
            obtain ⟨bs, hbs⟩ : ∃ bs, bs = (l.drop (used + 1)).flatten.take j := ⟨_, rfl⟩
            have hfl : bs = ((l.drop (used + 1)).take (n - 1)).flatten.take ((j : Int)).toNat := by
              rw [hbs, Int.toNat_natCast, flat_short (fun s hs => H64.out s (List.mem_of_mem_drop hs)) (by rw [List.length_drop, HLEN.out]; omega) (by omega)]
            have hbl : bs.length = j := by
              rw [hbs, List.length_take, flat64_eq _ (fun s hs => H64.out s (List.mem_of_mem_drop hs)), List.length_drop, HLEN.out]
              omega
            have hstep := ref_step (l := l) (f := f) (g := g) (list := list) hus HMM.out HNZ.out HAG.out HBL.out (by rw [HLEN.out]; exact h3) bs hfl
            have hb9 := HOWN.out.bytes
            rw [← hbs] at hb9 hown
            obtain ⟨_, a9, c9, rfl, hl9, hc9, _⟩ := id hb9
            have hA3 : ∀ w', Below wr.heap.size wr w' → w'.cell? ⟨g4, 3, none⟩ = some (.int .i64 dd) := fun w' h => cell_of_row w' _ 3 _ _ _ ((h.block _ (block_lt hM)).trans hM)
            have h00 : Below wr.heap.size wr wr.drew := below_draws (Below.refl _ _) 1
            have ks := refSum_any _ bs wr.drew wr.heap.size (hb9.below h00)
            obtain ⟨sm, hsm⟩ : ∃ s, s = SumP.toI (SumP.sum bs) := ⟨_, rfl⟩
            have hs0 : 0 ≤ sm := by rw [hsm]; exact SumP.toI_lo _
            have hs1' : sm < 2 ^ 32 := by rw [hsm]; exact SumP.toI_hi _
            have hws : IntKind.i64.wrap sm = sm := by
              simp only [IntKind.wrap, IntKind.bits, IntKind.signed]
              simp
              omega
            rw [← hsm, hbl] at ks
            rw [← hsm] at hstep
            dsimp only at hstep
            have HSTEP := Lib.hid hstep
            have HB9 := Lib.hid hb9
            have HOWN := Lib.hid hown
            have HBL := Lib.hid hbl
            clear hstep hsm hbs hfl hown hb9 hbx hs0 hs1'
            rw [hbl]
            clear hbl hkk hl9 hc9
            have hall : Below w.heap.size w wr := HB1.out.trans (hb1r.mono HB1.out.size)
            have HALL := Lib.hid hall
            have HB1R := Lib.hid hb1r
            have HMR := Lib.hid hM
            clear hall hb1r hM
            go_upto_region 13 with (fail)
            by_cases hsd : sm = dd
            · have sd : (sm != dd) = false := by simp [hsd]
              have HSD := Lib.hid hsd
              clear hsd
              refine wp_region_I [(false, 0), (false, 3), (false, 4), (true, 1), (false, 2), (false, 5)] (fun w' => Below wr.heap.size wr w') (by kernel_rfl) (by kernel_rfl) h00 ?_
              repeat (first | (refine heldI_skip rfl rfl ?_; simp only [Act.put, List.setIfInBounds_toArray, List.set_cons_zero, List.set_cons_succ]) | (refine heldI_take rfl ?_ rfl (fun w' hw' => ?_) ?_; rotate_left; (go_simp; first | done | with_reducible rfl); (try simp only [Act.put, List.setIfInBounds_toArray, List.set_cons_zero, List.set_cons_succ])))
              refine heldI_act rfl rfl fun K hK => ?_
              go_simp
              refine ks.mono ?_
              rintro e w9 ⟨rfl, rfl⟩
              refine hK.out _ _ h00 ?_
              clear hK K ks hA3
              repeat (first | (refine heldI_skip rfl rfl ?_; simp only [Act.put, List.setIfInBounds_toArray, List.set_cons_zero, List.set_cons_succ]) | (refine heldI_take rfl ?_ rfl (fun w' hw' => ?_) ?_; rotate_left; (go_simp; first | done | with_reducible rfl); (try simp only [Act.put, List.setIfInBounds_toArray, List.set_cons_zero, List.set_cons_succ])))
              refine heldI_nil ?_
              have hel3 := (HLV4.out.below HBX.out).below h00
              have hv9 : Bytes wr.drew.heap.size wr.drew (.slice a9 j c9) bs := by rw [← HBL.out]; exact HB9.out.below h00
              have hap : Apart (.slice la list.length lc) (.slice a9 j c9) := HLV4.out.apart9 (d := c9) HOWN.out (Nat.le_refl _) (by rw [HBL.out]; exact Nat.le_refl _)
              have hsl := sl9 (B := w1.heap.size) (m := j) (d := c9) HOWN.out HB4.out.size (by rw [HBL.out]; exact Nat.le_refl _)
              obtain ⟨hb8, hsrc8, vs, hvl, hown8, hel8, hv8⟩ := round_parts2 (w8 := wr.drew.alloc (.cells #[.slice a9 j c9] 43)) rfl hel3 hv9
              have HB8 := Lib.hid hb8
              have HEL8 := Lib.hid hel8
              have HV8 := Lib.hid hv8
              have HVL := Lib.hid hvl
              have HAP := Lib.hid hap
              have HSL9 := Lib.hid hsl
              have hr8 : Below wr.heap.size wr (wr.drew.alloc (.cells #[.slice a9 j c9] 43)) := h00.trans hb8
              have HR8 := Lib.hid hr8
              have hone8 : ∀ u ∈ [Value.slice a9 j c9], u.oneCell' = true := fun u hu => by rw [List.mem_singleton.1 hu]; rfl
              obtain ⟨i0, z0, hi0, hz0, hz1, hz2, hz3⟩ := zero_parts infoz_bytes
              have R1 : list.length + 1 ≤ maxLen := by unfold maxLen; omega
              have R2 : (list.length + 1) * 24 ≤ 140737488355328 := by omega
              have hB8 : w1.heap.size ≤ (wr.drew.alloc (.cells #[.slice a9 j c9] 43)).heap.size := Nat.le_trans HB1R.out.size hr8.size
              clear hb8 hel8 hv8 hv9 hvl hap hel3 hsl hr8
              go_wp2_with (at_builtin; refine wp_append_apart rfl (.tmp 89) (.tmp 91) 31 31 43 rfl i0 z0 1 24 Tryd.underlying31 (.inl ⟨_, Tryd.underlying31⟩) hi0 hz0 hz1 hz2 hz3 rfl rfl hown8 hsrc8 hone8 R1 R2 hB8 (Nat.lt_succ_self 0) ?_; intro v2 w11 hown11 hb11 hg11; refine Halt.in ?_)
              refine Halt.out ?_
              have HR11 := Lib.hid (RecsV.snoc HVL.out hown11 HEL8.out HV8.out HAP.out HSL9.out hg11)
              have hvv := HLV.out
              have hap4 : Apart (.slice la list.length lc) (.slice (some ⟨g4, 0, none⟩) 4 4) := by
                obtain ⟨vs', hv1, _⟩ := hvv
                obtain ⟨_, a', c', hv', _, _, h4'⟩ := hv1
                cases hv'
                intro x n1 c1 y m1 e1 hx hy hc0 _
                cases hx
                cases hy
                rcases h4' with h0 | ⟨g', cur, he, _, hh', _⟩
                · omega
                · cases he
                  have h1' := block_lt hh'
                  have h2' := HG4W.out
                  show g' ≠ g4
                  omega
              have hM8 := (HR8.out.block _ (block_lt HMR.out)).trans HMR.out
              have hrow4 : Row (wr.drew.alloc (.cells #[.slice a9 j c9] 43)).heap.size (wr.drew.alloc (.cells #[.slice a9 j c9] 43)) (.slice (some ⟨g4, 0, none⟩) 4 4) 1 4 [.int .i64 a, .int .i64 b, .int .i64 j, .int .i64 dd] :=
                row_of_heap hM8 (block_lt hM8) rfl (Nat.le_refl _) (by decide) (fun k u hk => by simpa using hk)
              have hg := (Row.grew hrow4 (Nat.le_refl _) hg11 hap4).1
              have A2 : w11.cell? ⟨g4, 2, none⟩ = some (.int .i64 j) := by
                obtain ⟨_, a', c', hv', _, _, h4'⟩ := hg
                cases hv'
                obtain ⟨b', o', he, _, hc'⟩ := h4' (by decide)
                cases he
                have h := hc' 2 (.int .i64 j) rfl
                simpa using h
              have HB11 := Lib.hid ((HB1R.out.trans (HR8.out.mono HB1R.out.size)).trans hb11)
              have kt := kt w11
              clear hsrc8 hone8 hi0 hz0 hz1 hz2 hz3 hown8 R1 R2 hB8 hown11 hb11 hg11 hap4 hM8 hrow4 hg hvv
              go_wp2_with fail
              refine kt.mono ?_
              rintro e w9 ⟨rfl, rfl⟩
              clear kt A2
              go_wp2_with fail
              go_roundw
              case rel =>
                obtain ⟨hun1, hun2⟩ := HUN.out
                refine ⟨list ++ [bs], used + n, f, HR11.out, rfl, by omega, by rw [List.length_append, List.length_singleton]; omega, by omega, ?_, HB11.out⟩
                rw [HREC.out, HSTEP.out, if_neg (fun h => h HSD.out)]
              case measure => have hun1 := HUN.out; simp [intOf]; omega
            · have sd : (sm != dd) = true := by simp [hsd]
              have hall : refRecs l g = ([], 0, 10) := by
                rw [HREC.out, HSTEP.out, if_pos hsd]
              have HA := Lib.hid hall
              clear hsd hall
              refine wp_region_I [(false, 0), (false, 3), (false, 4), (true, 1), (false, 2), (false, 5)] (fun w' => Below wr.heap.size wr w') (by kernel_rfl) (by kernel_rfl) h00 ?_
              repeat (first | (refine heldI_skip rfl rfl ?_; simp only [Act.put, List.setIfInBounds_toArray, List.set_cons_zero, List.set_cons_succ]) | (refine heldI_take rfl ?_ rfl (fun w' hw' => ?_) ?_; rotate_left; (go_simp; first | done | with_reducible rfl); (try simp only [Act.put, List.setIfInBounds_toArray, List.set_cons_zero, List.set_cons_succ])))
              refine heldI_act rfl rfl fun K hK => ?_
              go_simp
              refine ks.mono ?_
              rintro e w9 ⟨rfl, rfl⟩
              refine hK.out _ _ h00 ?_
              clear hK K ks hA3
              repeat (first | (refine heldI_skip rfl rfl ?_; simp only [Act.put, List.setIfInBounds_toArray, List.set_cons_zero, List.set_cons_succ]) | (refine heldI_take rfl ?_ rfl (fun w' hw' => ?_) ?_; rotate_left; (go_simp; first | done | with_reducible rfl); (try simp only [Act.put, List.setIfInBounds_toArray, List.set_cons_zero, List.set_cons_succ])))
              refine heldI_nil ?_
              go_wp2_with fail
              refine bodyPost_ret (v := .tuple #[.slice none 0 0, .int .i64 0, .int .i64 10]) (by simp [results, Tryd.results36, go_sem]) rfl ?_
              rw [HA.out]
              exact ⟨⟨_, rfl, (RecsV.nil w.heap.size _).pieces⟩, below_draws HALL.out 1⟩
    · have u0 : decide ((used : Int) < (N : Int)) = false := by simp; omega
      have HR := Lib.hid (HREC.out.trans (ref_end (by rw [HLEN.out]; exact hun)))
      have HBB := Lib.hid (HB1.out.trans (HB.out.mono HB1.out.size))
      go_wp2_with fail
      refine bodyPost_ret (v := .tuple #[.slice la list.length lc, .int .i64 used, .int .i64 0]) (by simp [results, Tryd.results36, go_sem]) rfl ?_
      rw [HR.out]
      exact ⟨⟨_, rfl, HLV.out.pieces.weak (fun b h => Nat.le_trans HB1.out.size h)⟩, HBB.out⟩
end Go.Proofs.YtaijompnohkmaaaDoor
