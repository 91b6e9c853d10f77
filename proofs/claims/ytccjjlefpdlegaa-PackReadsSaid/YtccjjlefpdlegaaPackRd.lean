/- Layer 3 (pack): the readers, the code's and the reference's. -/
import Derived.Test.YtccjjlefpdlegaaPack
import Derived.Test.YtccjjlefpdlegaaConv
namespace Go.Proofs.Ytccjjlefpdlegaa
open Go.RowKit PackP
/-- A reader of type T lies whole in block g; its bytes lie below block B. -/
def RdAt (T : TypeId) (B g : Nat) (w : World) (r : RS) : Prop := ∃ v, w.heap[g]? = some (.cells #[v, .int .i64 r.e] T (0, 0)) ∧ Bytes B w v r.b ∧ B ≤ g
theorem RdAt.far {T : TypeId} {B g : Nat} {w w' : World} {r : RS} {row : Option Nat} (h : RdAt T B g w r) (hg : w.grownBy w' row) (hr : ∀ k, row = some k → B ≤ k ∧ k ≠ g) : RdAt T B g w' r := by
  obtain ⟨v, h1, h2, h3⟩ := h
  refine ⟨v, ?_, ?_, h3⟩
  · rw [hg.block g (block_lt h1) (fun e => (hr g e.symm).2 rfl)]; exact h1
  · obtain ⟨a1, a, cap, rfl, a2, a3, a4⟩ := h2
    refine ⟨a1, a, cap, rfl, a2, a3, fun hn => ?_⟩
    obtain ⟨b, off, rfl, b1, b2⟩ := a4 hn
    refine ⟨b, off, rfl, b1, fun k u hk => ?_⟩
    have hb := block_lt h1
    rw [World.cell?_of_block (hg.block b (by omega) (fun e => by have := (hr b e.symm).1; omega))]
    exact b2 k u hk
theorem Row.take {B : Nat} {w : World} {a : Option Addr} {cap sz n : Nat} {cs : List Value} (h : Row B w (.slice a n cap) sz n cs) (k : Nat) (hk : k ≤ n) : Row B w (.slice a k cap) sz k (cs.take (k * sz)) := by
  obtain ⟨h1, a', cap', hv, h2, h3, h4⟩ := h
  obtain ⟨rfl, rfl⟩ : a = a' ∧ cap = cap' := by cases hv; exact ⟨rfl, rfl⟩
  have hm : k * sz ≤ n * sz := Nat.mul_le_mul_right _ hk
  refine ⟨by rw [List.length_take, h1]; omega, a, cap, rfl, by omega, h3, fun hn => ?_⟩
  obtain ⟨b, off, rfl, h5, h6⟩ := h4 (by omega)
  refine ⟨b, off, rfl, h5, fun j u hj => ?_⟩
  rw [List.getElem?_take] at hj
  split at hj
  · exact h6 j u hj
  · cases hj
theorem Row.drop {B : Nat} {w : World} {a : Option Addr} {cap sz n : Nat} {cs : List Value} (h : Row B w (.slice a n cap) sz n cs) (k : Nat) (hk : k ≤ n) :
    Row B w (.slice (if cap = k then a else a.map (·.add (k * sz))) (n - k) (cap - k)) sz (n - k) (cs.drop (k * sz)) := by
  obtain ⟨h1, a', cap', hv, h2, h3, h4⟩ := h
  obtain ⟨rfl, rfl⟩ : a = a' ∧ cap = cap' := by cases hv; exact ⟨rfl, rfl⟩
  refine ⟨by rw [List.length_drop, h1, Nat.sub_mul], _, cap - k, rfl, by omega, by omega, fun hn => ?_⟩
  obtain ⟨b, off, rfl, h5, h6⟩ := h4 (by omega)
  refine ⟨b, off + k * sz, ?_, h5, fun j u hj => ?_⟩
  · rw [if_neg (by omega)]
    simp only [Option.map_some]
    congr 1
    unfold Addr.add; split <;> simp_all
  · rw [List.getElem?_drop] at hj
    rw [Nat.add_assoc]
    exact h6 _ u hj
theorem u8s_take (bs : List UInt8) (k : Nat) : (u8s bs).take k = u8s (bs.take k) := by unfold u8s; rw [List.map_take]
theorem u8s_drop (bs : List UInt8) (k : Nat) : (u8s bs).drop k = u8s (bs.drop k) := by unfold u8s; rw [List.map_drop]
/-- Bytes cut: what s[:k] and s[k:] are. -/
theorem run_slice_to {P : Program} {t e : TypeId} {i : TypeInfo} (ht : P.underlying t = some (.slice e)) (hi : P.info? e = some i) {B : Nat} {w : World} {a : Option Addr} {cap : Nat} {bs : List UInt8} (h : Bytes B w (.slice a bs.length cap) bs) (k : Nat) (hk : k ≤ bs.length) :
    ∃ v', (∀ w', (Instr.slice t (.slice a bs.length cap) none (some (.int .i64 k)) none).run P w' = .ok v' w') ∧ Bytes B w v' (bs.take k) := by
  have hc : bs.length ≤ cap := by obtain ⟨_, a', cap', hv, h2, _⟩ := h; cases hv; exact h2
  refine ⟨.slice a k cap, fun w' => ?_, ?_⟩
  · have h0 : (0 : Int) ≤ (k : Int) := by omega
    have h1 : (k : Int) ≤ (cap : Int) := by omega
    simp [Instr.slice, run_underlying ht, Instr.sliceBounds, run_sliceBound, sizeOf, typeInfo, hi, h0, h1]
    intros; cases a <;> simp [Addr.add]
  · have := Row.take h k hk
    unfold Bytes
    rw [List.length_take, Nat.min_eq_left hk, ← u8s_take]
    simpa using this
theorem run_slice_from {P : Program} {t e : TypeId} {i : TypeInfo} (ht : P.underlying t = some (.slice e)) (hi : P.info? e = some i) (hsz : i.size = 1) {B : Nat} {w : World} {a : Option Addr} {cap : Nat} {bs : List UInt8} (h : Bytes B w (.slice a bs.length cap) bs) (k : Nat) (hk : k ≤ bs.length) :
    ∃ v', (∀ w', (Instr.slice t (.slice a bs.length cap) (some (.int .i64 k)) none none).run P w' = .ok v' w') ∧ Bytes B w v' (bs.drop k) := by
  refine ⟨.slice (if cap = k then a else a.map (·.add (k * 1))) (bs.length - k) (cap - k), fun w' => ?_, ?_⟩
  · have h0 : (0 : Int) ≤ (k : Int) := by omega
    have h1 : (k : Int) ≤ (bs.length : Int) := by omega
    simp [Instr.slice, run_underlying ht, Instr.sliceBounds, run_sliceBound, sizeOf, typeInfo, hi, hsz, h0, h1]
  · have := Row.drop h k hk
    unfold Bytes
    rw [List.length_drop, ← u8s_drop]
    simpa using this
theorem RdAt.parts {T : TypeId} {B g : Nat} {w : World} {r : RS} (h : RdAt T B g w r) : ∃ v, w.heap[g]? = some (.cells #[v, .int .i64 r.e] T (0, 0)) ∧ Bytes B w v r.b ∧ B ≤ g ∧
    w.cell? ⟨g, 0, none⟩ = some v ∧ w.cell? ⟨g, 1, none⟩ = some (.int .i64 r.e) ∧ w.frozen? ⟨g, 0, none⟩ = false ∧ w.frozen? ⟨g, 1, none⟩ = false := by
  obtain ⟨v, h1, h2, h3⟩ := h
  exact ⟨v, h1, h2, h3, cell_of_row w g 0 _ T (0, 0) h1, cell_of_row w g 1 _ T (0, 0) h1, by simp [World.frozen?, h1], by simp [World.frozen?, h1]⟩
theorem bytes_set {B g o : Nat} {w : World} {u v : Value} {bs : List UInt8} (h : Bytes B w v bs) (hg : B ≤ g) : Bytes B (w.setCell ⟨g, o, none⟩ u) v bs :=
  Bytes.below h (Below.setCell (Below.refl B w) (p := ⟨g, o, none⟩) hg u)
theorem RdAt.setE {T : TypeId} {B g : Nat} {w : World} {r : RS} (h : RdAt T B g w r) (x : Int) : RdAt T B g (w.setCell ⟨g, 1, none⟩ (.int .i64 x)) { r with e := x } := by
  obtain ⟨v, h1, h2, h3⟩ := h
  exact ⟨v, by simp [World.setCell, Array.getElem?_modify, h1], bytes_set h2 h3, h3⟩
theorem RdAt.setB {T : TypeId} {B g : Nat} {w : World} {r : RS} (h : RdAt T B g w r) (v' : Value) (bs : List UInt8) (hv : Bytes B w v' bs) : RdAt T B g (w.setCell ⟨g, 0, none⟩ v') { r with b := bs } := by
  obtain ⟨v, h1, h2, h3⟩ := h
  exact ⟨v', by simp [World.setCell, Array.getElem?_modify, h1], bytes_set hv h3, h3⟩
theorem only_set (w : World) (g o : Nat) (u : Value) : w.grownBy (w.setCell ⟨g, o, none⟩ u) (some g) :=
  ⟨rfl, rfl, rfl, by simp [World.setCell], fun i hi hne => Below.heap_setCell w ⟨g, o, none⟩ u i (by rintro rfl; exact hne rfl)⟩
theorem only_trans {a b c : World} {row : Option Nat} (h : a.grownBy b row) (k : b.grownBy c row) : a.grownBy c row :=
  ⟨k.os.trans h.os, k.tape.trans h.tape, k.output.trans h.output, Nat.le_trans h.size k.size, fun i hi hne => (k.block i (Nat.lt_of_lt_of_le hi h.size) hne).trans (h.block i hi hne)⟩
theorem only_refl (w : World) (row : Option Nat) : w.grownBy w row := ⟨rfl, rfl, rfl, Nat.le_refl _, fun _ _ _ => rfl⟩
theorem below_of_only {a b : World} {g B : Nat} (h : a.grownBy b (some g)) (hB : B ≤ g) (hs : B ≤ a.heap.size) : Below B a b :=
  ⟨h.os, h.tape, h.output, h.size, fun k hk => h.block k (by omega) (fun e => by injection e; omega)⟩
/-- What a reader's method leaves: the reader as it says, and nothing else has turned. -/
def RdEnd (T : TypeId) (B g : Nat) (w w' : World) (r : RS) : Prop := RdAt T B g w' r ∧ w.grownBy w' (some g)
set_option maxRecDepth 100000 in
set_option maxHeartbeats 1000000 in
theorem fail_any (B g : Nat) (w : World) (r : RS) (bad : Bool) (x : Int) (h : RdAt 73 B g w r) :
    Calls Try.prog 48 #[.pointer (some ⟨g, 0, none⟩), .bool bad, .int .i64 x] w fun e w' => e = .returned (.tuple #[]) ∧ RdEnd 73 B g w w' (r.fail bad x) := by
  have H := Lib.hid h
  obtain ⟨v, _, _, _, _, hc1, _, hf1⟩ := h.parts
  obtain ⟨E, hE⟩ : ∃ E, E = r.e := ⟨_, rfl⟩
  rw [← hE] at hc1
  cases bad with
  | false =>
    have hr : r.fail false x = r := by simp [RS.fail]
    have HR := Lib.hid hr
    clear hr hE h
    go_enter Try.func48, Try.ntmps48
    go_wp2
    go_end0
    exact ⟨rfl, by rw [HR.out]; exact ⟨H.out, only_refl _ _⟩⟩
  | true =>
    by_cases h0 : E = 0
    · have hr : r.fail true x = { r with e := x } := by simp [RS.fail, ← hE, h0]
      have HR := Lib.hid hr
      subst h0
      clear hr hE h
      go_enter Try.func48, Try.ntmps48
      go_wp2
      go_end0
      exact ⟨rfl, by rw [HR.out]; exact ⟨H.out.setE x, only_set _ _ _ _⟩⟩
    · have hr : r.fail true x = r := by simp [RS.fail, ← hE, h0]
      have HR := Lib.hid hr
      have t0 : (E == 0) = false := by rw [beq_eq_false_iff_ne]; exact h0
      clear hr hE h h0
      go_enter Try.func48, Try.ntmps48
      go_wp2
      go_end0
      exact ⟨rfl, by rw [HR.out]; exact ⟨H.out, only_refl _ _⟩⟩
theorem RdAt.cut {T : TypeId} {B g : Nat} {w : World} {r : RS} (h : RdAt T B g w r) (n : Nat) (hn : n ≤ r.b.length) : ∃ a cap v1 a2 l2 c2,
    w.cell? ⟨g, 0, none⟩ = some (.slice a r.b.length cap) ∧ w.cell? ⟨g, 1, none⟩ = some (.int .i64 r.e) ∧ w.frozen? ⟨g, 0, none⟩ = false ∧
    (∀ w', (Instr.slice 22 (.slice a r.b.length cap) none (some (.int .i64 n)) none).run Try.prog w' = .ok v1 w') ∧
    (∀ w', (Instr.slice 22 (.slice a r.b.length cap) (some (.int .i64 n)) none none).run Try.prog w' = .ok (.slice a2 l2 c2) w') ∧
    Bytes B (w.setCell ⟨g, 0, none⟩ (.slice a2 l2 c2)) v1 (r.b.take n) ∧ RdEnd T B g w (w.setCell ⟨g, 0, none⟩ (.slice a2 l2 c2)) { r with b := r.b.drop n } := by
  obtain ⟨v, hh, hv, hBg, hc0, hc1, hf0, _⟩ := h.parts
  have hvv := hv
  obtain ⟨_, a, cap, rfl, hnc, hcap, _⟩ := hvv
  obtain ⟨i0, hi, _, hsz, _⟩ := info_parts info_u8
  obtain ⟨v1, kv1, hb1⟩ := run_slice_to (P := Try.prog) Try.underlying22 hi hv n hn
  obtain ⟨v2, kv2, hb2⟩ := run_slice_from (P := Try.prog) Try.underlying22 hi hsz hv n hn
  have hb2' := hb2
  obtain ⟨_, a2, c2, rfl, _⟩ := hb2'
  exact ⟨a, cap, v1, a2, _, c2, hc0, hc1, hf0, kv1, kv2, bytes_set hb1 hBg, ⟨h.setB _ _ hb2, only_set _ _ _ _⟩⟩
/-- What take hands back: bytes, and whether there are any. -/
def TakeEnd (T : TypeId) (B g : Nat) (w : World) (r : RS) (n : Nat) (e : Ending) (w' : World) : Prop :=
  RdEnd T B g w w' (r.take n).1 ∧ ∃ v, Bytes B w' v ((r.take n).2.getD []) ∧ e = .returned (.tuple #[v, .bool (r.take n).2.isSome])
theorem nil_bytes (B : Nat) (w : World) : Bytes B w (.slice none 0 0) [] := Row.nil B w 1
set_option maxRecDepth 100000 in
set_option maxHeartbeats 1000000 in
theorem take_any (B g : Nat) (w : World) (r : RS) (n : Nat) (hn : n ≤ 2 ^ 62) (h : RdAt 73 B g w r) :
    Calls Try.prog 46 #[.pointer (some ⟨g, 0, none⟩), .int .i64 n] w (TakeEnd 73 B g w r n) := by
  have H := Lib.hid h
  obtain ⟨v, hh, hv, hBg, hc0, _, _, _⟩ := h.parts
  have hvv := hv
  obtain ⟨_, a, cap, rfl, hnc, hcap, _⟩ := hvv
  unfold maxLen at hcap
  obtain ⟨i0, hi, _, hsz, _⟩ := info_parts info_u8
  obtain ⟨L, hL⟩ : ∃ L, L = r.b.length := ⟨_, rfl⟩
  rw [← hL] at hc0 hnc
  by_cases he : r.e = 0
  · by_cases hs : L < n
    · have hr : r.fail true 2 = { r with e := 2 } := by simp [RS.fail, he]
      have ht : r.take n = ({ r with e := 2 }, none) := by unfold RS.take; rw [if_pos he, ← hL, if_pos hs]
      have HT := Lib.hid ht
      have HR := Lib.hid hr
      have t0 : decide ((L : Int) < (n : Int)) = true := by simp; omega
      clear ht hr he hL hv h hh
      go_enter Try.func46, Try.ntmps46
      go_wp2_with (go_at_call 48; ((with_reducible refine (fail_any B g _ r _ _ H.out).mono ?_); rintro e w1 ⟨rfl, hE⟩; rw [HR.out] at hE; obtain ⟨v1, _, _, _, _, hc1, _, _⟩ := hE.1.parts; have HE := Lib.hid hE; clear hE))
      go_ret2
      unfold TakeEnd
      rw [HT.out]
      exact ⟨HE.out, _, nil_bytes _ _, rfl⟩
    · have hr : r.fail false 2 = r := by simp [RS.fail]
      have ht : r.take n = ({ r with b := r.b.drop n }, some (r.b.take n)) := by unfold RS.take; rw [if_pos he, ← hL, if_neg hs]
      have HT := Lib.hid ht
      have HR := Lib.hid hr
      have HE0 := Lib.hid he
      have t0 : decide ((L : Int) < (n : Int)) = false := by simp; omega
      have hnl : n ≤ r.b.length := by omega
      have HL0 := Lib.hid hL
      clear ht hr hv h hh hL he
      go_enter Try.func46, Try.ntmps46
      go_wp2_with (go_at_call 48; ((with_reducible refine (fail_any B g _ r _ _ H.out).mono ?_); rintro e w1 ⟨rfl, hE⟩; rw [HR.out] at hE; obtain ⟨a1, cap1, v1, a2, l2, c2, hc0', hc1', hf0', kv1, kv2, hb1, hb2⟩ := hE.1.cut n hnl; rw [HE0.out] at hc1'; rw [← HL0.out] at hc0' kv1 kv2; have HE := Lib.hid (only_trans hE.2 hb2.2); have HB1 := Lib.hid hb1; have HB2 := Lib.hid hb2.1; clear hE hb1 hb2 hnl))
      go_ret2
      unfold TakeEnd
      rw [HT.out]
      exact ⟨⟨HB2.out, HE.out⟩, _, HB1.out, rfl⟩
  · have ht : r.take n = (r, none) := by unfold RS.take; rw [if_neg he]
    have hr : ∀ b, r.fail b 2 = r := by intro b; cases b <;> simp [RS.fail, he]
    obtain ⟨E, hEe⟩ : ∃ E, E = r.e := ⟨_, rfl⟩
    have t0 : (E == 0) = false := by rw [beq_eq_false_iff_ne, hEe]; exact he
    have t1 : (!(E == 0)) = true := by rw [t0]; rfl
    have HT := Lib.hid ht
    have HR := Lib.hid hr
    have HE0 := Lib.hid hEe
    clear ht hr he hL hv h hh hEe
    go_enter Try.func46, Try.ntmps46
    go_wp2_with (go_at_call 48; ((with_reducible refine (fail_any B g _ r _ _ H.out).mono ?_); rintro e w1 ⟨rfl, hE⟩; rw [HR.out] at hE; obtain ⟨v1, _, _, _, _, hc1, _, _⟩ := hE.1.parts; rw [← HE0.out] at hc1; have HE := Lib.hid hE; clear hE))
    go_ret2
    unfold TakeEnd
    rw [HT.out]
    exact ⟨HE.out, _, nil_bytes _ _, rfl⟩
theorem or_byte (n : Nat) (c : UInt8) (hn : n < 2 ^ 56) : bits .or .u64 ((n * 256 : Nat) : Int) (c.toNat : Int) = ((n * 256 + c.toNat : Nat) : Int) := by
  have hc := c.toNat_lt
  have h1 : (BitVec.ofInt 64 ((n * 256 : Nat) : Int)).toNat = n * 256 := by
    rw [BitVec.ofInt_natCast, BitVec.toNat_ofNat]; exact Nat.mod_eq_of_lt (by omega)
  have h2 : (BitVec.ofInt 64 (c.toNat : Int)).toNat = c.toNat := by
    rw [BitVec.ofInt_natCast, BitVec.toNat_ofNat]; exact Nat.mod_eq_of_lt (by omega)
  show IntKind.u64.wrap ((BitVec.ofInt 64 ((n * 256 : Nat) : Int) ||| BitVec.ofInt 64 (c.toNat : Int)).toNat : Int) = _
  rw [BitVec.toNat_or, h1, h2]
  have h3 : n * 256 ||| c.toNat = n * 256 + c.toNat := by
    have := Nat.two_pow_add_eq_or_of_lt (i := 8) (b := c.toNat) (by omega) n
    rw [Nat.mul_comm n 256]
    exact this.symm
  rw [h3]
  have h4 : n * 256 + c.toNat < 18446744073709551616 := by omega
  simp only [IntKind.wrap, IntKind.bits, IntKind.signed]
  simp
  omega
theorem u64_byte (c : UInt8) : IntKind.u64.wrap (c.toNat : Int) = (c.toNat : Int) := by
  have hc := c.toNat_lt
  simp only [IntKind.wrap, IntKind.bits, IntKind.signed]
  simp
  omega
set_option maxRecDepth 100000 in
set_option maxHeartbeats 1000000 in
theorem number_any (B : Nat) (v : Value) (bs : List UInt8) (w : World) (h : Bytes B w v bs) (hl : bs.length ≤ 8) :
    Calls Try.prog 47 #[v] w fun e w' => e = .returned (.int .u64 (numOf bs)) ∧ w = w' := by
  obtain ⟨_, a, cap, rfl, hnc, hcap, hcells⟩ := h
  unfold maxLen at hcap
  go_enter Try.func47, Try.ntmps47
  go_wp2
  go_loop [2, 7] (fun t i => ∃ k : Nat, k ≤ bs.length ∧ i = .int .i64 k ∧ t = .int .u64 (numOf (bs.take k))) (fun _ i => bs.length - (intOf i).toNat)
  case atStart => exact ⟨0, Nat.zero_le _, rfl, rfl⟩
  case round =>
    obtain ⟨k, hk, rfl, rfl⟩ := hrel
    by_cases hlt : k < bs.length
    · obtain ⟨b, off, rfl, hB, hc⟩ := hcells (by omega)
      have hcell := hc k _ (u8s_at hlt)
      have hN : Hid (numOf (bs.take (k + 1)) = numOf (bs.take k) * 256 + bs[k].toNat) := by
        rw [List.take_succ_eq_append_getElem hlt, numOf_snoc]; exact rfl
      have hb : numOf (bs.take k) < 2 ^ 56 := by
        have h1 := numOf_lt (bs.take k)
        rw [List.length_take, Nat.min_eq_left hk] at h1
        have h2 : 256 ^ k ≤ 256 ^ 7 := Nat.pow_le_pow_right (by omega) (by omega)
        omega
      obtain ⟨N, hNe⟩ : ∃ N, N = numOf (bs.take k) := ⟨_, rfl⟩
      rw [← hNe] at hb hN
      rw [← hNe]
      obtain ⟨c, hce⟩ : ∃ c, c = bs[k] := ⟨_, rfl⟩
      rw [← hce] at hcell hN
      have k1 := u64_byte c
      clear hNe hc hcells hce
      go_wp2
      all_goals
        go_round
        case rel => exact ⟨k + 1, by omega, by go_num, by rw [hN.out, ← or_byte N c hb, Int.natCast_mul]; rfl⟩
        case measure => simp [intOf]; omega
    · have hke : k = bs.length := by omega
      subst hke
      rw [List.take_length]
      go_wp2
      go_ret
      exact ⟨rfl, rfl⟩
theorem take_some (B g : Nat) (w : World) (r r1 : RS) (n : Nat) (z : Int) (b : List UInt8) (hn : n ≤ 2 ^ 62) (hz : z = n) (h : RdAt 73 B g w r) (ht : r.take n = (r1, some b)) :
    Calls Try.prog 46 #[.pointer (some ⟨g, 0, none⟩), .int .i64 z] w fun e w' => ∃ v, e = .returned (.tuple #[v, .bool true]) ∧ RdEnd 73 B g w w' r1 ∧ Bytes B w' v b := by
  subst hz
  refine (take_any B g w r n hn h).mono fun e w' ⟨h1, v, h2, h3⟩ => ?_
  rw [ht] at h1 h2 h3
  exact ⟨v, h3, h1, h2⟩
theorem take_none (B g : Nat) (w : World) (r r1 : RS) (n : Nat) (z : Int) (hn : n ≤ 2 ^ 62) (hz : z = n) (h : RdAt 73 B g w r) (ht : r.take n = (r1, none)) :
    Calls Try.prog 46 #[.pointer (some ⟨g, 0, none⟩), .int .i64 z] w fun e w' => ∃ v, e = .returned (.tuple #[v, .bool false]) ∧ RdEnd 73 B g w w' r1 ∧ Bytes B w' v [] := by
  subst hz
  refine (take_any B g w r n hn h).mono fun e w' ⟨h1, v, h2, h3⟩ => ?_
  rw [ht] at h1 h2 h3
  exact ⟨v, h3, h1, h2⟩
theorem take_some_e {r r1 : RS} {n : Nat} {b : List UInt8} (ht : r.take n = (r1, some b)) : r.e = 0 ∧ r1.e = 0 ∧ b.length = n ∧ n ≤ r.b.length ∧ r1.b = r.b.drop n ∧ b = r.b.take n := by
  unfold RS.take at ht
  split at ht
  · rename_i he
    split at ht
    · cases ht
    · rename_i hl
      cases ht
      exact ⟨he, he, by rw [List.length_take]; omega, by omega, rfl, rfl⟩
  · cases ht
theorem take_none_e {r r1 : RS} {n : Nat} (ht : r.take n = (r1, none)) : r1.e ≠ 0 := by
  unfold RS.take at ht
  split at ht
  · split at ht
    · cases ht; simp
    · cases ht
  · rename_i he
    cases ht; exact he
set_option maxRecDepth 100000 in
set_option maxHeartbeats 1000000 in
theorem rnum_any (B g : Nat) (w : World) (r : RS) (h : RdAt 73 B g w r) :
    Calls Try.prog 18 #[.pointer (some ⟨g, 0, none⟩)] w fun e w' => e = .returned (.int .i64 r.num.2) ∧ RdEnd 73 B g w w' r.num.1 := by
  have kn := fun (w : World) (a : Option Addr) => eql_ptr_nil Try.underlying32 w a
  rcases ht : r.take 8 with ⟨r1, _ | b⟩
  · have hnum : r.num = (r1, 0) := by unfold RS.num; rw [ht]
    have HN := Lib.hid hnum
    have HT := Lib.hid ht
    clear hnum ht
    go_enter Try.func18, Try.ntmps18
    go_wp2_with (go_at_call 46; ((refine (take_none B g _ r r1 8 _ (by omega) rfl h HT.out).mono ?_); rintro e w1 ⟨v1, rfl, hE, hb⟩))
    go_ret
    rw [HN.out]
    exact ⟨rfl, hE⟩
  · obtain ⟨he, he1, hbl, _, _, _⟩ := take_some_e ht
    obtain ⟨N, hN⟩ : ∃ N, N = numOf b := ⟨_, rfl⟩
    by_cases hg : 4611686018427387904 < N
    · have hnum : r.num = ({ r1 with e := 3 }, 0) := by unfold RS.num; rw [ht]; simp only; rw [if_pos (by omega)]
      have hfl : r1.fail true 3 = { r1 with e := 3 } := by simp [RS.fail, he1]
      have t0 : decide (4611686018427387904 < (N : Int)) = true := by simp; omega
      have HN := Lib.hid hnum
      have HT := Lib.hid ht
      have HF := Lib.hid hfl
      have HNe := Lib.hid hN
      have hbl' : b.length ≤ 8 := by omega
      clear hnum ht hfl hN hg hbl he he1
      go_enter Try.func18, Try.ntmps18
      go_wp2_with (first
        | (go_at_call 46; ((refine (take_some B g _ r r1 8 _ b (by omega) rfl h HT.out).mono ?_); rintro e w1 ⟨v1, rfl, hE, hb⟩; have hR1 := hE.1))
        | (go_at_call 47; ((refine (number_any B _ b _ hb hbl').mono ?_); rintro e w2 ⟨rfl, rfl⟩; rw [← HNe.out]))
        | (go_at_call 48; ((with_reducible refine (fail_any B g _ r1 _ _ hR1).mono ?_); rintro e w2 ⟨rfl, hE2⟩; rw [HF.out] at hE2; obtain ⟨v3, _, _, _, _, hc1, _, _⟩ := hE2.1.parts)))
      go_ret
      rw [HN.out]
      exact ⟨rfl, hE2.1, only_trans hE.2 hE2.2⟩
    · have hnum : r.num = (r1, (N : Int)) := by unfold RS.num; rw [ht]; simp only; rw [if_neg (by omega), hN]
      have hfl : r1.fail false 3 = r1 := by simp [RS.fail]
      have t0 : decide (4611686018427387904 < (N : Int)) = false := by simp; omega
      have HN := Lib.hid hnum
      have HT := Lib.hid ht
      have HF := Lib.hid hfl
      have HNe := Lib.hid hN
      have HE1 := Lib.hid he1
      have hbl' : b.length ≤ 8 := by omega
      have hN62 : N ≤ 2 ^ 62 := by omega
      clear hnum ht hfl hN hg hbl he he1
      go_enter Try.func18, Try.ntmps18
      go_wp2_with (first
        | (go_at_call 46; ((refine (take_some B g _ r r1 8 _ b (by omega) rfl h HT.out).mono ?_); rintro e w1 ⟨v1, rfl, hE, hb⟩; have hR1 := hE.1))
        | (go_at_call 47; ((refine (number_any B _ b _ hb hbl').mono ?_); rintro e w2 ⟨rfl, rfl⟩; rw [← HNe.out]))
        | (go_at_call 48; ((with_reducible refine (fail_any B g _ r1 _ _ hR1).mono ?_); rintro e w2 ⟨rfl, hE2⟩; rw [HF.out] at hE2; obtain ⟨v3, _, _, _, _, hc1, _, _⟩ := hE2.1.parts; rw [HE1.out] at hc1)))
      go_ret
      rw [HN.out]
      exact ⟨rfl, hE2.1, only_trans hE.2 hE2.2⟩
end Go.Proofs.Ytccjjlefpdlegaa