/- Layer 2 (sum): what each function of the code computes. -/
import Derived.Test.YtccjjlefpdlegaaDoorProg
import Derived.Test.YtccjjlefpdlegaaDoorLib
import Derived.Test.YtccjjlefpdlegaaDoorSumPure
import Derived.KernelRfl
import Derived.Lib.Hide
import Derived.Lib.SlBytesConst
namespace Go.Proofs.YtccjjlefpdlegaaDoor
open Go.RowKit SumP
/-- The table lies where it lies. -/
def TabAt (w : World) : Prop := ∀ x : BitVec 32, x.toNat < 16 → w.cell? ⟨0, x.toNat, none⟩ = some (.int .u32 (toI (tab x)))
theorem TabAt.below {B : Nat} {w w' : World} (h : TabAt w) (hb : Below B w w') (hB : 0 < B) : TabAt w' :=
  fun x hx => (hb.cell (p := ⟨0, x.toNat, none⟩) hB).trans (h x hx)
set_option maxHeartbeats 400000 in
theorem half_raw (s v q t : Int) (w : World) (h0 : 0 ≤ s) (h1 : s < 4294967296) (hq : bits .and .u32 s 15 = q) (hq0 : 0 ≤ q) (hq1 : q < 16)
    (ht : w.cell? ⟨0, q.toNat, none⟩ = some (.int .u32 t)) (hv : bits .xor .u32 (s / 16) t = v) :
    Calls Tryd.prog 13 #[.int .u32 s] w fun e w' => e = .returned (.int .u32 v) ∧ w = w' := by
  go_enter Tryd.func13, Tryd.ntmps13
  go_wp2
  go_ret
  exact ⟨rfl, rfl⟩
theorem half_any (x : BitVec 32) (w : World) (ht : TabAt w) :
    Calls Tryd.prog 13 #[.int .u32 (toI x)] w fun e w' => e = .returned (.int .u32 (toI (half x))) ∧ w = w' := by
  have hx := toI_hi x
  have h15 := and15_lt x
  refine half_raw (toI x) _ (toI (x &&& 15#32)) (toI (tab (x &&& 15#32))) w (toI_lo x) hx ?_ (toI_lo _) (by unfold toI; omega) ?_ ?_
  · exact bits_and x 15#32
  · exact ht (x &&& 15#32) h15
  · rw [shr4, bits_xor]; rfl
theorem more_snoc (s : BitVec 32) (l : List UInt8) (b : UInt8) : (l ++ [b]).foldl step1 s = half (half (l.foldl step1 s ^^^ byte b)) := by
  rw [List.foldl_append]; rfl
theorem u32_u8 (b : UInt8) : (b.toNat : Int) % 4294967296 = toI (byte b) := by
  have := b.toNat_lt; unfold toI; rw [byte_toNat]; omega
set_option maxHeartbeats 400000 in
theorem more_any (s : BitVec 32) (v : Value) (bs : List UInt8) (w : World) (B : Nat) (ht : TabAt w) (hr : Bytes B w v bs) :
    Calls Tryd.prog 10 #[.int .u32 (toI s), v] w fun e w' => e = .returned (.int .u32 (toI (more s bs))) ∧ w = w' := by
  obtain ⟨_, a, cap, rfl, hnc, hcap, hcells⟩ := hr
  unfold maxLen at hcap
  obtain ⟨S0, hS0⟩ : ∃ S0, S0 = ~~~ s := ⟨_, rfl⟩
  have hn0 := not_eq s
  rw [← hS0] at hn0
  have HM : Hid (more s bs = ~~~ (bs.foldl step1 S0)) := by rw [hS0]; exact rfl
  clear hS0
  have sgn : IntKind.u32.signed = false := rfl
  go_enter Tryd.func10, Tryd.ntmps10
  go_wp2
  clear hn0
  go_loop [5, 12] (fun t i => ∃ k : Nat, k ≤ bs.length ∧ i = .int .i64 k ∧ t = .int .u32 (toI ((bs.take k).foldl step1 S0))) (fun _ i => bs.length - (intOf i).toNat)
  case atStart => exact ⟨0, Nat.zero_le _, rfl, rfl⟩
  case round =>
    obtain ⟨k, hk, rfl, rfl⟩ := hrel
    by_cases hlt : k < bs.length
    · obtain ⟨b, off, rfl, hB, hc⟩ := hcells (by omega)
      have hcell := hc k _ (u8s_at hlt)
      obtain ⟨S, hS⟩ : ∃ S, S = (bs.take k).foldl step1 S0 := ⟨_, rfl⟩
      obtain ⟨X, hX⟩ : ∃ X, X = S ^^^ byte bs[k] := ⟨_, rfl⟩
      have hx := bits_xor S (byte bs[k])
      rw [← hX] at hx
      have hz := u32_u8 bs[k]
      have HS : Hid ((bs.take (k + 1)).foldl step1 S0 = half (half X)) := by
        rw [hX, hS, ← more_snoc, ← List.take_succ_eq_append_getElem hlt]; exact rfl
      rw [← hS]
      clear hS hc hcells hX
      go_wp2_with (go_at_call 13; ((with_reducible refine (half_any _ _ ht).mono ?_); rintro e w' ⟨rfl, rfl⟩))
      all_goals
        go_round
        case rel => exact ⟨k + 1, by omega, by go_num, by rw [HS.out]⟩
        case measure => simp [intOf]; omega
    · have hke : k = bs.length := by omega
      subst hke
      rw [List.take_length]
      have hn1 := not_eq (bs.foldl step1 S0)
      go_wp2
      go_ret
      exact ⟨ret_int (by rw [HM.out]), rfl⟩
theorem toI_0 : toI 0#32 = 0 := by decide
theorem more0_any (v : Value) (bs : List UInt8) (w : World) (B : Nat) (ht : TabAt w) (hr : Bytes B w v bs) :
    Calls Tryd.prog 10 #[.int .u32 0, v] w fun e w' => e = .returned (.int .u32 (toI (more 0#32 bs))) ∧ w = w' := by
  have h := more_any 0#32 v bs w B ht hr
  rwa [toI_0] at h
set_option maxHeartbeats 400000 in
theorem sum_any (v : Value) (bs : List UInt8) (w : World) (B : Nat) (ht : TabAt w) (hr : Bytes B w v bs) :
    Calls Tryd.prog 8 #[v] w fun e w' => e = .returned (.int .u32 (toI (sum bs))) ∧ w = w' := by
  go_enter Tryd.func8, Tryd.ntmps8
  go_wp2_with (go_at_call 10; ((with_reducible refine (more0_any _ bs _ B ht hr).mono ?_); rintro e w' ⟨rfl, rfl⟩))
  go_ret
  exact ⟨rfl, rfl⟩
theorem bit_snoc (k : Nat) (s : BitVec 32) : bitN (k + 1) s = bit (bitN k s) := by
  rw [← bitN_add k 1]; rfl
theorem low_bit (s : BitVec 32) : bits .and .u32 (toI s) 1 = (if s.getLsbD 0 = true then 1 else 0) := by
  have h : (1 : Int) = toI 1#32 := by decide
  have e : (s &&& 1#32).toNat = s.toNat % 2 := by rw [BitVec.toNat_and]; exact Nat.and_one_is_mod _
  have e2 : s.getLsbD 0 = decide (s.toNat % 2 = 1) := by rw [← BitVec.testBit_toNat, Nat.testBit_zero]
  conv => lhs; rw [h]
  rw [bits_and, e2]; unfold toI; rw [e]
  by_cases h1 : s.toNat % 2 = 1
  · simp [h1]
  · simp [h1]; omega
set_option maxHeartbeats 1000000 in
theorem refMore_any (s : BitVec 32) (v : Value) (bs : List UInt8) (w : World) (B : Nat) (hr : Bytes B w v bs) :
    Calls Tryd.prog 11 #[.int .u32 (toI s), v] w fun e w' => e = .returned (.int .u32 (toI (more s bs))) ∧ w = w' := by
  obtain ⟨_, a, cap, rfl, hnc, hcap, hcells⟩ := hr
  unfold maxLen at hcap
  obtain ⟨S0, hS0⟩ : ∃ S0, S0 = ~~~ s := ⟨_, rfl⟩
  have hn0 := not_eq s
  rw [← hS0] at hn0
  have HM : Hid (more s bs = ~~~ (bs.foldl step1 S0)) := by rw [hS0]; exact rfl
  clear hS0
  have sgn : IntKind.u32.signed = false := rfl
  go_enter Tryd.func11, Tryd.ntmps11
  go_wp2
  clear hn0
  go_loop [5, 6] (fun t i => ∃ k : Nat, k ≤ bs.length ∧ i = .int .i64 k ∧ t = .int .u32 (toI ((bs.take k).foldl step1 S0))) (fun _ i => bs.length - (intOf i).toNat)
  case atStart => exact ⟨0, Nat.zero_le _, rfl, rfl⟩
  case round =>
    obtain ⟨k, hk, rfl, rfl⟩ := hrel
    by_cases hlt : k < bs.length
    · obtain ⟨b, off, rfl, hB, hc⟩ := hcells (by omega)
      have hcell := hc k _ (u8s_at hlt)
      obtain ⟨S, hS⟩ : ∃ S, S = (bs.take k).foldl step1 S0 := ⟨_, rfl⟩
      obtain ⟨X, hX⟩ : ∃ X, X = S ^^^ byte bs[k] := ⟨_, rfl⟩
      have hx := bits_xor S (byte bs[k])
      rw [← hX] at hx
      have hz := u32_u8 bs[k]
      have HS : Hid ((bs.take (k + 1)).foldl step1 S0 = bitN 8 X) := by
        rw [hX, hS, List.take_succ_eq_append_getElem hlt, List.foldl_append, List.foldl_cons, List.foldl_nil, step1_eq]; exact rfl
      rw [← hS]
      clear hS hc hcells hX
      go_wp2
      clear hx hz hcell
      go_loop [5, 7] (fun t i => ∃ j : Nat, j ≤ 8 ∧ i = .int .i64 j ∧ t = .int .u32 (toI (bitN j X))) (fun _ i => 8 - (intOf i).toNat)
      case atStart => exact ⟨0, Nat.zero_le _, rfl, rfl⟩
      case round =>
        obtain ⟨j, hj, rfl, rfl⟩ := hrel
        by_cases hjl : j < 8
        · obtain ⟨Y, hY⟩ : ∃ Y, Y = bitN j X := ⟨_, rfl⟩
          have HY : Hid (bitN (j + 1) X = bit Y) := by rw [hY, bit_snoc]; exact rfl
          rw [← hY]
          clear hY
          have hl := low_bit Y
          have hs := shr1 Y
          have hlo := toI_lo Y
          obtain ⟨Z, hZ⟩ : ∃ Z, Z = (Y >>> 1) ^^^ 0xedb88320#32 := ⟨_, rfl⟩
          have hp := bits_xor (Y >>> 1) 0xedb88320#32
          rw [show toI 0xedb88320#32 = 3988292384 by decide, ← hZ] at hp
          obtain ⟨V, hV⟩ : ∃ V, V = Y >>> 1 := ⟨_, rfl⟩
          rw [← hV] at hp hs
          have HB : Hid (bit Y = if Y.getLsbD 0 = true then Z else V) := by
            unfold bit; rw [hZ, hV]; cases Y.getLsbD 0 <;> simp <;> exact trivial
          clear hZ hV
          cases hg : Y.getLsbD 0 with
          | true =>
            rw [hg, if_pos rfl] at hl
            have HB' : Hid (bit Y = Z) := by rw [HB.out, hg, if_pos rfl]; exact rfl
            clear HB hg
            go_wp2
            all_goals
              go_round
              case rel => exact ⟨j + 1, by omega, by go_num, by rw [HY.out, HB'.out]⟩
              case measure => simp [intOf]; omega
          | false =>
            rw [hg, if_neg (by decide)] at hl
            have HB' : Hid (bit Y = V) := by rw [HB.out, hg, if_neg (by decide)]; exact rfl
            clear HB hg
            go_wp2
            all_goals
              go_round
              case rel => exact ⟨j + 1, by omega, by go_num, by rw [HY.out, HB'.out]⟩
              case measure => simp [intOf]; omega
        · have hje : j = 8 := by omega
          subst hje
          go_wp2
          all_goals
            go_round
            case rel => exact ⟨k + 1, by omega, by go_num, by rw [HS.out]⟩
            case measure => simp [intOf]; omega
    · have hke : k = bs.length := by omega
      subst hke
      rw [List.take_length]
      have hn1 := not_eq (bs.foldl step1 S0)
      go_wp2
      go_ret
      exact ⟨ret_int (by rw [HM.out]), rfl⟩
theorem refMore0_any (v : Value) (bs : List UInt8) (w : World) (B : Nat) (hr : Bytes B w v bs) :
    Calls Tryd.prog 11 #[.int .u32 0, v] w fun e w' => e = .returned (.int .u32 (toI (more 0#32 bs))) ∧ w = w' := by
  have h := refMore_any 0#32 v bs w B hr
  rwa [toI_0] at h
theorem refSum_any (v : Value) (bs : List UInt8) (w : World) (B : Nat) (hr : Bytes B w v bs) :
    Calls Tryd.prog 9 #[v] w fun e w' => e = .returned (.int .u32 (toI (sum bs))) ∧ w = w' := by
  go_enter Tryd.func9, Tryd.ntmps9
  go_wp2_with (go_at_call 11; ((with_reducible refine (refMore0_any _ bs _ B hr).mono ?_); rintro e w' ⟨rfl, rfl⟩))
  go_ret
  exact ⟨rfl, rfl⟩
set_option maxHeartbeats 400000 in
theorem join_any (v : Value) (ls : List (List UInt8)) (w : World) (B : Nat) (ht : TabAt w) (hr : Pieces B w v ls) :
    Calls Tryd.prog 12 #[v] w fun e w' => e = .returned (.int .u32 (toI (more 0#32 ls.flatten))) ∧ w = w' := by
  obtain ⟨vs, ⟨hlen, a, cap, rfl, hnc, hcap, hcells⟩, hps⟩ := hr
  unfold maxLen at hcap
  have h0 := toI_0
  go_enter Tryd.func12, Tryd.ntmps12
  go_wp2
  go_loop [3, 8] (fun t i => ∃ k : Nat, k ≤ ls.length ∧ i = .int .i64 k ∧ t = .int .u32 (toI (more 0#32 (ls.take k).flatten))) (fun _ i => ls.length - (intOf i).toNat)
  case atStart => exact ⟨0, Nat.zero_le _, rfl, by rw [List.take_zero, List.flatten_nil, more_nil, toI_0]⟩
  case round =>
    obtain ⟨k, hk, rfl, rfl⟩ := hrel
    by_cases hlt : k < ls.length
    · obtain ⟨b, off, rfl, hB, hc⟩ := hcells (by omega)
      obtain ⟨u, hu, hbu⟩ := hps k hlt
      have hcell := hc k _ hu
      obtain ⟨S, hS⟩ : ∃ S, S = more 0#32 (ls.take k).flatten := ⟨_, rfl⟩
      have HS' : more 0#32 (ls.take (k + 1)).flatten = more S ls[k] := by
        rw [hS, more_append, List.take_succ_eq_append_getElem hlt]
        simp only [List.flatten_append, List.flatten_cons, List.flatten_nil, List.append_nil]
      have HS := Lib.hid HS'
      clear HS'
      rw [← hS]
      clear hS hc hcells hps hu
      go_wp2_with (go_at_call 10; ((with_reducible refine (more_any _ _ _ _ B ht hbu).mono ?_); rintro e w' ⟨rfl, rfl⟩))
      all_goals
        go_round
        case rel => exact ⟨k + 1, by omega, by go_num, by rw [HS.out]⟩
        case measure => simp [intOf]; omega
    · have hke : k = ls.length := by omega
      subst hke
      rw [List.take_length]
      go_wp2
      go_ret
      exact ⟨rfl, rfl⟩
theorem sum_check : toI (sum [49, 50, 51, 52, 53, 54, 55, 56, 57]) = 3421780262 := by decide +kernel
theorem join0_any (w : World) (ht : TabAt w) :
    Calls Tryd.prog 12 #[.slice none 0 0] w fun e w' => e = .returned (.int .u32 0) ∧ w = w' := by
  have h := join_any (.slice none 0 0) [] w 0 ht ⟨[], Row.nil _ _ _, fun k h => absurd h (Nat.not_lt_zero _)⟩
  rwa [show toI (more 0#32 ([] : List (List UInt8)).flatten) = 0 by decide] at h
set_option maxHeartbeats 400000 in
theorem alive_any (w : World) (ht : TabAt w) (hB : 0 < w.heap.size) :
    Calls Tryd.prog 7 #[] w fun e w' => e = .returned (.bool true) ∧ Below w.heap.size w w' := by
  have kc := fun (w : World) (C : Array Value) (n c : Nat) => Lib.run_convert_bytes_const (P := Tryd.prog) w 22 5 C n c Tryd.underlying22 Tryd.underlying5
  have hchk := sum_check
  go_enter Tryd.func7, Tryd.ntmps7
  go_wp2_with fail
  refine (sum_any _ [49, 50, 51, 52, 53, 54, 55, 56, 57] _ (w.heap.size + 1) (ht.below (Below.alloc (Below.refl _ w) (Nat.le_refl _) _) hB) (Row.fresh rfl (by decide) (by decide) (fun k u hk => by simpa [u8s, u8] using hk))).mono ?_
  rintro e w' ⟨rfl, rfl⟩
  go_wp2_with (go_at_call 12; ((with_reducible refine (join0_any _ (ht.below (Below.alloc (Below.refl _ w) (Nat.le_refl _) _) hB)).mono ?_); rintro e w' ⟨rfl, rfl⟩))
  go_ret
  exact ⟨rfl, Below.alloc (Below.refl _ w) (Nat.le_refl _) _⟩
end Go.Proofs.YtccjjlefpdlegaaDoor
