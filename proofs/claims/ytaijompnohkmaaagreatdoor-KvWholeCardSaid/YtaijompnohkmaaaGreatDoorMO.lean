/- The library's contracts on sorted keys of a map of texts, laid at this dump (by the shelf's own programs, in plain words). -/
import Derived.Test.YtaijompnohkmaaaGreatDoorMN
import Derived.Shelf.SlIter.Nil
import Derived.Shelf.SortM.Plain
import Derived.Shelf.SortM.SortNone
import Derived.Ground.GgzProg
import Derived.Ground.SlgmProg
import Derived.Test.YtaijompnohkmaaaGreatDoorProg
import Derived.Sort.Walk0
set_option linter.unusedSimpArgs false
set_option linter.unusedVariables false
namespace Go.Proofs.YtaijompnohkmaaaGreatDoor
open Go.Shelf
def keys73_ren : Go.Shelf.Ren := ⟨fun | 7 => 73 | 10 => 119 | n => n, fun | 23 => 102 | 26 => 9 | 3 => 9 | 28 => 106 | 0 => 0 | 27 => 105 | 33 => 151 | 4 => 4 | n => n, fun | n => n⟩
theorem keys73 : Go.Proofs.SlLaysZ.n7 Tryz.prog keys73_ren := {
  mixed := by kernel_rfl
  f7 := ⟨Tryz.f73.name, by decide, Tryz.func73.trans (congrArg some (by kernel_rfl))⟩
  f10 := ⟨Tryz.f119.name, by decide, Tryz.func119.trans (congrArg some (by kernel_rfl))⟩
  t0 := Tryz.underlying0
  a0 := Tryz.isAgg0
  z0 := Tryz.sizeOf0
  v0 := Tryz.zeroValue0
  t4 := Tryz.underlying4
  a4 := Tryz.isAgg4
  z4 := Tryz.sizeOf4
  v4 := Tryz.zeroValue4
  t23 := Tryz.underlying102
  a23 := Tryz.isAgg102
  z23 := Tryz.sizeOf102
  v23 := Tryz.zeroValue102
  t26 := Tryz.underlying9
  a26 := Tryz.isAgg9
  z26 := Tryz.sizeOf9
  v26 := Tryz.zeroValue9
  t27 := Tryz.underlying105
  a27 := Tryz.isAgg105
  z27 := Tryz.sizeOf105
  v27 := Tryz.zeroValue105
  t28 := Tryz.underlying106
  a28 := Tryz.isAgg106
  z28 := Tryz.sizeOf106
  v28 := Tryz.zeroValue106
  t33 := Tryz.underlying151
  a33 := Tryz.isAgg151
  z33 := Tryz.sizeOf151
  v33 := Tryz.zeroValue151 }
def sorted72_ren : Go.Shelf.Ren := ⟨fun | 6 => 72 | 8 => 117 | 9 => 118 | 11 => 146 | 13 => 148 | 12 => 147 | 23 => 169 | 24 => 170 | 14 => 160 | 15 => 161 | 16 => 162 | 17 => 163 | 18 => 164 | 19 => 165 | 20 => 166 | 21 => 167 | 22 => 168 | 25 => 176 | 26 => 177 | 27 => 178 | 28 => 179 | 29 => 180 | 30 => 181 | 31 => 182 | n => n, fun | 26 => 9 | 28 => 106 | 24 => 103 | 0 => 0 | 3 => 3 | 37 => 149 | 48 => 143 | 50 => 57 | 4 => 4 | 40 => 194 | 39 => 193 | 45 => 108 | 5 => 5 | 9 => 9 | 51 => 205 | 55 => 209 | 57 => 212 | 58 => 213 | 33 => 151 | n => n, fun | n => n⟩
theorem sorted72 : Go.Proofs.SlLaysZ.n6 Tryz.prog sorted72_ren := {
  mixed := by kernel_rfl
  f6 := ⟨Tryz.f72.name, by decide, Tryz.func72.trans (congrArg some (by kernel_rfl))⟩
  f8 := ⟨Tryz.f117.name, by decide, Tryz.func117.trans (congrArg some (by kernel_rfl))⟩
  f11 := ⟨Tryz.f146.name, by decide, Tryz.func146.trans (congrArg some (by kernel_rfl))⟩
  t0 := Tryz.underlying0
  a0 := Tryz.isAgg0
  z0 := Tryz.sizeOf0
  v0 := Tryz.zeroValue0
  t24 := Tryz.underlying103
  a24 := Tryz.isAgg103
  z24 := Tryz.sizeOf103
  v24 := Tryz.zeroValue103
  t26 := Tryz.underlying9
  a26 := Tryz.isAgg9
  z26 := Tryz.sizeOf9
  v26 := Tryz.zeroValue9
  t28 := Tryz.underlying106
  a28 := Tryz.isAgg106
  z28 := Tryz.sizeOf106
  v28 := Tryz.zeroValue106
  i26 := by kernel_rfl }
def sort118_ren : Go.Shelf.Ren := ⟨fun | 6 => 118 | 8 => 148 | 9 => 147 | 19 => 169 | 20 => 170 | 21 => 160 | 22 => 161 | 23 => 162 | 24 => 163 | 25 => 164 | 26 => 165 | 27 => 166 | 28 => 167 | 29 => 168 | 36 => 176 | 31 => 177 | 32 => 178 | 37 => 179 | 38 => 180 | 39 => 181 | 41 => 182 | n => n, fun | 27 => 103 | 29 => 9 | 3 => 3 | 32 => 149 | 26 => 103 | 0 => 0 | 44 => 143 | 46 => 57 | 4 => 4 | 36 => 194 | 35 => 193 | 41 => 108 | 5 => 5 | 9 => 9 | 53 => 205 | 57 => 209 | 63 => 212 | 64 => 213 | n => n, fun | n => n⟩
theorem sort118 : Go.Proofs.SlLaysM.n6 Tryz.prog sort118_ren := {
  mixed := by kernel_rfl
  f6 := ⟨Tryz.f118.name, by decide, Tryz.func118.trans (congrArg some (by kernel_rfl))⟩
  f8 := Tryz.func148.trans (congrArg some (by kernel_rfl))
  f9 := ⟨Tryz.f147.name, by decide, Tryz.func147.trans (congrArg some (by kernel_rfl))⟩
  f19 := Tryz.func169.trans (congrArg some (by kernel_rfl))
  f20 := Tryz.func170.trans (congrArg some (by kernel_rfl))
  f21 := ⟨Tryz.f160.name, by decide, Tryz.func160.trans (congrArg some (by kernel_rfl))⟩
  f22 := ⟨Tryz.f161.name, by decide, Tryz.func161.trans (congrArg some (by kernel_rfl))⟩
  f23 := ⟨Tryz.f162.name, by decide, Tryz.func162.trans (congrArg some (by kernel_rfl))⟩
  f24 := ⟨Tryz.f163.name, by decide, Tryz.func163.trans (congrArg some (by kernel_rfl))⟩
  f25 := ⟨Tryz.f164.name, by decide, Tryz.func164.trans (congrArg some (by kernel_rfl))⟩
  f26 := ⟨Tryz.f165.name, by decide, Tryz.func165.trans (congrArg some (by kernel_rfl))⟩
  f27 := ⟨Tryz.f166.name, by decide, Tryz.func166.trans (congrArg some (by kernel_rfl))⟩
  f28 := ⟨Tryz.f167.name, by decide, Tryz.func167.trans (congrArg some (by kernel_rfl))⟩
  f29 := ⟨Tryz.f168.name, by decide, Tryz.func168.trans (congrArg some (by kernel_rfl))⟩
  f31 := Tryz.func177.trans (congrArg some (by kernel_rfl))
  f32 := Tryz.func178.trans (congrArg some (by kernel_rfl))
  f36 := ⟨Tryz.f176.name, by decide, Tryz.func176.trans (congrArg some (by kernel_rfl))⟩
  f37 := ⟨Tryz.f179.name, by decide, Tryz.func179.trans (congrArg some (by kernel_rfl))⟩
  f38 := ⟨Tryz.f180.name, by decide, Tryz.func180.trans (congrArg some (by kernel_rfl))⟩
  f39 := ⟨Tryz.f181.name, by decide, Tryz.func181.trans (congrArg some (by kernel_rfl))⟩
  f41 := ⟨Tryz.f182.name, by decide, Tryz.func182.trans (congrArg some (by kernel_rfl))⟩
  t0 := Tryz.underlying0
  a0 := Tryz.isAgg0
  z0 := Tryz.sizeOf0
  v0 := Tryz.zeroValue0
  t3 := Tryz.underlying3
  a3 := Tryz.isAgg3
  z3 := Tryz.sizeOf3
  v3 := Tryz.zeroValue3
  t4 := Tryz.underlying4
  a4 := Tryz.isAgg4
  z4 := Tryz.sizeOf4
  v4 := Tryz.zeroValue4
  t5 := Tryz.underlying5
  a5 := Tryz.isAgg5
  z5 := Tryz.sizeOf5
  v5 := Tryz.zeroValue5
  t9 := Tryz.underlying9
  a9 := Tryz.isAgg9
  z9 := Tryz.sizeOf9
  v9 := Tryz.zeroValue9
  t26 := Tryz.underlying103
  a26 := Tryz.isAgg103
  z26 := Tryz.sizeOf103
  v26 := Tryz.zeroValue103
  t27 := Tryz.underlying103
  a27 := Tryz.isAgg103
  z27 := Tryz.sizeOf103
  v27 := Tryz.zeroValue103
  t29 := Tryz.underlying9
  a29 := Tryz.isAgg9
  z29 := Tryz.sizeOf9
  v29 := Tryz.zeroValue9
  t32 := Tryz.underlying149
  a32 := Tryz.isAgg149
  z32 := Tryz.sizeOf149
  v32 := Tryz.zeroValue149
  t35 := Tryz.underlying193
  a35 := Tryz.isAgg193
  z35 := Tryz.sizeOf193
  v35 := Tryz.zeroValue193
  t36 := Tryz.underlying194
  a36 := Tryz.isAgg194
  z36 := Tryz.sizeOf194
  v36 := Tryz.zeroValue194
  t41 := Tryz.underlying108
  a41 := Tryz.isAgg108
  z41 := Tryz.sizeOf108
  v41 := Tryz.zeroValue108
  t44 := Tryz.underlying143
  a44 := Tryz.isAgg143
  z44 := Tryz.sizeOf143
  v44 := Tryz.zeroValue143
  t46 := Tryz.underlying57
  a46 := Tryz.isAgg57
  z46 := Tryz.sizeOf57
  v46 := Tryz.zeroValue57
  t53 := Tryz.underlying205
  a53 := Tryz.isAgg205
  z53 := Tryz.sizeOf205
  v53 := Tryz.zeroValue205
  t57 := Tryz.underlying209
  a57 := Tryz.isAgg209
  z57 := Tryz.sizeOf209
  v57 := Tryz.zeroValue209
  t63 := Tryz.underlying212
  a63 := Tryz.isAgg212
  z63 := Tryz.sizeOf212
  v63 := Tryz.zeroValue212
  t64 := Tryz.underlying213
  a64 := Tryz.isAgg213
  z64 := Tryz.sizeOf213
  v64 := Tryz.zeroValue213 }
open Go.RowKit Go.Maps Go.Sort
theorem sorts72 (m : Nat) : AnyZ.SortsIn Tryz.prog sorted72_ren Fence.wide m :=
  ⟨fun blk off cap ss W hH hblk hsz => callsIn_wide.2 (AnyM.slices_Sort_string sort118 blk off cap ss W hH hblk hsz),
   fun p cap W => callsIn_wide.2 (AnyM.slices_Sort_string_none sort118 p cap W)⟩

theorem maps_Keys_73 (mb : Option Nat) (W : World) : CallsIn Fence.wide 5 Tryz.prog 73 #[.map mb] W fun e w' => e = .returned (.func (.func 119) #[] #[.pointer (some ⟨W.heap.size, 0, none⟩)]) ∧ w' = W.alloc (.cells #[.map mb] 102) :=
  AnyZ.keys_in keys73 Fence.wide 5 trivial rfl mb W

set_option maxHeartbeats 1000000 in
theorem slices_Sorted_keys_72_73 {H : Type} (b nn : Nat) (D0 : DataW H) (R : Value → Option (DataW H × List MemPlace)) (w : World) (hown : w.ownsMap Tryz.prog 9 R b nn D0) (hmax : Maps.size D0 ≤ maxLen) (hbytes : Maps.size D0 * 16 ≤ 140737488355328) :
    CallsIn Fence.wide 5 Tryz.prog 72 #[.func (.func 119) #[] #[.pointer (some ⟨w.heap.size, 0, none⟩)]] (w.alloc (.cells #[.map (some b)] 102)) fun e w' => ∃ (v : Value) (ss : List (List UInt8)), e = .returned v ∧ ss.Perm (strKeys D0) ∧
      w'.ownsRow (w.alloc (.cells #[.map (some b)] 102)).heap.size 9 1 v ss.length ((ss.mergeSort (fun x y => decide (x ≤ y))).map encStr) ∧ (v = .slice none 0 0 ↔ ss = []) ∧ Below (w.alloc (.cells #[.map (some b)] 102)).heap.size (w.alloc (.cells #[.map (some b)] 102)) w' := by
  have hbl := hown.lt
  have hseq : SeqGives Fence.wide 2 Tryz.prog 119 #[.pointer (some ⟨w.heap.size, 0, none⟩)] encStr (fun ss => ss.Perm (strKeys D0)) (Maps.size D0) (w.alloc (.cells #[.map (some b)] 102)) :=
    AnyZ.keys_gives (ρ := keys73_ren) { keys73 with } Fence.wide _ trivial rfl (by omega) w.heap.size b nn D0 _ (by simp) (by simp) (by
      obtain ⟨es, clock, hb, Ft, hs, hD⟩ := hown
      exact ⟨es, clock, (Below.heap_alloc _ _ b hbl).trans hb, Ft, hs, hD⟩)
  exact AnyZ.sorted_in sorted72 Fence.wide 5 trivial trivial trivial trivial rfl (by omega) (sorts72 _) (enters_of Tryz.func118 (by kernel_rfl) rfl) 119 #[.pointer (some ⟨w.heap.size, 0, none⟩)] trivial (enters_of Tryz.func119 (by kernel_rfl) rfl) _ _ hmax hbytes _ hseq

set_option maxHeartbeats 1000000 in
theorem slices_Sorted_keys_nil_72_73 (w : World) :
    CallsIn Fence.wide 5 Tryz.prog 72 #[.func (.func 119) #[] #[.pointer (some ⟨w.heap.size, 0, none⟩)]] (w.alloc (.cells #[.map none] 102)) fun e w' => ∃ (v : Value) (ss : List (List UInt8)), e = .returned v ∧ ss = [] ∧
      w'.ownsRow (w.alloc (.cells #[.map none] 102)).heap.size 9 1 v ss.length ((ss.mergeSort (fun x y => decide (x ≤ y))).map encStr) ∧ (v = .slice none 0 0 ↔ ss = []) ∧ Below (w.alloc (.cells #[.map none] 102)).heap.size (w.alloc (.cells #[.map none] 102)) w' := by
  have hseq : SeqGives Fence.wide 2 Tryz.prog 119 #[.pointer (some ⟨w.heap.size, 0, none⟩)] encStr (fun ss : List (List UInt8) => ss = []) 0 (w.alloc (.cells #[.map none] 102)) :=
    AnyZ.keys_gives_nil (ρ := keys73_ren) { keys73 with } Fence.wide _ trivial rfl w.heap.size _ (by simp) (by simp)
  exact AnyZ.sorted_in sorted72 Fence.wide 5 trivial trivial trivial trivial rfl (by omega) (sorts72 _) (enters_of Tryz.func118 (by kernel_rfl) rfl) 119 #[.pointer (some ⟨w.heap.size, 0, none⟩)] trivial (enters_of Tryz.func119 (by kernel_rfl) rfl) _ 0 (Nat.zero_le _) (by omega) _ hseq

end Go.Proofs.YtaijompnohkmaaaGreatDoor
/- Layer 6 (kv): may pairs be (the code's). -/
namespace Go.Proofs.YtaijompnohkmaaaGreatDoor
open Go.RowKit KvP
set_option maxRecDepth 100000 in
set_option maxHeartbeats 4000000 in
theorem paired_any {B : Nat} (v : Value) (l : List PairP) (w : World) (hv : PairsV B w v l) : Calls Tryz.prog 58 #[v] w fun e w' => e = .returned (.bool (pairsB l)) ∧ Below w.heap.size w w' := by
  have hv := hv.tight
  obtain ⟨_, a, c, rfl, h1, h2, _⟩ := id hv
  unfold maxLen at h2
  obtain ⟨N, hN⟩ : ∃ N, N = l.length := ⟨_, rfl⟩
  rw [← hN] at hv h1 ⊢
  have HN := Lib.hid hN
  have HV := Lib.hid hv
  clear hN hv
  go_enter Tryz.func58, Tryz.ntmps58
  go_wp2_with fail
  go_loopw [3, 4, 7] (fun _ _ i wr => ∃ k : Nat, k ≤ N ∧ i = .int .i64 k ∧ Below w.heap.size w wr ∧ Hid (∀ i (_ : i < k) (h' : i < l.length), goodAt l i l[i] = true)) (fun _ _ i _ => N - (intOf i).toNat)
  case atStart => exact ⟨0, Nat.zero_le _, rfl, Below.refl _ _, Lib.hid (fun i h => absurd h (Nat.not_lt_zero _))⟩
  case round =>
    obtain ⟨k, hk, rfl, hb, HG⟩ := hrel
    by_cases hkN : k < N
    · have hkl : k < l.length := HN.out ▸ hkN
      have k1 : (0 : Int) ≤ (k : Int) := by omega
      have k2 : (k : Int) < (N : Int) := by omega
      have k0 : decide ((k : Int) < (N : Int)) = true := by simp; omega
      obtain ⟨b, off, rfl, hbb, hc⟩ := load_pair HV.out hkl
      obtain ⟨S0, S1⟩ := hc wr hb
      obtain ⟨sk, hsk⟩ : ∃ s, s = ByteArray.mk l[k].key.toArray := ⟨_, rfl⟩
      obtain ⟨sv, hsv⟩ : ∃ s, s = ByteArray.mk l[k].val.toArray := ⟨_, rfl⟩
      change wr.cell? _ = some (.string _) at S0
      change wr.cell? _ = some (.string _) at S1
      rw [← hsk] at S0
      rw [← hsv] at S1
      obtain ⟨w1, hw1⟩ : ∃ x, x = wr.alloc (.cells #[.string sk, .string sv] 76) := ⟨_, rfl⟩
      obtain ⟨g, hg⟩ : ∃ g, g = wr.heap.size := ⟨_, rfl⟩
      have HW1 := Lib.hid hw1
      have HGG := Lib.hid hg
      have HSK := Lib.hid hsk
      have HSV := Lib.hid hsv
      clear hsk hsv hw1 hg hc
      go_upto_region 4 with (fail)
      rw [← HW1.out, ← HGG.out]
      have hb1 : Below w.heap.size w w1 := by rw [HW1.out]; exact Below.alloc hb hb.size _
      have hbox : w1.heap[g]? = some (.cells #[.string sk, .string sv] 76 (0, 0)) := by rw [HW1.out, HGG.out]; exact heap_alloc_new wr _
      have s0 : Below w1.heap.size w1 w1.drew := below_draws (Below.refl _ _) 1
      have L0 : ∀ w', Below w1.heap.size w1 w' → w'.cell? ⟨g, 0, none⟩ = some (.string sk) := fun w' h => cell_of_row w' _ 0 _ _ _ ((h.block _ (block_lt hbox)).trans hbox)
      have L1 : ∀ w', Below w1.heap.size w1 w' → w'.cell? ⟨g, 1, none⟩ = some (.string sv) := fun w' h => cell_of_row w' _ 1 _ _ _ ((h.block _ (block_lt hbox)).trans hbox)
      have HB1 := Lib.hid hb1
      have km : ∀ w', Calls Tryz.prog 80 #[.string sk, .string sv] w' fun e w'' => e = .returned (.bool (mayP l[k].key l[k].val)) ∧ w' = w'' := fun w' => by
        rw [HSK.out, HSV.out]
        exact may_any _ _ w'
      obtain ⟨cm, hcm⟩ : ∃ x, x = mayP l[k].key l[k].val := ⟨_, rfl⟩
      rw [← hcm] at km
      have HCM := Lib.hid hcm
      have KM := Lib.hid km
      clear hcm km hb1 hbox S0 S1
      by_cases h400 : 400 ≤ k
      · have c0 : decide ((400 : Int) ≤ (k : Int)) = true := by simp; omega
        have hfin : pairsB l = false := by
          rw [Bool.eq_false_iff]
          intro h
          have := pairsB_iff.1 h k hkl
          unfold goodAt at this
          rw [decide_eq_false (show ¬ k < 400 by omega)] at this
          simp at this
        have HFIN := Lib.hid hfin
        clear hfin
        refine wp_region_I [(false, 0), (false, 1), (false, 2), (false, 3), (false, 4), (false, 5), (false, 6), (true, 7), (false, 8), (false, 9), (false, 10), (false, 11), (false, 12), (false, 13), (false, 14), (false, 15), (false, 16), (false, 17), (false, 18), (false, 19), (false, 20), (false, 21), (false, 22), (false, 23), (false, 24)] (fun w' => Below w1.heap.size w1 w') (by kernel_rfl) (by kernel_rfl) s0 ?_
        repeat (first | (refine heldI_skip rfl rfl ?_; simp only [Act.put, List.setIfInBounds_toArray, List.set_cons_zero, List.set_cons_succ]) | (refine heldI_take rfl ?_ rfl (fun w' hw' => ?_) ?_; rotate_left; (go_simp; first | done | with_reducible rfl); (try simp only [Act.put, List.setIfInBounds_toArray, List.set_cons_zero, List.set_cons_succ])))
        refine heldI_pass rfl rfl s0 ?_
        simp only [Act.put, List.setIfInBounds_toArray, List.set_cons_zero, List.set_cons_succ]
        repeat (first | (refine heldI_skip rfl rfl ?_; simp only [Act.put, List.setIfInBounds_toArray, List.set_cons_zero, List.set_cons_succ]) | (refine heldI_take rfl ?_ rfl (fun w' hw' => ?_) ?_; rotate_left; (go_simp; first | done | with_reducible rfl); (try simp only [Act.put, List.setIfInBounds_toArray, List.set_cons_zero, List.set_cons_succ])))
        refine heldI_nil ?_
        go_wp2_with fail
        go_ret
        exact ⟨by rw [HFIN.out]; rfl, HB1.out.trans (s0.mono HB1.out.size)⟩
      have c0 : decide ((400 : Int) ≤ (k : Int)) = false := by simp; omega
      cases cm with
      | false =>
        have hfin : pairsB l = false := by
          rw [Bool.eq_false_iff]
          intro h
          have := pairsB_iff.1 h k hkl
          unfold goodAt at this
          rw [← HCM.out] at this
          simp at this
        have HFIN := Lib.hid hfin
        clear hfin
        refine wp_region_I [(false, 0), (false, 1), (false, 2), (false, 3), (false, 4), (false, 5), (false, 6), (true, 7), (false, 8), (false, 9), (false, 10), (false, 11), (false, 12), (false, 13), (false, 14), (false, 15), (false, 16), (false, 17), (false, 18), (false, 19), (false, 20), (false, 21), (false, 22), (false, 23), (false, 24)] (fun w' => Below w1.heap.size w1 w') (by kernel_rfl) (by kernel_rfl) s0 ?_
        repeat (first | (refine heldI_skip rfl rfl ?_; simp only [Act.put, List.setIfInBounds_toArray, List.set_cons_zero, List.set_cons_succ]) | (refine heldI_take rfl ?_ rfl (fun w' hw' => ?_) ?_; rotate_left; (go_simp; first | done | with_reducible rfl); (try simp only [Act.put, List.setIfInBounds_toArray, List.set_cons_zero, List.set_cons_succ])))
        refine heldI_act rfl rfl fun K hK => ?_
        go_simp
        refine (KM.out _).mono ?_
        rintro e w5 ⟨rfl, rfl⟩
        refine hK.out _ _ s0 ?_
        clear hK K
        repeat (first | (refine heldI_skip rfl rfl ?_; simp only [Act.put, List.setIfInBounds_toArray, List.set_cons_zero, List.set_cons_succ]) | (refine heldI_take rfl ?_ rfl (fun w' hw' => ?_) ?_; rotate_left; (go_simp; first | done | with_reducible rfl); (try simp only [Act.put, List.setIfInBounds_toArray, List.set_cons_zero, List.set_cons_succ])))
        refine heldI_nil ?_
        go_wp2_with fail
        go_ret
        exact ⟨by rw [HFIN.out]; rfl, HB1.out.trans (s0.mono HB1.out.size)⟩
      | true =>
        cases k with
        | zero =>
          have hok : goodAt l 0 l[0] = true := by
            unfold goodAt
            rw [← HCM.out]
            simp
          have HOK := Lib.hid hok
          clear hok
          refine wp_region_I [(false, 0), (false, 1), (false, 2), (false, 3), (false, 4), (false, 5), (false, 6), (true, 7), (false, 8), (false, 9), (false, 10), (false, 11), (false, 12), (false, 13), (false, 14), (false, 15), (false, 16), (false, 17), (false, 18), (false, 19), (false, 20), (false, 21), (false, 22), (false, 23), (false, 24)] (fun w' => Below w1.heap.size w1 w') (by kernel_rfl) (by kernel_rfl) s0 ?_
          repeat (first | (refine heldI_skip rfl rfl ?_; simp only [Act.put, List.setIfInBounds_toArray, List.set_cons_zero, List.set_cons_succ]) | (refine heldI_take rfl ?_ rfl (fun w' hw' => ?_) ?_; rotate_left; (go_simp; first | done | with_reducible rfl); (try simp only [Act.put, List.setIfInBounds_toArray, List.set_cons_zero, List.set_cons_succ])))
          refine heldI_act rfl rfl fun K hK => ?_
          go_simp
          refine (KM.out _).mono ?_
          rintro e w5 ⟨rfl, rfl⟩
          refine hK.out _ _ s0 ?_
          clear hK K
          repeat (first | (refine heldI_skip rfl rfl ?_; simp only [Act.put, List.setIfInBounds_toArray, List.set_cons_zero, List.set_cons_succ]) | (refine heldI_take rfl ?_ rfl (fun w' hw' => ?_) ?_; rotate_left; (go_simp; first | done | with_reducible rfl); (try simp only [Act.put, List.setIfInBounds_toArray, List.set_cons_zero, List.set_cons_succ])))
          refine heldI_nil ?_
          go_wp2_with fail
          go_roundw
          case rel =>
            refine ⟨0 + 1, by omega, by go_num, HB1.out.trans (s0.mono HB1.out.size), Lib.hid (fun i hi h' => ?_)⟩
            by_cases hik : i < 0
            · exact HG.out i hik h'
            · obtain rfl : i = 0 := by omega
              exact HOK.out
          case measure => simp [intOf]; omega
        | succ j =>
          obtain ⟨b', off', he', _, hc'⟩ := load_pair HV.out (show j < l.length by omega)
          cases he'
          obtain ⟨sp, hsp⟩ : ∃ s, s = ByteArray.mk l[j].key.toArray := ⟨_, rfl⟩
          have L2 : ∀ w', Below w1.heap.size w1 w' → w'.cell? ⟨b, off + j * 2, none⟩ = some (.string sp) := fun w' h => by
            rw [hsp]
            exact (hc' w' (HB1.out.trans (h.mono HB1.out.size))).1
          obtain ⟨cl, hcl⟩ : ∃ x, x = decide (l[j].key < l[j + 1].key) := ⟨_, rfl⟩
          have kb : Op.bytesLess sp.toList sk.toList = cl := by rw [hsp, HSK.out, str_list, str_list, bytesLess_eq, hcl]
          have hok : goodAt l (j + 1) l[j + 1] = cl := by
            unfold goodAt
            rw [← HCM.out, decide_eq_true (show j + 1 < 400 by omega), Nat.add_sub_cancel, List.getElem?_eq_getElem (show j < l.length by omega)]
            simp [hcl]
          have HOK := Lib.hid hok
          clear hok hcl hsp hc'
          have j1 : (0 : Int) ≤ (j : Int) := by omega
          have hwj : IntKind.i64.wrap (j : Int) = (j : Int) := by
            simp only [IntKind.wrap, IntKind.bits, IntKind.signed]
            simp
            omega
          have c1 : decide ((400 : Int) ≤ (j : Int) + 1) = false := by simp; omega
          have c2 : decide ((0 : Int) < (j : Int) + 1) = true := decide_eq_true (by omega)
          have j2 : (j : Int) < (N : Int) := by omega
          cases cl with
          | false =>
            have hfin : pairsB l = false := by
              rw [Bool.eq_false_iff]
              intro h
              have := pairsB_iff.1 h (j + 1) hkl
              rw [HOK.out] at this
              cases this
            have HFIN := Lib.hid hfin
            clear hfin
            refine wp_region_I [(false, 0), (false, 1), (false, 2), (false, 3), (false, 4), (false, 5), (false, 6), (true, 7), (false, 8), (false, 9), (false, 10), (false, 11), (false, 12), (false, 13), (false, 14), (false, 15), (false, 16), (false, 17), (false, 18), (false, 19), (false, 20), (false, 21), (false, 22), (false, 23), (false, 24)] (fun w' => Below w1.heap.size w1 w') (by kernel_rfl) (by kernel_rfl) s0 ?_
            repeat (first | (refine heldI_skip rfl rfl ?_; simp only [Act.put, List.setIfInBounds_toArray, List.set_cons_zero, List.set_cons_succ]) | (refine heldI_take rfl ?_ rfl (fun w' hw' => ?_) ?_; rotate_left; (go_simp; first | done | with_reducible rfl); (try simp only [Act.put, List.setIfInBounds_toArray, List.set_cons_zero, List.set_cons_succ])))
            refine heldI_act rfl rfl fun K hK => ?_
            go_simp
            refine (KM.out _).mono ?_
            rintro e w5 ⟨rfl, rfl⟩
            refine hK.out _ _ s0 ?_
            clear hK K
            repeat (first | (refine heldI_skip rfl rfl ?_; simp only [Act.put, List.setIfInBounds_toArray, List.set_cons_zero, List.set_cons_succ]) | (refine heldI_take rfl ?_ rfl (fun w' hw' => ?_) ?_; rotate_left; (go_simp; first | done | with_reducible rfl); (try simp only [Act.put, List.setIfInBounds_toArray, List.set_cons_zero, List.set_cons_succ])))
            refine heldI_nil ?_
            go_wp2_with fail
            go_ret
            exact ⟨by rw [HFIN.out]; rfl, HB1.out.trans (s0.mono HB1.out.size)⟩
          | true =>
            refine wp_region_I [(false, 0), (false, 1), (false, 2), (false, 3), (false, 4), (false, 5), (false, 6), (true, 7), (false, 8), (false, 9), (false, 10), (false, 11), (false, 12), (false, 13), (false, 14), (false, 15), (false, 16), (false, 17), (false, 18), (false, 19), (false, 20), (false, 21), (false, 22), (false, 23), (false, 24)] (fun w' => Below w1.heap.size w1 w') (by kernel_rfl) (by kernel_rfl) s0 ?_
            repeat (first | (refine heldI_skip rfl rfl ?_; simp only [Act.put, List.setIfInBounds_toArray, List.set_cons_zero, List.set_cons_succ]) | (refine heldI_take rfl ?_ rfl (fun w' hw' => ?_) ?_; rotate_left; (go_simp; first | done | with_reducible rfl); (try simp only [Act.put, List.setIfInBounds_toArray, List.set_cons_zero, List.set_cons_succ])))
            refine heldI_act rfl rfl fun K hK => ?_
            go_simp
            refine (KM.out _).mono ?_
            rintro e w5 ⟨rfl, rfl⟩
            refine hK.out _ _ s0 ?_
            clear hK K
            repeat (first | (refine heldI_skip rfl rfl ?_; simp only [Act.put, List.setIfInBounds_toArray, List.set_cons_zero, List.set_cons_succ]) | (refine heldI_take rfl ?_ rfl (fun w' hw' => ?_) ?_; rotate_left; (go_simp; first | done | with_reducible rfl); (try simp only [Act.put, List.setIfInBounds_toArray, List.set_cons_zero, List.set_cons_succ])))
            refine heldI_nil ?_
            go_wp2_with fail
            go_roundw
            case rel =>
              refine ⟨(j + 1) + 1, by omega, by go_num, HB1.out.trans (s0.mono HB1.out.size), Lib.hid (fun i hi h' => ?_)⟩
              by_cases hik : i < (j + 1)
              · exact HG.out i hik h'
              · obtain rfl : i = (j + 1) := by omega
                exact HOK.out
            case measure => simp [intOf]; omega
    · have k0 : decide ((k : Int) < (N : Int)) = false := by simp; omega
      have hfin : pairsB l = true := pairsB_iff.2 (fun i hi => HG.out i (by have := HN.out; omega) hi)
      have HFIN := Lib.hid hfin
      clear hfin
      go_wp2_with fail
      go_ret
      exact ⟨by rw [HFIN.out]; rfl, hb⟩
end Go.Proofs.YtaijompnohkmaaaGreatDoor
/- Layer 6 (kv): may changes be (the code's). -/
namespace Go.Proofs.YtaijompnohkmaaaGreatDoor
open Go.RowKit KvP
set_option maxRecDepth 100000 in
set_option maxHeartbeats 4000000 in
theorem changed1_any (c : ChangeP) (w : World) : Calls Tryz.prog 79 #[.agg #[str c.key, str c.val, .bool c.gone]] w fun e w' => e = .returned (.bool (!okC c)) ∧ Below w.heap.size w w' := by
  obtain ⟨key, val, gone⟩ := c
  unfold str
  dsimp only
  obtain ⟨sk, hsk⟩ : ∃ s, s = ByteArray.mk key.toArray := ⟨_, rfl⟩
  obtain ⟨sv, hsv⟩ : ∃ s, s = ByteArray.mk val.toArray := ⟨_, rfl⟩
  rw [← hsk, ← hsv]
  have HSK := Lib.hid hsk
  have HSV := Lib.hid hsv
  have km : ∀ w', Calls Tryz.prog 80 #[.string sk, .string sv] w' fun e w'' => e = .returned (.bool (mayP key val)) ∧ w' = w'' := fun w' => by
    rw [HSK.out, HSV.out]
    exact may_any _ _ w'
  obtain ⟨cm, hcm⟩ : ∃ x, x = mayP key val := ⟨_, rfl⟩
  obtain ⟨ce, hce⟩ : ∃ x, x = sv.toList.isEmpty := ⟨_, rfl⟩
  have hok : okC ⟨key, val, gone⟩ = (cm && !(gone && !ce)) := by
    unfold okC
    rw [hcm, hce, HSV.out, str_list]
    cases val <;> simp
  rw [hok]
  rw [← hcm] at km
  have KM := Lib.hid km
  have q0 : sv.toList.isEmpty = ce := hce.symm
  clear hsk hsv hcm hce km hok
  go_enter Tryz.func79, Tryz.ntmps79
  go_wp2_with fail
  refine (KM.out _).mono ?_
  rintro e w5 ⟨rfl, rfl⟩
  have hb : Below w.heap.size w (w.alloc (.cells #[.string sk, .string sv, .bool gone] 33)) := Below.alloc (Below.refl _ _) (Nat.le_refl _) _
  have HB := Lib.hid hb
  clear hb
  cases cm with
  | false =>
    go_wp2_with fail
    go_ret
    exact ⟨rfl, HB.out⟩
  | true =>
    cases gone with
    | false =>
      go_wp2_with fail
      go_ret
      exact ⟨rfl, HB.out⟩
    | true =>
      cases ce with
      | false =>
        go_wp2_with fail
        go_ret
        exact ⟨rfl, HB.out⟩
      | true =>
        go_wp2_with fail
        go_ret
        exact ⟨rfl, HB.out⟩
end Go.Proofs.YtaijompnohkmaaaGreatDoor
/- Layer 6 (kv): may changes be (the code's), whole. -/
namespace Go.Proofs.YtaijompnohkmaaaGreatDoor
open Go.RowKit KvP
set_option maxRecDepth 100000 in
set_option maxHeartbeats 4000000 in
theorem indexC_any {B : Nat} (v : Value) (l : List ChangeP) (w : World) (hv : ChangesV B w v l) : Calls Tryz.prog 124 #[v, .func (.func 79) #[] #[]] w fun e w' => (∃ z : Int, e = .returned (.int .i64 z) ∧ decide (0 ≤ z) = !(l.all okC)) ∧ Below w.heap.size w w' := by
  have hv := hv.tight
  obtain ⟨_, a, c, rfl, h1, h2, _⟩ := id hv
  unfold maxLen at h2
  obtain ⟨N, hN⟩ : ∃ N, N = l.length := ⟨_, rfl⟩
  rw [← hN] at hv h1 ⊢
  have HN := Lib.hid hN
  have HV := Lib.hid hv
  clear hN hv
  go_enter Tryz.func124, Tryz.ntmps124
  go_wp2_with fail
  go_loopw [5, 8] (fun _ i wr => ∃ k : Nat, k ≤ N ∧ i = .int .i64 k ∧ Below w.heap.size w wr ∧ Hid (∀ c ∈ l.take k, okC c = true)) (fun _ i _ => N - (intOf i).toNat)
  case atStart => exact ⟨0, Nat.zero_le _, rfl, Below.refl _ _, Lib.hid (fun c h => by simp at h)⟩
  case round =>
    obtain ⟨k, hk, rfl, hb, HG⟩ := hrel
    by_cases hkN : k < N
    · have hkl : k < l.length := HN.out ▸ hkN
      have k1 : (0 : Int) ≤ (k : Int) := by omega
      have k2 : (k : Int) < (N : Int) := by omega
      have k0 : decide ((k : Int) < (N : Int)) = true := by simp; omega
      obtain ⟨b, off, rfl, hbb, hc⟩ := load_change HV.out hkl
      obtain ⟨S0, S1, S2⟩ := hc wr hb
      obtain ⟨x, hx⟩ : ∃ x, x = l[k] := ⟨_, rfl⟩
      rw [← hx] at S0 S1 S2
      have HX := Lib.hid hx
      clear hx hc
      have kc := changed1_any x wr
      go_wp2_with fail
      refine kc.mono ?_
      rintro e w5 ⟨rfl, hb5⟩
      have HB := Lib.hid (hb.trans (hb5.mono hb.size))
      clear kc hb hb5 S0 S1 S2
      obtain ⟨ok, hok⟩ : ∃ y, y = okC x := ⟨_, rfl⟩
      rw [← hok]
      have HOK := Lib.hid hok
      clear hok
      cases ok with
      | false =>
        have hfin : l.all okC = false := by
          rw [Bool.eq_false_iff]
          intro h
          have := List.all_eq_true.1 h l[k] (List.getElem_mem hkl)
          rw [← HX.out, ← HOK.out] at this
          cases this
        have HFIN := Lib.hid hfin
        clear hfin
        go_wp2_with fail
        go_ret
        exact ⟨⟨_, rfl, by rw [HFIN.out]; simp⟩, HB.out⟩
      | true =>
        have hg : ∀ c ∈ l.take (k + 1), okC c = true := fun c hc => by
          rw [List.take_succ_eq_append_getElem hkl] at hc
          rcases List.mem_append.1 hc with hc | hc
          · exact HG.out c hc
          · rw [List.mem_singleton.1 hc, ← HX.out]; exact HOK.out.symm
        have HG2 := Lib.hid hg
        clear hg
        go_wp2_with fail
        go_roundw
        case rel => exact ⟨k + 1, by omega, by go_num, HB.out, HG2⟩
        case measure => simp [intOf]; omega
    · have k0 : decide ((k : Int) < (N : Int)) = false := by simp; omega
      have hfin : l.all okC = true := List.all_eq_true.2 (fun c hc => HG.out c (by rw [List.take_of_length_le (by have := HN.out; omega)]; exact hc))
      have HFIN := Lib.hid hfin
      clear hfin
      go_wp2_with fail
      go_ret
      exact ⟨⟨-1, rfl, by rw [HFIN.out]; rfl⟩, hb⟩
set_option maxRecDepth 100000 in
set_option maxHeartbeats 4000000 in
theorem containsC_any {B : Nat} (v : Value) (l : List ChangeP) (w : World) (hv : ChangesV B w v l) : Calls Tryz.prog 78 #[v, .func (.func 79) #[] #[]] w fun e w' => e = .returned (.bool (!(l.all okC))) ∧ Below w.heap.size w w' := by
  have ki := indexC_any v l w hv
  go_enter Tryz.func78, Tryz.ntmps78
  go_wp2_with fail
  refine ki.mono ?_
  rintro e w5 ⟨⟨z, rfl, hz⟩, hb5⟩
  have HZ := Lib.hid hz
  clear ki hz
  go_wp2_with fail
  go_ret
  refine ⟨?_, hb5⟩
  rw [← HZ.out]
  simp
set_option maxRecDepth 100000 in
set_option maxHeartbeats 4000000 in
theorem changed_any {B : Nat} (v : Value) (l : List ChangeP) (w : World) (hv : ChangesV B w v l) : Calls Tryz.prog 43 #[v] w fun e w' => e = .returned (.bool (changesB l)) ∧ Below w.heap.size w w' := by
  have hv := hv.tight
  obtain ⟨_, a, c, rfl, h1, h2, _⟩ := id hv
  unfold maxLen at h2
  obtain ⟨N, hN⟩ : ∃ N, N = l.length := ⟨_, rfl⟩
  rw [← hN] at hv h1 ⊢
  have HN := Lib.hid hN
  have HV := Lib.hid hv
  clear hN hv
  go_enter Tryz.func43, Tryz.ntmps43
  by_cases h400 : N ≤ 400
  · have q0 : decide ((N : Int) ≤ 400) = true := by simp; omega
    have kc := containsC_any (.slice a N c) l w HV.out
    have hfin : changesB l = l.all okC := by
      unfold changesB
      rw [decide_eq_true (by rw [← HN.out]; exact h400), Bool.true_and]
    have HFIN := Lib.hid hfin
    clear hfin
    go_wp2_with fail
    refine kc.mono ?_
    rintro e w5 ⟨rfl, hb5⟩
    clear kc
    go_wp2_with fail
    go_ret
    refine ⟨?_, hb5⟩
    rw [HFIN.out]
    simp
  · have q0 : decide ((N : Int) ≤ 400) = false := by simp; omega
    have hfin : changesB l = false := by
      unfold changesB
      rw [decide_eq_false (by rw [← HN.out]; exact h400)]
      rfl
    have HFIN := Lib.hid hfin
    clear hfin
    go_wp2_with fail
    go_ret
    exact ⟨by rw [HFIN.out]; rfl, Below.refl _ _⟩
end Go.Proofs.YtaijompnohkmaaaGreatDoor
/- Layer 6 (kv): a transaction's bytes (the code's). -/
namespace Go.Proofs.YtaijompnohkmaaaGreatDoor
open Go.RowKit KvP PackP
theorem run_b1i (z : Int) (w : World) : (Instr.buildSlice 156 1 #[(0, .int .i64 z)]).run Tryz.prog w = .ok (.slice (some ⟨w.heap.size, 0, none⟩) 1 1) (w.alloc (.cells #[.int .i64 z] 3)) := by kernel_rfl
theorem run_b1s (s : ByteArray) (w : World) : (Instr.buildSlice 103 1 #[(0, .string s)]).run Tryz.prog w = .ok (.slice (some ⟨w.heap.size, 0, none⟩) 1 1) (w.alloc (.cells #[.string s] 9)) := by kernel_rfl
theorem run_b2s (s t : ByteArray) (w : World) : (Instr.buildSlice 103 2 #[(0, .string s), (1, .string t)]).run Tryz.prog w = .ok (.slice (some ⟨w.heap.size, 0, none⟩) 2 2) (w.alloc (.cells #[.string s, .string t] 9)) := by kernel_rfl
theorem ints_new {w : World} (z : Int) : Ints (w.heap.size + 1) (w.alloc (.cells #[.int .i64 z] 3)) (.slice (some ⟨w.heap.size, 0, none⟩) 1 1) [z] :=
  row_of_heap (sz := 1) (n := 1) (heap_alloc_new w _) (Nat.lt_succ_self _) rfl (Nat.le_refl _) (by decide) (fun k u hk => by simpa using hk)
theorem strs1_new {w : World} (s : ByteArray) : Strs (w.heap.size + 1) (w.alloc (.cells #[.string s] 9)) (.slice (some ⟨w.heap.size, 0, none⟩) 1 1) [s] :=
  row_of_heap (sz := 1) (n := 1) (heap_alloc_new w _) (Nat.lt_succ_self _) rfl (Nat.le_refl _) (by decide) (fun k u hk => by simpa using hk)
theorem strs2_new {w : World} (s t : ByteArray) : Strs (w.heap.size + 1) (w.alloc (.cells #[.string s, .string t] 9)) (.slice (some ⟨w.heap.size, 0, none⟩) 2 2) [s, t] :=
  row_of_heap (sz := 1) (n := 2) (heap_alloc_new w _) (Nat.lt_succ_self _) rfl (Nat.le_refl _) (by decide) (fun k u hk => by simpa using hk)
theorem len_changeB (c : ChangeP) : (changeB c).length ≤ 8208 := by
  unfold changeB
  split
  · rw [List.length_append, length_numB]
    have := length_textB c.key
    omega
  · rw [List.length_append, List.length_append, length_numB]
    have := length_textB c.key
    have := length_textB c.val
    omega
theorem len_changes (l : List ChangeP) : ((l.map changeB).flatten).length ≤ 8208 * l.length := by
  induction l with
  | nil => exact Nat.le_refl _
  | cons c l ih =>
    rw [List.map_cons, List.flatten_cons, List.length_append, List.length_cons]
    have := len_changeB c
    omega
/-- A transaction's bytes, behind k changes. -/
def bytesK (l : List ChangeP) (k : Nat) : List UInt8 := numB l.length ++ ((l.take k).map changeB).flatten
theorem len_bytesK (l : List ChangeP) (k : Nat) (hk : k ≤ 2 ^ 20) : (bytesK l k).length ≤ 2 ^ 34 := by
  unfold bytesK
  rw [List.length_append, length_numB]
  have := len_changes (l.take k)
  rw [List.length_take] at this
  have h2 : min k l.length ≤ 2 ^ 20 := Nat.le_trans (Nat.min_le_left _ _) hk
  omega
theorem bytesK_succ (l : List ChangeP) (k : Nat) (h : k < l.length) : bytesK l (k + 1) = bytesK l k ++ changeB l[k] := by
  unfold bytesK
  rw [List.take_succ_eq_append_getElem h, List.map_append, List.flatten_append, List.append_assoc]
  simp
theorem bytesK_all (l : List ChangeP) : bytesK l l.length = bytesP l := by
  unfold bytesK bytesP
  rw [List.take_length]
set_option maxRecDepth 100000 in
set_option maxHeartbeats 4000000 in
theorem bytes_any {B : Nat} (v : Value) (l : List ChangeP) (w : World) (hv : ChangesV B w v l) (hl : l.length ≤ 2 ^ 20) (hsz : ∀ c ∈ l, c.key.length ≤ 2 ^ 20 ∧ c.val.length ≤ 2 ^ 20) :
    Calls Tryz.prog 44 #[v] w fun e w' => ∃ v', e = .returned v' ∧ OwnB w.heap.size w' v' (bytesP l) ∧ Below w.heap.size w w' := by
  have hv := hv.tight
  obtain ⟨_, a, c, rfl, h1, h2, _⟩ := id hv
  unfold maxLen at h2
  obtain ⟨N, hN⟩ : ∃ N, N = l.length := ⟨_, rfl⟩
  have hb0 : bytesK l 0 = [] ++ numsB [(N : Int)] := by
    unfold bytesK numsB
    rw [hN]
    simp
  have hHB := Lib.hid (bytesK_all l)
  rw [← hHB.out, ← hN]
  rw [← hN] at hv h1 hl
  have HN := Lib.hid hN
  have HV := Lib.hid hv
  have HSZ := Lib.hid hsz
  have HB0 := Lib.hid hb0
  have HLN := Lib.hid hl
  clear hN hv hsz hb0 hl hHB
  have hn0 : Bytes 0 w (.slice none 0 0) [] := nil_bytes _ _
  have hb1 : Below w.heap.size w (w.alloc (.cells #[.int .i64 (N : Int)] 3)) := Below.alloc (Below.refl _ _) (Nat.le_refl _) _
  have kc := num_any (.slice none 0 0) (.slice (some ⟨w.heap.size, 0, none⟩) 1 1) [] [(N : Int)] _ (hn0.below (Below.alloc (Below.refl _ _) (Nat.zero_le _) _)) (ints_new (w := w) (N : Int)) (by simp)
  have HB1 := Lib.hid hb1
  clear hb1 hn0
  go_enter Tryz.func44, Tryz.ntmps44
  go_wp2_with fail
  refine kc.mono ?_
  rintro e w0 ⟨v0, rfl, ho0, hb0⟩
  clear kc
  rw [← HB0.out] at ho0
  have ho0' := Own.lower ho0 HB1.out.size
  have HO0 := Lib.hid ho0'
  have HB2 := Lib.hid (HB1.out.trans (hb0.mono HB1.out.size))
  clear ho0 ho0' hb0
  go_wp2_with fail
  go_loopw [3, 12] (fun s i wr => ∃ k : Nat, k ≤ N ∧ i = .int .i64 k ∧ OwnB w.heap.size wr s (bytesK l k) ∧ Below w.heap.size w wr) (fun _ i _ => N - (intOf i).toNat)
  case atStart => exact ⟨0, Nat.zero_le _, rfl, HO0.out, HB2.out⟩
  case round =>
    obtain ⟨k, hk, rfl, ho, hb⟩ := hrel
    clear HO0 HB2 HB1 HB0
    by_cases hkN : k < N
    · have hkl : k < l.length := HN.out ▸ hkN
      have k1 : (0 : Int) ≤ (k : Int) := by omega
      have k2 : (k : Int) < (N : Int) := by omega
      have k0 : decide ((k : Int) < (N : Int)) = true := by simp; omega
      obtain ⟨b, off, rfl, hbb, hc⟩ := load_change HV.out hkl
      obtain ⟨S0, S1, S2⟩ := hc wr hb
      have hz := HSZ.out _ (List.getElem_mem hkl)
      have hsucc := bytesK_succ l k hkl
      have hlen : (bytesK l k).length ≤ 2 ^ 34 := len_bytesK l k (Nat.le_trans hk HLN.out)
      obtain ⟨⟨key, val, gn⟩, hx⟩ : ∃ x, x = l[k] := ⟨_, rfl⟩
      rw [← hx] at S0 S1 S2 hz hsucc
      clear hx hc
      dsimp only at S0 S1 S2 hz
      obtain ⟨sk, hsk⟩ : ∃ s, s = ByteArray.mk key.toArray := ⟨_, rfl⟩
      obtain ⟨sv, hsv⟩ : ∃ s, s = ByteArray.mk val.toArray := ⟨_, rfl⟩
      change wr.cell? _ = some (.string _) at S0
      change wr.cell? _ = some (.string _) at S1
      rw [← hsk] at S0
      rw [← hsv] at S1
      have hzk : sk.size ≤ reachBytes := by rw [hsk, str_size]; unfold reachBytes; omega
      have hzv : sv.size ≤ reachBytes := by rw [hsv, str_size]; unfold reachBytes; omega
      have htk : sk.data.toList = key := by rw [hsk]
      have htv : sv.data.toList = val := by rw [hsv]
      have HZK := Lib.hid hzk
      have HZV := Lib.hid hzv
      have HTK := Lib.hid htk
      have HTV := Lib.hid htv
      have HSU := Lib.hid hsucc
      have HLE := Lib.hid hlen
      clear hsk hsv hz hzk hzv htk htv hsucc hlen
      obtain ⟨w1, hw1⟩ : ∃ x, x = wr.alloc (.cells #[.string sk, .string sv, .bool gn] 33) := ⟨_, rfl⟩
      obtain ⟨g, hg⟩ : ∃ g, g = wr.heap.size := ⟨_, rfl⟩
      have HW1 := Lib.hid hw1
      have HGG := Lib.hid hg
      clear hw1 hg
      go_upto_region 5 with (fail)
      rw [← HW1.out, ← HGG.out]
      have hbw : Below wr.heap.size wr w1 := by rw [HW1.out]; exact Below.alloc (Below.refl _ _) (Nat.le_refl _) _
      have hbox : w1.heap[g]? = some (.cells #[.string sk, .string sv, .bool gn] 33 (0, 0)) := by rw [HW1.out, HGG.out]; exact heap_alloc_new wr _
      have C2 := cell_of_row w1 _ 2 _ _ _ hbox
      have L0 : ∀ w', Below w1.heap.size w1 w' → w'.cell? ⟨g, 0, none⟩ = some (.string sk) := fun w' h => cell_of_row w' _ 0 _ _ _ ((h.block _ (block_lt hbox)).trans hbox)
      have L1 : ∀ w', Below w1.heap.size w1 w' → w'.cell? ⟨g, 1, none⟩ = some (.string sv) := fun w' h => cell_of_row w' _ 1 _ _ _ ((h.block _ (block_lt hbox)).trans hbox)
      have hOB := Lib.hid (ho.keep hbw (Nat.le_refl _)).bytes
      have HB3 := Lib.hid (hb.trans (hbw.mono hb.size))
      have s0 : Below w1.heap.size w1 w1.drew := below_draws (Below.refl _ _) 1
      have HOB := Lib.hid (hOB.out.below s0).tight
      clear hbox hbw S0 S1 S2 ho hb hOB
      cases gn with
    | true =>
        go_upto_region 6 with (fail)
        clear C2
        refine wp_region_start (fun w' => Below w1.heap.size w1 w') (by kernel_rfl) s0 ?_
        refine wpAnyH_part [(false, 0), (false, 3), (false, 4)] (by kernel_rfl) s0 ?_
        repeat (first | (refine heldI_skip rfl rfl ?_; simp only [Act.put, List.setIfInBounds_toArray, List.set_cons_zero, List.set_cons_succ]) | (refine heldI_take rfl ?_ rfl (fun w' hw' => ?_) ?_; rotate_left; (go_simp; first | done | with_reducible rfl); (try simp only [Act.put, List.setIfInBounds_toArray, List.set_cons_zero, List.set_cons_succ])))
        refine heldI_nil ?_
        have hob := HOB.out
        clear HOB
        refine wpAnyH_ready (rs := [1, 5]) (by kernel_rfl) (by simp) ?_
        refine ready_cons rfl rfl (fun K hK => ?_) (ready_cons rfl rfl (fun K hK => ?_) AllReadyH.nil)
        · skip
          obtain ⟨wt1, hw⟩ : ∃ x, x = w1.drew.alloc (.cells #[.int .i64 1] 3) := ⟨_, rfl⟩
          obtain ⟨ghni, hg⟩ : ∃ g, g = w1.drew.heap.size := ⟨_, rfl⟩
          have hb : Below w1.drew.heap.size w1.drew wt1 := by rw [hw]; exact Below.alloc (Below.refl _ _) (Nat.le_refl _) _
          have st1 := s0.trans (hb.mono s0.size)
          have hni := ints_new (w := w1.drew) (1 : Int)
          rw [← hw, ← hg] at hni
          replace hni := hni.tight
          have hob := (hob.below hb).tight
          refine op_buildSlice 156 1 [(0, .const (.int .i64 1))] rfl rfl (run_b1i 1 _) ?_
          rw [← hw, ← hg]
          refine hK.out _ _ st1 ?_
          clear hK K hw hg hb
          simp only [Act.put, List.setIfInBounds_toArray, List.set_cons_zero, List.set_cons_succ]
          refine wpAnyH_ready (rs := [2, 5]) (by kernel_rfl) (by simp) ?_
          refine ready_cons rfl rfl (fun K hK => ?_) (ready_cons rfl rfl (fun K hK => ?_) AllReadyH.nil)
          · skip
            have kc := num_any _ _ _ _ wt1 hob hni (by have := HLE.out; simp; omega)
            go_simp
            refine kc.mono ?_
            rintro e wt2 ⟨u1, rfl, hu1, hb⟩
            clear kc
            have st2 := st1.trans (hb.mono st1.size)
            have hnb := hu1.bytes
            clear hu1
            refine hK.out _ _ st2 ?_
            clear hK K hb
            refine wpAnyH_ready (rs := [5]) (by kernel_rfl) (by simp) ?_
            refine ready_cons rfl rfl (fun K hK => ?_) AllReadyH.nil
            · skip
              obtain ⟨wt3, hw⟩ : ∃ x, x = wt2.alloc (.cells #[.string sk] 9) := ⟨_, rfl⟩
              obtain ⟨ghst, hg⟩ : ∃ g, g = wt2.heap.size := ⟨_, rfl⟩
              have hb : Below wt2.heap.size wt2 wt3 := by rw [hw]; exact Below.alloc (Below.refl _ _) (Nat.le_refl _) _
              have st3 := st2.trans (hb.mono st2.size)
              have hst := strs1_new (w := wt2) sk
              rw [← hw, ← hg] at hst
              replace hst := hst.tight
              have hnb := (hnb.below hb).tight
              refine op_buildSlice 103 1 [(0, .tmp 22)] rfl rfl (run_b1s sk _) ?_
              rw [← hw, ← hg]
              refine hK.out _ _ st3 ?_
              clear hK K hw hg hb
              simp only [Act.put, List.setIfInBounds_toArray, List.set_cons_zero, List.set_cons_succ]
              refine wpAnyH_end [(true, 6), (false, 7)] (by kernel_rfl) st3 ?_
              refine heldI_act rfl rfl fun K hK => ?_
              have kc := text_any _ _ _ [sk] wt3 hnb hst (by have := HLE.out; simp [length_numsB]; omega) (fun s hs => by rw [List.mem_singleton.1 hs]; exact HZK.out)
              go_simp
              refine kc.mono ?_
              rintro e wt4 ⟨u2, rfl, hu2, hb⟩
              clear kc
              have st4 := st3.trans (hb.mono st3.size)
              have hfin : OwnB w.heap.size wt4 u2 (bytesK l (k + 1)) := by
                have e1 : bytesK l k ++ numsB [(1 : Int)] ++ textsB [sk] = bytesK l (k + 1) := by
                  rw [HSU.out]
                  simp [changeB, numsB, textsB, HTK.out, HTV.out]
                rw [← e1]
                exact Own.lower hu2 (Nat.le_trans HB3.out.size st3.size)
              have HFIN := Lib.hid hfin
              refine hK.out _ _ st4 ?_
              clear hK K hb hfin hu2
              repeat (first | (refine heldI_skip rfl rfl ?_; simp only [Act.put, List.setIfInBounds_toArray, List.set_cons_zero, List.set_cons_succ]) | (refine heldI_take rfl ?_ rfl (fun w' hw' => ?_) ?_; rotate_left; (go_simp; first | done | with_reducible rfl); (try simp only [Act.put, List.setIfInBounds_toArray, List.set_cons_zero, List.set_cons_succ])))
              refine heldI_nil ?_
              go_wp2_with fail
              go_roundw
              case rel => exact ⟨k + 1, by omega, by go_num, HFIN.out, HB3.out.trans (st4.mono HB3.out.size)⟩
              case measure => simp [intOf]; omega
          · skip
            obtain ⟨wt5, hw⟩ : ∃ x, x = wt1.alloc (.cells #[.string sk] 9) := ⟨_, rfl⟩
            obtain ⟨ghst, hg⟩ : ∃ g, g = wt1.heap.size := ⟨_, rfl⟩
            have hb : Below wt1.heap.size wt1 wt5 := by rw [hw]; exact Below.alloc (Below.refl _ _) (Nat.le_refl _) _
            have st5 := st1.trans (hb.mono st1.size)
            have hst := strs1_new (w := wt1) sk
            rw [← hw, ← hg] at hst
            replace hst := hst.tight
            have hob := (hob.below hb).tight
            have hni := (hni.below hb).tight
            refine op_buildSlice 103 1 [(0, .tmp 22)] rfl rfl (run_b1s sk _) ?_
            rw [← hw, ← hg]
            refine hK.out _ _ st5 ?_
            clear hK K hw hg hb
            simp only [Act.put, List.setIfInBounds_toArray, List.set_cons_zero, List.set_cons_succ]
            refine wpAnyH_ready (rs := [2]) (by kernel_rfl) (by simp) ?_
            refine ready_cons rfl rfl (fun K hK => ?_) AllReadyH.nil
            · skip
              have kc := num_any _ _ _ _ wt5 hob hni (by have := HLE.out; simp; omega)
              go_simp
              refine kc.mono ?_
              rintro e wt6 ⟨u1, rfl, hu1, hb⟩
              clear kc
              have st6 := st5.trans (hb.mono st5.size)
              have hnb := hu1.bytes
              clear hu1
              have hst := (hst.below hb).tight
              refine hK.out _ _ st6 ?_
              clear hK K hb
              refine wpAnyH_end [(true, 6), (false, 7)] (by kernel_rfl) st6 ?_
              refine heldI_act rfl rfl fun K hK => ?_
              have kc := text_any _ _ _ [sk] wt6 hnb hst (by have := HLE.out; simp [length_numsB]; omega) (fun s hs => by rw [List.mem_singleton.1 hs]; exact HZK.out)
              go_simp
              refine kc.mono ?_
              rintro e wt7 ⟨u2, rfl, hu2, hb⟩
              clear kc
              have st7 := st6.trans (hb.mono st6.size)
              have hfin : OwnB w.heap.size wt7 u2 (bytesK l (k + 1)) := by
                have e1 : bytesK l k ++ numsB [(1 : Int)] ++ textsB [sk] = bytesK l (k + 1) := by
                  rw [HSU.out]
                  simp [changeB, numsB, textsB, HTK.out, HTV.out]
                rw [← e1]
                exact Own.lower hu2 (Nat.le_trans HB3.out.size st6.size)
              have HFIN := Lib.hid hfin
              refine hK.out _ _ st7 ?_
              clear hK K hb hfin hu2
              repeat (first | (refine heldI_skip rfl rfl ?_; simp only [Act.put, List.setIfInBounds_toArray, List.set_cons_zero, List.set_cons_succ]) | (refine heldI_take rfl ?_ rfl (fun w' hw' => ?_) ?_; rotate_left; (go_simp; first | done | with_reducible rfl); (try simp only [Act.put, List.setIfInBounds_toArray, List.set_cons_zero, List.set_cons_succ])))
              refine heldI_nil ?_
              go_wp2_with fail
              go_roundw
              case rel => exact ⟨k + 1, by omega, by go_num, HFIN.out, HB3.out.trans (st7.mono HB3.out.size)⟩
              case measure => simp [intOf]; omega
        · skip
          obtain ⟨wt8, hw⟩ : ∃ x, x = w1.drew.alloc (.cells #[.string sk] 9) := ⟨_, rfl⟩
          obtain ⟨ghst, hg⟩ : ∃ g, g = w1.drew.heap.size := ⟨_, rfl⟩
          have hb : Below w1.drew.heap.size w1.drew wt8 := by rw [hw]; exact Below.alloc (Below.refl _ _) (Nat.le_refl _) _
          have st8 := s0.trans (hb.mono s0.size)
          have hst := strs1_new (w := w1.drew) sk
          rw [← hw, ← hg] at hst
          replace hst := hst.tight
          have hob := (hob.below hb).tight
          refine op_buildSlice 103 1 [(0, .tmp 22)] rfl rfl (run_b1s sk _) ?_
          rw [← hw, ← hg]
          refine hK.out _ _ st8 ?_
          clear hK K hw hg hb
          simp only [Act.put, List.setIfInBounds_toArray, List.set_cons_zero, List.set_cons_succ]
          refine wpAnyH_ready (rs := [1]) (by kernel_rfl) (by simp) ?_
          refine ready_cons rfl rfl (fun K hK => ?_) AllReadyH.nil
          · skip
            obtain ⟨wt9, hw⟩ : ∃ x, x = wt8.alloc (.cells #[.int .i64 1] 3) := ⟨_, rfl⟩
            obtain ⟨ghni, hg⟩ : ∃ g, g = wt8.heap.size := ⟨_, rfl⟩
            have hb : Below wt8.heap.size wt8 wt9 := by rw [hw]; exact Below.alloc (Below.refl _ _) (Nat.le_refl _) _
            have st9 := st8.trans (hb.mono st8.size)
            have hni := ints_new (w := wt8) (1 : Int)
            rw [← hw, ← hg] at hni
            replace hni := hni.tight
            have hob := (hob.below hb).tight
            have hst := (hst.below hb).tight
            refine op_buildSlice 156 1 [(0, .const (.int .i64 1))] rfl rfl (run_b1i 1 _) ?_
            rw [← hw, ← hg]
            refine hK.out _ _ st9 ?_
            clear hK K hw hg hb
            simp only [Act.put, List.setIfInBounds_toArray, List.set_cons_zero, List.set_cons_succ]
            refine wpAnyH_ready (rs := [2]) (by kernel_rfl) (by simp) ?_
            refine ready_cons rfl rfl (fun K hK => ?_) AllReadyH.nil
            · skip
              have kc := num_any _ _ _ _ wt9 hob hni (by have := HLE.out; simp; omega)
              go_simp
              refine kc.mono ?_
              rintro e wt10 ⟨u1, rfl, hu1, hb⟩
              clear kc
              have st10 := st9.trans (hb.mono st9.size)
              have hnb := hu1.bytes
              clear hu1
              have hst := (hst.below hb).tight
              refine hK.out _ _ st10 ?_
              clear hK K hb
              refine wpAnyH_end [(true, 6), (false, 7)] (by kernel_rfl) st10 ?_
              refine heldI_act rfl rfl fun K hK => ?_
              have kc := text_any _ _ _ [sk] wt10 hnb hst (by have := HLE.out; simp [length_numsB]; omega) (fun s hs => by rw [List.mem_singleton.1 hs]; exact HZK.out)
              go_simp
              refine kc.mono ?_
              rintro e wt11 ⟨u2, rfl, hu2, hb⟩
              clear kc
              have st11 := st10.trans (hb.mono st10.size)
              have hfin : OwnB w.heap.size wt11 u2 (bytesK l (k + 1)) := by
                have e1 : bytesK l k ++ numsB [(1 : Int)] ++ textsB [sk] = bytesK l (k + 1) := by
                  rw [HSU.out]
                  simp [changeB, numsB, textsB, HTK.out, HTV.out]
                rw [← e1]
                exact Own.lower hu2 (Nat.le_trans HB3.out.size st10.size)
              have HFIN := Lib.hid hfin
              refine hK.out _ _ st11 ?_
              clear hK K hb hfin hu2
              repeat (first | (refine heldI_skip rfl rfl ?_; simp only [Act.put, List.setIfInBounds_toArray, List.set_cons_zero, List.set_cons_succ]) | (refine heldI_take rfl ?_ rfl (fun w' hw' => ?_) ?_; rotate_left; (go_simp; first | done | with_reducible rfl); (try simp only [Act.put, List.setIfInBounds_toArray, List.set_cons_zero, List.set_cons_succ])))
              refine heldI_nil ?_
              go_wp2_with fail
              go_roundw
              case rel => exact ⟨k + 1, by omega, by go_num, HFIN.out, HB3.out.trans (st11.mono HB3.out.size)⟩
              case measure => simp [intOf]; omega
    | false =>
        go_upto_region 7 with (fail)
        clear C2
        refine wp_region_start (fun w' => Below w1.heap.size w1 w') (by kernel_rfl) s0 ?_
        refine wpAnyH_part [(false, 0), (false, 3), (false, 4), (false, 5), (false, 6)] (by kernel_rfl) s0 ?_
        repeat (first | (refine heldI_skip rfl rfl ?_; simp only [Act.put, List.setIfInBounds_toArray, List.set_cons_zero, List.set_cons_succ]) | (refine heldI_take rfl ?_ rfl (fun w' hw' => ?_) ?_; rotate_left; (go_simp; first | done | with_reducible rfl); (try simp only [Act.put, List.setIfInBounds_toArray, List.set_cons_zero, List.set_cons_succ])))
        refine heldI_nil ?_
        have hob := HOB.out
        clear HOB
        refine wpAnyH_ready (rs := [1, 7]) (by kernel_rfl) (by simp) ?_
        refine ready_cons rfl rfl (fun K hK => ?_) (ready_cons rfl rfl (fun K hK => ?_) AllReadyH.nil)
        · skip
          obtain ⟨wt1, hw⟩ : ∃ x, x = w1.drew.alloc (.cells #[.int .i64 0] 3) := ⟨_, rfl⟩
          obtain ⟨ghni, hg⟩ : ∃ g, g = w1.drew.heap.size := ⟨_, rfl⟩
          have hb : Below w1.drew.heap.size w1.drew wt1 := by rw [hw]; exact Below.alloc (Below.refl _ _) (Nat.le_refl _) _
          have st1 := s0.trans (hb.mono s0.size)
          have hni := ints_new (w := w1.drew) (0 : Int)
          rw [← hw, ← hg] at hni
          replace hni := hni.tight
          have hob := (hob.below hb).tight
          refine op_buildSlice 156 1 [(0, .const (.int .i64 0))] rfl rfl (run_b1i 0 _) ?_
          rw [← hw, ← hg]
          refine hK.out _ _ st1 ?_
          clear hK K hw hg hb
          simp only [Act.put, List.setIfInBounds_toArray, List.set_cons_zero, List.set_cons_succ]
          refine wpAnyH_ready (rs := [2, 7]) (by kernel_rfl) (by simp) ?_
          refine ready_cons rfl rfl (fun K hK => ?_) (ready_cons rfl rfl (fun K hK => ?_) AllReadyH.nil)
          · skip
            have kc := num_any _ _ _ _ wt1 hob hni (by have := HLE.out; simp; omega)
            go_simp
            refine kc.mono ?_
            rintro e wt2 ⟨u1, rfl, hu1, hb⟩
            clear kc
            have st2 := st1.trans (hb.mono st1.size)
            have hnb := hu1.bytes
            clear hu1
            refine hK.out _ _ st2 ?_
            clear hK K hb
            refine wpAnyH_ready (rs := [7]) (by kernel_rfl) (by simp) ?_
            refine ready_cons rfl rfl (fun K hK => ?_) AllReadyH.nil
            · skip
              obtain ⟨wt3, hw⟩ : ∃ x, x = wt2.alloc (.cells #[.string sk, .string sv] 9) := ⟨_, rfl⟩
              obtain ⟨ghst, hg⟩ : ∃ g, g = wt2.heap.size := ⟨_, rfl⟩
              have hb : Below wt2.heap.size wt2 wt3 := by rw [hw]; exact Below.alloc (Below.refl _ _) (Nat.le_refl _) _
              have st3 := st2.trans (hb.mono st2.size)
              have hst := strs2_new (w := wt2) sk sv
              rw [← hw, ← hg] at hst
              replace hst := hst.tight
              have hnb := (hnb.below hb).tight
              refine op_buildSlice 103 2 [(0, .tmp 29), (1, .tmp 31)] rfl rfl (run_b2s sk sv _) ?_
              rw [← hw, ← hg]
              refine hK.out _ _ st3 ?_
              clear hK K hw hg hb
              simp only [Act.put, List.setIfInBounds_toArray, List.set_cons_zero, List.set_cons_succ]
              refine wpAnyH_end [(true, 8), (false, 9)] (by kernel_rfl) st3 ?_
              refine heldI_act rfl rfl fun K hK => ?_
              have kc := text_any _ _ _ [sk, sv] wt3 hnb hst (by have := HLE.out; simp [length_numsB]; omega) (fun s hs => by simp only [List.mem_cons, List.not_mem_nil, or_false] at hs; rcases hs with rfl | rfl <;> first | exact HZK.out | exact HZV.out)
              go_simp
              refine kc.mono ?_
              rintro e wt4 ⟨u2, rfl, hu2, hb⟩
              clear kc
              have st4 := st3.trans (hb.mono st3.size)
              have hfin : OwnB w.heap.size wt4 u2 (bytesK l (k + 1)) := by
                have e1 : bytesK l k ++ numsB [(0 : Int)] ++ textsB [sk, sv] = bytesK l (k + 1) := by
                  rw [HSU.out]
                  simp [changeB, numsB, textsB, HTK.out, HTV.out]
                rw [← e1]
                exact Own.lower hu2 (Nat.le_trans HB3.out.size st3.size)
              have HFIN := Lib.hid hfin
              refine hK.out _ _ st4 ?_
              clear hK K hb hfin hu2
              repeat (first | (refine heldI_skip rfl rfl ?_; simp only [Act.put, List.setIfInBounds_toArray, List.set_cons_zero, List.set_cons_succ]) | (refine heldI_take rfl ?_ rfl (fun w' hw' => ?_) ?_; rotate_left; (go_simp; first | done | with_reducible rfl); (try simp only [Act.put, List.setIfInBounds_toArray, List.set_cons_zero, List.set_cons_succ])))
              refine heldI_nil ?_
              go_wp2_with fail
              go_roundw
              case rel => exact ⟨k + 1, by omega, by go_num, HFIN.out, HB3.out.trans (st4.mono HB3.out.size)⟩
              case measure => simp [intOf]; omega
          · skip
            obtain ⟨wt5, hw⟩ : ∃ x, x = wt1.alloc (.cells #[.string sk, .string sv] 9) := ⟨_, rfl⟩
            obtain ⟨ghst, hg⟩ : ∃ g, g = wt1.heap.size := ⟨_, rfl⟩
            have hb : Below wt1.heap.size wt1 wt5 := by rw [hw]; exact Below.alloc (Below.refl _ _) (Nat.le_refl _) _
            have st5 := st1.trans (hb.mono st1.size)
            have hst := strs2_new (w := wt1) sk sv
            rw [← hw, ← hg] at hst
            replace hst := hst.tight
            have hob := (hob.below hb).tight
            have hni := (hni.below hb).tight
            refine op_buildSlice 103 2 [(0, .tmp 29), (1, .tmp 31)] rfl rfl (run_b2s sk sv _) ?_
            rw [← hw, ← hg]
            refine hK.out _ _ st5 ?_
            clear hK K hw hg hb
            simp only [Act.put, List.setIfInBounds_toArray, List.set_cons_zero, List.set_cons_succ]
            refine wpAnyH_ready (rs := [2]) (by kernel_rfl) (by simp) ?_
            refine ready_cons rfl rfl (fun K hK => ?_) AllReadyH.nil
            · skip
              have kc := num_any _ _ _ _ wt5 hob hni (by have := HLE.out; simp; omega)
              go_simp
              refine kc.mono ?_
              rintro e wt6 ⟨u1, rfl, hu1, hb⟩
              clear kc
              have st6 := st5.trans (hb.mono st5.size)
              have hnb := hu1.bytes
              clear hu1
              have hst := (hst.below hb).tight
              refine hK.out _ _ st6 ?_
              clear hK K hb
              refine wpAnyH_end [(true, 8), (false, 9)] (by kernel_rfl) st6 ?_
              refine heldI_act rfl rfl fun K hK => ?_
              have kc := text_any _ _ _ [sk, sv] wt6 hnb hst (by have := HLE.out; simp [length_numsB]; omega) (fun s hs => by simp only [List.mem_cons, List.not_mem_nil, or_false] at hs; rcases hs with rfl | rfl <;> first | exact HZK.out | exact HZV.out)
              go_simp
              refine kc.mono ?_
              rintro e wt7 ⟨u2, rfl, hu2, hb⟩
              clear kc
              have st7 := st6.trans (hb.mono st6.size)
              have hfin : OwnB w.heap.size wt7 u2 (bytesK l (k + 1)) := by
                have e1 : bytesK l k ++ numsB [(0 : Int)] ++ textsB [sk, sv] = bytesK l (k + 1) := by
                  rw [HSU.out]
                  simp [changeB, numsB, textsB, HTK.out, HTV.out]
                rw [← e1]
                exact Own.lower hu2 (Nat.le_trans HB3.out.size st6.size)
              have HFIN := Lib.hid hfin
              refine hK.out _ _ st7 ?_
              clear hK K hb hfin hu2
              repeat (first | (refine heldI_skip rfl rfl ?_; simp only [Act.put, List.setIfInBounds_toArray, List.set_cons_zero, List.set_cons_succ]) | (refine heldI_take rfl ?_ rfl (fun w' hw' => ?_) ?_; rotate_left; (go_simp; first | done | with_reducible rfl); (try simp only [Act.put, List.setIfInBounds_toArray, List.set_cons_zero, List.set_cons_succ])))
              refine heldI_nil ?_
              go_wp2_with fail
              go_roundw
              case rel => exact ⟨k + 1, by omega, by go_num, HFIN.out, HB3.out.trans (st7.mono HB3.out.size)⟩
              case measure => simp [intOf]; omega
        · skip
          obtain ⟨wt8, hw⟩ : ∃ x, x = w1.drew.alloc (.cells #[.string sk, .string sv] 9) := ⟨_, rfl⟩
          obtain ⟨ghst, hg⟩ : ∃ g, g = w1.drew.heap.size := ⟨_, rfl⟩
          have hb : Below w1.drew.heap.size w1.drew wt8 := by rw [hw]; exact Below.alloc (Below.refl _ _) (Nat.le_refl _) _
          have st8 := s0.trans (hb.mono s0.size)
          have hst := strs2_new (w := w1.drew) sk sv
          rw [← hw, ← hg] at hst
          replace hst := hst.tight
          have hob := (hob.below hb).tight
          refine op_buildSlice 103 2 [(0, .tmp 29), (1, .tmp 31)] rfl rfl (run_b2s sk sv _) ?_
          rw [← hw, ← hg]
          refine hK.out _ _ st8 ?_
          clear hK K hw hg hb
          simp only [Act.put, List.setIfInBounds_toArray, List.set_cons_zero, List.set_cons_succ]
          refine wpAnyH_ready (rs := [1]) (by kernel_rfl) (by simp) ?_
          refine ready_cons rfl rfl (fun K hK => ?_) AllReadyH.nil
          · skip
            obtain ⟨wt9, hw⟩ : ∃ x, x = wt8.alloc (.cells #[.int .i64 0] 3) := ⟨_, rfl⟩
            obtain ⟨ghni, hg⟩ : ∃ g, g = wt8.heap.size := ⟨_, rfl⟩
            have hb : Below wt8.heap.size wt8 wt9 := by rw [hw]; exact Below.alloc (Below.refl _ _) (Nat.le_refl _) _
            have st9 := st8.trans (hb.mono st8.size)
            have hni := ints_new (w := wt8) (0 : Int)
            rw [← hw, ← hg] at hni
            replace hni := hni.tight
            have hob := (hob.below hb).tight
            have hst := (hst.below hb).tight
            refine op_buildSlice 156 1 [(0, .const (.int .i64 0))] rfl rfl (run_b1i 0 _) ?_
            rw [← hw, ← hg]
            refine hK.out _ _ st9 ?_
            clear hK K hw hg hb
            simp only [Act.put, List.setIfInBounds_toArray, List.set_cons_zero, List.set_cons_succ]
            refine wpAnyH_ready (rs := [2]) (by kernel_rfl) (by simp) ?_
            refine ready_cons rfl rfl (fun K hK => ?_) AllReadyH.nil
            · skip
              have kc := num_any _ _ _ _ wt9 hob hni (by have := HLE.out; simp; omega)
              go_simp
              refine kc.mono ?_
              rintro e wt10 ⟨u1, rfl, hu1, hb⟩
              clear kc
              have st10 := st9.trans (hb.mono st9.size)
              have hnb := hu1.bytes
              clear hu1
              have hst := (hst.below hb).tight
              refine hK.out _ _ st10 ?_
              clear hK K hb
              refine wpAnyH_end [(true, 8), (false, 9)] (by kernel_rfl) st10 ?_
              refine heldI_act rfl rfl fun K hK => ?_
              have kc := text_any _ _ _ [sk, sv] wt10 hnb hst (by have := HLE.out; simp [length_numsB]; omega) (fun s hs => by simp only [List.mem_cons, List.not_mem_nil, or_false] at hs; rcases hs with rfl | rfl <;> first | exact HZK.out | exact HZV.out)
              go_simp
              refine kc.mono ?_
              rintro e wt11 ⟨u2, rfl, hu2, hb⟩
              clear kc
              have st11 := st10.trans (hb.mono st10.size)
              have hfin : OwnB w.heap.size wt11 u2 (bytesK l (k + 1)) := by
                have e1 : bytesK l k ++ numsB [(0 : Int)] ++ textsB [sk, sv] = bytesK l (k + 1) := by
                  rw [HSU.out]
                  simp [changeB, numsB, textsB, HTK.out, HTV.out]
                rw [← e1]
                exact Own.lower hu2 (Nat.le_trans HB3.out.size st10.size)
              have HFIN := Lib.hid hfin
              refine hK.out _ _ st11 ?_
              clear hK K hb hfin hu2
              repeat (first | (refine heldI_skip rfl rfl ?_; simp only [Act.put, List.setIfInBounds_toArray, List.set_cons_zero, List.set_cons_succ]) | (refine heldI_take rfl ?_ rfl (fun w' hw' => ?_) ?_; rotate_left; (go_simp; first | done | with_reducible rfl); (try simp only [Act.put, List.setIfInBounds_toArray, List.set_cons_zero, List.set_cons_succ])))
              refine heldI_nil ?_
              go_wp2_with fail
              go_roundw
              case rel => exact ⟨k + 1, by omega, by go_num, HFIN.out, HB3.out.trans (st11.mono HB3.out.size)⟩
              case measure => simp [intOf]; omega
    · have k0 : decide ((k : Int) < (N : Int)) = false := by simp; omega
      obtain rfl : k = N := by omega
      have HO := Lib.hid ho
      clear ho
      go_wp2_with fail
      go_ret
      exact ⟨_, rfl, HO.out, hb⟩
end Go.Proofs.YtaijompnohkmaaaGreatDoor
/- Layer 6 (kv): Encode and Decode (the code's). -/
namespace Go.Proofs.YtaijompnohkmaaaGreatDoor
open Go.RowKit KvP PackP
/-- Changes in a slice of the call's own. -/
def ChangesO (B : Nat) (w : World) (v : Value) (l : List ChangeP) : Prop := Own B w 33 v 3 l.length (l.map changeCells).flatten
theorem ChangesO.v {B : Nat} {w : World} {v : Value} {l : List ChangeP} (h : ChangesO B w v l) : ChangesV w.heap.size w v l := Own.row h
theorem ChangesO.none (B : Nat) (w : World) (a : Option Addr) : ChangesO B w (.slice a 0 0) [] := Own.none _ _ _ _ _
theorem len_okC {c : ChangeP} (h : okC c = true) : c.key.length ≤ 64 ∧ c.val.length ≤ 4096 := by
  unfold okC mayP at h
  simp at h
  omega
theorem changesB_len {l : List ChangeP} (h : changesB l = true) : l.length ≤ 400 ∧ ∀ c ∈ l, c.key.length ≤ 64 ∧ c.val.length ≤ 4096 := by
  unfold changesB at h
  rw [Bool.and_eq_true, decide_eq_true_eq] at h
  exact ⟨h.1, fun c hc => len_okC (List.all_eq_true.1 h.2 c hc)⟩
set_option maxRecDepth 100000 in
set_option maxHeartbeats 4000000 in
theorem encode_any {B : Nat} (v : Value) (l : List ChangeP) (w : World) (hv : ChangesV B w v l) :
    Calls Tryz.prog 12 #[v] w fun e w' => (∃ u, e = .returned (.tuple #[u, .int .i64 (encodeP l).2]) ∧ OwnB w.heap.size w' u (encodeP l).1) ∧ Below w.heap.size w w' := by
  have hv := hv.tight
  have kc := changed_any v l w hv
  obtain ⟨_, a, c, rfl, h1, h2, _⟩ := id hv
  obtain ⟨ok, hok⟩ : ∃ x, x = changesB l := ⟨_, rfl⟩
  rw [← hok] at kc
  obtain ⟨N, hN⟩ : ∃ N, N = l.length := ⟨_, rfl⟩
  rw [← hN] at hv kc ⊢
  have HN := Lib.hid hN
  have HOK := Lib.hid hok
  have HV := Lib.hid hv
  clear hok hN hv h1
  go_enter Tryz.func12, Tryz.ntmps12
  go_wp2_with fail
  refine kc.mono ?_
  rintro e w1 ⟨rfl, hb1⟩
  clear kc
  cases ok with
  | false =>
    have hfin : encodeP l = ([], 1) := by unfold encodeP; rw [← HOK.out]; rfl
    have HFIN := Lib.hid hfin
    clear hfin
    go_wp2_with fail
    go_ret2
    exact ⟨⟨_, by rw [HFIN.out]; rfl, by rw [HFIN.out]; exact Own.none _ _ _ none _⟩, hb1⟩
  | true =>
    obtain ⟨hl4, hsz⟩ := changesB_len HOK.out.symm
    have kb := bytes_any _ l w1 (HV.out.below hb1) (by omega) (fun c hc => by have := hsz c hc; omega)
    obtain ⟨L, hL⟩ : ∃ L, L = (bytesP l).length := ⟨_, rfl⟩
    have hL2 : L < 2 ^ 60 := by
      rw [hL, ← bytesK_all]
      have := len_bytesK l l.length (by omega)
      omega
    have HL := Lib.hid hL
    have HL2 := Lib.hid hL2
    have HB1 := Lib.hid hb1
    clear hsz hL hL2 hb1
    go_wp2_with fail
    refine kb.mono ?_
    rintro e w2 ⟨u, rfl, hu, hb2⟩
    clear kb
    obtain ⟨_, x, y, rfl, _, _, _⟩ := id hu.bytes
    have HU := Lib.hid hu
    rw [← HL.out]
    have HB2 := Lib.hid hb2
    clear hu hb2
    by_cases h6 : 6000 < L
    · have q0 : decide ((6000 : Int) < (L : Int)) = true := by simp; omega
      have hfin : encodeP l = ([], 4) := by unfold encodeP; rw [← HOK.out, ← HL.out, if_pos rfl, if_pos h6]
      have HFIN := Lib.hid hfin
      clear hfin
      go_wp2_with fail
      go_ret2
      exact ⟨⟨_, by rw [HFIN.out]; rfl, by rw [HFIN.out]; exact Own.none _ _ _ none _⟩, HB1.out.trans (HB2.out.mono HB1.out.size)⟩
    · have q0 : decide ((6000 : Int) < (L : Int)) = false := by simp; omega
      have hfin : encodeP l = (bytesP l, 0) := by unfold encodeP; rw [← HOK.out, ← HL.out, if_pos rfl, if_neg h6]
      have HFIN := Lib.hid hfin
      clear hfin
      go_wp2_with fail
      go_ret2
      exact ⟨⟨_, by rw [HFIN.out]; rfl, by rw [HFIN.out]; rw [← HL.out] at HU; exact Own.lower HU.out HB1.out.size⟩, HB1.out.trans (HB2.out.mono HB1.out.size)⟩
end Go.Proofs.YtaijompnohkmaaaGreatDoor
