/- Layer 2 (sum): each law's own function returns true. -/
import Derived.Test.YtccjjlefpdlegaaDoorSum
namespace Go.Proofs.YtccjjlefpdlegaaDoor
open Go.RowKit SumP
theorem toI_of (z : Int) (h0 : 0 ≤ z) (h1 : z < 4294967296) : ∃ x : BitVec 32, toI x = z :=
  ⟨BitVec.ofInt 32 z, by unfold toI; rw [BitVec.toNat_ofInt]; omega⟩
set_option maxRecDepth 100000 in
set_option maxHeartbeats 1000000 in
theorem SumSums_walk (v : Value) (bs : List UInt8) (z : Int) (W : World) (ht : TabAt W) (hB : 0 < W.heap.size) (hr : Bytes W.heap.size W v bs) (h0 : 0 ≤ z) (h1 : z < 4294967296) :
    Calls Tryd.prog 3 #[v, .int .u32 z] W fun e w' => e = .returned (.bool true) ∧ Below W.heap.size W w' := by
  obtain ⟨x, rfl⟩ := toI_of z h0 h1
  clear h0 h1
  have hr' := hr
  obtain ⟨_, a, cap, rfl, hnc, hcap, _⟩ := hr'
  unfold maxLen at hcap
  by_cases hlen : (bs.length : Int) ≤ 5000
  · go_enter Tryd.func3, Tryd.ntmps3
    go_wp2_with (go_at_call 7; ((with_reducible refine (alive_any _ ht hB).mono ?_); rintro e w1 ⟨rfl, hb⟩))
    have ht1 := ht.below hb hB
    have hr1 := hr.below hb
    go_wp2_with (first
      | (go_at_call 8; ((with_reducible refine (sum_any _ _ _ _ ht1 hr1).mono ?_); rintro e w' ⟨rfl, rfl⟩))
      | (go_at_call 9; ((with_reducible refine (refSum_any _ _ _ _ hr1).mono ?_); rintro e w' ⟨rfl, rfl⟩))
      | (go_at_call 10; ((with_reducible refine (more_any _ _ _ _ _ ht1 hr1).mono ?_); rintro e w' ⟨rfl, rfl⟩))
      | (go_at_call 11; ((with_reducible refine (refMore_any _ _ _ _ _ hr1).mono ?_); rintro e w' ⟨rfl, rfl⟩)))
    go_ret
    exact ⟨rfl, hb⟩
  · go_enter Tryd.func3, Tryd.ntmps3
    go_wp2_with (go_at_call 7; ((with_reducible refine (alive_any _ ht hB).mono ?_); rintro e w1 ⟨rfl, hb⟩))
    go_ret
    exact ⟨rfl, hb⟩
end Go.Proofs.YtccjjlefpdlegaaDoor
