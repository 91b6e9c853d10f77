/- Layer 1 (sector): New. -/
import Derived.Test.YtccjjlefpdlegabArm0
import Derived.OwnWalk
namespace Go.Proofs.Ytccjjlefpdlegab
open Go.RowKit
def zeroS : List UInt8 := List.replicate 64 0
def newP (n : Int) : DiskP × Int := if 0 ≤ n ∧ n ≤ 4096 then (⟨List.replicate n.toNat zeroS, [], -1, false⟩, 0) else (⟨[], [], 0, false⟩, 1)
theorem zero_sector : (Try.prog.info? 33).bind (fun i => i.zero.map fun z => (i.size, i.bytes, z.cells)) = some (64, 64, Array.replicate 64 (.int .u8 0)) := by kernel_rfl
theorem secs_zero (n : Nat) : ((List.replicate n zeroS).map u8s).flatten = List.replicate (n * 64) (.int .u8 0) := by
  have e : u8s zeroS = List.replicate 64 (.int .u8 0) := by simp [u8s, zeroS, u8]
  rw [List.map_replicate, e, List.flatten_replicate_replicate]
theorem made_zero (n : Nat) : (madeCells (Array.replicate 64 (Value.int .u8 0)) (n * 64)).toList = List.replicate (n * 64) (.int .u8 0) := by
  apply List.ext_getElem
  · simp [size_madeCells]
  · intro k h1 h2
    simp only [madeCells, Array.toList_map, Array.toList_range, List.getElem_map, List.getElem_range, List.getElem_replicate, Array.size_replicate]
    have : k % 64 < 64 := Nat.mod_lt _ (by decide)
    rw [getElem!_pos _ _ (by simpa using this)]
    simp
theorem ownsRow_secs {w : World} {base n : Nat} {e : TypeId} {a : Option Addr} {c : Nat} (h : w.ownsRow base e 64 (.slice a n c) n (madeCells (Array.replicate 64 (Value.int .u8 0)) (n * 64)).toList) : Secs w.heap.size w (.slice a n c) (List.replicate n zeroS) := by
  rw [made_zero] at h
  obtain ⟨h1, h⟩ := h
  refine ⟨fun s hs => by rw [(List.mem_replicate.1 hs).2]; rfl, ?_⟩
  rw [secs_zero, List.length_replicate]
  rcases h with ⟨h, rfl⟩ | ⟨g, cap, cur, hv, _, hh, hn, hc, hz, ht⟩
  · cases h
    exact ⟨by simp, none, 0, rfl, Nat.le_refl _, by simp [maxLen], fun h => absurd h (Nat.lt_irrefl _)⟩
  · cases hv
    refine ⟨by simp, _, c, rfl, hn, hc, fun _ => ⟨g, 0, rfl, block_lt hh, fun k u hk => ?_⟩⟩
    rw [Nat.zero_add, cell_of_row w g k cur e (0, 0) hh]
    rw [← ht, List.getElem?_take] at hk
    split at hk
    · simpa using hk
    · cases hk
theorem Loose.nil (B : Nat) (w : World) : Loose B w (.slice none 0 0) [] := ⟨fun _ h => absurd h List.not_mem_nil, Row.nil B w 65⟩
theorem Secs.nil (B : Nat) (w : World) : Secs B w (.slice none 0 0) [] := ⟨fun _ h => absurd h List.not_mem_nil, Row.nil B w 64⟩
end Go.Proofs.Ytccjjlefpdlegab
