/- Layer 1 (sector): loose writes are done. -/
import Derived.Test.YtccjjlefpdlegabNew0
namespace Go.Proofs.Ytccjjlefpdlegab
open Go.RowKit
/-- The sectors when the first k loose writes have been looked at. -/
def settleN (ss : List (List UInt8)) (ls : List WriteP) (st : Nat → Bool) : Nat → List (List UInt8)
  | 0 => ss
  | k + 1 => match ls[k]? with
    | some x => if st k then (settleN ss ls st k).set x.at_.toNat x.data else settleN ss ls st k
    | none => settleN ss ls st k
theorem length_settleN (ss : List (List UInt8)) (ls : List WriteP) (st : Nat → Bool) : ∀ k, (settleN ss ls st k).length = ss.length
  | 0 => rfl
  | k + 1 => by
    unfold settleN
    split
    · split <;> simp [length_settleN ss ls st k]
    · exact length_settleN ss ls st k
theorem flat_set (sz : Nat) (f : List UInt8 → List Value) : ∀ (ss : List (List UInt8)) (k : Nat) (x : List UInt8), (∀ s ∈ ss, (f s).length = sz) → (f x).length = sz → k < ss.length →
    ((ss.set k x).map f).flatten = (ss.map f).flatten.take (k * sz) ++ f x ++ (ss.map f).flatten.drop (k * sz + sz)
  | [], k, x, _, _, h => by simp at h
  | y :: ys, 0, x, hs, hx, _ => by
    have h0 := hs y (List.mem_cons_self ..)
    simp only [List.set_cons_zero, List.map_cons, List.flatten_cons, Nat.zero_mul, List.take_zero, List.nil_append, Nat.zero_add]
    rw [← h0, List.drop_left]
  | y :: ys, k + 1, x, hs, hx, h => by
    have h0 := hs y (List.mem_cons_self ..)
    have ih := flat_set sz f ys k x (fun s hs' => hs s (List.mem_cons_of_mem _ hs')) hx (by simpa using h)
    simp only [List.set_cons_succ, List.map_cons, List.flatten_cons, ih]
    have e1 : (k + 1) * sz = (f y).length + k * sz := by rw [h0, Nat.succ_mul]; omega
    have e2 : (f y).length + k * sz + sz = (f y).length + (k * sz + sz) := by omega
    rw [e1, e2, List.take_length_add_append, List.drop_length_add_append]
    simp [List.append_assoc]
/-- An own slice of sectors, one of them laid anew. -/
theorem SecsO.lay {P : Program} {B : Nat} {w : World} {a : Option Addr} {n cap : Nat} {ss : List (List UInt8)} (h : SecsO B w (.slice a n cap) ss) (k : Nat) (x : List UInt8) (hk : k < ss.length) (hx : x.length = 64) {i : TypeInfo} (hi : P.info? 33 = some i) (hsz : i.size = 64) :
    ∃ g, a = some ⟨g, 0, none⟩ ∧ B ≤ g ∧ g < w.heap.size ∧ ∃ w', (storeVar 33 ⟨g, k * 64, none⟩ (.agg (u8s x).toArray)).run P w = .ok () w' ∧ SecsO B w' (.slice a n cap) (ss.set k x) ∧ Below B w w' ∧ w'.heap.size = w.heap.size ∧ ∀ g', g' ≠ g → w'.heap[g']? = w.heap[g']? := by
  obtain ⟨h64, hl, a', cap', hv, hn, hc, h4⟩ := h
  injection hv with ha hn' hcap
  subst ha
  subst hn'
  subst hcap
  rcases h4 with h4 | ⟨g, cur, rfl, hg, hh, hs, ht⟩
  · omega
  · have hfit : k * 64 + (u8s x).length ≤ cur.size := by rw [length_u8s, hx, hs]; omega
    have hst := run_store_big (P := P) hi (cs := u8s x) hh (by rw [length_u8s, hx, hsz]) hfit (oneCell_u8s x)
    have hh' := setRow_heap w g cur (cur.toList.take (k * 64) ++ u8s x ++ cur.toList.drop (k * 64 + (u8s x).length)).toArray 33 _ hh
    refine ⟨g, rfl, hg, block_lt hh, _, hst, ⟨?_, ?_⟩, ?_, ?_, ?_⟩
    · intro s hs'
      rcases List.mem_or_eq_of_mem_set hs' with h | h
      · exact h64 s h
      · rw [h]; exact hx
    · have hfl := flat_set 64 u8s ss k x (fun s hs' => by rw [length_u8s, h64 s hs']) (by rw [length_u8s, hx]) hk
      have hu : (u8s x).length = 64 := by rw [length_u8s, hx]
      have hall : ∀ s ∈ ss.set k x, (u8s s).length = 64 := fun s hs' => by
        rcases List.mem_or_eq_of_mem_set hs' with h | h
        · rw [length_u8s, h64 s h]
        · rw [h, length_u8s, hx]
      refine ⟨length_flat u8s 64 _ hall, _, cap, by rw [List.length_set], by rw [List.length_set]; exact hn, hc, .inr ⟨g, _, rfl, hg, hh', ?_, ?_⟩⟩
      · simp only [List.size_toArray, List.length_append, List.length_take, List.length_drop, Array.length_toList, hu]
        omega
      · rw [hfl, List.length_set, ← ht, hu]
        have a1 : k * 64 ≤ ss.length * 64 := by omega
        have a2 : k * 64 + 64 ≤ ss.length * 64 := by omega
        have a3 : k * 64 ≤ cur.toList.length := by simp; omega
        simp only [List.take_append, List.length_append, List.length_take, hu, List.take_take, List.drop_take]
        rw [Nat.min_eq_left a3]
        have b1 : min (ss.length * 64) (k * 64) = k * 64 := by omega
        have b2 : min (k * 64) (ss.length * 64) = k * 64 := by omega
        rw [b1, b2, List.take_of_length_le (l := u8s x) (by omega)]
    · exact ⟨rfl, rfl, rfl, by simp [World.setRow], fun j hj => setRow_other w g j _ (by omega)⟩
    · simp [World.setRow]
    · intro g' hne
      exact setRow_other w g g' _ (by omega)
end Go.Proofs.Ytccjjlefpdlegab
