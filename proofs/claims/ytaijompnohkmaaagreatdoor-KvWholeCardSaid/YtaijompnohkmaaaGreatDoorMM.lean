/- Layer 5 (wal), plainly: what a half holds behind a laying, and behind a record more. -/
import Derived.Test.YtaijompnohkmaaaGreatDoorML
set_option linter.unusedSimpArgs false
set_option linter.unusedVariables false
namespace Go.Proofs.YtaijompnohkmaaaGreatDoor
namespace WalP
/-- Sectors written behind one another. -/
def wr (v : List (List UInt8)) : Nat → List (List UInt8) → List (List UInt8)
  | _, [] => v
  | i, s :: ss => wr (v.set i s) (i + 1) ss
theorem length_wr : ∀ (ss : List (List UInt8)) (v : List (List UInt8)) (i : Nat), (wr v i ss).length = v.length
  | [], _, _ => rfl
  | s :: ss, v, i => by simp only [wr]; rw [length_wr ss]; simp
theorem wr_append : ∀ (a b : List (List UInt8)) (v : List (List UInt8)) (i : Nat), wr v i (a ++ b) = wr (wr v i a) (i + a.length) b
  | [], b, v, i => by simp [wr]
  | s :: a, b, v, i => by
    rw [List.cons_append]
    simp only [wr]
    rw [wr_append a b, List.length_cons, show i + 1 + a.length = i + (a.length + 1) by omega]
theorem wr_at : ∀ (ss : List (List UInt8)) (v : List (List UInt8)) (i k : Nat), i + ss.length ≤ v.length → (wr v i ss)[k]? = if i ≤ k ∧ k < i + ss.length then ss[k - i]? else v[k]?
  | [], v, i, k, _ => by rw [if_neg (by simp)]; rfl
  | s :: ss, v, i, k, h => by
    rw [List.length_cons] at h
    simp only [wr]
    rw [wr_at ss _ _ k (by simp; omega), List.getElem?_set, List.length_cons]
    by_cases h1 : i = k
    · subst h1
      rw [if_neg (by omega), if_pos rfl, if_pos (by omega), if_pos (by omega), Nat.sub_self]; rfl
    · rw [if_neg h1]
      by_cases h2 : i + 1 ≤ k ∧ k < i + 1 + ss.length
      · rw [if_pos h2, if_pos (by omega), show k - i = (k - (i + 1)) + 1 by omega]; rfl
      · rw [if_neg h2, if_neg (by omega)]
theorem wr_eq {v : List (List UInt8)} {i : Nat} {ss : List (List UInt8)} (h : i + ss.length ≤ v.length) : wr v i ss = v.take i ++ ss ++ v.drop (i + ss.length) := by
  apply List.ext_getElem?
  intro k
  rw [wr_at _ _ _ _ h]
  by_cases h1 : k < i
  · rw [if_neg (by omega), List.append_assoc, List.getElem?_append_left (by simp; omega), List.getElem?_take, if_pos h1]
  · by_cases h2 : k < i + ss.length
    · rw [if_pos (by omega), List.append_assoc, List.getElem?_append_right (by simp; omega), List.getElem?_append_left (by simp; omega)]
      congr 1
      simp; omega
    · rw [if_neg (by omega), List.getElem?_append_right (by simp; omega), List.getElem?_drop]
      congr 1
      simp; omega
/-- A half's sectors. -/
def hv (v : List (List UInt8)) (F H : Nat) : List (List UInt8) := (v.drop F).take H
theorem hv_at (v : List (List UInt8)) (F H k : Nat) : (hv v F H)[k]? = if k < H then v[F + k]? else none := by
  unfold hv
  rw [List.getElem?_take, List.getElem?_drop]
theorem length_hv {v : List (List UInt8)} {F H : Nat} (h : F + H ≤ v.length) : (hv v F H).length = H := by simp [hv]; omega
theorem hv_wr {v : List (List UInt8)} {F H i : Nat} {ss : List (List UInt8)} (h : F + H ≤ v.length) (hi : F ≤ i) (hs : i + ss.length ≤ F + H) : hv (wr v i ss) F H = wr (hv v F H) (i - F) ss := by
  apply List.ext_getElem?
  intro k
  rw [hv_at, wr_at _ _ _ _ (by omega), wr_at _ _ _ _ (by rw [length_hv h]; omega), hv_at]
  by_cases hk : k < H
  · rw [if_pos hk, if_pos hk]
    by_cases h1 : i - F ≤ k ∧ k < i - F + ss.length
    · rw [if_pos h1, if_pos (by omega)]
      congr 1
      omega
    · rw [if_neg h1, if_neg (by omega)]
  · rw [if_neg hk, if_neg (by omega), if_neg hk]
theorem hv_far {v : List (List UInt8)} {F H i : Nat} {ss : List (List UInt8)} (hl : i + ss.length ≤ v.length) (h : i + ss.length ≤ F ∨ F + H ≤ i) : hv (wr v i ss) F H = hv v F H := by
  apply List.ext_getElem?
  intro k
  rw [hv_at, hv_at, wr_at _ _ _ _ hl]
  by_cases hk : k < H
  · rw [if_pos hk, if_pos hk, if_neg (by omega)]
  · rw [if_neg hk, if_neg hk]
/-- A record's sectors behind its mark. -/
def chunks (b : List UInt8) : List (List UInt8) := (List.range ((b.length + 63) / 64)).map fun i : Nat => pad64 (b.drop (64 * i))
theorem length_chunks (b : List UInt8) : (chunks b).length = (b.length + 63) / 64 := by simp [chunks]
theorem chunks_nil : chunks [] = [] := rfl
theorem range_succ_map (n : Nat) {α : Type} (f : Nat → α) : (List.range (n + 1)).map f = f 0 :: (List.range n).map fun i => f (i + 1) := by
  rw [List.range_succ_eq_map, List.map_cons, List.map_map]
  rfl
theorem chunks_cons {b : List UInt8} (h : b ≠ []) : chunks b = pad64 b :: chunks (b.drop 64) := by
  have hp : 0 < b.length := List.length_pos_iff.2 h
  unfold chunks
  rw [show (b.length + 63) / 64 = ((b.drop 64).length + 63) / 64 + 1 by rw [List.length_drop]; omega, range_succ_map]
  congr 1
  apply List.map_congr_left
  intro i _
  rw [List.drop_drop, show 64 + 64 * i = 64 * (i + 1) by omega]
theorem pad64_take {b : List UInt8} (h : 64 ≤ b.length) : pad64 b = b.take 64 := by
  unfold pad64
  rw [show 64 - b.length = 0 by omega]; simp
theorem pad64_short {b : List UInt8} (h : b.length ≤ 64) : pad64 b = b ++ List.replicate (64 - b.length) 0 := by
  unfold pad64
  rw [List.take_of_length_le h]
/-- A record is read as it was laid. -/
theorem chunks_back : ∀ (n : Nat) (b : List UInt8), b.length ≤ n → (chunks b).flatten.take b.length = b
  | 0, b, h => by
    have : b = [] := List.eq_nil_of_length_eq_zero (by omega)
    subst this; rfl
  | n + 1, b, h => by
    by_cases hb : b = []
    · subst hb; rfl
    · have hp : 0 < b.length := List.length_pos_iff.2 hb
      rw [chunks_cons hb, List.flatten_cons]
      by_cases h64 : 64 ≤ b.length
      · have ih := chunks_back n (b.drop 64) (by rw [List.length_drop]; omega)
        rw [List.length_drop] at ih
        rw [pad64_take h64, List.take_append, List.take_of_length_le (by rw [List.length_take]; omega), List.length_take, Nat.min_eq_left h64, ih, List.take_append_drop]
      · rw [pad64_short (by omega), List.append_assoc, List.take_left]
theorem put_run : ∀ (ss : List (List UInt8)) (v : List (List UInt8)) (a : Nat), after v ((List.range ss.length).map fun i : Nat => Deed.put ((a : Int) + i) (ss[i]?.getD [])) = wr v a ss
  | [], _, _ => rfl
  | s :: ss, v, a => by
    rw [List.length_cons, range_succ_map]
    show after (v.set _ _) _ = wr (v.set a s) (a + 1) ss
    have e : ((a : Int) + (0 : Nat)).toNat = a := by omega
    rw [e]
    show after (v.set a s) _ = _
    rw [← put_run ss (v.set a s) (a + 1)]
    congr 1
    apply List.map_congr_left
    intro i _
    rw [List.getElem?_cons_succ]
    congr 1
    omega
theorem zeros_after (v : List (List UInt8)) (F H : Nat) : after v (zerosD F H) = wr v F (List.replicate H zeroS) := by
  rw [← put_run, List.length_replicate]
  unfold zerosD
  congr 1
  apply List.map_congr_left
  intro i hi
  rw [List.getElem?_replicate, if_pos (List.mem_range.1 hi)]
  rfl
theorem bytes_after (v : List (List UInt8)) (a : Nat) (b : List UInt8) : after v (bytesD a b) = wr v (a + 1) (chunks b) := by
  rw [← put_run, length_chunks]
  unfold bytesD
  congr 1
  apply List.map_congr_left
  intro i hi
  unfold chunks
  rw [List.getElem?_map, List.getElem?_range (List.mem_range.1 hi)]
  show Deed.put _ _ = Deed.put _ _
  congr 1
/-- Records as they lie: each behind its mark. -/
def recV (gen : Int) (k : Nat) (b : List UInt8) : List (List UInt8) := markOf gen k b :: chunks b
def recsV (gen : Int) : Nat → List (List UInt8) → List (List UInt8)
  | _, [] => []
  | k, b :: bs => recV gen k b ++ recsV gen (k + 1) bs
theorem takes_chunks {b : List UInt8} (h : takes b.length ≠ 0) : takes b.length = (chunks b).length + 1 := by
  rw [length_chunks]
  unfold takes at h ⊢
  split
  · rename_i h1; rw [if_pos h1] at h; exact absurd rfl h
  · omega
theorem length_recV {gen : Int} {k : Nat} {b : List UInt8} (h : takes b.length ≠ 0) : (recV gen k b).length = takes b.length := by
  rw [takes_chunks h]; rfl
theorem length_recsV (gen : Int) : ∀ (l : List (List UInt8)) (k : Nat), (∀ b ∈ l, takes b.length ≠ 0) → (recsV gen k l).length = posN l
  | [], _, _ => rfl
  | b :: l, k, h => by
    rw [recsV, List.length_append, length_recV (h b (List.mem_cons_self ..)), length_recsV gen l (k + 1) (fun x hx => h x (List.mem_cons_of_mem _ hx)), posN_cons]
theorem recsV_append (gen : Int) : ∀ (l m : List (List UInt8)) (k : Nat), recsV gen k (l ++ m) = recsV gen k l ++ recsV gen (k + l.length) m
  | [], m, k => by simp [recsV]
  | b :: l, m, k => by
    rw [List.cons_append, recsV, recsV, recsV_append gen l m, List.append_assoc, List.length_cons, show k + 1 + l.length = k + (l.length + 1) by omega]
/-- A sector that is written behind others that are not it. -/
theorem wr_set {v : List (List UInt8)} {i : Nat} {s : List UInt8} {ss : List (List UInt8)} (h : i + 1 + ss.length ≤ v.length) : (wr v (i + 1) ss).set i s = wr v i (s :: ss) := by
  apply List.ext_getElem?
  intro k
  rw [List.getElem?_set, wr_at _ _ _ _ (by omega), length_wr, wr_at _ _ _ _ (by simp; omega), List.length_cons]
  by_cases h1 : i = k
  · subst h1
    rw [if_pos rfl, if_pos (by omega), if_pos (by omega), Nat.sub_self]; rfl
  · rw [if_neg h1]
    by_cases h2 : i + 1 ≤ k ∧ k < i + 1 + ss.length
    · rw [if_pos h2, if_pos (by omega), show k - i = (k - (i + 1)) + 1 by omega]; rfl
    · rw [if_neg h2, if_neg (by omega)]
theorem rec_after {v : List (List UInt8)} {a : Nat} {gen : Int} {k : Nat} {b : List UInt8} (hk : 0 < k) (hb : takes b.length ≠ 0) (h : a + takes b.length ≤ v.length) : after v (recD a gen k b) = wr v a (recV gen k b) := by
  unfold recD
  rw [if_pos hk, after_append, bytes_after]
  show (wr v (a + 1) (chunks b)).set (a : Int).toNat _ = _
  rw [show (a : Int).toNat = a by omega, wr_set (by rw [takes_chunks hb] at h; omega)]
  rfl
theorem recs_after (gen : Int) : ∀ (l : List (List UInt8)) (v : List (List UInt8)) (a k : Nat), 0 < k → (∀ b ∈ l, takes b.length ≠ 0) → a + posN l ≤ v.length → after v (recsD gen a k l) = wr v a (recsV gen k l)
  | [], _, _, _, _, _, _ => rfl
  | b :: l, v, a, k, hk, hb, h => by
    rw [posN_cons] at h
    have h0 := hb b (List.mem_cons_self ..)
    simp only [recsD]
    rw [after_append, rec_after hk h0 (by omega), show ((a : Int) + (takes b.length : Nat)) = ((a + takes b.length : Nat) : Int) by omega,
      recs_after gen l _ _ (k + 1) (by omega) (fun x hx => hb x (List.mem_cons_of_mem _ hx)) (by rw [length_wr]; omega), recsV, wr_append, length_recV h0]
/-- What a laying leaves. -/
theorem lay_after {v : List (List UInt8)} {F H : Nat} {gen : Int} {list : List (List UInt8)} (hne : list ≠ []) (hb : ∀ b ∈ list, takes b.length ≠ 0) (hn : posN list ≤ H) (h : F + H ≤ v.length) (which : Int) (hw : which * H = F) :
    after v (layD H which gen list) = wr (wr v F (List.replicate H zeroS)) F (recsV gen 0 list) := by
  obtain ⟨b, l, rfl⟩ : ∃ b l, list = b :: l := by cases list with | nil => exact absurd rfl hne | cons b l => exact ⟨b, l, rfl⟩
  rw [posN_cons] at hn
  have h0 := hb b (List.mem_cons_self ..)
  unfold layD
  rw [hw, after_append, zeros_after, after_append]
  show after (after _ _) _ = _
  rw [after_append]
  show after (after (wr v F (List.replicate H zeroS)) _) _ = _
  have hL : (wr v F (List.replicate H zeroS)).length = v.length := length_wr _ _ _
  generalize wr v F (List.replicate H zeroS) = u at hL ⊢
  have e1 : after u (recsD gen F 0 (b :: l)) = wr u (F + 1) (chunks b ++ recsV gen 1 l) := by
    simp only [recsD]
    rw [after_append]
    unfold recD
    rw [if_neg (Nat.lt_irrefl _), List.append_nil, bytes_after, show ((F : Int) + (takes b.length : Nat)) = ((F + takes b.length : Nat) : Int) by omega,
      recs_after gen l _ _ 1 (by omega) (fun x hx => hb x (List.mem_cons_of_mem _ hx)) (by rw [length_wr]; omega), wr_append, takes_chunks h0, show F + 1 + (chunks b).length = F + ((chunks b).length + 1) by omega]
  rw [e1]
  show List.set (wr u (F + 1) (chunks b ++ recsV gen 1 l)) (F : Int).toNat _ = _
  have hlen := length_recsV gen l 1 (fun x hx => hb x (List.mem_cons_of_mem _ hx))
  rw [show (F : Int).toNat = F by omega, wr_set (by rw [List.length_append, hlen]; rw [takes_chunks h0] at hn; omega)]
  rfl
theorem lay_view {v : List (List UInt8)} {F H : Nat} {gen : Int} {list : List (List UInt8)} (hne : list ≠ []) (hb : ∀ b ∈ list, takes b.length ≠ 0) (hn : posN list ≤ H) (h : F + H ≤ v.length) (which : Int) (hw : which * H = F) :
    hv (after v (layD H which gen list)) F H = recsV gen 0 list ++ List.replicate (H - posN list) zeroS := by
  have hlen := length_recsV gen list 0 hb
  rw [lay_after hne hb hn h which hw, hv_wr (by rw [length_wr]; exact h) (Nat.le_refl _) (by omega), hv_wr h (Nat.le_refl _) (by simp), Nat.sub_self]
  have e : wr (hv v F H) 0 (List.replicate H zeroS) = List.replicate H zeroS := by
    rw [wr_eq (by rw [length_hv h]; simp), List.drop_of_length_le (by rw [length_hv h]; simp)]; simp
  rw [e, wr_eq (by simp; omega), hlen]
  simp
theorem lay_far {v : List (List UInt8)} {F H F' : Nat} {gen : Int} {list : List (List UInt8)} (hne : list ≠ []) (hb : ∀ b ∈ list, takes b.length ≠ 0) (hn : posN list ≤ H) (h : F + H ≤ v.length) (which : Int) (hw : which * H = F) (hf : F + H ≤ F' ∨ F' + H ≤ F) :
    hv (after v (layD H which gen list)) F' H = hv v F' H := by
  have hlen := length_recsV gen list 0 hb
  rw [lay_after hne hb hn h which hw, hv_far (by rw [length_wr]; omega) (by omega), hv_far (by simp; omega) (by simp; omega)]
/-- What a record more leaves. -/
theorem app_view {v : List (List UInt8)} {F H : Nat} {gen : Int} {list : List (List UInt8)} {b : List UInt8} (hl : ∀ x ∈ list, takes x.length ≠ 0) (hb : takes b.length ≠ 0) (hn : posN list + takes b.length ≤ H) (h : F + H ≤ v.length) (hv0 : hv v F H = recsV gen 0 list ++ List.replicate (H - posN list) zeroS) :
    hv ((wr v (F + posN list + 1) (chunks b)).set (F + posN list) (markOf gen list.length b)) F H = recsV gen 0 (list ++ [b]) ++ List.replicate (H - posN (list ++ [b])) zeroS := by
  have hlen := length_recsV gen list 0 hl
  have hc := takes_chunks hb
  rw [wr_set (by omega), hv_wr h (by omega) (by simp; omega), hv0, show F + posN list - F = posN list by omega,
    wr_eq (by simp; omega), recsV_append, posN_append, Nat.zero_add]
  rw [List.take_left' hlen, List.drop_append, List.drop_of_length_le (by simp; omega), List.nil_append, List.drop_replicate]
  simp only [recsV, List.append_nil, recV, List.append_assoc, List.cons_append]
  have e1 : posN [b] = takes b.length := by simp [posN]
  rw [hlen, e1]
  congr 4
  simp only [List.length_cons]
  omega
theorem app_far {v : List (List UInt8)} {a F H : Nat} {m : List UInt8} {b : List UInt8} (hl : a + 1 + (chunks b).length ≤ v.length) (hf : a + 1 + (chunks b).length ≤ F ∨ F + H ≤ a) :
    hv ((wr v (a + 1) (chunks b)).set a m) F H = hv v F H := by
  rw [wr_set hl, hv_far (by simp; omega) (by simp; omega)]
end WalP
end Go.Proofs.YtaijompnohkmaaaGreatDoor
/- Layer 5 (wal), plainly: what was laid is found. -/
namespace Go.Proofs.YtaijompnohkmaaaGreatDoor
namespace WalP
open PackP
theorem num_back (n : Int) (h0 : 0 ≤ n) (h1 : n ≤ 4611686018427387904) (r : List UInt8) : RS.num ⟨numB n ++ r, 0⟩ = (⟨r, 0⟩, n) := by
  have hl : (numB n).length = 8 := length_be _ _
  have hc : (clamp n : Int) = n := by
    unfold clamp
    split
    · omega
    · split <;> omega
  have hn : numOf (numB n) = clamp n := numOf_be 8 _ (Nat.lt_of_le_of_lt (clamp_le n) (by decide))
  have ht : RS.take ⟨numB n ++ r, 0⟩ 8 = (⟨r, 0⟩, some (numB n)) := by
    unfold RS.take
    simp only [if_true]
    rw [if_neg (by rw [List.length_append, hl]; omega), List.drop_left' hl, List.take_left' hl]
  unfold RS.num
  rw [ht]
  simp only [hn]
  rw [if_neg (by have := clamp_le n; omega), hc]
theorem length_numB (n : Int) : (numB n).length = 8 := length_be _ _
theorem length_markB (a b c d : Int) : (markB a b c d).length = 36 := by simp [markB, length_numB]
/-- A mark that was laid is read as it was. -/
theorem mark_back (gen k len sum : Int) (g0 : 1 ≤ gen) (g1 : gen ≤ 1099511627776) (k0 : 0 ≤ k) (k1 : k ≤ 1099511627776) (l0 : 0 < takesZ len) (s0 : 0 ≤ sum) (s1 : sum < 4294967296) :
    readMark (markS gen k len sum) = (⟨gen, k, len, sum⟩, true) := by
  have hl : 1 ≤ len ∧ len ≤ 6000 := by unfold takesZ at l0; split at l0 <;> omega
  have ep : markS gen k len sum = markB gen k len sum ++ List.replicate 28 0 := by
    unfold markS pad64
    rw [length_markB, List.take_of_length_le (by rw [length_markB]; decide)]
  have e : ((markS gen k len sum).drop 4).take 32 = numB gen ++ (numB k ++ (numB len ++ numB sum)) := by
    have e1 : (markS gen k len sum).drop 4 = (numB gen ++ (numB k ++ (numB len ++ numB sum))) ++ List.replicate 28 0 := by
      rw [ep]
      rfl
    rw [e1]
    exact List.take_left' (by simp [length_numB])
  have n1 := num_back gen (by omega) (by omega) (numB k ++ (numB len ++ numB sum))
  have n2 := num_back k (by omega) (by omega) (numB len ++ numB sum)
  have n3 := num_back len (by omega) (by omega) (numB sum)
  have n4 := num_back sum (by omega) (by omega) []
  rw [List.append_nil] at n4
  have e4 : nums4 ⟨numB gen ++ (numB k ++ (numB len ++ numB sum)), 0⟩ = (⟨gen, k, len, sum⟩, ⟨[], 0⟩) := by
    simp only [nums4, n1, n2, n3, n4]
  have em : sum % 4294967296 = sum := by omega
  unfold readMark
  rw [e]
  simp only [e4, em]
  simp [g0, g1, l0]
theorem markS_head (a b c d : Int) : ∃ t, markS a b c d = 87 :: t := by
  unfold markS pad64 markB
  exact ⟨_, rfl⟩
theorem zero_none : (readMark zeroS).2 = false := by
  have h : ∀ a b c d, zeroS ≠ markS a b c d := fun a b c d e => by
    obtain ⟨t, ht⟩ := markS_head a b c d
    rw [ht] at e
    have : (0 : UInt8) = 87 := by
      have := congrArg (fun l => l.headD 0) e
      simp [zeroS, List.replicate_succ] at this
    exact absurd this (by decide)
  unfold readMark
  simp only [h, decide_false, Bool.and_false, Bool.false_and]
theorem markOf_back {gen : Int} {k : Nat} {b : List UInt8} (g0 : 1 ≤ gen) (g1 : gen ≤ 1099511627776) (hk : k ≤ 2 ^ 40) (hb : takes b.length ≠ 0) :
    readMark (markOf gen k b) = (⟨gen, k, b.length, SumP.toI (SumP.sum b)⟩, true) :=
  mark_back gen k b.length _ g0 g1 (by omega) (by omega) (by rw [takesZ_nat]; omega) (SumP.toI_lo _) (SumP.toI_hi _)
theorem recsGo_stop0 {l : List (List UInt8)} {f used : Nat} {list : List (List UInt8)} {gen : Int} (h : used < l.length → (readMark (l.getD used [])).2 = false) (hne : list ≠ []) : recsGo l (f + 1) list used gen = (list, used, gen, 0) := by
  simp only [recsGo]
  by_cases hu : used < l.length
  · rw [if_pos hu, if_pos (.inl (h hu)), if_neg hne, if_neg hne]
  · rw [if_neg hu, if_neg hne]
theorem recsGo_back (gen : Int) (g0 : 1 ≤ gen) (g1 : gen ≤ 1099511627776) (z : List (List UInt8)) (hz : 0 < z.length → (readMark (z.getD 0 [])).2 = false) : ∀ (rest : List (List UInt8)) (P : List (List UInt8)) (done : List (List UInt8)) (f : Nat) (g : Int),
    (∀ b ∈ rest, takes b.length ≠ 0) → done.length + rest.length ≤ 2 ^ 40 → rest.length < f → (done = [] ∨ g = gen) → done ++ rest ≠ [] → 
    recsGo (P ++ (recsV gen done.length rest ++ z)) f done P.length g = (done ++ rest, P.length + posN rest, gen, 0)
  | [], P, done, f, g, _, _, hf, hg, hne => by
    rw [List.append_nil] at hne
    obtain ⟨f, rfl⟩ : ∃ f', f = f' + 1 := ⟨f - 1, by simp at hf; omega⟩
    rcases hg with hg | rfl
    · exact absurd hg hne
    · rw [recsGo_stop0 (fun h => ?_) hne]
      · simp [posN]
      · simp only [recsV, List.nil_append] at h ⊢
        rw [List.length_append] at h
        have e : (P ++ z).getD P.length [] = z.getD 0 [] := by
          rw [List.getD_eq_getElem?_getD, List.getElem?_append_right (Nat.le_refl _), Nat.sub_self, List.getD_eq_getElem?_getD]
        rw [e]
        exact hz (by omega)
  | b :: rest, P, done, f, g, hb, hl, hf, hg, hne => by
    rw [List.length_cons] at hf hl
    obtain ⟨f, rfl⟩ : ∃ f', f = f' + 1 := ⟨f - 1, by omega⟩
    have h0 := hb b (List.mem_cons_self ..)
    have hc := takes_chunks h0
    have hm := markOf_back (gen := gen) (k := done.length) (b := b) g0 g1 (by omega) h0
    have ih := recsGo_back gen g0 g1 z hz rest (P ++ recV gen done.length b) (done ++ [b]) f gen (fun x hx => hb x (List.mem_cons_of_mem _ hx)) (by simp; omega) (by omega) (.inr rfl) (by simp)
    have eL : (done ++ [b]).length = done.length + 1 := by simp
    have eP : P ++ recV gen done.length b ++ (recsV gen (done ++ [b]).length rest ++ z) = P ++ (recsV gen done.length (b :: rest) ++ z) := by
      rw [eL, recsV]; simp only [List.append_assoc]
    have eU : (P ++ recV gen done.length b).length = P.length + takes b.length := by rw [List.length_append, length_recV h0]
    rw [eP, eU] at ih
    have e0 : (P ++ (recsV gen done.length (b :: rest) ++ z)).getD P.length [] = markOf gen done.length b := by
      rw [List.getD_eq_getElem?_getD, List.getElem?_append_right (Nat.le_refl _), Nat.sub_self]
      simp [recsV, recV]
    have hlen : (P ++ (recsV gen done.length (b :: rest) ++ z)).length = P.length + (takes b.length + (posN rest + z.length)) := by
      rw [List.length_append, List.length_append, length_recsV gen (b :: rest) _ hb, posN_cons]; omega
    have eD : (P ++ (recsV gen done.length (b :: rest) ++ z)).drop (P.length + 1) = chunks b ++ (recsV gen (done.length + 1) rest ++ z) := by
      rw [← List.drop_drop, List.drop_left' rfl]
      simp [recsV, recV]
    have eT : ((P ++ (recsV gen done.length (b :: rest) ++ z)).drop (P.length + 1)).take (takes b.length - 1) = chunks b := by
      rw [eD, hc, Nat.add_sub_cancel, List.take_left' rfl]
    have eG : (if done = [] then gen else g) = gen := by
      rcases hg with hg | hg
      · rw [if_pos hg]
      · split
        · rfl
        · exact hg
    simp only [recsGo]
    rw [if_pos (by rw [hlen]; omega), e0, hm]
    simp only [eG]
    have ez : (takesZ (b.length : Int)).toNat = takes b.length := by rw [takesZ_nat]; omega
    rw [ez, if_neg (by
      rintro (h | h | h | h)
      · cases h
      · exact h rfl
      · exact h rfl
      · rw [hlen] at h; omega), eT]
    have eB : (chunks b).flatten.take ((b.length : Int)).toNat = b := by
      rw [show ((b.length : Int)).toNat = b.length by omega]
      exact chunks_back b.length b (Nat.le_refl _)
    rw [eB, if_neg (fun h => h rfl), ih, posN_cons]
    simp [Nat.add_assoc]
/-- What a half with records holds, read. -/
theorem records_back {gen : Int} (g0 : 1 ≤ gen) (g1 : gen ≤ 1099511627776) {list : List (List UInt8)} (hne : list ≠ []) (hb : ∀ b ∈ list, takes b.length ≠ 0) (n : Nat) (hl : list.length ≤ 2 ^ 40) :
    recordsP (recsV gen 0 list ++ List.replicate n zeroS) = (list, posN list, gen, 0) := by
  unfold recordsP
  have hz : 0 < (List.replicate n zeroS).length → (readMark ((List.replicate n zeroS).getD 0 [])).2 = false := fun h => by
    rw [List.length_replicate] at h
    rw [List.getD_eq_getElem?_getD, List.getElem?_replicate, if_pos h]
    exact zero_none
  have hp : list.length ≤ posN list := by
    have : ∀ l : List (List UInt8), (∀ b ∈ l, takes b.length ≠ 0) → l.length ≤ posN l := fun l => by
      induction l with
      | nil => intro _; exact Nat.zero_le _
      | cons b l ih =>
        intro h
        have h0 := h b (List.mem_cons_self ..)
        have := ih (fun x hx => h x (List.mem_cons_of_mem _ hx))
        rw [posN_cons, List.length_cons]
        omega
    exact this list hb
  have h := recsGo_back gen g0 g1 (List.replicate n zeroS) hz list [] [] ((recsV gen 0 list ++ List.replicate n zeroS).length + 1) 0 hb (by simpa using hl) (by rw [List.length_append, length_recsV gen list 0 hb]; omega) (.inl rfl) (by simpa using hne)
  simpa using h
theorem len_le_posN : ∀ (l : List (List UInt8)), (∀ b ∈ l, takes b.length ≠ 0) → l.length ≤ posN l
  | [], _ => Nat.zero_le _
  | b :: l, h => by
    have h0 := h b (List.mem_cons_self ..)
    have := len_le_posN l (fun x hx => h x (List.mem_cons_of_mem _ hx))
    rw [posN_cons, List.length_cons]
    omega
/-- The generation that a half tells. -/
def genV (l : List (List UInt8)) : Int := (recordsP l).2.2.1
/-- Behind the first record, the generation stays. -/
theorem recsGo_gen (l : List (List UInt8)) : ∀ (f : Nat) (list : List (List UInt8)) (used : Nat) (gen : Int), list ≠ [] → (recsGo l f list used gen).2.2.1 = gen
  | 0, list, used, gen, h => by simp only [recsGo]; rw [if_neg h]
  | f + 1, list, used, gen, h => by
    simp only [recsGo, if_neg h]
    split
    · split
      · rfl
      · split
        · rfl
        · exact recsGo_gen l f _ _ gen (by simp)
    · rfl
theorem genV_eq (l : List (List UInt8)) : genV l = 0 ∨ (0 < l.length ∧ (readMark (l.getD 0 [])).2 = true ∧ genV l = (readMark (l.getD 0 [])).1.gen) := by
  unfold genV recordsP
  simp only [recsGo, if_true]
  by_cases h : 0 < l.length
  · rw [if_pos h]
    split
    · exact .inl rfl
    · rename_i hc
      have hok : (readMark (l.getD 0 [])).2 = true := by
        cases e : (readMark (l.getD 0 [])).2 with
        | true => rfl
        | false => exact absurd (.inl e) hc
      right
      refine ⟨h, hok, ?_⟩
      split
      · rfl
      · exact recsGo_gen l _ _ _ _ (by simp)
  · rw [if_neg h]
    exact .inl rfl
theorem genV_none {l : List (List UInt8)} (h : 0 < l.length → (readMark (l.getD 0 [])).2 = false) : genV l = 0 := by
  rcases genV_eq l with h1 | ⟨h1, h2, _⟩
  · exact h1
  · rw [h h1] at h2; cases h2
end WalP
end Go.Proofs.YtaijompnohkmaaaGreatDoor
/- Layer 5 (wal), plainly: a log that holds records, on a disk that is up; formatted, appended to, compacted, opened. -/
namespace Go.Proofs.YtaijompnohkmaaaGreatDoor
namespace WalP
theorem totalN_eq : ∀ (l : List (List UInt8)), (∃ b ∈ l, takes b.length = 0) ∧ totalN l = none ∨ (∀ b ∈ l, takes b.length ≠ 0) ∧ totalN l = some (posN l)
  | [] => .inr ⟨fun b h => (by cases h), rfl⟩
  | b :: l => by
    unfold totalN
    by_cases h : takes b.length = 0
    · exact .inl ⟨⟨b, List.mem_cons_self .., h⟩, if_pos h⟩
    · rw [if_neg h]
      rcases totalN_eq l with ⟨⟨x, hx, h0⟩, e⟩ | ⟨h0, e⟩
      · exact .inl ⟨⟨x, List.mem_cons_of_mem _ hx, h0⟩, by rw [e]; rfl⟩
      · refine .inr ⟨fun x hx => ?_, by rw [e, posN_cons]; rfl⟩
        rcases List.mem_cons.1 hx with rfl | hx
        · exact h
        · exact h0 x hx
theorem total_eq (l : List (List UInt8)) : total l = none ∨ (l ≠ [] ∧ (∀ b ∈ l, takes b.length ≠ 0) ∧ total l = some (posN l)) := by
  unfold total
  by_cases h : l = []
  · exact .inl (if_pos h)
  · rw [if_neg h]
    rcases totalN_eq l with ⟨_, e⟩ | ⟨h0, e⟩
    · exact .inl e
    · exact .inr ⟨h, h0, e⟩
theorem total_some {l : List (List UInt8)} (h1 : l ≠ []) (h2 : ∀ b ∈ l, takes b.length ≠ 0) : total l = some (posN l) := by
  unfold total
  rw [if_neg h1]
  rcases totalN_eq l with ⟨⟨x, hx, h0⟩, _⟩ | ⟨_, e⟩
  · exact absurd h0 (h2 x hx)
  · exact e
theorem takes_two {n : Nat} (h : takes n ≠ 0) : 2 ≤ takes n := by
  unfold takes at h ⊢
  split
  · rename_i h1; rw [if_pos h1] at h; exact absurd rfl h
  · omega
theorem posN_two {l : List (List UInt8)} (h1 : l ≠ []) (h2 : ∀ b ∈ l, takes b.length ≠ 0) : 2 ≤ posN l := by
  cases l with
  | nil => exact absurd rfl h1
  | cons b l =>
    have := takes_two (h2 b (List.mem_cons_self ..))
    rw [posN_cons]
    omega
theorem fit_bytes {S : Nat} {a : Nat} {b : List UInt8} (h : a + takes b.length ≤ S) (hb : takes b.length ≠ 0) : ∀ x ∈ bytesD a b, fit S x := by
  intro x hx
  unfold bytesD at hx
  obtain ⟨i, hi, rfl⟩ := List.mem_map.1 hx
  have := List.mem_range.1 hi
  have hc := takes_chunks hb
  rw [length_chunks] at hc
  show 0 ≤ (a : Int) + 1 + i ∧ (a : Int) + 1 + i < S
  omega
theorem length_bytesD (a : Int) (b : List UInt8) : (bytesD a b).length = (b.length + 63) / 64 := by simp [bytesD]
theorem fit_recs {S : Nat} (gen : Int) : ∀ (l : List (List UInt8)) (a k : Nat), (∀ b ∈ l, takes b.length ≠ 0) → a + posN l ≤ S → ∀ x ∈ recsD gen a k l, fit S x
  | [], _, _, _, _, x, hx => by cases hx
  | b :: l, a, k, hb, h, x, hx => by
    rw [posN_cons] at h
    have h0 := hb b (List.mem_cons_self ..)
    simp only [recsD, recD] at hx
    rcases List.mem_append.1 hx with hx | hx
    · rcases List.mem_append.1 hx with hx | hx
      · exact fit_bytes (by omega) h0 x hx
      · split at hx
        · rw [List.mem_singleton.1 hx]
          show 0 ≤ (a : Int) ∧ (a : Int) < S
          have := takes_two h0
          omega
        · cases hx
    · rw [show ((a : Int) + (takes b.length : Nat)) = ((a + takes b.length : Nat) : Int) by omega] at hx
      exact fit_recs gen l _ _ (fun y hy => hb y (List.mem_cons_of_mem _ hy)) (by omega) x hx
theorem length_recsD (gen : Int) : ∀ (l : List (List UInt8)) (a : Int) (k : Nat), (∀ b ∈ l, takes b.length ≠ 0) → (recsD gen a k l).length ≤ posN l
  | [], _, _, _ => Nat.zero_le _
  | b :: l, a, k, hb => by
    have h0 := takes_chunks (hb b (List.mem_cons_self ..))
    have ih := length_recsD gen l (a + takes b.length) (k + 1) (fun y hy => hb y (List.mem_cons_of_mem _ hy))
    rw [length_chunks] at h0
    simp only [recsD, recD]
    rw [posN_cons, List.length_append, List.length_append, length_bytesD]
    split
    · rw [List.length_singleton]; omega
    · simp; omega
theorem fit_lay {S F H : Nat} {gen : Int} {list : List (List UInt8)} (hne : list ≠ []) (hb : ∀ b ∈ list, takes b.length ≠ 0) (hn : posN list ≤ H) (h : F + H ≤ S) (which : Int) (hw : which * H = F) : ∀ x ∈ layD H which gen list, fit S x := by
  intro x hx
  have h2 := posN_two hne hb
  unfold layD at hx
  rw [hw] at hx
  rcases List.mem_append.1 hx with hx | hx
  · unfold zerosD at hx
    obtain ⟨i, hi, rfl⟩ := List.mem_map.1 hx
    have := List.mem_range.1 hi
    show 0 ≤ (F : Int) + i ∧ (F : Int) + i < S
    omega
  · rcases List.mem_append.1 hx with hx | hx
    · rw [List.mem_singleton.1 hx]; trivial
    · rcases List.mem_append.1 hx with hx | hx
      · exact fit_recs gen list F 0 hb (by omega) x hx
      · simp only [List.mem_cons, List.not_mem_nil, or_false] at hx
        rcases hx with rfl | rfl | rfl
        · trivial
        · show 0 ≤ (F : Int) ∧ (F : Int) < S
          omega
        · trivial
theorem length_layD {H : Nat} {which gen : Int} {list : List (List UInt8)} (hb : ∀ b ∈ list, takes b.length ≠ 0) : (layD H which gen list).length ≤ H + posN list + 4 := by
  have := length_recsD gen list (which * H) 0 hb
  unfold layD
  simp [zerosD]
  omega
/-- A laying ends in a flush. -/
theorem layD_last (H : Nat) (which gen : Int) (list : List (List UInt8)) : ∃ ds, layD H which gen list = ds ++ [.flush] :=
  ⟨zerosD (which * H) H ++ ([.flush] ++ (recsD gen (which * H) 0 list ++ [.flush, .put (which * H) (markOf gen 0 (list.headD []))])), by unfold layD; simp⟩
theorem Calm.runL {S : Nat} (hS : S ≤ 4096) {ds : List Deed} {n : Nat} {d : DiskP} (h : Calm S n d) (hn : n + ds.length ≤ 100000) (hf : ∀ x ∈ ds, fit S x) (hl : ∃ es, ds = es ++ [.flush]) : (WalP.run d ds).2 = 0 ∧ Calm S 0 (WalP.run d ds).1 ∧ see (WalP.run d ds).1 = after (see d) ds := by
  obtain ⟨es, rfl⟩ := hl
  obtain ⟨h1, h2, h3⟩ := Calm.runF hS (ds := es) h (by simp at hn; omega) (fun x hx => hf x (List.mem_append_left _ hx))
  refine ⟨h1, h2, h3.trans ?_⟩
  rw [after_append]
  rfl
/-- A log on a disk that is up holds records. -/
structure Holds (S : Nat) (d : DiskP) (l : LogP) (list : List (List UInt8)) : Prop where
  calm : Calm S 0 d
  hS : S ≤ 4096
  half : l.half = 0 ∨ l.half = 1
  gen0 : 1 ≤ l.gen
  gen1 : l.gen ≤ 1099511627776
  ne : list ≠ []
  tk : ∀ b ∈ list, takes b.length ≠ 0
  used : l.used = posN list
  count : l.count = list.length
  fits : posN list ≤ WalP.half d
  here : viewP d l.half = recsV l.gen 0 list ++ List.replicate (WalP.half d - posN list) zeroS
  other : genV (viewP d (1 - l.half)) < l.gen
theorem half_of {S n : Nat} {d : DiskP} (h : Calm S n d) : half d = S / 2 := by unfold half; rw [h.secs]
theorem Holds.right {S : Nat} {d : DiskP} {l : LogP} {list : List (List UInt8)} (h : Holds S d l list) : rightL d l = true := by
  have h1 := h.calm.right h.hS (by omega)
  have h2 := posN_two h.ne h.tk
  have h3 := len_le_posN list h.tk
  have h4 : 0 < list.length := List.length_pos_iff.2 h.ne
  have h5 := h.half
  have h6 := h.gen0
  have h7 := h.gen1
  have h8 := h.used
  have h9 := h.count
  have h10 := h.fits
  unfold rightL
  simp only [h1, Bool.true_and, Bool.and_eq_true, Bool.or_eq_true, decide_eq_true_eq]
  omega
theorem Holds.room {S : Nat} {d : DiskP} {l : LogP} {list : List (List UInt8)} (h : Holds S d l list) : roomP d l = ((WalP.half d - posN list : Nat) : Int) := by
  unfold roomP
  rw [if_pos h.right, h.used]
  have := h.fits
  omega
/-- A half that is laid anew, the other one of no greater generation. -/
theorem lay_holds {S n : Nat} {d : DiskP} (hc : Calm S n d) (hS : S ≤ 4096) (hn1 : n ≤ 10) {w gen : Int} {list : List (List UInt8)} (hw : w = 0 ∨ w = 1) (g0 : 1 ≤ gen) (g1 : gen ≤ 1099511627776) (hne : list ≠ []) (hb : ∀ b ∈ list, takes b.length ≠ 0) (hn : posN list ≤ WalP.half d)
    (ho : genV (viewP d (1 - w)) < gen) : (run d (layD (WalP.half d) w gen list)).2 = 0 ∧ Holds S (run d (layD (WalP.half d) w gen list)).1 ⟨w, gen, posN list, list.length⟩ list := by
  have hh := half_of hc
  obtain ⟨F, hF⟩ : ∃ F : Nat, w * (WalP.half d) = F := by rcases hw with rfl | rfl; exact ⟨0, by omega⟩; exact ⟨WalP.half d, by omega⟩
  obtain ⟨F', hF'⟩ : ∃ F : Nat, (1 - w) * (WalP.half d) = F := by rcases hw with rfl | rfl; exact ⟨WalP.half d, by omega⟩; exact ⟨0, by omega⟩
  have hFH : F + WalP.half d ≤ S ∧ F' + WalP.half d ≤ S ∧ (F + WalP.half d ≤ F' ∨ F' + WalP.half d ≤ F) := by
    rw [hh] at hF hF' ⊢
    rcases hw with rfl | rfl <;> omega
  obtain ⟨f1, f2, f3⟩ := hFH
  have hlen := length_layD (H := WalP.half d) (which := w) (gen := gen) hb
  obtain ⟨r1, r2, r3⟩ := Calm.runL hS hc (by rw [hh] at hlen hn ⊢; omega) (fit_lay hne hb hn f1 w hF) (layD_last (WalP.half d) w gen list)
  have hh2 := half_of r2
  have hhe : WalP.half (run d (layD (WalP.half d) w gen list)).1 = WalP.half d := by rw [hh2, hh]
  have hsl : (see d).length = S := by rw [length_see]; exact hc.secs
  refine ⟨r1, r2, hS, hw, g0, g1, hne, hb, rfl, rfl, by rw [hhe]; exact hn, ?_, ?_⟩
  · show viewP _ w = _
    rw [r2.view hS (by omega) F w (by rw [hhe]; exact hF) hw, hhe, r3]
    exact lay_view hne hb hn (by omega) w hF
  · show genV (viewP _ (1 - w)) < gen
    have hw' : 1 - w = 0 ∨ 1 - w = 1 := by omega
    rw [r2.view hS (by omega) F' (1 - w) (by rw [hhe]; exact hF') hw', hhe, r3]
    have e := lay_far (v := see d) (F' := F') (gen := gen) hne hb hn (by omega) w hF f3
    unfold hv at e
    rw [e, ← hc.view hS (by omega) F' (1 - w) hF' hw']
    exact ho
theorem format_holds {S : Nat} {d : DiskP} (hc : Calm S 0 d) (hS : S ≤ 4096) (list : List (List UInt8)) :
    (total list = none ∧ formatP d list = (d, log0, 1)) ∨ (∃ n, total list = some n ∧ S / 2 < n ∧ formatP d list = (d, log0, 8)) ∨ (list ≠ [] ∧ (∀ b ∈ list, takes b.length ≠ 0) ∧ posN list ≤ S / 2 ∧ (formatP d list).2.2 = 0 ∧ (formatP d list).2.1 = ⟨0, 1, posN list, list.length⟩ ∧ Holds S (formatP d list).1 (formatP d list).2.1 list) := by
  have hr := hc.right hS (by omega)
  have hh := half_of hc
  rcases total_eq list with ht | ⟨hne, hb, ht⟩
  · left
    refine ⟨ht, ?_⟩
    simp only [formatP, ht]
  · right
    by_cases hn : WalP.half d < posN list
    · left
      refine ⟨_, ht, by rw [← hh]; exact hn, ?_⟩
      simp only [formatP, ht, hr, if_true, if_pos hn]
    · right
      have h2 := posN_two hne hb
      obtain ⟨p1, p2, p3⟩ := hc.put hS (by omega) (WalP.half d) zeroS (by omega) (by rw [hh] at hn ⊢; omega)
      have e1 : run d (.put (WalP.half d) zeroS :: layD (WalP.half d) 0 1 list) = run (putP d (WalP.half d) zeroS).1 (layD (WalP.half d) 0 1 list) := by
        show (if (putP d (WalP.half d) zeroS).2 = 0 then run (putP d (WalP.half d) zeroS).1 (layD (WalP.half d) 0 1 list) else putP d (WalP.half d) zeroS) = _
        rw [if_pos p1]
      have hh2 := half_of p2
      have hhe : WalP.half (putP d (WalP.half d) zeroS).1 = WalP.half d := by rw [hh2, hh]
      have ho : genV (viewP (putP d (WalP.half d) zeroS).1 (1 - 0)) < 1 := by
        rw [p2.view hS (by omega) (WalP.half d) (1 - 0) (by rw [hhe]; omega) (by omega), hhe, p3, genV_none (fun _ => ?_)]
        · omega
        · have e : ((((see d).set ((WalP.half d : Int)).toNat zeroS).drop (WalP.half d)).take (WalP.half d)).getD 0 [] = zeroS := by
            rw [List.getD_eq_getElem?_getD, List.getElem?_take, if_pos (by omega), List.getElem?_drop, Nat.add_zero, show ((WalP.half d : Int)).toNat = WalP.half d by omega, List.getElem?_set_self (by rw [length_see, hc.secs]; rw [hh] at hn ⊢; omega)]
            rfl
          rw [e]
          exact zero_none
      have hl := lay_holds p2 hS (by omega) (w := 0) (gen := 1) (.inl rfl) (by omega) (by omega) hne hb (by rw [hhe]; omega) ho
      rw [hhe] at hl
      obtain ⟨l1, l2⟩ := hl
      have e2 : formatP d list = ((run d (.put (WalP.half d) zeroS :: layD (WalP.half d) 0 1 list)).1, ⟨0, 1, posN list, list.length⟩, 0) := by
        simp only [formatP, ht, hr, if_true, if_neg hn]
        rw [if_pos (by rw [e1]; exact l1)]
      rw [e2, e1]
      exact ⟨hne, hb, by rw [← hh]; omega, rfl, rfl, l2⟩
theorem append_holds {S : Nat} {d : DiskP} {l : LogP} {list : List (List UInt8)} (h : Holds S d l list) (b : List UInt8) :
    (takes b.length = 0 ∧ appendP d l b = (d, l, 1)) ∨ (takes b.length ≠ 0 ∧ roomP d l < takes b.length ∧ appendP d l b = (d, l, 8)) ∨
    (takes b.length ≠ 0 ∧ takes b.length ≤ roomP d l ∧ (appendP d l b).2.2 = 0 ∧ (appendP d l b).2.1 = { l with used := l.used + takes b.length, count := l.count + 1 } ∧ Holds S (appendP d l b).1 (appendP d l b).2.1 (list ++ [b])) := by
  by_cases ht : takes b.length = 0
  · exact .inl ⟨ht, by unfold appendP; rw [if_pos (.inl ht)]⟩
  · right
    have hR := h.right
    by_cases hro : roomP d l < takes b.length
    · exact .inl ⟨ht, hro, by unfold appendP; rw [if_neg (by simp [ht, hR]), if_pos hro]⟩
    · right
      have hS := h.hS
      have hh := half_of h.calm
      have hroom := h.room
      have hfits := h.fits
      have hsum : posN list + takes b.length ≤ WalP.half d := by omega
      obtain ⟨F, hF⟩ : ∃ F : Nat, l.half * (WalP.half d) = F := by rcases h.half with e | e <;> rw [e]; exact ⟨0, by omega⟩; exact ⟨WalP.half d, by omega⟩
      obtain ⟨F', hF'⟩ : ∃ F : Nat, (1 - l.half) * (WalP.half d) = F := by rcases h.half with e | e <;> rw [e]; exact ⟨WalP.half d, by omega⟩; exact ⟨0, by omega⟩
      have hFH : F + WalP.half d ≤ S ∧ F' + WalP.half d ≤ S ∧ (F + WalP.half d ≤ F' ∨ F' + WalP.half d ≤ F) := by
        have := h.half
        rw [hh] at hF hF' ⊢
        rcases this with e | e <;> rw [e] at hF hF' <;> omega
      obtain ⟨f1, f2, f3⟩ := hFH
      have hat : l.half * (WalP.half d) + l.used = ((F + posN list : Nat) : Int) := by rw [hF, h.used]; omega
      have hc := takes_chunks ht
      have h2 := takes_two ht
      have hsl : (see d).length = S := by rw [length_see]; exact h.calm.secs
      have hfit : ∀ x ∈ appendD d l b, fit S x := by
        intro x hx
        unfold appendD at hx
        rw [hat] at hx
        rcases List.mem_append.1 hx with hx | hx
        · exact fit_bytes (by omega) ht x hx
        · simp only [List.mem_cons, List.not_mem_nil, or_false] at hx
          rcases hx with rfl | rfl | rfl
          · trivial
          · show 0 ≤ ((F + posN list : Nat) : Int) ∧ ((F + posN list : Nat) : Int) < S
            omega
          · trivial
      have hlen : (appendD d l b).length ≤ 200 := by
        have := takes_le b.length
        rw [length_chunks] at hc
        unfold appendD
        rw [List.length_append, length_bytesD]
        simp
        omega
      obtain ⟨r1, r2, r3⟩ := Calm.runL hS h.calm (by omega) hfit ⟨bytesD (l.half * half d + l.used) b ++ [.flush, .put (l.half * half d + l.used) (markS l.gen l.count b.length (SumP.toI (SumP.sum b)))], by unfold appendD; simp⟩
      have hh2 := half_of r2
      have hhe : WalP.half (run d (appendD d l b)).1 = WalP.half d := by rw [hh2, hh]
      have e : appendP d l b = ((run d (appendD d l b)).1, { l with used := l.used + takes b.length, count := l.count + 1 }, 0) := by
        unfold appendP
        rw [if_neg (by simp [ht, hR]), if_neg hro]
        simp only [r1, if_true]
      have hsee : see (run d (appendD d l b)).1 = (wr (see d) (F + posN list + 1) (chunks b)).set (F + posN list) (markOf l.gen list.length b) := by
        rw [r3]
        unfold appendD
        rw [hat, after_append, bytes_after]
        show List.set _ ((F + posN list : Nat) : Int).toNat _ = _
        rw [Int.toNat_natCast, h.count]
        rfl
      rw [e]
      refine ⟨ht, by omega, rfl, rfl, r2, hS, h.half, h.gen0, h.gen1, by simp, ?_, ?_, ?_, ?_, ?_, ?_⟩
      · intro x hx
        rcases List.mem_append.1 hx with hx | hx
        · exact h.tk x hx
        · rw [List.mem_singleton.1 hx]; exact ht
      · show l.used + _ = _
        rw [h.used, posN_append]; simp [posN]
      · show l.count + 1 = _
        rw [h.count]; simp
      · show _ ≤ WalP.half (run d (appendD d l b)).1
        rw [hhe, posN_append]; simpa [posN] using hsum
      · show viewP (run d (appendD d l b)).1 l.half = recsV l.gen 0 (list ++ [b]) ++ _
        rw [r2.view hS (by omega) F l.half (by rw [hhe]; exact hF) h.half, hhe, hsee]
        exact app_view h.tk ht hsum (by omega) (by unfold hv; rw [← h.calm.view hS (by omega) F l.half hF h.half]; exact h.here)
      · show genV (viewP (run d (appendD d l b)).1 (1 - l.half)) < l.gen
        have hw' : 1 - l.half = 0 ∨ 1 - l.half = 1 := by have := h.half; omega
        rw [r2.view hS (by omega) F' (1 - l.half) (by rw [hhe]; exact hF') hw', hhe, hsee]
        have e := app_far (v := see d) (a := F + posN list) (F := F') (H := WalP.half d) (m := markOf l.gen list.length b) (b := b) (by omega) (by omega)
        unfold hv at e
        rw [e, ← h.calm.view hS (by omega) F' (1 - l.half) hF' hw']
        exact h.other
theorem compact_holds {S : Nat} {d : DiskP} {l : LogP} {list0 : List (List UInt8)} (h : Holds S d l list0) (hg : l.gen < 1099511627776) (list : List (List UInt8)) :
    ((total list = none ∧ compactP d l list = (d, l, 1)) ∨ ((∃ n, total list = some n ∧ S / 2 < n) ∧ compactP d l list = (d, l, 8))) ∨
    (list ≠ [] ∧ (∀ b ∈ list, takes b.length ≠ 0) ∧ posN list ≤ S / 2 ∧ (compactP d l list).2.2 = 0 ∧ (compactP d l list).2.1 = ⟨1 - l.half, l.gen + 1, posN list, list.length⟩ ∧ Holds S (compactP d l list).1 (compactP d l list).2.1 list) := by
  have hh := half_of h.calm
  have hR := h.right
  rcases total_eq list with ht | ⟨hne, hb, ht⟩
  · refine .inl (.inl ⟨ht, ?_⟩)
    simp only [compactP, ht]
  · by_cases hn : WalP.half d < posN list
    · refine .inl (.inr ⟨⟨_, ht, by rw [← hh]; exact hn⟩, ?_⟩)
      simp only [compactP, ht, hR, if_true, if_pos hn]
    · right
      have ho : genV (viewP d (1 - (1 - l.half))) < l.gen + 1 := by
        rw [show 1 - (1 - l.half) = l.half by omega, h.here]
        unfold genV
        rw [records_back h.gen0 h.gen1 h.ne h.tk _ (by have := len_le_posN list0 h.tk; have := h.fits; have := h.hS; rw [hh] at *; omega)]
        show l.gen < l.gen + 1
        omega
      obtain ⟨l1, l2⟩ := lay_holds h.calm h.hS (by omega) (w := 1 - l.half) (gen := l.gen + 1) (by have := h.half; omega) (by have := h.gen0; omega) (by omega) hne hb (by omega) ho
      have e : compactP d l list = ((run d (layD (WalP.half d) (1 - l.half) (l.gen + 1) list)).1, ⟨1 - l.half, l.gen + 1, posN list, list.length⟩, 0) := by
        simp only [compactP, ht, hR, if_true, if_neg hn]
        rw [if_neg (by omega), if_pos l1]
      rw [e]
      exact ⟨hne, hb, by rw [← hh]; omega, rfl, rfl, l2⟩
/-- A log that holds records is opened: they are compacted. -/
theorem open_holds {S : Nat} {d : DiskP} {l : LogP} {list : List (List UInt8)} (h : Holds S d l list) (hg : l.gen < 1099511627776) :
    (openP d).2.2.1 = list ∧ (openP d).2.2.2 = 0 ∧ (openP d).2.1 = ⟨1 - l.half, l.gen + 1, posN list, list.length⟩ ∧ Holds S (openP d).1 (openP d).2.1 list := by
  have hr := h.calm.right h.hS (by omega)
  have hd := h.calm.down
  have hh := half_of h.calm
  have hlen : list.length ≤ 2 ^ 40 := by have := len_le_posN list h.tk; have := h.fits; have := h.hS; rw [hh] at *; omega
  have eh : recordsP (viewP d l.half) = (list, posN list, l.gen, 0) := by rw [h.here]; exact records_back h.gen0 h.gen1 h.ne h.tk _ hlen
  have eo := h.other
  unfold genV at eo
  have hl : (⟨l.half, l.gen, posN list, list.length⟩ : LogP) = l := by rw [← h.used, ← h.count]
  have hw : ∃ x : List (List UInt8) × Nat × Int × Int, x = (list, posN list, l.gen, 0) ∧
      (if (recordsP (viewP d 0)).2.2.1 < (recordsP (viewP d 1)).2.2.1 then recordsP (viewP d 1) else recordsP (viewP d 0)) = x ∧ (if (recordsP (viewP d 0)).2.2.1 < (recordsP (viewP d 1)).2.2.1 then (1 : Int) else 0) = l.half := by
    refine ⟨_, rfl, ?_⟩
    rcases h.half with e | e
    · rw [e] at eh eo
      rw [if_neg (by rw [eh]; show ¬ l.gen < (recordsP (viewP d (1 - 0))).2.2.1; omega), if_neg (by rw [eh]; show ¬ l.gen < (recordsP (viewP d (1 - 0))).2.2.1; omega), e]
      exact ⟨eh, rfl⟩
    · rw [e] at eh eo
      rw [if_pos (by rw [eh]; exact eo), if_pos (by rw [eh]; exact eo), e]
      exact ⟨eh, rfl⟩
  obtain ⟨x, hx, h1, h2⟩ := hw
  have hcom : compactP d l list = compactP d l list := rfl
  rcases compact_holds h hg list with (⟨ht, _⟩ | ⟨⟨n, ht, hn⟩, _⟩) | ⟨_, _, _, c1, c2, c3⟩
  · rw [total_some h.ne h.tk] at ht; cases ht
  · rw [total_some h.ne h.tk] at ht
    cases ht
    have := h.fits
    omega
  · have e : openP d = ((compactP d l list).1, (compactP d l list).2.1, list, 0) := by
      simp only [openP, hr, hd, h1, h2, hx, hl, c1]
      simp
    rw [e]
    exact ⟨rfl, rfl, c2, c3⟩
theorem calm_new {n : Nat} (hn : n ≤ 4096) : Calm n 0 (newP n).1 := by
  unfold newP
  rw [if_pos (by omega)]
  exact ⟨by simp, rfl, rfl, fun x hx => absurd hx List.not_mem_nil, Nat.le_refl _⟩
end WalP
end Go.Proofs.YtaijompnohkmaaaGreatDoor
/- Layer 5 (wal), plainly: deeds on a disk that may fall: what a fall leaves, whatever stays of the loose writes. -/
namespace Go.Proofs.YtaijompnohkmaaaGreatDoor
namespace WalP
/-- The sectors that are sure, and the loose writes. -/
abbrev St := List (List UInt8) × List WriteP
def stepS (s : St) : Deed → St
  | .put a x => (s.1, s.2 ++ [⟨a, x⟩])
  | .flush => (settleN s.1 s.2 (fun _ => true) s.2.length, [])
def steps (s : St) (ds : List Deed) : St := ds.foldl stepS s
theorem steps_append (s : St) (xs ys : List Deed) : steps s (xs ++ ys) = steps (steps s xs) ys := by simp [steps, List.foldl_append]
/-- It is so ahead of each deed. -/
def falls (Q : St → Prop) : St → List Deed → Prop
  | _, [] => True
  | s, x :: xs => Q s ∧ falls Q (stepS s x) xs
theorem falls_append (Q : St → Prop) : ∀ (xs ys : List Deed) (s : St), falls Q s xs → falls Q (steps s xs) ys → falls Q s (xs ++ ys)
  | [], ys, s, _, h => h
  | x :: xs, ys, s, h1, h2 => ⟨h1.1, falls_append Q xs ys (stepS s x) h1.2 h2⟩
/-- A disk of S sectors that is up, with a fuse or none. -/
structure Up (S n : Nat) (d : DiskP) : Prop where
  secs : d.secs.length = S
  down : d.down = false
  fuse : -1 ≤ d.fuse ∧ d.fuse ≤ 1099511627776
  at_ : ∀ x ∈ d.loose, 0 ≤ x.at_ ∧ x.at_ < S
  len : d.loose.length ≤ n
theorem Up.right {S n : Nat} {d : DiskP} (h : Up S n d) (hS : S ≤ 4096) (hn : n ≤ 100000) : rightB d = true := right_of h.secs h.len h.fuse h.at_ hS hn
theorem Up.mono {S n m : Nat} {d : DiskP} (h : Up S n d) (hm : n ≤ m) : Up S m d := ⟨h.secs, h.down, h.fuse, h.at_, Nat.le_trans h.len hm⟩
theorem Calm.is_up {S n : Nat} {d : DiskP} (h : Calm S n d) : Up S n d := ⟨h.secs, h.down, by rw [h.fuse]; omega, h.at_, h.len⟩
theorem Up.calm {S n : Nat} {d : DiskP} (h : Up S n d) (hf : d.fuse = -1) : Calm S n d := ⟨h.secs, h.down, hf, h.at_, h.len⟩
/-- A disk of S sectors that has fallen. -/
structure Fell (S n : Nat) (d : DiskP) : Prop where
  secs : d.secs.length = S
  down : d.down = true
  fuse : d.fuse = 0
  at_ : ∀ x ∈ d.loose, 0 ≤ x.at_ ∧ x.at_ < S
  len : d.loose.length ≤ n
theorem Fell.right {S n : Nat} {d : DiskP} (h : Fell S n d) (hS : S ≤ 4096) (hn : n ≤ 100000) : rightB d = true := right_of h.secs h.len (by rw [h.fuse]; omega) h.at_ hS hn
/-- A deed is done, or the disk falls. -/
theorem Up.deed {S n : Nat} {d : DiskP} (h : Up S n d) (hS : S ≤ 4096) (hn : n ≤ 100000) (x : Deed) (hx : fit S x) :
    ((WalP.deed d x).2 = 0 ∧ Up S (n + 1) (WalP.deed d x).1 ∧ ((WalP.deed d x).1.secs, (WalP.deed d x).1.loose) = stepS (d.secs, d.loose) x ∧ (d.fuse = -1 → (WalP.deed d x).1.fuse = -1) ∧ (WalP.deed d x).1.fuse ≤ d.fuse) ∨
    ((WalP.deed d x).2 = 9 ∧ Fell S n (WalP.deed d x).1 ∧ (WalP.deed d x).1.secs = d.secs ∧ (WalP.deed d x).1.loose = d.loose ∧ d.fuse = 0) := by
  have hr := h.right hS hn
  have hd := h.down
  have hf := h.fuse
  by_cases h0 : d.fuse = 0
  · right
    have hdn : downP d = true := by simp [downP, h0]
    have hb : burnF d = 0 := by simp [burnF, hdn, h0]
    cases x with
    | put a s =>
      have ht : thereB d a = true := by simp only [thereB, h.secs]; simp; exact hx
      have e : WalP.deed d (.put a s) = ({ d with fuse := 0, down := true }, 9) := by simp [WalP.deed, putP, hr, ht, hdn, hb]
      rw [e]
      exact ⟨rfl, ⟨h.secs, rfl, rfl, h.at_, h.len⟩, rfl, rfl, h0⟩
    | flush =>
      have e : WalP.deed d .flush = ({ d with fuse := 0, down := true }, 9) := by simp [WalP.deed, flushP, hr, hdn, hb]
      rw [e]
      exact ⟨rfl, ⟨h.secs, rfl, rfl, h.at_, h.len⟩, rfl, rfl, h0⟩
  · left
    have hdn : downP d = false := by simp [downP, hd, h0]
    obtain ⟨f, hfe⟩ : ∃ f, f = burnF d := ⟨_, rfl⟩
    have hfb : -1 ≤ f ∧ f ≤ 1099511627776 ∧ f ≤ d.fuse ∧ (d.fuse = -1 → f = -1) := by
      rw [hfe]; unfold burnF; rw [hdn]
      simp only [Bool.false_eq_true, if_false]
      split <;> omega
    cases x with
    | put a s =>
      have ht : thereB d a = true := by simp only [thereB, h.secs]; simp; exact hx
      have e : WalP.deed d (.put a s) = ({ d with loose := d.loose ++ [⟨a, s⟩], fuse := f, down := false }, 0) := by simp [WalP.deed, putP, hr, ht, hdn, hfe]
      rw [e]
      refine ⟨rfl, ⟨h.secs, rfl, ⟨hfb.1, hfb.2.1⟩, ?_, ?_⟩, rfl, hfb.2.2.2, hfb.2.2.1⟩
      · intro y hy
        rcases List.mem_append.1 hy with hy | hy
        · exact h.at_ y hy
        · rw [List.mem_singleton.1 hy]; exact hx
      · have := h.len
        simp; omega
    | flush =>
      have e : WalP.deed d .flush = (⟨settleN d.secs d.loose (fun _ => true) d.loose.length, [], f, false⟩, 0) := by simp [WalP.deed, flushP, hr, hdn, hfe]
      rw [e]
      exact ⟨rfl, ⟨by show (settleN _ _ _ _).length = S; rw [length_settleN]; exact h.secs, rfl, ⟨hfb.1, hfb.2.1⟩, fun x hx => absurd hx List.not_mem_nil, Nat.zero_le _⟩, rfl, hfb.2.2.2, hfb.2.2.1⟩
/-- Deeds are done, or the disk falls ahead of one of them. -/
theorem run_falls {S : Nat} (hS : S ≤ 4096) {Q : St → Prop} : ∀ (ds : List Deed) {n : Nat} {d : DiskP}, Up S n d → n + ds.length ≤ 100000 → (∀ x ∈ ds, fit S x) → falls Q (d.secs, d.loose) ds →
    ((run d ds).2 = 0 ∧ Up S (n + ds.length) (run d ds).1 ∧ ((run d ds).1.secs, (run d ds).1.loose) = steps (d.secs, d.loose) ds ∧ (d.fuse = -1 → (run d ds).1.fuse = -1) ∧ (run d ds).1.fuse ≤ d.fuse) ∨
    ((run d ds).2 = 9 ∧ Fell S (n + ds.length) (run d ds).1 ∧ Q ((run d ds).1.secs, (run d ds).1.loose) ∧ d.fuse ≠ -1)
  | [], n, d, h, _, _, _ => .inl ⟨rfl, h, rfl, id, Int.le_refl _⟩
  | x :: ds, n, d, h, hn, hf, hq => by
    have hl : (x :: ds).length = ds.length + 1 := rfl
    rcases h.deed hS (by omega) x (hf x (List.mem_cons_self ..)) with ⟨e1, e2, e3, e4, e4'⟩ | ⟨e1, e2, e3, e4, e5⟩
    · have hq2 := hq.2
      rw [← e3] at hq2
      simp only [WalP.run, e1, if_true]
      rcases run_falls hS ds e2 (by omega) (fun y hy => hf y (List.mem_cons_of_mem _ hy)) hq2 with ⟨i1, i2, i3, i4, i5⟩ | ⟨i1, i2, i3, i4⟩
      · refine .inl ⟨i1, i2.mono (by omega), ?_, fun h => i4 (e4 h), Int.le_trans i5 e4'⟩
        rw [i3, e3]; rfl
      · refine .inr ⟨i1, ⟨i2.secs, i2.down, i2.fuse, i2.at_, Nat.le_trans i2.len (by omega)⟩, i3, fun h => i4 (e4 h)⟩
    · simp only [WalP.run, e1, show (9 : Int) ≠ 0 by decide, if_false]
      refine .inr ⟨trivial, ⟨e2.secs, e2.down, e2.fuse, e2.at_, Nat.le_trans e2.len (by omega)⟩, ?_, by omega⟩
      rw [e3, e4]
      exact hq.1
/-- What may be behind a fall: each sector is as it was sure, or as one of the loose writes. -/
structure Settled (s : St) (t : List (List UInt8)) : Prop where
  len : t.length = s.1.length
  each : ∀ i : Nat, t[i]? = s.1[i]? ∨ ∃ x ∈ s.2, x.at_ = i ∧ t[i]? = some x.data
theorem settled_of (ss : List (List UInt8)) (ls : List WriteP) (st : Nat → Bool) (h0 : ∀ x ∈ ls, 0 ≤ x.at_) : ∀ k, Settled (ss, ls) (settleN ss ls st k)
  | 0 => ⟨rfl, fun i => .inl rfl⟩
  | k + 1 => by
    have ih := settled_of ss ls st h0 k
    have hl := length_settleN ss ls st (k + 1)
    refine ⟨hl, fun i => ?_⟩
    unfold settleN
    split
    · rename_i x hx
      split
      · have hm := List.mem_of_getElem? hx
        have hx0 := h0 x hm
        rw [List.getElem?_set]
        by_cases hi : x.at_.toNat = i
        · rw [if_pos hi]
          by_cases hlt : x.at_.toNat < (settleN ss ls st k).length
          · rw [if_pos hlt]
            exact .inr ⟨x, hm, by omega, rfl⟩
          · rw [if_neg hlt]
            left
            rw [List.getElem?_eq_none]
            rw [ih.len] at hlt
            show ss.length ≤ i
            have : ¬ x.at_.toNat < ss.length := hlt
            omega
        · rw [if_neg hi]
          exact ih.each i
      · exact ih.each i
    · exact ih.each i
/-- A disk that is started. -/
theorem start_of {d : DiskP} (hr : rightB d = true) (h0 : ∀ x ∈ d.loose, 0 ≤ x.at_) (m : Int) : ∃ t, startP d m = (⟨t, [], -1, false⟩, 0) ∧ Settled (d.secs, d.loose) t := by
  refine ⟨settleN d.secs d.loose (stay m) d.loose.length, by simp [startP, hr], settled_of _ _ _ h0 _⟩
/-- Puts that are all of one kind, ahead of a flush. -/
theorem falls_puts {Q : St → Prop} {P : WriteP → Prop} (ss : List (List UInt8)) (hQ : ∀ ls : List WriteP, (∀ x ∈ ls, P x) → Q (ss, ls)) : ∀ (ds : List Deed) (ls : List WriteP), (∀ x ∈ ls, P x) → (∀ y ∈ ds, ∃ a s, y = .put a s ∧ P ⟨a, s⟩) →
    falls Q (ss, ls) ds ∧ (∃ ls', steps (ss, ls) ds = (ss, ls') ∧ (∀ x ∈ ls', P x))
  | [], ls, h, _ => ⟨trivial, ls, rfl, h⟩
  | y :: ds, ls, h, hy => by
    obtain ⟨a, s, rfl, hp⟩ := hy y (List.mem_cons_self ..)
    have h' : ∀ x ∈ ls ++ [⟨a, s⟩], P x := by
      intro x hx
      rcases List.mem_append.1 hx with hx | hx
      · exact h x hx
      · rw [List.mem_singleton.1 hx]; exact hp
    obtain ⟨h1, ls', h2, h3⟩ := falls_puts ss hQ ds _ h' (fun z hz => hy z (List.mem_cons_of_mem _ hz))
    exact ⟨⟨hQ ls h, h1⟩, ls', h2, h3⟩
/-- What is behind deeds, seen. -/
theorem see_steps (f : Int) (b : Bool) : ∀ (ds : List Deed) (s : St), (∀ x ∈ s.2, 0 ≤ x.at_ ∧ x.at_ < s.1.length) → (∀ x ∈ ds, fit s.1.length x) →
    see ⟨(steps s ds).1, (steps s ds).2, f, b⟩ = after (see ⟨s.1, s.2, f, b⟩) ds ∧ (∀ x ∈ (steps s ds).2, 0 ≤ x.at_ ∧ x.at_ < s.1.length) ∧ (steps s ds).1.length = s.1.length
  | [], s, h, _ => ⟨rfl, h, rfl⟩
  | x :: ds, s, h, hf => by
    have h1 : see ⟨(stepS s x).1, (stepS s x).2, f, b⟩ = after1 (see ⟨s.1, s.2, f, b⟩) x ∧ (∀ y ∈ (stepS s x).2, 0 ≤ y.at_ ∧ y.at_ < s.1.length) ∧ (stepS s x).1.length = s.1.length := by
      have hx := hf x (List.mem_cons_self ..)
      cases x with
      | put a u =>
        obtain ⟨k, rfl⟩ : ∃ k : Nat, a = k := ⟨a.toNat, by have := hx.1; omega⟩
        refine ⟨?_, ?_, rfl⟩
        · have := see_put ⟨s.1, s.2, f, b⟩ k u f b (by have := hx.2; show k < s.1.length; omega)
          exact this
        · intro y hy
          rcases List.mem_append.1 hy with hy | hy
          · exact h y hy
          · rw [List.mem_singleton.1 hy]; exact hx
      | flush =>
        refine ⟨?_, fun y hy => absurd hy List.not_mem_nil, length_settleN _ _ _ _⟩
        have := settle_see (d := ⟨s.1, s.2, f, b⟩) (fun x hx => (h x hx).1)
        show see ⟨settleN s.1 s.2 (fun _ => true) s.2.length, [], f, b⟩ = _
        rw [see_sure]
        exact this
    obtain ⟨e1, e2, e3⟩ := h1
    have ih := see_steps f b ds (stepS s x) (by rw [e3]; exact e2) (by rw [e3]; exact fun y hy => hf y (List.mem_cons_of_mem _ hy))
    rw [e3] at ih
    refine ⟨?_, ih.2.1, ih.2.2⟩
    show see ⟨(steps (stepS s x) ds).1, (steps (stepS s x) ds).2, f, b⟩ = _
    rw [ih.1, e1]
    rfl
/-- Behind a flush, nothing is loose: what is sure is what is seen. -/
theorem steps_flush {ss : List (List UInt8)} (ds : List Deed) (hf : ∀ x ∈ ds, fit ss.length x) : steps (ss, []) (ds ++ [.flush]) = (after ss ds, []) := by
  have hf' : ∀ x ∈ ds ++ [Deed.flush], fit ss.length x := by
    intro x hx
    rcases List.mem_append.1 hx with hx | hx
    · exact hf x hx
    · rw [List.mem_singleton.1 hx]; trivial
  have h := see_steps 0 false (ds ++ [.flush]) (ss, []) (fun x hx => absurd hx List.not_mem_nil) hf'
  have h2 : (steps (ss, []) (ds ++ [.flush])).2 = [] := by rw [steps_append]; rfl
  have h1 := h.1
  rw [h2, see_sure] at h1
  show ((steps (ss, []) (ds ++ [.flush])).1, (steps (ss, []) (ds ++ [.flush])).2) = _
  rw [h2, h1]
  have e : see ⟨ss, [], 0, false⟩ = ss := see_sure _ _ _
  show (after (see ⟨ss, [], 0, false⟩) (ds ++ [Deed.flush]), _) = _
  rw [e, after_append]
  rfl
end WalP
end Go.Proofs.YtaijompnohkmaaaGreatDoor
/- Layer 5 (wal), plainly: what a fall leaves of a log, whenever it comes, whatever stays. -/
namespace Go.Proofs.YtaijompnohkmaaaGreatDoor
namespace WalP
/-- A half's first sector tells no mark, or one of a lesser generation. -/
def low (t : List (List UInt8)) (F : Nat) (g : Int) : Prop := ∀ s, t[F]? = some s → (readMark s).2 = true → (readMark s).1.gen < g
/-- Where a half begins. -/
def base (S : Nat) (w : Int) : Nat := w.toNat * (S / 2)
/-- Records are kept in a half of sectors. -/
structure KeptAt (S : Nat) (t : List (List UInt8)) (w gen : Int) (list : List (List UInt8)) : Prop where
  len : t.length = S
  hS : S ≤ 4096
  hw : w = 0 ∨ w = 1
  g0 : 1 ≤ gen
  ne : list ≠ []
  tk : ∀ b ∈ list, takes b.length ≠ 0
  fits : posN list ≤ S / 2
  here : ∃ z, hv t (base S w) (S / 2) = recsV gen 0 list ++ z ∧ (0 < z.length → (readMark (z.getD 0 [])).2 = false)
  other : low t (base S (1 - w)) gen
theorem base_facts {S : Nat} {w : Int} (hw : w = 0 ∨ w = 1) : w * ((S / 2 : Nat) : Int) = (base S w : Nat) ∧ (1 - w) * ((S / 2 : Nat) : Int) = (base S (1 - w) : Nat) ∧ base S w + S / 2 ≤ S ∧ base S (1 - w) + S / 2 ≤ S ∧ (base S w + S / 2 ≤ base S (1 - w) ∨ base S (1 - w) + S / 2 ≤ base S w) := by
  unfold base
  rcases hw with rfl | rfl
  · refine ⟨by simp, by simp, by simp; omega, by simp; omega, by simp⟩
  · refine ⟨by simp, by simp, by simp; omega, by simp; omega, by simp⟩
theorem zeroS_none {t : List (List UInt8)} {F : Nat} {g : Int} (h : t[F]? = some zeroS) : low t F g := fun s hs hm => by
  rw [h] at hs
  cases hs
  rw [zero_none] at hm
  cases hm
/-- The elder half is as it was; the other one's first sector too, or it is empty. -/
theorem KeptAt.old {S : Nat} {t0 t : List (List UInt8)} {w gen : Int} {list : List (List UInt8)} (h : KeptAt S t0 w gen list) (hl : t.length = S) (he : ∀ i, base S w ≤ i → i < base S w + S / 2 → t[i]? = t0[i]?) (ho : t[base S (1 - w)]? = t0[base S (1 - w)]? ∨ t[base S (1 - w)]? = some zeroS) : KeptAt S t w gen list := by
  refine ⟨hl, h.hS, h.hw, h.g0, h.ne, h.tk, h.fits, ?_, ?_⟩
  · have e : hv t (base S w) (S / 2) = hv t0 (base S w) (S / 2) := by
      apply List.ext_getElem?
      intro i
      rw [hv_at, hv_at]
      by_cases hi : i < S / 2
      · rw [if_pos hi, if_pos hi, he _ (by omega) (by omega)]
      · rw [if_neg hi, if_neg hi]
    rw [e]
    exact h.here
  · rcases ho with ho | ho
    · intro s hs
      rw [ho] at hs
      exact h.other s hs
    · exact zeroS_none ho
/-- The mark at the head of a half. -/
theorem KeptAt.first {S : Nat} {t : List (List UInt8)} {w gen : Int} {list : List (List UInt8)} (h : KeptAt S t w gen list) (hg : gen ≤ 1099511627776) : low t (base S w) (gen + 1) := by
  obtain ⟨z, hz, _⟩ := h.here
  obtain ⟨b, l, hbl⟩ : ∃ b l, list = b :: l := by cases hl : list with | nil => exact absurd hl h.ne | cons b l => exact ⟨b, l, rfl⟩
  have hb := h.tk b (by rw [hbl]; exact List.mem_cons_self ..)
  have hp : 0 < S / 2 := by have := posN_two h.ne h.tk; have := h.fits; omega
  have e : t[base S w]? = some (markOf gen 0 b) := by
    have e1 := hv_at t (base S w) (S / 2) 0
    rw [if_pos hp, Nat.add_zero, hz, hbl] at e1
    rw [← e1]; simp [recsV, recV]
  intro s hs hm
  rw [e] at hs
  cases hs
  have hb' := markOf_back (gen := gen) (k := 0) (b := b) h.g0 hg (by omega) hb
  rw [hb']
  show gen < gen + 1
  omega
theorem recsD_at (gen : Int) : ∀ (l : List (List UInt8)) (a k : Nat), (∀ b ∈ l, takes b.length ≠ 0) → ∀ y ∈ recsD gen a k l, ∃ (p : Nat) (s : List UInt8), y = .put p s ∧ a ≤ p ∧ p < a + posN l ∧ (k = 0 → a < p)
  | [], a, k, _, y, hy => absurd hy List.not_mem_nil
  | b :: l, a, k, hb, y, hy => by
    have h0 := hb b (List.mem_cons_self ..)
    have hc := takes_chunks h0
    rw [length_chunks] at hc
    have h2 := takes_two h0
    simp only [recsD] at hy
    rw [posN_cons]
    rcases List.mem_append.1 hy with hy | hy
    · unfold recD at hy
      rcases List.mem_append.1 hy with hy | hy
      · unfold bytesD at hy
        obtain ⟨i, hi, rfl⟩ := List.mem_map.1 hy
        rw [List.mem_range] at hi
        exact ⟨a + 1 + i, _, by congr 1, by omega, by omega, fun _ => by omega⟩
      · split at hy
        · rw [List.mem_singleton.1 hy]
          exact ⟨a, _, rfl, by omega, by omega, fun h => by omega⟩
        · exact absurd hy List.not_mem_nil
    · rw [show ((a : Int) + (takes b.length : Nat)) = ((a + takes b.length : Nat) : Int) by omega] at hy
      obtain ⟨p, s, rfl, h1, h3, _⟩ := recsD_at gen l (a + takes b.length) (k + 1) (fun x hx => hb x (List.mem_cons_of_mem _ hx)) y hy
      exact ⟨p, s, rfl, by omega, by omega, fun _ => by omega⟩
theorem after_apart {i : Nat} : ∀ (ds : List Deed) (v : List (List UInt8)), (∀ y ∈ ds, ∃ (p : Nat) (s : List UInt8), y = .put p s ∧ p ≠ i) → (after v ds)[i]? = v[i]?
  | [], v, _ => rfl
  | y :: ds, v, h => by
    obtain ⟨p, s, rfl, hp⟩ := h y (List.mem_cons_self ..)
    show (after (v.set (p : Int).toNat s) ds)[i]? = _
    rw [after_apart ds _ (fun z hz => h z (List.mem_cons_of_mem _ hz)), List.getElem?_set_ne (by omega)]
theorem Settled.none {ss t : List (List UInt8)} (h : Settled (ss, []) t) : t = ss := by
  apply List.ext_getElem?
  intro i
  rcases h.each i with h | ⟨x, hx, _⟩
  · exact h
  · exact absurd hx List.not_mem_nil
theorem Settled.one {ss t : List (List UInt8)} {a : Nat} {s : List UInt8} (h : Settled (ss, [⟨(a : Int), s⟩]) t) : t = ss ∨ t = ss.set a s := by
  by_cases ha : t[a]? = ss[a]?
  · left
    apply List.ext_getElem?
    intro i
    rcases h.each i with h | ⟨x, hx, h1, _⟩
    · exact h
    · rw [List.mem_singleton.1 hx] at h1
      have : a = i := by have : (a : Int) = i := h1; omega
      rw [← this]; exact ha
  · right
    apply List.ext_getElem?
    intro i
    rw [List.getElem?_set]
    by_cases hi : a = i
    · subst hi
      rw [if_pos rfl]
      rcases h.each a with h' | ⟨x, hx, _, h2⟩
      · exact absurd h' ha
      · rw [List.mem_singleton.1 hx] at h2
        have hl : a < t.length := (List.getElem?_eq_some_iff.1 h2).1
        have hlen : t.length = ss.length := h.len
        rw [if_pos (by omega), h2]
    · rw [if_neg hi]
      rcases h.each i with h | ⟨x, hx, h1, _⟩
      · exact h
      · rw [List.mem_singleton.1 hx] at h1
        have : (a : Int) = i := h1
        omega
/-- A half is laid, or the disk falls: then the elder half holds, or the new one does. -/
theorem lay_falls {S : Nat} {d : DiskP} {w gen : Int} {list0 list : List (List UInt8)} (hu : Up S 0 d) (hk : KeptAt S d.secs w gen list0) (hg : gen ≤ 1099511627775) (hne : list ≠ []) (hb : ∀ b ∈ list, takes b.length ≠ 0) (hn : posN list ≤ S / 2) :
    ((run d (layD (S / 2) (1 - w) (gen + 1) list)).2 = 0 ∧ Up S 0 (run d (layD (S / 2) (1 - w) (gen + 1) list)).1 ∧ KeptAt S (run d (layD (S / 2) (1 - w) (gen + 1) list)).1.secs (1 - w) (gen + 1) list ∧
      hv (run d (layD (S / 2) (1 - w) (gen + 1) list)).1.secs (base S (1 - w)) (S / 2) = recsV (gen + 1) 0 list ++ List.replicate (S / 2 - posN list) zeroS ∧ (d.fuse = -1 → (run d (layD (S / 2) (1 - w) (gen + 1) list)).1.fuse = -1)) ∨
    ((run d (layD (S / 2) (1 - w) (gen + 1) list)).2 = 9 ∧ Fell S 100000 (run d (layD (S / 2) (1 - w) (gen + 1) list)).1 ∧ d.fuse ≠ -1 ∧ ∀ t, Settled ((run d (layD (S / 2) (1 - w) (gen + 1) list)).1.secs, (run d (layD (S / 2) (1 - w) (gen + 1) list)).1.loose) t → KeptAt S t w gen list0 ∨ KeptAt S t (1 - w) (gen + 1) list) := by
  obtain ⟨b1, b2, b3, b4, b5⟩ := base_facts (S := S) hk.hw
  have hS := hk.hS
  have hL := hk.len
  obtain ⟨F, hF⟩ : ∃ F, F = base S (1 - w) := ⟨_, rfl⟩
  obtain ⟨H, hH⟩ : ∃ H, H = S / 2 := ⟨_, rfl⟩
  have hlo : d.loose = [] := List.eq_nil_of_length_eq_zero (Nat.le_zero.1 hu.len)
  have hfit := fit_lay (S := S) (F := F) (gen := gen + 1) hne hb hn (by rw [hF]; omega) (1 - w) (by rw [hF]; exact b2)
  have hlen := length_layD (H := S / 2) (which := 1 - w) (gen := gen + 1) hb
  obtain ⟨s0, hs0⟩ : ∃ s0, s0 = d.secs := ⟨_, rfl⟩
  rw [← hs0] at hk hL
  have hH2 : 2 ≤ H := by have := posN_two hne hb; omega
  have hFH : F + H ≤ s0.length := by rw [hF, hH, hL]; exact b4
  have e1 : (1 - w) * ((S / 2 : Nat) : Int) = (F : Int) := by rw [hF]; exact b2
  have hview := lay_view (v := s0) (F := F) (H := H) (gen := gen + 1) hne hb (by rw [hH]; exact hn) hFH (1 - w) (by rw [hH]; exact e1)
  have hfar := lay_far (v := s0) (F := F) (H := H) (F' := base S w) (gen := gen + 1) hne hb (by rw [hH]; exact hn) hFH (1 - w) (by rw [hH]; exact e1) (by rw [hH, hF]; omega)
  have hnew : KeptAt S (after s0 (layD H (1 - w) (gen + 1) list)) (1 - w) (gen + 1) list := by
    refine ⟨by rw [length_after]; exact hL, hS, by have := hk.hw; omega, by have := hk.g0; omega, hne, hb, hn, ⟨_, by rw [← hF, ← hH]; exact hview, fun h => ?_⟩, ?_⟩
    · rw [List.length_replicate] at h
      rw [List.getD_eq_getElem?_getD, List.getElem?_replicate, if_pos h]
      exact zero_none
    · rw [show 1 - (1 - w) = w by omega]
      intro s hs hm
      have e := hv_at (after s0 (layD H (1 - w) (gen + 1) list)) (base S w) H 0
      rw [hfar, hv_at, if_pos (by omega), if_pos (by omega), Nat.add_zero] at e
      rw [← e] at hs
      exact hk.first (by omega) s hs hm
  have hold : ∀ t, t.length = S → (∀ i, ¬ (F ≤ i ∧ i < F + H) → t[i]? = s0[i]?) → (t[F]? = s0[F]? ∨ t[F]? = some zeroS) → KeptAt S t w gen list0 := fun t h1 h2 h3 =>
    hk.old h1 (fun i hi1 hi2 => h2 i (by rw [hF, hH]; omega)) (by rw [← hF]; exact h3)
  have hnewQ : ∀ t, t = after s0 (layD H (1 - w) (gen + 1) list) → KeptAt S t (1 - w) (gen + 1) list := fun t h => h ▸ hnew
  -- the phases
  obtain ⟨s1, hs1⟩ : ∃ s1, s1 = after s0 (zerosD F H) := ⟨_, rfl⟩
  have hs1w : s1 = wr s0 F (List.replicate H zeroS) := by rw [hs1, zeros_after]
  have hl1 : s1.length = S := by rw [hs1, length_after]; exact hL
  have h1F : s1[F]? = some zeroS := by
    rw [hs1w, wr_at _ _ _ _ (by simp; exact hFH), if_pos (by simp; omega), List.getElem?_replicate, if_pos (by omega)]
  have h1o : ∀ i, ¬ (F ≤ i ∧ i < F + H) → s1[i]? = s0[i]? := fun i hi => by
    rw [hs1w, wr_at _ _ _ _ (by simp; exact hFH), if_neg (by simpa using hi)]
  obtain ⟨s2, hs2⟩ : ∃ s2, s2 = after s1 (recsD (gen + 1) F 0 list) := ⟨_, rfl⟩
  have hl2 : s2.length = S := by rw [hs2, length_after]; exact hl1
  have hrec := recsD_at (gen + 1) list F 0 hb
  have h2F : s2[F]? = some zeroS := by
    rw [hs2, after_apart _ _ (fun y hy => ?_), h1F]
    obtain ⟨p, s, h1, h2, h3, h4⟩ := hrec y hy
    exact ⟨p, s, h1, by have := h4 rfl; omega⟩
  have h2o : ∀ i, ¬ (F ≤ i ∧ i < F + H) → s2[i]? = s0[i]? := fun i hi => by
    rw [hs2, after_apart _ _ (fun y hy => ?_), h1o i hi]
    obtain ⟨p, s, h1, h2, h3, h4⟩ := hrec y hy
    exact ⟨p, s, h1, by omega⟩
  have hlay : layD (S / 2) (1 - w) (gen + 1) list = (zerosD F H ++ [.flush]) ++ ((recsD (gen + 1) F 0 list ++ [.flush]) ++ [.put F (markOf (gen + 1) 0 (list.headD [])), .flush]) := by
    unfold layD
    rw [← hH, hH, e1, ← hH]
    simp
  have hafter : after s0 (layD H (1 - w) (gen + 1) list) = s2.set F (markOf (gen + 1) 0 (list.headD [])) := by
    rw [hH, hlay, after_append, after_append s0 (zerosD F H), ← hs1]
    show after s1 ((recsD (gen + 1) F 0 list ++ [.flush]) ++ _) = _
    rw [after_append, after_append, ← hs2]
    rfl
  have hfz : ∀ x ∈ zerosD F H, fit S x := fun x hx => hfit x (by rw [hlay]; simp [hx])
  have hfr : ∀ x ∈ recsD (gen + 1) F 0 list, fit S x := fun x hx => hfit x (by rw [hlay]; simp [hx])
  obtain ⟨Q, hQ⟩ : ∃ Q : St → Prop, Q = fun s => ∀ t, Settled s t → KeptAt S t w gen list0 ∨ KeptAt S t (1 - w) (gen + 1) list := ⟨_, rfl⟩
  have hfalls : falls Q (s0, []) (layD (S / 2) (1 - w) (gen + 1) list) := by
    rw [hlay]
    -- zeros
    have pA : ∀ ls : List WriteP, (∀ x ∈ ls, ((F : Int) ≤ x.at_ ∧ x.at_ < F + H) ∧ x.data = zeroS) → Q (s0, ls) := by
      intro ls hls
      rw [hQ]
      intro t ht
      left
      refine hold t (ht.len.trans hL) (fun i hi => ?_) ?_
      · rcases ht.each i with h | ⟨x, hx, h1, _⟩
        · exact h
        · have := (hls x hx).1; omega
      · rcases ht.each F with h | ⟨x, hx, h1, h2⟩
        · exact .inl h
        · right; rw [h2, (hls x hx).2]
    obtain ⟨fA, lsA, sA, hA⟩ := falls_puts (P := fun x => ((F : Int) ≤ x.at_ ∧ x.at_ < F + H) ∧ x.data = zeroS) s0 pA (zerosD F H) [] (fun x hx => absurd hx List.not_mem_nil) (fun y hy => by
      unfold zerosD at hy
      obtain ⟨i, hi, rfl⟩ := List.mem_map.1 hy
      rw [List.mem_range] at hi
      exact ⟨_, _, rfl, ⟨by show (F : Int) ≤ F + i; omega, by show (F : Int) + i < F + H; omega⟩, rfl⟩)
    have fA' : falls Q (s0, []) (zerosD F H ++ [.flush]) := falls_append Q _ _ _ fA (by rw [sA]; exact ⟨pA lsA hA, trivial⟩)
    refine falls_append Q _ _ _ fA' ?_
    rw [steps_flush _ (by rw [hL]; exact hfz), ← hs1]
    -- records
    have pB : ∀ ls : List WriteP, (∀ x ∈ ls, (F : Int) < x.at_ ∧ x.at_ < F + H) → Q (s1, ls) := by
      intro ls hls
      rw [hQ]
      intro t ht
      left
      refine hold t (ht.len.trans hl1) (fun i hi => ?_) ?_
      · rcases ht.each i with h | ⟨x, hx, h1, _⟩
        · exact h.trans (h1o i hi)
        · have := hls x hx; omega
      · rcases ht.each F with h | ⟨x, hx, h1, h2⟩
        · exact .inr (h.trans h1F)
        · have := hls x hx; omega
    obtain ⟨fB, lsB, sB, hB⟩ := falls_puts (P := fun x => (F : Int) < x.at_ ∧ x.at_ < F + H) s1 pB (recsD (gen + 1) F 0 list) [] (fun x hx => absurd hx List.not_mem_nil) (fun y hy => by
      obtain ⟨p, s, h1, h2, h3, h4⟩ := hrec y hy
      have := h4 rfl
      exact ⟨p, s, h1, by show (F : Int) < p; omega, by show (p : Int) < F + H; omega⟩)
    have fB' : falls Q (s1, []) (recsD (gen + 1) F 0 list ++ [.flush]) := falls_append Q _ _ _ fB (by rw [sB]; exact ⟨pB lsB hB, trivial⟩)
    refine falls_append Q _ _ _ fB' ?_
    rw [steps_flush _ (by rw [hl1]; exact hfr), ← hs2]
    -- the mark
    refine ⟨?_, ?_, trivial⟩
    · rw [hQ]
      intro t ht
      rw [ht.none]
      exact .inl (hold s2 hl2 h2o (.inr h2F))
    · rw [hQ]
      intro t ht
      rcases Settled.one ht with h | h
      · rw [h]
        exact .inl (hold s2 hl2 h2o (.inr h2F))
      · right
        exact hnewQ t (by rw [h, hafter])
  have hend : steps (s0, []) (layD (S / 2) (1 - w) (gen + 1) list) = (after s0 (layD H (1 - w) (gen + 1) list), []) := by
    obtain ⟨es, hes⟩ := layD_last (S / 2) (1 - w) (gen + 1) list
    rw [hes, steps_flush _ (fun x hx => by rw [hL]; exact hfit x (by rw [hes]; simp [hx])), hH, hes, after_append]
    rfl
  have hmain := run_falls hS (Q := Q) (layD (S / 2) (1 - w) (gen + 1) list) hu (by omega) hfit (by rw [hlo, ← hs0]; exact hfalls)
  rw [hlo, ← hs0, hend] at hmain
  rcases hmain with ⟨r1, r2, r3, r4, _⟩ | ⟨r1, r2, r3, r4⟩
  · left
    simp only [Prod.mk.injEq] at r3
    refine ⟨r1, ⟨r2.secs, r2.down, r2.fuse, r2.at_, by rw [r3.2]; exact Nat.le_refl _⟩, by rw [r3.1]; exact hnew, by rw [r3.1, ← hF, ← hH]; exact hview, r4⟩
  · right
    rw [hQ] at r3
    exact ⟨r1, ⟨r2.secs, r2.down, r2.fuse, r2.at_, Nat.le_trans r2.len (by omega)⟩, r4, r3⟩
end WalP
end Go.Proofs.YtaijompnohkmaaaGreatDoor
