/- Layer 6 (kv), plainly: a transaction's bytes are its changes, and the other way round. -/
import Derived.Test.YtaijompnohkmaaaGreatDoorMB
import Derived.Lib.Hide
import Derived.Test.YtaijompnohkmaaaGreatDoorProg
import Derived.KernelRfl
import Derived.Deep.QuietTactic
import Derived.BigQuiet
import Derived.Deep.RegionHeld3
set_option linter.unusedSimpArgs false
set_option linter.unusedVariables false
namespace Go.Proofs.YtaijompnohkmaaaGreatDoor
namespace KvP
open PackP
theorem length_numB8 (z : Int) : (numB z).length = 8 := length_be _ _
theorem clamp_clamp (z : Int) : clamp (clamp z : Int) = clamp z := by
  unfold clamp; (repeat' split) <;> omega
theorem numB_clamp (z : Int) : numB (clamp z : Int) = numB z := by unfold numB; rw [clamp_clamp]
theorem num_back (z : Int) (rest : List UInt8) : (RS.mk (numB z ++ rest) 0).num = (RS.mk rest 0, (clamp z : Int)) := by
  have hc := clamp_le z
  have hl := length_numB8 z
  have ht : (RS.mk (numB z ++ rest) 0).take 8 = (RS.mk rest 0, some (numB z)) := by
    unfold RS.take
    rw [if_pos rfl, if_neg (by simp [hl])]
    simp [← hl]
  have hn : numOf (numB z) = clamp z := numOf_be 8 _ (by omega)
  unfold RS.num
  rw [ht]
  simp only
  rw [hn, if_neg (by omega)]
theorem text_back (s rest : List UInt8) : (RS.mk (textB s ++ rest) 0).text = (RS.mk rest 0, cutT s) := by
  have hc := cutT_len s
  have hl := length_be 4 (cutT s).length
  have ht : (RS.mk (textB s ++ rest) 0).take 4 = (RS.mk (cutT s ++ rest) 0, some (be 4 (cutT s).length)) := by
    unfold RS.take textB
    rw [if_pos rfl, if_neg (by simp [hl])]
    have h4 : ∀ x y : List UInt8, x.length = 4 → (x ++ y).take 4 = x ∧ (x ++ y).drop 4 = y := by
      intro x y h; rw [← h]; simp
    rw [List.append_assoc, (h4 _ _ hl).1, (h4 _ _ hl).2]
  have ht2 : (RS.mk (cutT s ++ rest) 0).take (cutT s).length = (RS.mk rest 0, some (cutT s)) := by
    unfold RS.take
    rw [if_pos rfl, if_neg (by simp)]
    simp
  have hn : numOf (be 4 (cutT s).length) = (cutT s).length := numOf_be 4 _ (by omega)
  unfold RS.text
  rw [ht]
  simp only
  rw [hn, if_neg (by omega), ht2]
theorem cutT_cutT (s : List UInt8) : cutT (cutT s) = cutT s := by unfold cutT; rw [List.take_take]; simp
theorem textB_cutT (s : List UInt8) : textB (cutT s) = textB s := by unfold textB; rw [cutT_cutT]
theorem rev_ind {α : Type} {p : List α → Prop} (h0 : p []) (h1 : ∀ l a, p l → p (l ++ [a])) (l : List α) : p l := by
  have h : ∀ l : List α, p l.reverse := by
    intro l
    induction l with
    | nil => exact h0
    | cons a l ih => rw [List.reverse_cons]; exact h1 _ _ ih
  have := h l.reverse
  rwa [List.reverse_reverse] at this
theorem be_numOf : ∀ (bs : List UInt8) (k : Nat), bs.length = k → be k (numOf bs) = bs := by
  intro bs
  induction bs using rev_ind with
  | h0 => intro k h; subst h; rfl
  | h1 bs c ih =>
    intro k h
    cases k with
    | zero => simp at h
    | succ k =>
      rw [be_low, numOf_snoc]
      have hc : c.toNat < 256 := c.toNat_lt
      rw [show (numOf bs * 256 + c.toNat) / 256 = numOf bs by omega, ih k (by simpa using h)]
      congr 1
      have : UInt8.ofNat (numOf bs * 256 + c.toNat) = c := by
        apply UInt8.toNat_inj.1
        rw [UInt8.toNat_ofNat']
        omega
      rw [this]
theorem numB_nat {n : Nat} (h : n ≤ 4611686018427387904) : clamp (n : Int) = n := by
  unfold clamp
  split
  · omega
  · split <;> omega
theorem num_e {b : List UInt8} {r : RS} {n : Int} (h : (RS.mk b 0).num = (r, n)) (he : r.e = 0) : b = numB n ++ r.b ∧ 0 ≤ n ∧ n ≤ 4611686018427387904 := by
  unfold RS.num RS.take at h
  simp only [if_true] at h
  by_cases hl : b.length < 8
  · rw [if_pos hl] at h
    simp only [Prod.mk.injEq] at h
    rw [← h.1] at he
    cases he
  · rw [if_neg hl] at h
    simp only at h
    by_cases hn : 4611686018427387904 < numOf (b.take 8)
    · rw [if_pos hn] at h
      simp only [Prod.mk.injEq] at h
      rw [← h.1] at he
      cases he
    · rw [if_neg hn] at h
      simp only [Prod.mk.injEq] at h
      obtain ⟨h1, h2⟩ := h
      subst h1
      subst h2
      refine ⟨?_, by omega, by omega⟩
      unfold numB
      rw [numB_nat (by omega), be_numOf (b.take 8) 8 (by rw [List.length_take]; omega)]
      exact (List.take_append_drop 8 b).symm
theorem num_bad {r : RS} (h : r.e ≠ 0) : r.num.1.e ≠ 0 := by
  unfold RS.num RS.take
  rw [if_neg h]
  exact h
theorem text_bad {r : RS} (h : r.e ≠ 0) : r.text.1.e ≠ 0 := by
  unfold RS.text RS.take
  rw [if_neg h]
  exact h
theorem text_e {b : List UInt8} {r : RS} {s : List UInt8} (h : (RS.mk b 0).text = (r, s)) (he : r.e = 0) : b = textB s ++ r.b ∧ s.length ≤ 4096 := by
  unfold RS.text RS.take at h
  simp only [if_true] at h
  by_cases hl : b.length < 4
  · rw [if_pos hl] at h
    simp only [Prod.mk.injEq] at h
    rw [← h.1] at he
    cases he
  · rw [if_neg hl] at h
    simp only at h
    by_cases hn : 4096 < numOf (b.take 4)
    · rw [if_pos hn] at h
      simp only [Prod.mk.injEq] at h
      rw [← h.1] at he
      cases he
    · rw [if_neg hn] at h
      simp only [if_true] at h
      by_cases hl2 : (b.drop 4).length < numOf (b.take 4)
      · rw [if_pos hl2] at h
        simp only [Prod.mk.injEq] at h
        rw [← h.1] at he
        cases he
      · rw [if_neg hl2] at h
        simp only [Prod.mk.injEq] at h
        obtain ⟨h1, h2⟩ := h
        subst h1
        subst h2
        have hlen : ((b.drop 4).take (numOf (b.take 4))).length = numOf (b.take 4) := by rw [List.length_take]; omega
        refine ⟨?_, by rw [hlen]; omega⟩
        unfold textB cutT
        rw [List.take_of_length_le (by rw [hlen]; omega), hlen, be_numOf (b.take 4) 4 (by rw [List.length_take]; omega), List.append_assoc, List.take_append_drop, List.take_append_drop]
end KvP
end Go.Proofs.YtaijompnohkmaaaGreatDoor
/- Layer 6 (kv), plainly: changes are read back from their bytes, and what is read has just these bytes. -/
namespace Go.Proofs.YtaijompnohkmaaaGreatDoor
namespace KvP
open PackP
theorem fail_bad {r : RS} (h : r.e ≠ 0) (b : Bool) (x : Int) : (r.fail b x).e ≠ 0 := by
  unfold RS.fail
  rw [if_neg (fun h' => h h'.2)]
  exact h
theorem dec1_bad {r : RS} (h : r.e ≠ 0) : (dec1 r).1.e ≠ 0 := by
  unfold dec1
  have h2 := text_bad (fail_bad (num_bad h) (decide (1 < r.num.2)) 3)
  by_cases hk : r.num.2 = 1
  · simp only [hk, if_true]
    rw [hk] at h2
    exact h2
  · simp only [if_neg hk]
    exact text_bad h2
theorem decN_bad : ∀ (n : Nat) {r : RS}, r.e ≠ 0 → (decN n r).1.e ≠ 0
  | 0, _, h => h
  | n + 1, r, h => by
    unfold decN
    exact decN_bad n (dec1_bad h)
theorem rs_eta {r : RS} (h : r.e = 0) : r = ⟨r.b, 0⟩ := by cases r; simp only at h; rw [h]
theorem dec1_e {r r' : RS} {c : ChangeP} (h : dec1 r = (r', c)) (he : r'.e = 0) : r.b = changeB c ++ r'.b ∧ r.e = 0 := by
  have h0 : r.e = 0 := by
    by_cases h0 : r.e = 0
    · exact h0
    · exact absurd (by rw [h]; exact he) (dec1_bad h0)
  refine ⟨?_, h0⟩
  obtain ⟨b, e⟩ := r
  simp only at h0
  subst h0
  unfold dec1 at h
  rcases hn : (RS.mk b 0).num with ⟨r1, k⟩
  rw [hn] at h
  simp only at h
  rcases ht : (r1.fail (decide (1 < k)) 3).text with ⟨r2, key⟩
  rw [ht] at h
  simp only at h
  have key0 : r2.e = 0 := by
    by_cases hk : k = 1
    · rw [if_pos hk] at h
      cases h
      exact he
    · rw [if_neg hk] at h
      by_cases h2 : r2.e = 0
      · exact h2
      · have := text_bad h2
        cases h
        exact absurd he this
  have f0 : (r1.fail (decide (1 < k)) 3).e = 0 := by
    by_cases h2 : (r1.fail (decide (1 < k)) 3).e = 0
    · exact h2
    · exact absurd (by rw [ht]; exact key0) (text_bad h2)
  have r10 : r1.e = 0 := by
    by_cases h2 : r1.e = 0
    · exact h2
    · exact absurd f0 (fail_bad h2 _ _)
  obtain ⟨e1, k0, _⟩ := num_e hn r10
  have hk1 : ¬ 1 < k := by
    intro hk
    unfold RS.fail at f0
    rw [if_pos ⟨by simpa using hk, r10⟩] at f0
    cases f0
  have hf : r1.fail (decide (1 < k)) 3 = r1 := by
    unfold RS.fail
    rw [if_neg (fun h' => hk1 (by simpa using h'.1))]
  rw [hf, rs_eta r10] at ht
  obtain ⟨e2, _⟩ := text_e ht key0
  show b = _
  by_cases hk : k = 1
  · rw [if_pos hk] at h
    cases h
    rw [e1, e2, hk]
    simp [changeB]
  · rw [if_neg hk] at h
    have hk0 : k = 0 := by omega
    rcases hv : r2.text with ⟨r3, val⟩
    rw [hv] at h
    cases h
    rw [rs_eta key0] at hv
    obtain ⟨e3, _⟩ := text_e hv he
    rw [e1, e2, e3, hk0]
    simp [changeB]
theorem decN_e : ∀ (n : Nat) {r r' : RS} {l : List ChangeP}, decN n r = (r', l) → r'.e = 0 → r.b = (l.map changeB).flatten ++ r'.b ∧ r.e = 0 ∧ l.length = n
  | 0, r, r', l, h, he => by
    cases h
    exact ⟨rfl, he, rfl⟩
  | n + 1, r, r', l, h, he => by
    unfold decN at h
    rcases h1 : dec1 r with ⟨r1, c⟩
    rw [h1] at h
    simp only at h
    rcases h2 : decN n r1 with ⟨r2, l2⟩
    rw [h2] at h
    cases h
    obtain ⟨a1, a2, a3⟩ := decN_e n h2 he
    obtain ⟨b1, b2⟩ := dec1_e h1 a2
    exact ⟨by rw [b1, a1]; simp, b2, by rw [List.length_cons, a3]⟩
/-- A transaction is read. -/
def decodeP (b : List UInt8) : List ChangeP × Int :=
  let x := (RS.mk b 0).count 400
  let y := decN x.2.toNat x.1
  let e := if y.1.doneE = 0 ∧ changesB y.2 = false then 3 else y.1.doneE
  if e = 0 then (y.2, 0) else ([], e)
theorem doneE_zero {r : RS} (h : r.doneE = 0) : r.e = 0 ∧ r.b = [] := by
  unfold RS.doneE at h
  split at h
  · cases h
  · rename_i h2
    refine ⟨h, ?_⟩
    by_cases hb : r.b = []
    · exact hb
    · exact absurd ⟨h, List.length_pos_iff.2 hb⟩ h2
theorem decode_e {b : List UInt8} {l : List ChangeP} (h : decodeP b = (l, 0)) : bytesP l = b ∧ changesB l = true := by
  unfold decodeP at h
  simp only at h
  generalize hx : (RS.mk b 0).count 400 = x at h
  obtain ⟨r, n⟩ := x
  simp only at h
  generalize hy : decN n.toNat r = y at h
  obtain ⟨r2, l2⟩ := y
  simp only at h
  by_cases hd : r2.doneE = 0
  · by_cases hc : changesB l2 = false
    · simp [hd, hc] at h
    · have e0 : ¬ (r2.doneE = 0 ∧ changesB l2 = false) := fun h' => hc h'.2
      rw [if_neg e0, if_pos hd] at h
      obtain ⟨rfl, _⟩ := Prod.mk.inj h
      obtain ⟨d1, d2⟩ := doneE_zero hd
      obtain ⟨a1, a2, a3⟩ := decN_e _ hy d1
      unfold RS.count at hx
      rcases hn : (RS.mk b 0).num with ⟨r0, z⟩
      rw [hn] at hx
      simp only at hx
      by_cases h0 : r0.e = 0
      · rw [if_pos h0] at hx
        obtain ⟨e1, k0, k1⟩ := num_e hn h0
        by_cases hz : 400 < z
        · rw [if_pos hz] at hx
          cases hx
          cases a2
        · rw [if_neg hz] at hx
          cases hx
          refine ⟨?_, by simpa using hc⟩
          unfold bytesP
          rw [a3, show ((n.toNat : Nat) : Int) = n by omega, e1, a1, d2, List.append_nil]
      · rw [if_neg h0] at hx
        cases hx
        exact absurd a2 h0
  · have e0 : ¬ (r2.doneE = 0 ∧ changesB l2 = false) := fun h' => hd h'.1
    rw [if_neg e0, if_neg hd] at h
    exact absurd (Prod.mk.inj h).2 hd
theorem okC_parts {c : ChangeP} (h : okC c = true) : 1 ≤ c.key.length ∧ c.key.length ≤ 64 ∧ c.val.length ≤ 4096 ∧ (c.gone = true → c.val = []) := by
  unfold okC mayP at h
  simp only [Bool.and_eq_true, decide_eq_true_eq, Bool.not_eq_true', Bool.and_eq_false_iff, decide_eq_false_iff_not, Classical.not_not] at h
  exact ⟨h.1.1.1, h.1.1.2, h.1.2, fun hg => by rcases h.2 with h2 | h2; · rw [hg] at h2; cases h2
                                               · exact h2⟩
theorem cutT_small {s : List UInt8} (h : s.length ≤ 4096) : cutT s = s := List.take_of_length_le h
theorem dec1_back {c : ChangeP} (h : okC c = true) (rest : List UInt8) : dec1 ⟨changeB c ++ rest, 0⟩ = (⟨rest, 0⟩, c) := by
  obtain ⟨h1, h2, h3, h4⟩ := okC_parts h
  obtain ⟨key, val, gone⟩ := c
  simp only at h1 h2 h3 h4
  unfold dec1 changeB
  cases gone with
  | true =>
    obtain rfl := h4 rfl
    simp only [if_true, List.append_assoc, num_back, show clamp 1 = 1 from rfl, RS.fail, text_back]
    simp [text_back, cutT_small (show key.length ≤ 4096 by omega)]
  | false =>
    simp only [List.append_assoc, num_back, show clamp 0 = 0 from rfl, RS.fail, text_back]
    simp [num_back, text_back, show clamp 0 = 0 from rfl, cutT_small (show key.length ≤ 4096 by omega), cutT_small h3]
theorem decN_back : ∀ (l : List ChangeP), (∀ c ∈ l, okC c = true) → ∀ rest, decN l.length ⟨(l.map changeB).flatten ++ rest, 0⟩ = (⟨rest, 0⟩, l)
  | [], _, rest => rfl
  | c :: l, h, rest => by
    rw [List.length_cons, decN, List.map_cons, List.flatten_cons, List.append_assoc, dec1_back (h c (List.mem_cons_self ..))]
    simp only
    rw [decN_back l (fun x hx => h x (List.mem_cons_of_mem _ hx)) rest]
theorem changesB_parts {l : List ChangeP} (h : changesB l = true) : l.length ≤ 400 ∧ ∀ c ∈ l, okC c = true := by
  unfold changesB at h
  simp only [Bool.and_eq_true, decide_eq_true_eq, List.all_eq_true] at h
  exact h
/-- What is laid is read. -/
theorem decode_bytes {l : List ChangeP} (h : changesB l = true) : decodeP (bytesP l) = (l, 0) := by
  obtain ⟨h1, h2⟩ := changesB_parts h
  have hc : (RS.mk (bytesP l) 0).count 400 = (⟨(l.map changeB).flatten, 0⟩, (l.length : Int)) := by
    unfold RS.count bytesP
    rw [num_back]
    simp only [if_true]
    rw [numB_nat (by omega), if_neg (by omega)]
  unfold decodeP
  rw [hc]
  simp only [Int.toNat_natCast]
  have := decN_back l h2 []
  rw [List.append_nil] at this
  rw [this]
  simp [RS.doneE, h]
end KvP
end Go.Proofs.YtaijompnohkmaaaGreatDoor
/- Layer 6 (kv), plainly: a snapshot's transactions, and what comes of doing them. -/
namespace Go.Proofs.YtaijompnohkmaaaGreatDoor
namespace KvP
open PackP
/-- The change that puts a pair. -/
def chg (p : PairP) : ChangeP := ⟨p.key, p.val, false⟩
def snapF : List PairP → List ChangeP → List (List ChangeP)
  | [], c => [c]
  | p :: l, c => if 6000 < (bytesP (c ++ [chg p])).length then c :: snapF l [chg p] else snapF l (c ++ [chg p])
def snapP (l : List PairP) : List (List UInt8) := (snapF l []).map bytesP
theorem length_textS {s : List UInt8} (h : s.length ≤ 4096) : (textB s).length = 4 + s.length := by
  unfold textB
  rw [cutT_small h, List.length_append, length_be]
theorem length_chg {p : PairP} (h : mayP p.key p.val = true) : (changeB (chg p)).length = 16 + p.key.length + p.val.length := by
  unfold mayP at h
  simp only [Bool.and_eq_true, decide_eq_true_eq] at h
  unfold changeB chg
  simp only [Bool.false_eq_true, if_false, List.length_append, length_numB8]
  rw [length_textS (by omega), length_textS h.2]
  omega
theorem bytes_snoc (c : List ChangeP) (x : ChangeP) : (bytesP (c ++ [x])).length = (bytesP c).length + (changeB x).length := by
  unfold bytesP
  simp [length_numB8]
  omega
theorem bytes_nil : (bytesP []).length = 8 := by
  unfold bytesP
  simp [length_numB8]
theorem bytes_ge (c : List ChangeP) : 8 ≤ (bytesP c).length := by
  unfold bytesP
  simp [length_numB8]
theorem snapF_flat : ∀ (l : List PairP) (c : List ChangeP), (snapF l c).flatten = c ++ l.map chg
  | [], c => by simp [snapF]
  | p :: l, c => by
    rw [snapF]
    split
    · rw [List.flatten_cons, snapF_flat l [chg p]]; simp
    · rw [snapF_flat l (c ++ [chg p])]; simp
theorem snapF_ne : ∀ (l : List PairP) (c : List ChangeP), snapF l c ≠ []
  | [], c => by simp [snapF]
  | p :: l, c => by
    rw [snapF]
    split
    · simp
    · exact snapF_ne l _
theorem snapF_all (q : List ChangeP → Prop) : ∀ (l : List PairP) (c : List ChangeP), q c → (∀ p ∈ l, q [chg p]) → (∀ p ∈ l, ∀ c, q c → ¬ 6000 < (bytesP (c ++ [chg p])).length → q (c ++ [chg p])) → ∀ x ∈ snapF l c, q x
  | [], c, h, _, _ => fun x hx => by rw [List.mem_singleton.1 hx]; exact h
  | p :: l, c, h, h1, h2 => fun x hx => by
    rw [snapF] at hx
    split at hx
    · rcases List.mem_cons.1 hx with rfl | hx
      · exact h
      · exact snapF_all q l _ (h1 p (List.mem_cons_self ..)) (fun p hp => h1 p (List.mem_cons_of_mem _ hp)) (fun p hp => h2 p (List.mem_cons_of_mem _ hp)) x hx
    · rename_i hn
      exact snapF_all q l _ (h2 p (List.mem_cons_self ..) c h hn) (fun p hp => h1 p (List.mem_cons_of_mem _ hp)) (fun p hp => h2 p (List.mem_cons_of_mem _ hp)) x hx
theorem okC_chg {p : PairP} (h : mayP p.key p.val = true) : okC (chg p) = true := by
  unfold okC chg
  simp [h]
/-- Each chunk is a transaction that may be, and a record that may be. -/
def ChunkOk (c : List ChangeP) : Prop := (∀ x ∈ c, okC x = true) ∧ (bytesP c).length ≤ 6000 ∧ 17 * c.length + 8 ≤ (bytesP c).length
theorem snap_ok {l : List PairP} (h : ∀ p ∈ l, mayP p.key p.val = true) : ∀ x ∈ snapF l [], ChunkOk x := by
  have hk : ∀ p ∈ l, 17 ≤ (changeB (chg p)).length ∧ (changeB (chg p)).length ≤ 16 + 64 + 4096 := fun p hp => by
    rw [length_chg (h p hp)]
    have := h p hp
    unfold mayP at this
    simp only [Bool.and_eq_true, decide_eq_true_eq] at this
    omega
  refine snapF_all ChunkOk l [] ⟨fun x hx => absurd hx (List.not_mem_nil), by rw [bytes_nil]; decide, by rw [bytes_nil]; decide⟩ (fun p hp => ?_) (fun p hp c hc hn => ?_)
  · have e := bytes_snoc [] (chg p)
    rw [bytes_nil, List.nil_append] at e
    have := hk p hp
    exact ⟨fun x hx => by rw [List.mem_singleton.1 hx]; exact okC_chg (h p hp), by omega, by rw [List.length_singleton]; omega⟩
  · have e := bytes_snoc c (chg p)
    have := hk p hp
    have h3 := hc.2.2
    refine ⟨fun x hx => ?_, by omega, by rw [List.length_append, List.length_singleton]; omega⟩
    rcases List.mem_append.1 hx with hx | hx
    · exact hc.1 x hx
    · rw [List.mem_singleton.1 hx]; exact okC_chg (h p hp)
theorem ChunkOk.changes {c : List ChangeP} (h : ChunkOk c) : changesB c = true := by
  unfold changesB
  have := h.2.1
  have := h.2.2
  simp only [Bool.and_eq_true, decide_eq_true_eq, List.all_eq_true]
  exact ⟨by omega, h.1⟩
theorem putK_last {l : List PairP} {k v : List UInt8} (h : ∀ p ∈ l, p.key < k) : putK l k v = l ++ [⟨k, v⟩] := by
  induction l with
  | nil => rfl
  | cons q l ih =>
    rw [putK, if_pos (h q (List.mem_cons_self ..)), ih (fun p hp => h p (List.mem_cons_of_mem _ hp))]
    rfl
theorem do_chg : ∀ (l m : List PairP), Rising (m ++ l) → doP m (l.map chg) = m ++ l
  | [], m, _ => by simp [doP]
  | p :: l, m, h => by
    have hm : ∀ q ∈ m, q.key < p.key := fun q hq => (List.pairwise_append.1 h).2.2 q hq p (List.mem_cons_self ..)
    have e : do1 m (chg p) = m ++ [p] := by
      unfold do1 chg
      simp only [Bool.false_eq_true, if_false]
      exact putK_last hm
    have ih := do_chg l (m ++ [p]) (by rw [List.append_assoc]; exact h)
    rw [List.append_assoc] at ih
    unfold doP at ih ⊢
    rw [List.map_cons, List.foldl_cons, e]
    exact ih
theorem doP_flat (m : List PairP) : ∀ (cs : List (List ChangeP)), cs.foldl doP m = doP m cs.flatten := by
  intro cs
  induction cs generalizing m with
  | nil => rfl
  | cons c cs ih =>
    rw [List.foldl_cons, ih, List.flatten_cons]
    unfold doP
    rw [List.foldl_append]
/-- A snapshot, done from nothing, is the pairs. -/
theorem snap_done {l : List PairP} (h : Rising l) : (snapF l []).foldl doP [] = l := by
  rw [doP_flat, snapF_flat, List.nil_append]
  have := do_chg l [] h
  simpa using this
end KvP
end Go.Proofs.YtaijompnohkmaaaGreatDoor
/- Layer 1 (sector): disks as plain data, and how they lie in memory. -/
namespace Go.Proofs.YtaijompnohkmaaaGreatDoor
open Go.RowKit
structure WriteP where
  at_ : Int
  data : List UInt8
structure DiskP where
  secs : List (List UInt8)
  loose : List WriteP
  fuse : Int
  down : Bool
def wcells (x : WriteP) : List Value := .int .i64 x.at_ :: u8s x.data
/-- A slice of sectors; of writes. -/
def Secs (B : Nat) (w : World) (v : Value) (ss : List (List UInt8)) : Prop := (∀ s ∈ ss, s.length = 64) ∧ Row B w v 64 ss.length (ss.map u8s).flatten
def Loose (B : Nat) (w : World) (v : Value) (ls : List WriteP) : Prop := (∀ x ∈ ls, x.data.length = 64) ∧ Row B w v 65 ls.length (ls.map wcells).flatten
theorem Secs.below {B : Nat} {w w' : World} {v : Value} {ss : List (List UInt8)} (h : Secs B w v ss) (hb : Below B w w') : Secs B w' v ss := ⟨h.1, h.2.below hb⟩
theorem Loose.below {B : Nat} {w w' : World} {v : Value} {ls : List WriteP} (h : Loose B w v ls) (hb : Below B w w') : Loose B w' v ls := ⟨h.1, h.2.below hb⟩
theorem Secs.tight {B : Nat} {w : World} {v : Value} {ss : List (List UInt8)} (h : Secs B w v ss) : Secs w.heap.size w v ss := ⟨h.1, h.2.tight (by decide)⟩
theorem Loose.tight {B : Nat} {w : World} {v : Value} {ls : List WriteP} (h : Loose B w v ls) : Loose w.heap.size w v ls := ⟨h.1, h.2.tight (by decide)⟩
/-- A disk as a value. -/
def DiskV (B : Nat) (w : World) (v : Value) (d : DiskP) : Prop := ∃ sv lv, v = .agg #[sv, lv, .int .i64 d.fuse, .bool d.down] ∧ Secs B w sv d.secs ∧ Loose B w lv d.loose
theorem DiskV.below {B : Nat} {w w' : World} {v : Value} {d : DiskP} (h : DiskV B w v d) (hb : Below B w w') : DiskV B w' v d := by
  obtain ⟨sv, lv, h1, h2, h3⟩ := h
  exact ⟨sv, lv, h1, h2.below hb, h3.below hb⟩
theorem DiskV.tight {B : Nat} {w : World} {v : Value} {d : DiskP} (h : DiskV B w v d) : DiskV w.heap.size w v d := by
  obtain ⟨sv, lv, h1, h2, h3⟩ := h
  exact ⟨sv, lv, h1, h2.tight, h3.tight⟩
/-- Some cells that lie behind one another, loaded as one value. -/
theorem run_load_big {P : Program} {t : TypeId} {i : TypeInfo} {d : TypeDesc} (hu : P.underlying t = some d) (hd : (∃ n e, d = .array n e) ∨ ∃ fs, d = .struct fs) (hi : P.info? t = some i) {w : World} {b off n : Nat} {cs : List Value}
    (hsz : i.size = n) (hl : cs.length = n) (hc : ∀ k u, cs[k]? = some u → w.cell? ⟨b, off + k, none⟩ = some u) :
    (loadVar t ⟨b, off, none⟩).run P w = .ok (.agg cs.toArray) w := by
  have h := run_loadCells_list (P := P) w ⟨b, off, none⟩ cs (fun j v hj => by
    have : (⟨b, off, none⟩ : Addr).add j = ⟨b, off + j, none⟩ := by unfold Addr.add; split <;> simp_all
    rw [this]; exact hc j v hj)
  rw [hl] at h
  rcases hd with ⟨n', e, rfl⟩ | ⟨fs, rfl⟩ <;> simp [loadVar, isAgg, run_underlying hu, sizeOf, typeInfo, hi, hsz, h]
theorem flat_at {α : Type} (f : α → List Value) (sz : Nat) : ∀ (xs : List α), (∀ x ∈ xs, (f x).length = sz) → ∀ (k : Nat) (x : α), xs[k]? = some x → ∀ (j : Nat) (u : Value), (f x)[j]? = some u → (xs.map f).flatten[k * sz + j]? = some u
  | [], _, k, x, h, _, _, _ => by simp at h
  | y :: ys, hs, 0, x, h, j, u, hj => by
    simp only [List.getElem?_cons_zero, Option.some.injEq] at h
    subst h
    rw [List.map_cons, List.flatten_cons, Nat.zero_mul, Nat.zero_add, List.getElem?_append_left (List.getElem?_eq_some_iff.1 hj).1]
    exact hj
  | y :: ys, hs, k + 1, x, h, j, u, hj => by
    have h0 := hs y (List.mem_cons_self ..)
    rw [List.map_cons, List.flatten_cons, List.getElem?_append_right (by rw [h0, Nat.succ_mul]; omega), h0]
    have e : (k + 1) * sz + j - sz = k * sz + j := by rw [Nat.succ_mul]; omega
    rw [e]
    exact flat_at f sz ys (fun x hx => hs x (List.mem_cons_of_mem _ hx)) k x (by simpa using h) j u hj
theorem length_u8s (s : List UInt8) : (u8s s).length = s.length := by simp [u8s]
theorem length_wcells (x : WriteP) : (wcells x).length = x.data.length + 1 := by simp [wcells, u8s]
end Go.Proofs.YtaijompnohkmaaaGreatDoor
/- Operations on values of many cells, as arms for a walk: the value's cells stay behind one name. -/
namespace Go.Proofs.YtaijompnohkmaaaGreatDoor
open Go.RowKit
section
variable {P : Program} {ops : Array Oper} {rest : List Oper} {o : Oper} {a : Act} {w : World} {Q : Exit → Act → World → Prop}
theorem wp_load_at (x : Operand) (t : TypeId) (hgd : o.guard = none) (ho : o.op = .load t x) {ad : Addr} {v : Value} (hx : a.eval x = .pointer (some ad)) (hl : (loadVar t ad).run P w = .ok v w)
    (h : wpList P ops Q rest (a.put o.dst v) w) : wpList P ops Q (o :: rest) a w := by
  refine wpList_plain hgd fun K hK => ?_
  unfold Oper.wp execOp
  simp only [ho, hx, Instr.loadAt, Instr.sureAddr, Sem.run_bind, Sem.run_pure, Result.andThen_ok, hl]
  exact hK _ _ h
theorem wp_store_at (x y : Operand) (t : TypeId) (hgd : o.guard = none) (ho : o.op = .store t x y) {ad : Addr} {v : Value} {w' : World} (hx : a.eval x = .pointer (some ad)) (hy : a.eval y = v) (hl : (storeVar t ad v).run P w = .ok () w')
    (h : wpList P ops Q rest (a.put o.dst undef) w') : wpList P ops Q (o :: rest) a w := by
  refine wpList_plain hgd fun K hK => ?_
  unfold Oper.wp execOp
  simp only [ho, hx, hy, Instr.storeAt, Instr.sureAddr, Sem.run_bind, Sem.run_pure, Result.andThen_ok, hl]
  exact hK _ _ h
theorem wp_alloc_at (t : TypeId) (hgd : o.guard = none) (ho : o.op = .alloc t) {z : Value} (hz : (zeroValue t).run P w = .ok z w)
    (h : wpList P ops Q rest (a.put o.dst (.pointer (some ⟨w.heap.size, 0, none⟩))) (w.alloc (.cells z.cells t))) : wpList P ops Q (o :: rest) a w := by
  refine wpList_plain hgd fun K hK => ?_
  unfold Oper.wp execOp
  have hr : (Instr.alloc t true (.tuple #[])).run P w = .ok (.pointer (some ⟨w.heap.size, 0, none⟩)) (w.alloc (.cells z.cells t)) := by
    simp only [Instr.alloc, Sem.run_bind, hz, Result.andThen_ok]
    rfl
  simp only [ho, Sem.run_bind, Sem.run_pure, Result.andThen_ok, hr]
  exact hK _ _ h
theorem wp_build_at (t : TypeId) (parts : Array (Nat × Operand)) (hgd : o.guard = none) (ho : o.op = .build t parts) {v : Value} (hb : (Instr.build t (parts.map fun (i, x) => (i, a.eval x))).run P w = .ok v w)
    (h : wpList P ops Q rest (a.put o.dst v) w) : wpList P ops Q (o :: rest) a w := by
  refine wpList_plain hgd fun K hK => ?_
  unfold Oper.wp execOp
  simp only [ho, Sem.run_bind, Sem.run_pure, Result.andThen_ok, hb]
  exact hK _ _ h
/-- A value laid over the cells of a row that is known whole. -/
theorem run_store_big {t : TypeId} {i : TypeInfo} (hi : P.info? t = some i) {w : World} {g off : Nat} {cur : Array Value} {e : TypeId} {cs : List Value} (hg : w.heap[g]? = some (.cells cur e (0, 0)))
    (hsz : i.size = cs.length) (hfit : off + cs.length ≤ cur.size) (h1 : ∀ v ∈ cs, v.oneCell' = true) :
    (storeVar t ⟨g, off, none⟩ (.agg cs.toArray)).run P w = .ok () (w.setRow g (cur.toList.take off ++ cs ++ cur.toList.drop (off + cs.length)).toArray) := by
  have h := run_storeCells_at P g off e cs 0 cur w hg (by simpa using hfit) h1
  simp only [Nat.add_zero] at h
  simp [storeVar, Value.cells, sizeOf, typeInfo, hi, hsz, h]
end
end Go.Proofs.YtaijompnohkmaaaGreatDoor
/- Layer 1 (sector): the code's tests of a disk. -/
namespace Go.Proofs.YtaijompnohkmaaaGreatDoor
open Go.RowKit
theorem info_write : (Tryz.prog.info? 96).map (fun i => (i.size, i.bytes)) = some (65, 72) := by kernel_rfl
theorem info_sector : (Tryz.prog.info? 94).map (fun i => (i.size, i.bytes)) = some (64, 64) := by kernel_rfl
theorem size_parts {P : Program} {e : TypeId} {size bytes : Nat} (h : (P.info? e).map (fun i => (i.size, i.bytes)) = some (size, bytes)) : ∃ i, P.info? e = some i ∧ i.size = size ∧ i.bytes = bytes := by
  obtain ⟨i, hi, hzz⟩ := Option.map_eq_some_iff.1 h
  simp only [Prod.mk.injEq] at hzz
  exact ⟨i, hi, hzz.1, hzz.2⟩
def thereB (d : DiskP) (at_ : Int) : Bool := decide (0 ≤ at_) && decide (at_ < d.secs.length)
def fusedB (n : Int) : Bool := decide (-1 ≤ n) && decide (n ≤ 1099511627776)
set_option maxRecDepth 100000 in
theorem fused_any (n : Int) (w : World) : Calls Tryz.prog 128 #[.int .i64 n] w fun e w' => e = .returned (.bool (fusedB n)) ∧ w = w' := by
  by_cases h1 : -1 ≤ n
  · have hf : fusedB n = decide (n ≤ 1099511627776) := by simp [fusedB, h1]
    rw [hf]
    clear hf
    go_enter Tryz.func128, Tryz.ntmps128
    go_wp2
    go_ret
    exact ⟨rfl, rfl⟩
  · have hf : fusedB n = false := by simp [fusedB, h1]
    rw [hf]
    have t0 : decide (-1 ≤ n) = false := by simp; omega
    clear hf h1
    go_enter Tryz.func128, Tryz.ntmps128
    go_wp2
    go_ret
    exact ⟨rfl, rfl⟩
set_option maxRecDepth 100000 in
theorem there_any {B : Nat} (v : Value) (d : DiskP) (at_ : Int) (w : World) (h : DiskV B w v d) :
    Calls Tryz.prog 131 #[v, .int .i64 at_] w fun e w' => e = .returned (.bool (thereB d at_)) ∧ Below w.heap.size w w' := by
  obtain ⟨sv, lv, rfl, ⟨_, _, a, cap, rfl, hnc, hcap, _⟩, ⟨_, _, a2, cap2, rfl, _⟩⟩ := h
  unfold maxLen at hcap
  have hb : Below w.heap.size w (w.alloc (.cells #[.slice a d.secs.length cap, .slice a2 d.loose.length cap2, .int .i64 d.fuse, .bool d.down] 38)) := Below.alloc (Below.refl _ _) (Nat.le_refl _) _
  by_cases h1 : 0 ≤ at_
  · have hf : thereB d at_ = decide (at_ < d.secs.length) := by simp [thereB, h1]
    rw [hf]
    clear hf
    go_enter Tryz.func131, Tryz.ntmps131
    go_wp2
    go_ret
    exact ⟨rfl, hb⟩
  · have hf : thereB d at_ = false := by simp [thereB, h1]
    rw [hf]
    have t0 : decide (0 ≤ at_) = false := by simp; omega
    clear hf h1
    go_enter Tryz.func131, Tryz.ntmps131
    go_wp2
    go_ret
    exact ⟨rfl, hb⟩
/-- A disk lies whole in block g. -/
def DiskAt (B g : Nat) (w : World) (d : DiskP) : Prop := ∃ sv lv, w.heap[g]? = some (.cells #[sv, lv, .int .i64 d.fuse, .bool d.down] 38 (0, 0)) ∧ Secs B w sv d.secs ∧ Loose B w lv d.loose
theorem DiskAt.below {B g B' : Nat} {w w' : World} {d : DiskP} (h : DiskAt B g w d) (hb : Below B' w w') (hg : g < B') (hB : B ≤ B') : DiskAt B g w' d := by
  obtain ⟨sv, lv, h1, h2, h3⟩ := h
  exact ⟨sv, lv, (hb.block g hg).trans h1, h2.below (hb.mono hB), h3.below (hb.mono hB)⟩
set_option maxRecDepth 100000 in
theorem pred_any {B g : Nat} (A : Array Value) (at_ : Int) (d : DiskP) (w : World) (h : DiskAt B g w d) (hA : A[0]? = some (.int .i64 at_)) :
    Calls Tryz.prog 130 #[.agg A, .pointer (some ⟨g, 0, none⟩)] w fun e w' => e = .returned (.bool (!thereB d at_)) ∧ Below w.heap.size w w' := by
  obtain ⟨sv, lv, h1, h2, h3⟩ := h
  have hg : g < w.heap.size := block_lt h1
  have hb : Below w.heap.size w (w.alloc (.cells A 96)) := Below.alloc (Below.refl _ _) (Nat.le_refl _) _
  have c0 := cell_of_row w g 0 _ _ _ h1
  have c1 := cell_of_row w g 1 _ _ _ h1
  have c2 := cell_of_row w g 2 _ _ _ h1
  have c3 := cell_of_row w g 3 _ _ _ h1
  have hd : DiskV w.heap.size w (.agg #[sv, lv, .int .i64 d.fuse, .bool d.down]) d := ⟨sv, lv, rfl, h2.tight, h3.tight⟩
  have hd2 := hd.below hb
  have k1 := there_any _ d at_ _ hd2
  go_enter Tryz.func130, Tryz.ntmps130
  go_wp2_with fail
  refine k1.mono ?_
  rintro e w1 ⟨rfl, hb1⟩
  go_wp2_with fail
  go_ret
  exact ⟨rfl, hb.trans (hb1.mono hb.size)⟩
/-- Which write lies nowhere; -1: none. -/
def badAt (d : DiskP) (ls : List WriteP) : Bool := ls.any fun x => !thereB d x.at_
theorem badAt_none (d : DiskP) (ls : List WriteP) (h : ∀ k (hk : k < ls.length), thereB d ls[k].at_ = true) : badAt d ls = false := by
  unfold badAt
  rw [List.any_eq_false]
  intro x hx
  obtain ⟨k, hk, rfl⟩ := List.getElem_of_mem hx
  simp [h k hk]
theorem badAt_some (d : DiskP) (ls : List WriteP) (k : Nat) (hk : k < ls.length) (h : thereB d ls[k].at_ = false) : badAt d ls = true := by
  unfold badAt
  rw [List.any_eq_true]
  exact ⟨ls[k], List.getElem_mem hk, by simp [h]⟩
set_option maxRecDepth 100000 in
set_option maxHeartbeats 1000000 in
theorem index_any {B g : Nat} (v : Value) (ls : List WriteP) (d : DiskP) (w : World) (h : DiskAt B g w d) (hB : B ≤ g) (hl : Loose B w v ls) :
    Calls Tryz.prog 150 #[v, .func (.func 130) #[] #[.pointer (some ⟨g, 0, none⟩)]] w fun e w' => (∃ z : Int, e = .returned (.int .i64 z) ∧ (decide (0 ≤ z)) = badAt d ls) ∧ Below w.heap.size w w' := by
  obtain ⟨hls, _, a, cap, rfl, hnc, hcap, hcells⟩ := hl
  unfold maxLen at hcap
  have hg : g < w.heap.size := by obtain ⟨_, _, h1, _⟩ := h; exact block_lt h1
  obtain ⟨i0, hi, hsz, _⟩ := size_parts info_write
  go_enter Tryz.func150, Tryz.ntmps150
  go_wp2
  go_loopw [8] (fun i wr => ∃ k : Nat, k ≤ ls.length ∧ i = .int .i64 k ∧ (∀ j (hj : j < ls.length), j < k → thereB d ls[j].at_ = true) ∧ Below w.heap.size w wr) (fun i _ => ls.length - (intOf i).toNat)
  case atStart => exact ⟨0, Nat.zero_le _, rfl, fun j _ h => absurd h (Nat.not_lt_zero _), Below.refl _ _⟩
  case round =>
    obtain ⟨k, hk, rfl, hpre, hb⟩ := hrel
    by_cases hlt : k < ls.length
    · obtain ⟨b, off, rfl, hBb, hc⟩ := hcells (by omega)
      have hBw : b < w.heap.size := Nat.lt_trans (Nat.lt_of_lt_of_le hBb hB) hg
      have hat := flat_at wcells 65 ls (fun x hx => by rw [length_wcells, hls x hx]) k ls[k] (List.getElem?_eq_getElem hlt)
      have hld := run_load_big (P := Tryz.prog) (t := 96) Tryz.underlying96 (.inr ⟨_, rfl⟩) hi (w := wr) (b := b) (off := off + k * 65) (cs := wcells ls[k]) hsz (by rw [length_wcells, hls _ (List.getElem_mem hlt)])
        (fun j u hj => by rw [Nat.add_assoc]; exact (hb.cell (p := ⟨b, off + (k * 65 + j), none⟩) hBw).trans (hc _ _ (hat j u hj)))
      have HP := Lib.hid hpre
      have hA : (wcells ls[k]).toArray[0]? = some (.int .i64 ls[k].at_) := by simp [wcells]
      have hd : DiskAt B g wr d := h.below hb hg (Nat.le_trans hB (Nat.le_of_lt hg))
      have k1 := pred_any _ _ d wr hd hA
      obtain ⟨q, hq⟩ : ∃ q, q = thereB d ls[k].at_ := ⟨_, rfl⟩
      rw [← hq] at k1
      have HQ := Lib.hid hq
      clear hpre hc hat hcells hA hd hq
      obtain ⟨A, hAe⟩ : ∃ A, A = (wcells ls[k]).toArray := ⟨_, rfl⟩
      rw [← hAe] at hld k1
      clear hAe
      cases q with
      | true =>
        go_wp2_with (refine wp_load_at (.tmp 14) 96 rfl rfl rfl hld ?_)
        refine k1.mono ?_
        rintro e w1 ⟨rfl, hb1⟩
        go_wp2_with fail
        go_roundw
        case rel =>
          refine ⟨k + 1, by omega, by go_num, fun j hj hjk => ?_, hb.trans (hb1.mono hb.size)⟩
          by_cases hjk2 : j < k
          · exact HP.out j hj hjk2
          · obtain rfl : j = k := by omega
            exact HQ.out.symm
        case measure => simp [intOf]; omega
      | false =>
        go_wp2_with (refine wp_load_at (.tmp 14) 96 rfl rfl rfl hld ?_)
        refine k1.mono ?_
        rintro e w1 ⟨rfl, hb1⟩
        go_wp2_with fail
        go_ret
        exact ⟨⟨k, rfl, by rw [badAt_some d ls k hlt HQ.out.symm]; simp⟩, hb.trans (hb1.mono hb.size)⟩
    · have hke : k = ls.length := by omega
      subst hke
      have HP := Lib.hid hpre
      clear hpre hcells
      go_wp2_with fail
      go_ret
      exact ⟨⟨-1, rfl, by rw [badAt_none d ls (fun j hj => HP.out j hj hj)]; decide⟩, hb⟩
end Go.Proofs.YtaijompnohkmaaaGreatDoor
/- Layer 1 (sector): which disks may be; copies of slices of disks. -/
namespace Go.Proofs.YtaijompnohkmaaaGreatDoor
open Go.RowKit
set_option maxRecDepth 100000 in
theorem contains_any {B g : Nat} (v : Value) (ls : List WriteP) (d : DiskP) (w : World) (h : DiskAt B g w d) (hB : B ≤ g) (hl : Loose B w v ls) :
    Calls Tryz.prog 129 #[v, .func (.func 130) #[] #[.pointer (some ⟨g, 0, none⟩)]] w fun e w' => e = .returned (.bool (badAt d ls)) ∧ Below w.heap.size w w' := by
  have k1 := index_any v ls d w h hB hl
  obtain ⟨q, hq⟩ : ∃ q, q = badAt d ls := ⟨_, rfl⟩
  rw [← hq] at k1 ⊢
  clear hq hl h
  go_enter Tryz.func129, Tryz.ntmps129
  go_wp2_with fail
  refine k1.mono ?_
  rintro e w1 ⟨⟨z, rfl, hz⟩, hb1⟩
  go_wp2_with fail
  go_ret
  exact ⟨by rw [← hz]; rfl, hb1⟩
def rightB (d : DiskP) : Bool := decide (d.secs.length ≤ 4096) && decide (d.loose.length ≤ 100000) && fusedB d.fuse && !badAt d d.loose
set_option maxRecDepth 100000 in
theorem right_any {B : Nat} (v : Value) (d : DiskP) (w : World) (h : DiskV B w v d) :
    Calls Tryz.prog 90 #[v] w fun e w' => e = .returned (.bool (rightB d)) ∧ Below w.heap.size w w' := by
  have h := h.tight
  obtain ⟨sv, lv, rfl, hs, hl⟩ := h
  have hb : Below w.heap.size w (w.alloc (.cells #[sv, lv, .int .i64 d.fuse, .bool d.down] 38)) := Below.alloc (Below.refl _ _) (Nat.le_refl _) _
  have hg : (w.alloc (.cells #[sv, lv, .int .i64 d.fuse, .bool d.down] 38)).heap[w.heap.size]? = some (.cells #[sv, lv, .int .i64 d.fuse, .bool d.down] 38 (0, 0)) := heap_alloc_new w _
  have hl' := hl.below hb
  have hda : DiskAt w.heap.size w.heap.size (w.alloc (.cells #[sv, lv, .int .i64 d.fuse, .bool d.down] 38)) d := ⟨sv, lv, hg, hs.below hb, hl'⟩
  obtain ⟨_, _, a, cap, hsv, hnc, hcap, _⟩ := hs
  obtain ⟨_, _, a2, cap2, hlv, hnc2, hcap2, _⟩ := hl
  unfold maxLen at hcap hcap2
  have k1 := fun w => fused_any d.fuse w
  have k2 := fun (w' : World) (hw : Below (w.heap.size + 1) (w.alloc (.cells #[sv, lv, .int .i64 d.fuse, .bool d.down] 38)) w') => contains_any lv d.loose d w' (hda.below hw (Nat.lt_succ_self _) (Nat.le_succ _)) (Nat.le_refl _) (hl'.below (hw.mono (Nat.le_succ _)))
  subst hsv hlv
  by_cases h1 : d.secs.length ≤ 4096
  · by_cases h2 : d.loose.length ≤ 100000
    · have e : rightB d = (fusedB d.fuse && !badAt d d.loose) := by simp [rightB, h1, h2]
      rw [e]
      obtain ⟨q, hq⟩ : ∃ q, q = fusedB d.fuse := ⟨_, rfl⟩
      obtain ⟨r, hr⟩ : ∃ r, r = badAt d d.loose := ⟨_, rfl⟩
      simp only [← hq] at k1
      simp only [← hr] at k2
      rw [← hq, ← hr]
      clear hq hr e hda hl'
      cases q with
      | true =>
        go_enter Tryz.func90, Tryz.ntmps90
        go_wp2_with fail
        refine (k1 _).mono ?_
        rintro e w1 ⟨rfl, rfl⟩
        go_wp2_with fail
        refine (k2 _ (Below.refl _ _)).mono ?_
        rintro e w1 ⟨rfl, hb1⟩
        go_wp2_with fail
        go_ret
        exact ⟨rfl, hb.trans (hb1.mono hb.size)⟩
      | false =>
        go_enter Tryz.func90, Tryz.ntmps90
        go_wp2_with fail
        refine (k1 _).mono ?_
        rintro e w1 ⟨rfl, rfl⟩
        go_wp2_with fail
        go_ret
        exact ⟨rfl, hb⟩
    · have e : rightB d = false := by simp [rightB, h2]
      have t0 : decide (((d.loose.length : Nat) : Int) ≤ 100000) = false := by simp; omega
      rw [e]
      clear e k1 k2 hda hl'
      go_enter Tryz.func90, Tryz.ntmps90
      go_wp2_with fail
      go_ret
      exact ⟨rfl, hb⟩
  · have e : rightB d = false := by simp [rightB, h1]
    have t0 : decide (((d.secs.length : Nat) : Int) ≤ 4096) = false := by simp; omega
    rw [e]
    clear e k1 k2 hda hl'
    go_enter Tryz.func90, Tryz.ntmps90
    go_wp2_with fail
    go_ret
    exact ⟨rfl, hb⟩
end Go.Proofs.YtaijompnohkmaaaGreatDoor
/- Layer 1 (sector): copies of slices of disks; a disk ahead of a deed. -/
namespace Go.Proofs.YtaijompnohkmaaaGreatDoor
open Go.RowKit
theorem infoz_write : (Tryz.prog.info? 96).bind (fun i => i.zero.map fun z => (i.size, i.bytes, z.cells.size)) = some (65, 72, 65) := by kernel_rfl
theorem infoz_sector : (Tryz.prog.info? 94).bind (fun i => i.zero.map fun z => (i.size, i.bytes, z.cells.size)) = some (64, 64, 64) := by kernel_rfl
theorem zero_parts {P : Program} {e : TypeId} {a b c : Nat} (h : (P.info? e).bind (fun i => i.zero.map fun z => (i.size, i.bytes, z.cells.size)) = some (a, b, c)) : ∃ i z, P.info? e = some i ∧ i.zero = some z ∧ i.size = a ∧ i.bytes = b ∧ z.cells.size = c := by
  obtain ⟨i, hi, h⟩ := Option.bind_eq_some_iff.1 h
  obtain ⟨z, hz, h⟩ := Option.map_eq_some_iff.1 h
  simp only [Prod.mk.injEq] at h
  exact ⟨i, z, hi, hz, h.1, h.2.1, h.2.2⟩
def SecsO (B : Nat) (w : World) (v : Value) (ss : List (List UInt8)) : Prop := (∀ s ∈ ss, s.length = 64) ∧ Own B w 94 v 64 ss.length (ss.map u8s).flatten
def LooseO (B : Nat) (w : World) (v : Value) (ls : List WriteP) : Prop := (∀ x ∈ ls, x.data.length = 64) ∧ Own B w 96 v 65 ls.length (ls.map wcells).flatten
theorem SecsO.secs {B : Nat} {w : World} {v : Value} {ss : List (List UInt8)} (h : SecsO B w v ss) : Secs w.heap.size w v ss := ⟨h.1, h.2.row⟩
theorem LooseO.loose {B : Nat} {w : World} {v : Value} {ls : List WriteP} (h : LooseO B w v ls) : Loose w.heap.size w v ls := ⟨h.1, h.2.row⟩
theorem oneCell_secs (ss : List (List UInt8)) : ∀ u ∈ (ss.map u8s).flatten, u.oneCell' = true := by
  intro u hu
  obtain ⟨l, hl, hu⟩ := List.mem_flatten.1 hu
  obtain ⟨s, _, rfl⟩ := List.mem_map.1 hl
  exact oneCell_u8s s u hu
theorem oneCell_w (x : WriteP) : ∀ u ∈ wcells x, u.oneCell' = true := by
  intro u hu
  rcases List.mem_cons.1 hu with rfl | hu
  · rfl
  · exact oneCell_u8s _ u hu
theorem oneCell_ws (ls : List WriteP) : ∀ u ∈ (ls.map wcells).flatten, u.oneCell' = true := by
  intro u hu
  obtain ⟨l, hl, hu⟩ := List.mem_flatten.1 hu
  obtain ⟨s, _, rfl⟩ := List.mem_map.1 hl
  exact oneCell_w s u hu
theorem length_flat {α : Type} (f : α → List Value) (sz : Nat) : ∀ (xs : List α), (∀ x ∈ xs, (f x).length = sz) → (xs.map f).flatten.length = xs.length * sz
  | [], _ => by simp
  | y :: ys, h => by
    rw [List.map_cons, List.flatten_cons, List.length_append, h y (List.mem_cons_self ..), length_flat f sz ys (fun x hx => h x (List.mem_cons_of_mem _ hx)), List.length_cons, Nat.succ_mul, Nat.add_comm]
/-- An own slice outlives what is written elsewhere. -/
theorem Own.setOther {B : Nat} {w : World} {e : TypeId} {v : Value} {sz n : Nat} {cs : List Value} (h : Own B w e v sz n cs) (p : Addr) (u : Value) (hp : p.block < B) : Own B (w.setCell p u) e v sz n cs := by
  obtain ⟨h1, a, cap, rfl, h2, h3, h4⟩ := h
  refine ⟨h1, a, cap, rfl, h2, h3, ?_⟩
  rcases h4 with h4 | ⟨g, cur, rfl, hg, hh, hs, ht⟩
  · exact .inl h4
  · refine .inr ⟨g, cur, rfl, hg, ?_, hs, ht⟩
    simp only [World.setCell, Array.getElem?_modify]
    rw [if_neg (by omega)]
    exact hh
theorem SecsO.setOther {B : Nat} {w : World} {v : Value} {ss : List (List UInt8)} (h : SecsO B w v ss) (p : Addr) (u : Value) (hp : p.block < B) : SecsO B (w.setCell p u) v ss := ⟨h.1, h.2.setOther p u hp⟩
theorem LooseO.setOther {B : Nat} {w : World} {v : Value} {ls : List WriteP} (h : LooseO B w v ls) (p : Addr) (u : Value) (hp : p.block < B) : LooseO B (w.setCell p u) v ls := ⟨h.1, h.2.setOther p u hp⟩
theorem SecsO.keep {B B' : Nat} {w w' : World} {v : Value} {ss : List (List UInt8)} (h : SecsO B w v ss) (hb : Below B' w w') (hB : w.heap.size ≤ B') : SecsO B w' v ss := ⟨h.1, h.2.below hb hB⟩
theorem LooseO.keep {B B' : Nat} {w w' : World} {v : Value} {ls : List WriteP} (h : LooseO B w v ls) (hb : Below B' w w') (hB : w.heap.size ≤ B') : LooseO B w' v ls := ⟨h.1, h.2.below hb hB⟩
set_option maxRecDepth 100000 in
set_option maxHeartbeats 400000 in
theorem clone64_any {B : Nat} (v : Value) (ss : List (List UInt8)) (w : World) (hr : Secs B w v ss) (hlen : ss.length ≤ 2 ^ 40) :
    Calls Tryz.prog 174 #[v] w fun e w' => ∃ v', e = .returned v' ∧ SecsO w.heap.size w' v' ss ∧ Below w.heap.size w w' := by
  have hr := hr.tight
  have hR := hr
  obtain ⟨h64, h1, a, cap, rfl, hnc, hcap, hcells⟩ := hr
  have kn := fun (w : World) (a : Option Addr) (n c n' c' : Nat) => eql_slice_nil Tryz.underlying35 w a n c n' c'
  cases a with
  | none =>
    have hn : ss = [] := by
      cases ss with
      | nil => rfl
      | cons b bs => obtain ⟨b, off, h, _⟩ := hcells (by simp); cases h
    subst hn
    clear hcells h1 hR
    go_enter Tryz.func174, Tryz.ntmps174
    go_wp2
    go_ret
    exact ⟨_, rfl, ⟨h64, Own.none _ _ _ _ _⟩, Below.refl _ _⟩
  | some ad =>
    obtain ⟨i0, z0, hi, hz0, hz1, hz2, hz3⟩ := zero_parts infoz_sector
    have ho : Own w.heap.size (w.alloc (.cells #[] 94)) 94 (.slice (some ⟨w.heap.size, 0, none⟩) 0 0) 64 0 [] := Own.none _ _ _ _ _
    have hb : Below w.heap.size w (w.alloc (.cells #[] 94)) := Below.alloc (Below.refl _ _) (Nat.le_refl _) _
    have hs := Row.src (P := Tryz.prog) (hR.below hb).2
    have hB : w.heap.size ≤ (w.alloc (.cells #[] 94)).heap.size := hb.size
    have hl1 : 0 + ss.length ≤ maxLen := by unfold maxLen; omega
    have hl2 : (0 + ss.length) * 64 ≤ 140737488355328 := by omega
    have H1 := Lib.hid hl1
    have H2 := Lib.hid hl2
    clear hR h1 hcells hcap hl1 hl2 hlen
    go_enter Tryz.func174, Tryz.ntmps174
    go_wp2_with (at_builtin; refine wp_append rfl (.tmp 5) (.tmp 6) 35 35 94 rfl i0 z0 64 64 Tryz.underlying35 (.inl ⟨_, Tryz.underlying35⟩) hi hz0 hz1 hz2 hz3 rfl rfl ho hs (oneCell_secs _) H1.out H2.out hB ?_; intro v2 w2 hown2 hb2)
    go_ret
    refine ⟨_, rfl, ⟨h64, ?_⟩, hb.trans hb2⟩
    rw [Nat.zero_add, List.nil_append] at hown2
    exact hown2
set_option maxRecDepth 100000 in
set_option maxHeartbeats 400000 in
theorem cloneW_any {B : Nat} (v : Value) (ls : List WriteP) (w : World) (hr : Loose B w v ls) (hlen : ls.length ≤ 2 ^ 40) :
    Calls Tryz.prog 175 #[v] w fun e w' => ∃ v', e = .returned v' ∧ LooseO w.heap.size w' v' ls ∧ Below w.heap.size w w' := by
  have hr := hr.tight
  have hR := hr
  obtain ⟨h64, h1, a, cap, rfl, hnc, hcap, hcells⟩ := hr
  have kn := fun (w : World) (a : Option Addr) (n c n' c' : Nat) => eql_slice_nil Tryz.underlying36 w a n c n' c'
  cases a with
  | none =>
    have hn : ls = [] := by
      cases ls with
      | nil => rfl
      | cons b bs => obtain ⟨b, off, h, _⟩ := hcells (by simp); cases h
    subst hn
    clear hcells h1 hR
    go_enter Tryz.func175, Tryz.ntmps175
    go_wp2
    go_ret
    exact ⟨_, rfl, ⟨h64, Own.none _ _ _ _ _⟩, Below.refl _ _⟩
  | some ad =>
    obtain ⟨i0, z0, hi, hz0, hz1, hz2, hz3⟩ := zero_parts infoz_write
    have ho : Own w.heap.size (w.alloc (.cells #[] 96)) 96 (.slice (some ⟨w.heap.size, 0, none⟩) 0 0) 65 0 [] := Own.none _ _ _ _ _
    have hb : Below w.heap.size w (w.alloc (.cells #[] 96)) := Below.alloc (Below.refl _ _) (Nat.le_refl _) _
    have hs := Row.src (P := Tryz.prog) (hR.below hb).2
    have hB : w.heap.size ≤ (w.alloc (.cells #[] 96)).heap.size := hb.size
    have hl1 : 0 + ls.length ≤ maxLen := by unfold maxLen; omega
    have hl2 : (0 + ls.length) * 72 ≤ 140737488355328 := by omega
    have H1 := Lib.hid hl1
    have H2 := Lib.hid hl2
    clear hR h1 hcells hcap hl1 hl2 hlen
    go_enter Tryz.func175, Tryz.ntmps175
    go_wp2_with (at_builtin; refine wp_append rfl (.tmp 5) (.tmp 6) 36 36 96 rfl i0 z0 65 72 Tryz.underlying36 (.inl ⟨_, Tryz.underlying36⟩) hi hz0 hz1 hz2 hz3 rfl rfl ho hs (oneCell_ws _) H1.out H2.out hB ?_; intro v2 w2 hown2 hb2)
    go_ret
    refine ⟨_, rfl, ⟨h64, ?_⟩, hb.trans hb2⟩
    rw [Nat.zero_add, List.nil_append] at hown2
    exact hown2
end Go.Proofs.YtaijompnohkmaaaGreatDoor
/- Layer 1 (sector): a disk ahead of a deed. -/
namespace Go.Proofs.YtaijompnohkmaaaGreatDoor
open Go.RowKit
theorem results_ct {P : Program} {fn : Func} {p u : Tmp} {ty : TypeId} (h : fn.results = #[.cell p ty, .tmp u]) (tmps : Array Value) (w : World) (g : Nat) (t : TypeId) (cs : Array Value) (fr : Nat × Nat) (d : TypeDesc)
    (hp : tmps.getD p undef = .pointer (some ⟨g, 0, none⟩)) (hg : w.heap[g]? = some (.cells cs t fr))
    (hu : P.underlying ty = some d) (hd : (match d with | .struct _ | .array _ _ => true | _ => false) = true) (hi : (P.info? ty).map (·.size) = some cs.size) :
    (results fn tmps).run P w = .ok (.tuple #[.agg cs, tmps.getD u undef]) w := by
  have hp' : tmps[p]?.getD undef = .pointer (some ⟨g, 0, none⟩) := by simpa using hp
  simp [results, h, hp', asAddr, run_loadVar_row w g t ty cs fr d hg hu hd hi]
theorem size_disk : (Tryz.prog.info? 38).map (·.size) = some 4 := by kernel_rfl
theorem undrew {w w' : World} {row : Option Nat} (h : w.drew.grownBy w' row) : w.grownBy w' row := ⟨h.os, h.tape, h.output, h.size, h.block⟩
theorem SecsO.form {B : Nat} {w : World} {v : Value} {ss : List (List UInt8)} (h : SecsO B w v ss) : ∃ a cap, v = .slice a ss.length cap := by obtain ⟨_, _, a, cap, rfl, _⟩ := h; exact ⟨a, cap, rfl⟩
theorem LooseO.form {B : Nat} {w : World} {v : Value} {ss : List WriteP} (h : LooseO B w v ss) : ∃ a cap, v = .slice a ss.length cap := by obtain ⟨_, _, a, cap, rfl, _⟩ := h; exact ⟨a, cap, rfl⟩
theorem frozen_row {w : World} {g : Nat} {cs : Array Value} {t : TypeId} (h : w.heap[g]? = some (.cells cs t (0, 0))) (k : Nat) : w.frozen? ⟨g, k, none⟩ = false := by simp [World.frozen?, h]
/-- The value says where a row lies. -/
theorem Row.mix {C C' : Nat} {w w' : World} {v : Value} {sz n : Nat} {cs cs' : List Value} (h1 : Row C w v sz n cs) (h2 : Row C' w' v sz n cs') : Row C w' v sz n cs' := by
  obtain ⟨_, a, cap, rfl, _, _, h1⟩ := h1
  obtain ⟨hl, a', cap', hv, hn, hc, h2⟩ := h2
  obtain ⟨rfl, rfl⟩ : a = a' ∧ cap = cap' := by cases hv; exact ⟨rfl, rfl⟩
  refine ⟨hl, a, cap, rfl, hn, hc, fun hp => ?_⟩
  obtain ⟨b, off, e, hb, _⟩ := h1 hp
  obtain ⟨b', off', e', _, hc'⟩ := h2 hp
  rw [e] at e'
  cases e'
  exact ⟨b, off, e, hb, hc'⟩
/-- A disk ahead of a deed. -/
def downP (d : DiskP) : Bool := d.down || (d.fuse == 0)
def burnF (d : DiskP) : Int := if downP d then d.fuse else if 0 < d.fuse then d.fuse - 1 else d.fuse
def burnE (d : DiskP) : Int := if downP d then 9 else 0
theorem set0 {w : World} {g : Nat} {a b c d : Value} {t : TypeId} {fr : Nat × Nat} (h : w.heap[g]? = some (.cells #[a, b, c, d] t fr)) (u v : Value) : ((w.setCell ⟨g, 0, none⟩ u).setCell ⟨g, 1, none⟩ v).heap[g]? = some (.cells #[u, v, c, d] t fr) := by
  simp [World.setCell, Array.getElem?_modify, h]
theorem setFar {w : World} {g h : Nat} (hne : g ≠ h) (k : Nat) (u : Value) : (w.setCell ⟨g, k, none⟩ u).heap[h]? = w.heap[h]? := by
  simp only [World.setCell, Array.getElem?_modify]
  rw [if_neg hne]
/-- Four cells of one block, written in a row. -/
abbrev put4 (w : World) (h : Nat) (a b c d : Value) : World := (((w.setCell ⟨h, 0, none⟩ a).setCell ⟨h, 1, none⟩ b).setCell ⟨h, 2, none⟩ c).setCell ⟨h, 3, none⟩ d
theorem put4_heap {w : World} {h : Nat} {a0 b0 c0 d0 : Value} {t : TypeId} {fr : Nat × Nat} (hh : w.heap[h]? = some (.cells #[a0, b0, c0, d0] t fr)) (a b c d : Value) : (put4 w h a b c d).heap[h]? = some (.cells #[a, b, c, d] t fr) := by
  simp [put4, World.setCell, Array.getElem?_modify, hh]
theorem put4_secs {B h : Nat} {w : World} {v : Value} {ss : List (List UInt8)} (hs : SecsO B w v ss) (hB : h < B) (a b c d : Value) : SecsO B (put4 w h a b c d) v ss := (((hs.setOther _ _ hB).setOther _ _ hB).setOther _ _ hB).setOther _ _ hB
theorem put4_loose {B h : Nat} {w : World} {v : Value} {ss : List WriteP} (hs : LooseO B w v ss) (hB : h < B) (a b c d : Value) : LooseO B (put4 w h a b c d) v ss := (((hs.setOther _ _ hB).setOther _ _ hB).setOther _ _ hB).setOther _ _ hB
theorem put4_below {B h : Nat} {w w' : World} (hb : Below B w w') (hB : B ≤ h) (a b c d : Value) : Below B w (put4 w' h a b c d) :=
  (((hb.setCell (p := ⟨h, 0, none⟩) hB a).setCell (p := ⟨h, 1, none⟩) hB b).setCell (p := ⟨h, 2, none⟩) hB c).setCell (p := ⟨h, 3, none⟩) hB d
theorem SecsO.lower {B B' : Nat} {w : World} {v : Value} {ss : List (List UInt8)} (h : SecsO B w v ss) (hB : B' ≤ B) : SecsO B' w v ss := ⟨h.1, h.2.lower hB⟩
theorem LooseO.lower {B B' : Nat} {w : World} {v : Value} {ss : List WriteP} (h : LooseO B w v ss) (hB : B' ≤ B) : LooseO B' w v ss := ⟨h.1, h.2.lower hB⟩
set_option maxRecDepth 100000 in
set_option maxHeartbeats 1000000 in
theorem burn_any {B : Nat} (v : Value) (d : DiskP) (w : World) (h : DiskV B w v d) (hr : rightB d = true) :
    Calls Tryz.prog 156 #[v] w fun e w' => (∃ sv lv, e = .returned (.tuple #[.agg #[sv, lv, .int .i64 (burnF d), .bool (downP d)], .int .i64 (burnE d)]) ∧ ∃ C, w.heap.size ≤ C ∧ SecsO w.heap.size w' sv d.secs ∧ Row C w' sv 64 d.secs.length (d.secs.map u8s).flatten ∧ LooseO C w' lv d.loose) ∧ Below w.heap.size w w' := by
  have h := h.tight
  obtain ⟨sv, lv, rfl, hs, hl⟩ := h
  have hrs : d.secs.length ≤ 2 ^ 40 ∧ d.loose.length ≤ 2 ^ 40 ∧ -1 ≤ d.fuse ∧ d.fuse ≤ 2 ^ 40 := by
    simp only [rightB, fusedB, Bool.and_eq_true, decide_eq_true_eq] at hr
    omega
  clear hr
  obtain ⟨r1, r2, r3, r4⟩ := hrs
  have R1 := Lib.hid r1
  have R2 := Lib.hid r2
  obtain ⟨w2, hw2⟩ : ∃ w2, w2 = ((w.alloc (.cells #[sv, lv, .int .i64 d.fuse, .bool d.down] 38)).alloc (.cells #[.slice none 0 0, .slice none 0 0, .int .i64 0, .bool false] 38)) := ⟨_, rfl⟩
  have hb2 : Below w.heap.size w w2 := by rw [hw2]; exact Below.alloc (Below.alloc (Below.refl _ _) (Nat.le_refl _) _) (by simp) _
  have hsz2 : w2.heap.size = w.heap.size + 2 := by rw [hw2]; simp
  have hg0 : w2.heap[w.heap.size]? = some (.cells #[sv, lv, .int .i64 d.fuse, .bool d.down] 38 (0, 0)) := by rw [hw2]; exact heap_alloc2_old w _ _
  have hg1 : w2.heap[w.heap.size + 1]? = some (.cells #[.slice none 0 0, .slice none 0 0, .int .i64 0, .bool false] 38 (0, 0)) := by rw [hw2]; exact heap_alloc2_new w _ _
  have hs2 : Secs w.heap.size w2.drew sv d.secs := (show Secs w.heap.size w2 sv d.secs from hs.below hb2)
  have F1 := Lib.hid (fun (w5 : World) (h : Below w2.drew.heap.size w2.drew w5) => (show Below w2.heap.size w2 w5 from ⟨h.os, h.tape, h.output, h.size, h.block⟩))
  have F2 := Lib.hid (fun (w5 : World) (h : Below w2.drew.heap.size w2.drew w5) => (hl.below hb2).below (((F1.out w5 h).mono hb2.size)))
  have c0 := cell_of_row w2 _ 0 _ _ _ hg0
  have c1 := cell_of_row w2 _ 1 _ _ _ hg0
  have hlt1 : w.heap.size < w2.heap.size := by omega
  have F3 := Lib.hid (fun (w5 : World) (h : Below w2.drew.heap.size w2.drew w5) => ((F1.out w5 h).cell (p := ⟨w.heap.size, 1, none⟩) hlt1).trans c1)
  have F4 := Lib.hid (fun (w5 : World) (h : Below w2.drew.heap.size w2.drew w5) => ((F1.out w5 h).block w.heap.size hlt1).trans hg0)
  clear hs hl
  go_enter Tryz.func156, Tryz.ntmps156
  go_wp2_with fail
  rw [← hw2]
  clear hw2
  go_region_with (first
    | (go_at_call 174; refine (clone64_any sv d.secs _ hs2 R1.out).mono ?_; rintro e w5 ⟨v5, rfl, ho5, hb5⟩; obtain ⟨a5, k5, rfl⟩ := ho5.form; have hl5 := F2.out w5 hb5; have hc5 := F3.out w5 hb5; have hg5 := F4.out w5 hb5)
    | (go_at_call 175; refine (cloneW_any lv d.loose _ hl5 R2.out).mono ?_; rintro e w6 ⟨v6, rfl, ho6, hb6⟩; obtain ⟨a6, k6, rfl⟩ := ho6.form; have hg6 := (hb6.block w.heap.size (block_lt hg5)).trans hg5; have hk0 := cell_of_row w6 _ 0 _ _ _ hg6; have hk1 := cell_of_row w6 _ 1 _ _ _ hg6; have hf0 := frozen_row hg6 0; have hf1 := frozen_row hg6 1))
  all_goals
    clear F1 F2 F3 F4 hc5 hl5 c0 c1 hk0 hk1 hf0 hf1 hs2 h R1 R2
    have hb26 : Below w.heap.size w w6 := hb2.trans ((show Below w.heap.size w2 w5 from ⟨hb5.os, hb5.tape, hb5.output, hb5.size, fun k hk => hb5.block k (Nat.lt_trans hk hlt1)⟩).trans (hb6.mono (by have := hb5.size; simp only [heap_drew] at this; omega)))
    have hs5 : w2.heap.size ≤ w5.heap.size := hb5.size
    have hh6 : w6.heap[w.heap.size + 1]? = some (.cells #[.slice none 0 0, .slice none 0 0, .int .i64 0, .bool false] 38 (0, 0)) := (hb6.block (w.heap.size + 1) (by omega)).trans ((hb5.block (w.heap.size + 1) (by simp only [heap_drew]; omega)).trans hg1)
    have hg7 := set0 hg6 (.slice a5 d.secs.length k5) (.slice a6 d.loose.length k6)
    have hh7 := ((setFar (w := w6.setCell ⟨w.heap.size, 0, none⟩ (.slice a5 d.secs.length k5)) (g := w.heap.size) (h := w.heap.size + 1) (by omega) 1 (.slice a6 d.loose.length k6)).trans (setFar (w := w6) (by omega) 0 (.slice a5 d.secs.length k5))).trans hh6
    have p5 := ((ho5.keep hb6 (Nat.le_refl _)).setOther ⟨w.heap.size, 0, none⟩ (.slice a5 d.secs.length k5) hlt1).setOther ⟨w.heap.size, 1, none⟩ (.slice a6 d.loose.length k6) hlt1
    have p6 := (ho6.setOther ⟨w.heap.size, 0, none⟩ (.slice a5 d.secs.length k5) (Nat.lt_of_lt_of_le hlt1 hs5)).setOther ⟨w.heap.size, 1, none⟩ (.slice a6 d.loose.length k6) (Nat.lt_of_lt_of_le hlt1 hs5)
    have hb7 := (hb26.setCell (p := ⟨w.heap.size, 0, none⟩) (Nat.le_refl _) (.slice a5 d.secs.length k5)).setCell (p := ⟨w.heap.size, 1, none⟩) (Nat.le_refl _) (.slice a6 d.loose.length k6)
    obtain ⟨w7, hw7⟩ : ∃ w7, w7 = (w6.setCell ⟨w.heap.size, 0, none⟩ (.slice a5 d.secs.length k5)).setCell ⟨w.heap.size, 1, none⟩ (.slice a6 d.loose.length k6) := ⟨_, rfl⟩
    rw [← hw7] at hg7 hh7 p5 p6 hb7 ⊢
    clear hw7 hb6 hb5 hg1 hg0 hb2 hg5 ho6 hg6 hh6 hb26 hlt1
    have hb2z : w.heap.size + 2 ≤ w2.heap.size := by omega
    clear hsz2
    have q5 : SecsO (w.heap.size + 2) w7 (.slice a5 d.secs.length k5) d.secs := p5.lower hb2z
    have q6 := p6
    have hC : w.heap.size + 2 ≤ w5.heap.size := Nat.le_trans hb2z hs5
    have r5 := ho5.secs.2
    have c2 := cell_of_row w7 _ 2 _ _ _ hg7
    have c3 := cell_of_row w7 _ 3 _ _ _ hg7
    have c0 := cell_of_row w7 _ 0 _ _ _ hg7
    have c1 := cell_of_row w7 _ 1 _ _ _ hg7
    have f0 := frozen_row hg7
    have e0 := cell_of_row w7 _ 0 _ _ _ hh7
    have e1 := cell_of_row w7 _ 1 _ _ _ hh7
    have e2 := cell_of_row w7 _ 2 _ _ _ hh7
    have e3 := cell_of_row w7 _ 3 _ _ _ hh7
    have f1 := frozen_row hh7
    have H1 : w.heap.size + 1 < w.heap.size + 2 := Nat.lt_succ_self _
    have H2 : w.heap.size ≤ w.heap.size + 2 := Nat.le_add_right _ _
    have H3 : w.heap.size ≤ w.heap.size + 1 := Nat.le_succ _
    have H4 : w.heap.size < w.heap.size + 2 := by omega
    have H5 : w.heap.size ≠ w.heap.size + 1 := by omega
    have H6 : w.heap.size + 1 < w5.heap.size := by omega
    have H7 : w.heap.size < w5.heap.size := by omega
    have H8 : w.heap.size ≤ w5.heap.size := by omega
    clear p5 p6 hs5 hb2z ho5 hC
    by_cases hz : d.fuse = 0
    · have t0 : ((d.fuse : Int) == 0) = true := by rw [beq_iff_eq]; exact hz
      have u1 : downP d = true := by simp [downP, hz]
      have u2 : burnF d = d.fuse := by simp [burnF, u1]
      have u3 : burnE d = 9 := by simp [burnE, u1]
      have U := Lib.hid (And.intro u2 (And.intro u1 u3))
      clear u1 u2 u3 hz
      go_wp2_with fail
      refine bodyPost_ret (results_ct rfl _ _ (w.heap.size + 1) _ _ _ _ rfl (put4_heap ((setFar H5 3 _).trans hh7) _ _ _ _) Tryz.underlying38 rfl size_disk) rfl ?_
      exact ⟨⟨_, _, by rw [U.out.1, U.out.2.1, U.out.2.2] <;> rfl, w5.heap.size, H8, (put4_secs (q5.setOther ⟨w.heap.size, 3, none⟩ _ H4) H1 _ _ _ _).lower H2, r5.mix (put4_secs (q5.setOther ⟨w.heap.size, 3, none⟩ _ H4) H1 _ _ _ _).2.row, put4_loose (q6.setOther ⟨w.heap.size, 3, none⟩ _ H7) H6 _ _ _ _⟩, put4_below (hb7.setCell (p := ⟨w.heap.size, 3, none⟩) (Nat.le_refl _) _) H3 _ _ _ _⟩
    · have t0 : ((d.fuse : Int) == 0) = false := by rw [beq_eq_false_iff_ne]; exact hz
      obtain ⟨D, hD⟩ : ∃ D, D = d.down := ⟨_, rfl⟩
      have c3' := c3
      rw [← hD] at c3' hg7
      clear c3
      cases D with
      | true =>
      have u1 : downP d = true := by simp [downP, ← hD]
      have u2 : burnF d = d.fuse := by simp [burnF, u1]
      have u3 : burnE d = 9 := by simp [burnE, u1]
      have U := Lib.hid (And.intro u2 (And.intro u1 u3))
      clear u1 u2 u3 hz hD
      go_wp2_with fail
      refine bodyPost_ret (results_ct rfl _ _ (w.heap.size + 1) _ _ _ _ rfl (put4_heap hh7 _ _ _ _) Tryz.underlying38 rfl size_disk) rfl ?_
      exact ⟨⟨_, _, by rw [U.out.1, U.out.2.1, U.out.2.2] <;> rfl, w5.heap.size, H8, (put4_secs q5 H1 _ _ _ _).lower H2, r5.mix (put4_secs q5 H1 _ _ _ _).2.row, put4_loose q6 H6 _ _ _ _⟩, put4_below hb7 H3 _ _ _ _⟩
      | false =>
      have u1 : downP d = false := by simp [downP, ← hD, hz]
      have u3 : burnE d = 0 := by simp [burnE, u1]
      by_cases hp : 0 < d.fuse
      · have u2 : burnF d = d.fuse - 1 := by simp [burnF, u1, hp]
        have U := Lib.hid (And.intro u2 (And.intro u1 u3))
        clear u1 u2 u3 hz hD
        have hz := hp
        go_wp2_with fail
        refine bodyPost_ret (results_ct rfl _ _ (w.heap.size + 1) _ _ _ _ rfl (put4_heap ((setFar H5 2 _).trans hh7) _ _ _ _) Tryz.underlying38 rfl size_disk) rfl ?_
        exact ⟨⟨_, _, by rw [U.out.1, U.out.2.1, U.out.2.2] <;> rfl, w5.heap.size, H8, (put4_secs (q5.setOther ⟨w.heap.size, 2, none⟩ _ H4) H1 _ _ _ _).lower H2, r5.mix (put4_secs (q5.setOther ⟨w.heap.size, 2, none⟩ _ H4) H1 _ _ _ _).2.row, put4_loose (q6.setOther ⟨w.heap.size, 2, none⟩ _ H7) H6 _ _ _ _⟩, put4_below (hb7.setCell (p := ⟨w.heap.size, 2, none⟩) (Nat.le_refl _) _) H3 _ _ _ _⟩
      · have u2 : burnF d = d.fuse := by simp [burnF, u1, hp]
        have U := Lib.hid (And.intro u2 (And.intro u1 u3))
        clear u1 u2 u3 hz hD
        go_wp2_with fail
        refine bodyPost_ret (results_ct rfl _ _ (w.heap.size + 1) _ _ _ _ rfl (put4_heap hh7 _ _ _ _) Tryz.underlying38 rfl size_disk) rfl ?_
        exact ⟨⟨_, _, by rw [U.out.1, U.out.2.1, U.out.2.2] <;> rfl, w5.heap.size, H8, (put4_secs q5 H1 _ _ _ _).lower H2, r5.mix (put4_secs q5 H1 _ _ _ _).2.row, put4_loose q6 H6 _ _ _ _⟩, put4_below hb7 H3 _ _ _ _⟩
end Go.Proofs.YtaijompnohkmaaaGreatDoor
/- Building values of many cells: writes of layer 1. -/
namespace Go.Proofs.YtaijompnohkmaaaGreatDoor
open Go.RowKit
theorem fold_put (off : Nat) : ∀ (cs : List Value) (n : Nat) (A : Array Value), off + n + cs.length ≤ A.size →
    ((cs.zipIdx n).foldl (fun (a : Array Value) (x : Value × Nat) => a.setIfInBounds (off + x.2) x.1) A).toList = A.toList.take (off + n) ++ cs ++ A.toList.drop (off + n + cs.length)
  | [], n, A, _ => by simp
  | c :: cs, n, A, h => by
    rw [List.zipIdx_cons, List.foldl_cons, fold_put off cs (n + 1) _ (by simp only [Array.size_setIfInBounds, List.length_cons] at h ⊢; omega)]
    simp only [List.length_cons] at h
    have hlt : off + n < A.toList.length := by simp; omega
    simp only [Array.toList_setIfInBounds, List.length_cons]
    have e1 : off + (n + 1) = off + n + 1 := by omega
    have e2 : off + n + 1 + cs.length = off + n + (cs.length + 1) := by omega
    rw [e1, e2, List.take_add_one, List.take_set_of_le (Nat.le_refl _), List.getElem?_set_self hlt, List.drop_set_of_lt (by omega)]
    simp
theorem fold_put_arr (off : Nat) (C A : Array Value) (h : off + C.size ≤ A.size) :
    (C.zipIdx.foldl (fun (a : Array Value) (x : Value × Nat) => a.setIfInBounds (off + x.2) x.1) A) = (A.toList.take off ++ C.toList ++ A.toList.drop (off + C.size)).toArray := by
  have h1 := fold_put off C.toList 0 A (by simpa using h)
  apply Array.ext'
  rw [← Array.foldl_toList, Array.toList_zipIdx]
  simpa using h1
theorem cells_agg (A : Array Value) : (Value.agg A).cells = A := rfl
theorem cells_int (k : IntKind) (n : Int) : (Value.int k n).cells = #[.int k n] := rfl
theorem infoz_u8s : (Tryz.prog.info? 3).map (fun i => i.size) = some 1 := by kernel_rfl
theorem run_build_write {w : World} (at_ : Int) (A : Array Value) (hA : A.size = 64) :
    (Instr.build 96 #[(0, .int .i64 at_), (1, .agg A)]).run Tryz.prog w = .ok (.agg (.int .i64 at_ :: A.toList).toArray) w := by
  obtain ⟨i0, z0, hi, hz0, hz1, hz2, hz3⟩ := zero_parts infoz_write
  obtain ⟨i1, hi1, hs1⟩ := Option.map_eq_some_iff.1 infoz_u8s
  obtain ⟨i2, z2, hi2, _, hs2, _, _⟩ := zero_parts infoz_sector
  have e : (z0.cells.setIfInBounds 0 (Value.int .i64 at_)).size = 65 := by simpa using hz3
  have e1 := fold_put_arr 1 A (z0.cells.setIfInBounds 0 (Value.int .i64 at_)) (by rw [e, hA]; exact Nat.le_refl _)
  have e2 : (List.take 1 (z0.cells.setIfInBounds 0 (Value.int .i64 at_)).toList ++ A.toList ++ List.drop (1 + A.size) (z0.cells.setIfInBounds 0 (Value.int .i64 at_)).toList) = .int .i64 at_ :: A.toList := by
    rw [List.drop_eq_nil_of_le (by simp [hz3, hA]), List.append_nil]
    cases hl : z0.cells.toList with
    | nil => have := congrArg List.length hl; simp [hz3] at this
    | cons a l => simp [hl]
  rw [e2] at e1
  have e4 : z0.cells ≠ #[] := by intro h; rw [h] at hz3; simp at hz3
  simp [Instr.build, zeroValue, typeInfo, hi, hz0, run_underlying Tryz.underlying96, sizeOf, hi1, hi2, hs1, hs2, Instr.fill, cells_agg, cells_int, hA, hz3, e4]
  simpa [hA] using e1
set_option maxRecDepth 100000 in
theorem run_buildSlice_write {w : World} (A : Array Value) (hA : A.size = 65) :
    (Instr.buildSlice 36 1 #[(0, .agg A)]).run Tryz.prog w = .ok (.slice (some ⟨w.heap.size, 0, none⟩) 1 1) (w.alloc (.cells A 96)) := by
  obtain ⟨i0, z0, hi, hz0, hz1, hz2, hz3⟩ := zero_parts infoz_write
  have e1 := fold_put_arr 0 A ((Array.range 65).map (z0.cells[· % z0.cells.size]!)) (by simp [hA])
  have e2 : (List.take 0 ((Array.range 65).map (z0.cells[· % z0.cells.size]!)).toList ++ A.toList ++ List.drop (0 + A.size) ((Array.range 65).map (z0.cells[· % z0.cells.size]!)).toList) = A.toList := by
    rw [List.drop_eq_nil_of_le (by simp [hA])]; simp
  rw [e2] at e1
  simp only [Nat.zero_add] at e1
  simp [Instr.buildSlice, zeroValue, typeInfo, hi, hz0, hz1, run_underlying Tryz.underlying36, sizeOf, Instr.fill, cells_agg, cells_int, hA, hz3, newRow]
  congr 2
  simpa [hA, hz3] using e1
section
variable {P : Program} {ops : Array Oper} {rest : List Oper} {o : Oper} {a : Act} {w : World} {Q : Exit → Act → World → Prop}
/-- A load at a world that bears a name. -/
theorem wp_load_to (x : Operand) (t : TypeId) (hgd : o.guard = none) (ho : o.op = .load t x) {ad : Addr} {v : Value} {w' : World} (hw : w' = w) (hx : a.eval x = .pointer (some ad)) (hl : (loadVar t ad).run P w' = .ok v w')
    (h : wpList P ops Q rest (a.put o.dst v) w') : wpList P ops Q (o :: rest) a w := by
  subst hw
  exact wp_load_at x t hgd ho hx hl h
theorem wp_build_l (t : TypeId) (L : List (Nat × Operand)) (hgd : o.guard = none) (ho : o.op = .build t L.toArray) {v : Value} {L' : List (Nat × Value)} (hL : L.map (fun x => (x.1, a.eval x.2)) = L') (hb : (Instr.build t L'.toArray).run P w = .ok v w)
    (h : wpList P ops Q rest (a.put o.dst v) w) : wpList P ops Q (o :: rest) a w := by
  refine wpList_plain hgd fun K hK => ?_
  subst hL
  unfold Oper.wp execOp
  simp only [ho, Sem.run_bind, Sem.run_pure, Result.andThen_ok, List.map_toArray, hb]
  exact hK _ _ h
theorem wp_buildSlice_l (t : TypeId) (n : Nat) (L : List (Nat × Operand)) (hgd : o.guard = none) (ho : o.op = .buildSlice t n L.toArray) {v : Value} {w' : World} {L' : List (Nat × Value)} (hL : L.map (fun x => (x.1, a.eval x.2)) = L') (hb : (Instr.buildSlice t n L'.toArray).run P w = .ok v w')
    (h : wpList P ops Q rest (a.put o.dst v) w') : wpList P ops Q (o :: rest) a w := by
  refine wpList_plain hgd fun K hK => ?_
  subst hL
  unfold Oper.wp execOp
  simp only [ho, Sem.run_bind, Sem.run_pure, Result.andThen_ok, List.map_toArray, hb]
  exact hK _ _ h
/-! The same with the operation written out: so they fail at once, under with_reducible, where another operation stands. -/
variable {dst : Option Tmp} {ty : TypeId} {pos : String} {after : Array Edge}
theorem wp_load_r (x : Operand) (t : TypeId) {ad : Addr} {v : Value} {w' : World} (hw : w' = w) (hl : (loadVar t ad).run P w' = .ok v w') (hx : a.eval x = .pointer (some ad))
    (h : wpList P ops Q rest (a.put dst v) w') : wpList P ops Q (⟨dst, .load t x, ty, pos, after, none⟩ :: rest) a w := wp_load_to x t rfl rfl hw hx hl h
theorem wp_build_r (t : TypeId) (L : List (Nat × Operand)) {v : Value} {L' : List (Nat × Value)} (hb : (Instr.build t L'.toArray).run P w = .ok v w) (hL : L.map (fun x => (x.1, a.eval x.2)) = L')
    (h : wpList P ops Q rest (a.put dst v) w) : wpList P ops Q (⟨dst, .build t L.toArray, ty, pos, after, none⟩ :: rest) a w := wp_build_l t L rfl rfl hL hb h
theorem wp_buildSlice_r (t : TypeId) (n : Nat) (L : List (Nat × Operand)) {v : Value} {w' : World} {L' : List (Nat × Value)} (hb : (Instr.buildSlice t n L'.toArray).run P w = .ok v w') (hL : L.map (fun x => (x.1, a.eval x.2)) = L')
    (h : wpList P ops Q rest (a.put dst v) w') : wpList P ops Q (⟨dst, .buildSlice t n L.toArray, ty, pos, after, none⟩ :: rest) a w := wp_buildSlice_l t n L rfl rfl hL hb h
theorem wp_store_r (x y : Operand) (t : TypeId) {ad : Addr} {v : Value} {w' : World} (hl : (storeVar t ad v).run P w = .ok () w') (hx : a.eval x = .pointer (some ad)) (hy : a.eval y = v)
    (h : wpList P ops Q rest (a.put dst undef) w') : wpList P ops Q (⟨dst, .store t x y, ty, pos, after, none⟩ :: rest) a w := wp_store_at x y t rfl rfl hx hy hl h
end
end Go.Proofs.YtaijompnohkmaaaGreatDoor
