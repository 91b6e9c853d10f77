/- Layer 1 (sector): an armed disk, behind so many deeds. -/
import Derived.Test.YtccjjlefpdlegabHelp
namespace Go.Proofs.Ytccjjlefpdlegab
open Go.RowKit
/-- Behind i rounds of an armed disk of k deeds. -/
structure FuseInv (k i : Nat) (d : DiskP) : Prop where
  secs : d.secs.length = 3
  at1 : ∀ x ∈ d.loose, x.at_ = 1
  len : d.loose.length ≤ i
  fuse : d.fuse = ((k - i : Nat) : Int)
  down : d.down = decide (k < i)
theorem FuseInv.right {k i : Nat} {d : DiskP} (h : FuseInv k i d) (hk : k < 256) (hi : i ≤ 300) : rightB d = true := by
  have hb : badAt d d.loose = false := by
    unfold badAt
    rw [List.any_eq_false]
    intro x hx
    have := h.at1 x hx
    have := h.secs
    simp [thereB, *]
  have h1 := h.secs
  have h2 := h.len
  have h3 := h.fuse
  simp only [rightB, fusedB, hb, Bool.and_eq_true, decide_eq_true_eq, Bool.not_false, and_true]
  omega
theorem FuseInv.downP {k i : Nat} {d : DiskP} (h : FuseInv k i d) : downP d = decide (k ≤ i) := by
  unfold Go.Proofs.Ytccjjlefpdlegab.downP
  rw [h.down, h.fuse]
  by_cases h1 : k ≤ i
  · by_cases h2 : k < i
    · simp [h1, h2]
    · have : k - i = 0 := by omega
      simp [h1, this]
  · have h2 : ¬ k < i := by omega
    have h3 : ¬ (((k - i : Nat) : Int) = 0) := by omega
    simp only [h1, h2, decide_false, Bool.false_or]
    exact beq_eq_false_iff_ne.2 h3
theorem FuseInv.there {k i : Nat} {d : DiskP} (h : FuseInv k i d) : thereB d 1 = true := by
  have := h.secs
  simp [thereB, this]
theorem FuseInv.put {k i : Nat} {d : DiskP} (h : FuseInv k i d) (hk : k < 256) (hi : i ≤ 300) (data : List UInt8) :
    (putP d 1 data).2 = (if i < k then 0 else 9) ∧ FuseInv k (i + 1) (putP d 1 data).1 := by
  have hr := h.right hk hi
  have ht := h.there
  have hd := h.downP
  by_cases h1 : i < k
  · have hd' : Go.Proofs.Ytccjjlefpdlegab.downP d = false := by rw [hd]; simp; omega
    have hb : burnF d = d.fuse - 1 := by
      have := h.fuse
      have : 0 < d.fuse := by omega
      simp [burnF, hd', this]
    simp only [putP, hr, ht, hd', Bool.and_self, if_true, Bool.false_eq_true, if_false, h1]
    refine ⟨trivial, h.secs, ?_, ?_, ?_, ?_⟩
    · intro x hx
      rcases List.mem_append.1 hx with hx | hx
      · exact h.at1 x hx
      · rw [List.mem_singleton.1 hx]
    · have := h.len
      simp; omega
    · show burnF d = _
      rw [hb, h.fuse]; omega
    · show false = _
      symm; rw [decide_eq_false_iff_not]; omega
  · have hd' : Go.Proofs.Ytccjjlefpdlegab.downP d = true := by rw [hd]; simp; omega
    have hb : burnF d = d.fuse := by simp [burnF, hd']
    simp only [putP, hr, ht, hd', Bool.and_self, if_true, h1, if_false]
    refine ⟨trivial, h.secs, h.at1, Nat.le_succ_of_le h.len, ?_, ?_⟩
    · show burnF d = _
      rw [hb, h.fuse]; omega
    · show true = _
      symm; rw [decide_eq_true_eq]; omega
theorem FuseInv.flush {k i : Nat} {d : DiskP} (h : FuseInv k i d) (hk : k < 256) (hi : i ≤ 300) :
    (flushP d).2 = (if i < k then 0 else 9) ∧ FuseInv k (i + 1) (flushP d).1 := by
  have hr := h.right hk hi
  have hd := h.downP
  by_cases h1 : i < k
  · have hd' : Go.Proofs.Ytccjjlefpdlegab.downP d = false := by rw [hd]; simp; omega
    have hb : burnF d = d.fuse - 1 := by
      have := h.fuse
      have : 0 < d.fuse := by omega
      simp [burnF, hd', this]
    simp only [flushP, hr, hd', if_true, Bool.false_eq_true, if_false, h1]
    refine ⟨trivial, ?_, ?_, Nat.zero_le _, ?_, ?_⟩
    · show (settleN _ _ _ _).length = 3
      rw [length_settleN]; exact h.secs
    · intro x hx
      exact absurd hx List.not_mem_nil
    · show burnF d = _
      rw [hb, h.fuse]; omega
    · show false = _
      symm; rw [decide_eq_false_iff_not]; omega
  · have hd' : Go.Proofs.Ytccjjlefpdlegab.downP d = true := by rw [hd]; simp; omega
    have hb : burnF d = d.fuse := by simp [burnF, hd']
    simp only [flushP, hr, hd', if_true, h1, if_false]
    refine ⟨trivial, h.secs, h.at1, Nat.le_succ_of_le h.len, ?_, ?_⟩
    · show burnF d = _
      rw [hb, h.fuse]; omega
    · show true = _
      symm; rw [decide_eq_true_eq]; omega
theorem FuseInv.start {k i : Nat} {d : DiskP} (h : FuseInv k i d) (hk : k < 256) (hi : i ≤ 300) :
    (startP d 0).2 = 0 ∧ (startP d 0).1.down = false ∧ (startP d 0).1.fuse = -1 := by
  simp [startP, h.right hk hi]
theorem FuseInv.arm {k : Nat} (hk : k < 256) : (newP 3).2 = 0 ∧ (armP (newP 3).1 k).2 = 0 ∧ FuseInv k 0 (armP (newP 3).1 k).1 := by
  have h1 : rightB (newP 3).1 = true := by decide
  have h2 : fusedB k = true := by simp only [fusedB, Bool.and_eq_true, decide_eq_true_eq]; omega
  have h3 : (newP 3).1.secs.length = 3 := by decide
  have h4 : (newP 3).1.loose = [] := rfl
  refine ⟨rfl, by simp [armP, h1, h2], ?_⟩
  simp only [armP, h1, h2, Bool.and_self, if_true]
  refine ⟨h3, ?_, ?_, ?_, ?_⟩
  · intro x hx
    rw [h4] at hx
    exact absurd hx List.not_mem_nil
  · rw [h4]; exact Nat.zero_le _
  · simp
  · show (newP 3).1.down = _
    simp; rfl
theorem DSl.and {S S' : Nat → Prop} {v : Value} (h : DSl S v) (h' : DSl S' v) : DSl (fun b => S b ∧ S' b) v := fun sv lv f dn e =>
  ⟨fun a n c e' hp => ⟨(h _ _ _ _ e).1 a n c e' hp, (h' _ _ _ _ e).1 a n c e' hp⟩, fun a n c e' hp => ⟨(h _ _ _ _ e).2 a n c e' hp, (h' _ _ _ _ e).2 a n c e' hp⟩⟩
theorem DSl.imp {S S' : Nat → Prop} {v : Value} (h : DSl S v) (hi : ∀ b, S b → S' b) : DSl S' v := fun sv lv f dn e =>
  ⟨fun a n c e' hp => hi _ ((h _ _ _ _ e).1 a n c e' hp), fun a n c e' hp => hi _ ((h _ _ _ _ e).2 a n c e' hp)⟩
end Go.Proofs.Ytccjjlefpdlegab
