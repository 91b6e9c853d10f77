/- Layer 1 (sector): SectorSure, told plainly. -/
import Derived.Test.YtccjjlefpdlegaaSurePure
namespace Go.Proofs.Ytccjjlefpdlegaa
open Go.RowKit
def inR (x : WriteP) : Bool := decide (0 ≤ x.at_) && decide (x.at_ < 16)
/-- A disk of 16 sectors, up and never to fall. -/
structure Disk16 (d : DiskP) (m : Nat) : Prop where
  secs : d.secs.length = 16
  down : d.down = false
  fuse : d.fuse = -1
  at_ : ∀ x ∈ d.loose, inR x = true
  len : d.loose.length ≤ m
theorem Disk16.right {d : DiskP} {m : Nat} (h : Disk16 d m) (hm : m ≤ 200) : rightB d = true := by
  have hb : badAt d d.loose = false := by
    unfold badAt
    rw [List.any_eq_false]
    intro x hx
    have h1 := h.at_ x hx
    have h2 := h.secs
    simp only [inR, Bool.and_eq_true, decide_eq_true_eq] at h1
    simp [thereB, h2, h1]
  have h1 := h.secs
  have h2 := h.len
  have h3 := h.fuse
  simp only [rightB, fusedB, hb, Bool.and_eq_true, decide_eq_true_eq, Bool.not_false, and_true]
  omega
theorem Disk16.up {d : DiskP} {m : Nat} (h : Disk16 d m) : downP d = false ∧ burnF d = -1 := by
  have h1 := h.down
  have h2 := h.fuse
  refine ⟨by simp [downP, h1, h2], by simp [burnF, downP, h1, h2]⟩
theorem Disk16.put {d : DiskP} {m : Nat} (h : Disk16 d m) (hm : m ≤ 200) (x : WriteP) :
    (inR x = true → putP d x.at_ x.data = ({ d with loose := d.loose ++ [x], fuse := -1, down := false }, 0)) ∧ (inR x = false → putP d x.at_ x.data = (d, 1)) := by
  have hr := h.right hm
  have hs := h.secs
  obtain ⟨u1, u2⟩ := h.up
  have ht : thereB d x.at_ = inR x := by simp [thereB, inR, hs]
  refine ⟨fun hx => ?_, fun hx => ?_⟩
  · simp [putP, hr, ht, hx, u1, u2]
  · simp [putP, hr, ht, hx]
/-- Ahead of the flush, behind i writes. -/
structure SureA (l : List WriteP) (i : Nat) (d : DiskP) (sure : List (List UInt8)) : Prop where
  d16 : Disk16 d i
  loose : d.loose = (l.take i).filter inR
  zero : d.secs = List.replicate 16 zeroS
  len : sure.length = 16
  sure : ∀ a : Nat, a < 16 → sure[a]? = some (lastW d.loose a zeroS)
/-- Behind it. -/
structure SureB (l : List WriteP) (k i : Nat) (d : DiskP) (sure : List (List UInt8)) : Prop where
  d16 : Disk16 d i
  loose : d.loose = ((l.take i).drop k).filter inR
  secs : d.secs = sure
theorem take_snoc {l : List WriteP} {i : Nat} (h : i < l.length) : l.take (i + 1) = l.take i ++ [l[i]] := by rw [List.take_add_one, List.getElem?_eq_getElem h]; rfl
theorem SureA.put {l : List WriteP} {i : Nat} {d : DiskP} {sure : List (List UInt8)} (h : SureA l i d sure) (hi : i < l.length) (hl : l.length ≤ 200) :
    (inR l[i] = true → (putP d l[i].at_ l[i].data).2 = 0 ∧ SureA l (i + 1) (putP d l[i].at_ l[i].data).1 (sure.set l[i].at_.toNat l[i].data)) ∧
    (inR l[i] = false → (putP d l[i].at_ l[i].data).2 = 1 ∧ SureA l (i + 1) (putP d l[i].at_ l[i].data).1 sure) := by
  obtain ⟨p1, p2⟩ := h.d16.put (by omega) l[i]
  refine ⟨fun hx => ?_, fun hx => ?_⟩
  · rw [p1 hx]
    refine ⟨rfl, ⟨⟨h.d16.secs, rfl, rfl, ?_, ?_⟩, ?_, h.zero, by rw [List.length_set]; exact h.len, ?_⟩⟩
    · intro x hx'
      rcases List.mem_append.1 hx' with hx' | hx'
      · exact h.d16.at_ x hx'
      · rw [List.mem_singleton.1 hx']; exact hx
    · have := h.d16.len
      simp; omega
    · show d.loose ++ [l[i]] = _
      rw [take_snoc hi, List.filter_append, h.loose]
      simp [hx]
    · intro a ha
      have hb := hx
      simp only [inR, Bool.and_eq_true, decide_eq_true_eq] at hb
      show _ = some (lastW (d.loose ++ [l[i]]) a zeroS)
      rw [lastW_snoc]
      by_cases he : l[i].at_ = (a : Int)
      · have e : l[i].at_.toNat = a := by omega
        rw [if_pos he, e, List.getElem?_set_self (by rw [h.len]; exact ha)]
      · rw [if_neg he, List.getElem?_set_ne (by omega)]
        exact h.sure a ha
  · rw [p2 hx]
    refine ⟨rfl, ⟨⟨h.d16.secs, h.d16.down, h.d16.fuse, h.d16.at_, Nat.le_succ_of_le h.d16.len⟩, ?_, h.zero, h.len, h.sure⟩⟩
    rw [take_snoc hi, List.filter_append, h.loose]
    simp [hx]
theorem SureB.put {l : List WriteP} {k i : Nat} {d : DiskP} {sure : List (List UInt8)} (h : SureB l k i d sure) (hk : k ≤ i) (hi : i < l.length) (hl : l.length ≤ 200) :
    (inR l[i] = true → (putP d l[i].at_ l[i].data).2 = 0) ∧ (inR l[i] = false → (putP d l[i].at_ l[i].data).2 = 1) ∧ SureB l k (i + 1) (putP d l[i].at_ l[i].data).1 sure := by
  obtain ⟨p1, p2⟩ := h.d16.put (by omega) l[i]
  have ed : (l.take (i + 1)).drop k = (l.take i).drop k ++ [l[i]] := by
    rw [take_snoc hi, List.drop_append_of_le_length (by rw [List.length_take]; omega)]
  refine ⟨fun hx => by rw [p1 hx], fun hx => by rw [p2 hx], ?_⟩
  cases hx : inR l[i] with
  | true =>
    rw [p1 hx]
    refine ⟨⟨h.d16.secs, rfl, rfl, ?_, ?_⟩, ?_, h.secs⟩
    · intro x hx'
      rcases List.mem_append.1 hx' with hx' | hx'
      · exact h.d16.at_ x hx'
      · rw [List.mem_singleton.1 hx']; exact hx
    · have := h.d16.len
      simp; omega
    · show d.loose ++ [l[i]] = _
      rw [ed, List.filter_append, h.loose]
      simp [hx]
  | false =>
    rw [p2 hx]
    refine ⟨⟨h.d16.secs, h.d16.down, h.d16.fuse, h.d16.at_, Nat.le_succ_of_le h.d16.len⟩, ?_, h.secs⟩
    rw [ed, List.filter_append, h.loose]
    simp [hx]
theorem SureA.flush {l : List WriteP} {k : Nat} {d : DiskP} {sure : List (List UInt8)} (h : SureA l k d sure) (hk : k ≤ l.length) (hl : l.length ≤ 200) :
    (flushP d).2 = 0 ∧ SureB l k k (flushP d).1 sure := by
  have hr := h.d16.right (by omega)
  obtain ⟨u1, u2⟩ := h.d16.up
  have e : flushP d = (⟨settleN d.secs d.loose (fun _ => true) d.loose.length, [], -1, false⟩, 0) := by simp [flushP, hr, u1, u2]
  rw [e]
  refine ⟨rfl, ⟨⟨by show (settleN _ _ _ _).length = 16; rw [length_settleN]; exact h.d16.secs, rfl, rfl, fun x hx => absurd hx List.not_mem_nil, Nat.zero_le _⟩, ?_, ?_⟩⟩
  · rw [List.drop_eq_nil_of_le (by rw [List.length_take]; omega)]; rfl
  · show settleN d.secs d.loose (fun _ => true) d.loose.length = sure
    apply List.ext_getElem?
    intro a
    by_cases ha : a < 16
    · have hs : a < d.secs.length := by rw [h.d16.secs]; exact ha
      rw [settle_all d.secs d.loose a hs (fun x hx => by have := h.d16.at_ x hx; simp only [inR, Bool.and_eq_true, decide_eq_true_eq] at this; exact this.1) d.loose.length (Nat.le_refl _), h.sure a ha, List.take_length]
      have e0 : d.secs[a]? = some zeroS := by rw [h.zero, List.getElem?_replicate, if_pos ha]
      rw [List.getElem?_eq_getElem hs] at e0
      have := Option.some.inj e0
      rw [this]
    · rw [List.getElem?_eq_none (by rw [length_settleN, h.d16.secs]; omega), List.getElem?_eq_none (by rw [h.len]; omega)]
theorem SureA.new (l : List WriteP) : (newP 16).2 = 0 ∧ SureA l 0 (newP 16).1 (List.replicate 16 zeroS) := by
  refine ⟨rfl, ⟨⟨by decide, rfl, rfl, fun x hx => absurd hx List.not_mem_nil, Nat.zero_le _⟩, rfl, rfl, by simp, fun a ha => ?_⟩⟩
  rw [List.getElem?_replicate, if_pos ha]
  rfl
/-- What is read behind the start. -/
theorem SureB.start {l : List WriteP} {k : Nat} {d : DiskP} {sure : List (List UInt8)} (h : SureB l k l.length d sure) (hl : l.length ≤ 200) (mask : Int) :
    (startP d mask).2 = 0 ∧ ∀ a : Nat, a < 16 → (readP (startP d mask).1 a).2 = 0 ∧ ((readP (startP d mask).1 a).1 = sure[a]?.getD zeroS ∨ ∃ j, k ≤ j ∧ ∃ hj : j < l.length, l[j].at_ = (a : Int) ∧ l[j].data = (readP (startP d mask).1 a).1) := by
  have hr := h.d16.right hl
  have hs := h.d16.secs
  have e : startP d mask = (⟨settleN d.secs d.loose (stay mask) d.loose.length, [], -1, false⟩, 0) := by simp [startP, hr]
  rw [e]
  refine ⟨rfl, fun a ha => ?_⟩
  have hr2 : rightB ⟨settleN d.secs d.loose (stay mask) d.loose.length, [], -1, false⟩ = true := by
    simp [rightB, fusedB, badAt, length_settleN, hs]
  have ht2 : thereB ⟨settleN d.secs d.loose (stay mask) d.loose.length, [], -1, false⟩ (a : Int) = true := by
    simp [thereB, length_settleN, hs]; omega
  have er : readP ⟨settleN d.secs d.loose (stay mask) d.loose.length, [], -1, false⟩ (a : Int) = ((settleN d.secs d.loose (stay mask) d.loose.length)[a]?.getD zeroS, 0) := by
    simp [readP, hr2, ht2, lastW]
  rw [er]
  refine ⟨rfl, ?_⟩
  rcases settle_or d.secs d.loose (stay mask) a d.loose.length with h1 | ⟨x, h1, h2, _, h4⟩
  · left
    show (settleN d.secs d.loose (stay mask) d.loose.length)[a]?.getD zeroS = _
    rw [h1, h.secs]
  · right
    rw [List.take_length] at h1
    rw [h.loose] at h1
    obtain ⟨h1, h5⟩ := List.mem_filter.1 h1
    rw [List.take_length] at h1
    obtain ⟨j, hj, rfl⟩ := List.getElem_of_mem h1
    rw [List.length_drop] at hj
    simp only [inR, Bool.and_eq_true, decide_eq_true_eq] at h5
    rw [List.getElem_drop] at h2 h4 h5
    exact ⟨k + j, by omega, by omega, by omega, by simp only [h4, Option.getD_some]⟩
end Go.Proofs.Ytccjjlefpdlegaa
