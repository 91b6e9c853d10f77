/- Layer 1 (sector): what a settled disk holds. -/
import Derived.Test.YtccjjlefpdlegaaView
namespace Go.Proofs.Ytccjjlefpdlegaa
open Go.RowKit
/-- Each sector of a settled disk is what it was, or the data of a loose write into it. -/
theorem settle_or (ss : List (List UInt8)) (ls : List WriteP) (st : Nat → Bool) (at_ : Nat) : ∀ k, (settleN ss ls st k)[at_]? = ss[at_]? ∨ ∃ x, x ∈ ls.take k ∧ x.at_.toNat = at_ ∧ at_ < ss.length ∧ (settleN ss ls st k)[at_]? = some x.data
  | 0 => .inl rfl
  | k + 1 => by
    have ih := settle_or ss ls st at_ k
    have sub : ∀ x, x ∈ ls.take k → x ∈ ls.take (k + 1) := fun x hx => by
      rw [List.mem_take_iff_getElem] at hx ⊢
      obtain ⟨j, hj, e⟩ := hx
      exact ⟨j, by omega, e⟩
    have ih' : (settleN ss ls st k)[at_]? = ss[at_]? ∨ ∃ x, x ∈ ls.take (k + 1) ∧ x.at_.toNat = at_ ∧ at_ < ss.length ∧ (settleN ss ls st k)[at_]? = some x.data := by
      rcases ih with ih | ⟨x, h1, h2, h3, h4⟩
      · exact .inl ih
      · exact .inr ⟨x, sub x h1, h2, h3, h4⟩
    show (match ls[k]? with | some x => if st k then (settleN ss ls st k).set x.at_.toNat x.data else settleN ss ls st k | none => settleN ss ls st k)[at_]? = _ ∨ ∃ x, _ ∧ _ ∧ _ ∧ (match ls[k]? with | some x => if st k then (settleN ss ls st k).set x.at_.toNat x.data else settleN ss ls st k | none => settleN ss ls st k)[at_]? = _
    cases hk : ls[k]? with
    | none => exact ih'
    | some x =>
      cases hs : st k with
      | false => simpa using ih'
      | true =>
        simp only [if_true]
        by_cases he : x.at_.toNat = at_
        · by_cases hl : at_ < ss.length
          · right
            refine ⟨x, ?_, he, hl, ?_⟩
            · rw [List.mem_take_iff_getElem]
              obtain ⟨hlt, e⟩ := List.getElem?_eq_some_iff.1 hk
              exact ⟨k, by omega, e⟩
            · rw [he, List.getElem?_set_self (by rw [length_settleN]; exact hl)]
          · left
            rw [List.getElem?_eq_none (by simp [length_settleN]; omega), List.getElem?_eq_none (by omega)]
        · rw [List.getElem?_set_ne he]
          exact ih'
/-- All loose writes done: the last one into a sector is what it holds. -/
theorem settle_all (ss : List (List UInt8)) (ls : List WriteP) (at_ : Nat) (hl : at_ < ss.length) (h0 : ∀ x ∈ ls, 0 ≤ x.at_) : ∀ k, k ≤ ls.length → (settleN ss ls (fun _ => true) k)[at_]? = some (lastW (ls.take k) at_ ss[at_])
  | 0, _ => by simp [settleN, lastW, hl]
  | k + 1, hk => by
    have ih := settle_all ss ls at_ hl h0 k (by omega)
    have hlt : k < ls.length := by omega
    have e : ls.take (k + 1) = ls.take k ++ [ls[k]] := by rw [List.take_add_one, List.getElem?_eq_getElem hlt]; rfl
    rw [e, lastW_snoc]
    show (match ls[k]? with | some x => if true = true then (settleN ss ls (fun _ => true) k).set x.at_.toNat x.data else settleN ss ls (fun _ => true) k | none => settleN ss ls (fun _ => true) k)[at_]? = _
    rw [List.getElem?_eq_getElem hlt]
    simp only [if_true]
    have hp := h0 ls[k] (List.getElem_mem hlt)
    by_cases he : ls[k].at_ = (at_ : Int)
    · rw [if_pos he]
      have : ls[k].at_.toNat = at_ := by omega
      rw [this, List.getElem?_set_self (by rw [length_settleN]; exact hl)]
    · rw [if_neg he, List.getElem?_set_ne (by omega)]
      exact ih
end Go.Proofs.Ytccjjlefpdlegaa
