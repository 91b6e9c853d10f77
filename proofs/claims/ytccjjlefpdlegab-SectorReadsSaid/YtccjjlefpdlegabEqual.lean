/- slices.Equal on sectors. -/
import Derived.Test.YtccjjlefpdlegabHelp
import Derived.StillTailTactics
import Derived.Test.YtccjjlefpdlegabStillLoad
namespace Go.Proofs.Ytccjjlefpdlegab
open Go.RowKit
theorem equal_int (d : Nat) (a : Int) (w : World) : (Op.equalIn (d + 1) 3 (.int .i64 a) (.int .i64 a)).run Try.prog w = .ok true w := by
  simp [Op.equalIn, run_underlying Try.underlying3]
theorem wextract {x : WriteP} (hx : x.data.length = 64) : (wcells x).toArray.extract 1 65 = (u8s x.data).toArray := by
  simp [wcells]
  rw [List.take_of_length_le (by rw [length_u8s]; omega)]
/-- A row's element, loaded. -/
theorem load_sec {B : Nat} {w : World} {a : Option Addr} {n c : Nat} {ss : List (List UInt8)} (h : Secs B w (.slice a n c) ss) {k : Nat} (hk : k < ss.length) :
    ∃ b off, a = some ⟨b, off, none⟩ ∧ b < B ∧ n = ss.length ∧ n ≤ c ∧ c ≤ 2 ^ 63 - 1 ∧ ∀ w', (∀ p : Addr, p.block < B → w'.cell? p = w.cell? p) → (loadVar 33 ⟨b, off + k * 64, none⟩).run Try.prog w' = .ok (.agg (u8s ss[k]).toArray) w' := by
  obtain ⟨h64, _, a', cap, hv, hnc, hcap, hcells⟩ := h
  cases hv
  obtain ⟨b, off, rfl, hBb, hc⟩ := hcells (by omega)
  obtain ⟨i44, hi44, hs44⟩ := info44
  have hat := flat_at u8s 64 ss (fun x hx => by rw [length_u8s, h64 x hx]) k ss[k] (List.getElem?_eq_getElem hk)
  exact ⟨b, off, rfl, hBb, rfl, hnc, hcap, fun w' hw => run_load_big (P := Try.prog) (t := 33) Try.underlying33 (.inl ⟨_, _, rfl⟩) hi44 (w := w') (b := b) (off := off + k * 64) (cs := u8s ss[k]) hs44 (by rw [length_u8s, h64 _ (List.getElem_mem hk)])
    (fun j u hj => by rw [Nat.add_assoc]; exact (hw ⟨b, off + (k * 64 + j), none⟩ hBb).trans (hc _ _ (hat j u hj)))⟩
theorem load_loose {B : Nat} {w : World} {a : Option Addr} {n c : Nat} {ss : List WriteP} (h : Loose B w (.slice a n c) ss) {k : Nat} (hk : k < ss.length) :
    ∃ b off, a = some ⟨b, off, none⟩ ∧ b < B ∧ n = ss.length ∧ n ≤ c ∧ c ≤ 2 ^ 63 - 1 ∧ ∀ w', (∀ p : Addr, p.block < B → w'.cell? p = w.cell? p) → (loadVar 46 ⟨b, off + k * 65, none⟩).run Try.prog w' = .ok (.agg (wcells ss[k]).toArray) w' := by
  obtain ⟨h64, _, a', cap, hv, hnc, hcap, hcells⟩ := h
  cases hv
  obtain ⟨b, off, rfl, hBb, hc⟩ := hcells (by omega)
  obtain ⟨i46, hi46, hs46⟩ := info46
  have hat := flat_at wcells 65 ss (fun x hx => by rw [length_wcells, h64 x hx]) k ss[k] (List.getElem?_eq_getElem hk)
  exact ⟨b, off, rfl, hBb, rfl, hnc, hcap, fun w' hw => run_load_big (P := Try.prog) (t := 46) Try.underlying46 (.inr ⟨_, rfl⟩) hi46 (w := w') (b := b) (off := off + k * 65) (cs := wcells ss[k]) hs46 (by rw [length_wcells, h64 _ (List.getElem_mem hk)])
    (fun j u hj => by rw [Nat.add_assoc]; exact (hw ⟨b, off + (k * 65 + j), none⟩ hBb).trans (hc _ _ (hat j u hj)))⟩
set_option maxRecDepth 100000 in
set_option maxHeartbeats 2000000 in
theorem equalS_any {B B' : Nat} (v v' : Value) (ss ss' : List (List UInt8)) (w : World) (h : Secs B w v ss) (h' : Secs B' w v' ss') :
    Calls Try.prog 28 #[v, v'] w fun e w' => e = .returned (.bool (decide (ss = ss'))) ∧ Below w.heap.size w w' := by
  have hs := h.tight
  have hs' := h'.tight
  clear h h'
  have HS := Lib.hid hs
  have HS' := Lib.hid hs'
  obtain ⟨_, _, a1, n1, rfl, q1, p1, _⟩ := hs
  obtain ⟨_, _, c1, m1, rfl, q2, p2, _⟩ := hs'
  unfold maxLen at p1 p2
  obtain ⟨L, hL⟩ : ∃ L, L = ss.length := ⟨_, rfl⟩
  obtain ⟨M, hM⟩ : ∃ M, M = ss'.length := ⟨_, rfl⟩
  rw [← hL] at q1 HS ⊢
  rw [← hM] at q2 HS' ⊢
  have HL := Lib.hid hL
  have HM := Lib.hid hM
  clear hL hM
  by_cases hLM : L = M
  · subst hLM
    go_enter Try.func28, Try.ntmps28
    go_wp2_with fail
    go_loopw [13] (fun i wr => ∃ k : Nat, k ≤ L ∧ i = .int .i64 k ∧ (∀ j, j < k → ss[j]? = ss'[j]?) ∧ Below w.heap.size w wr) (fun i _ => L - (intOf i).toNat)
    case atStart => exact ⟨0, Nat.zero_le _, rfl, fun j h => absurd h (Nat.not_lt_zero _), Below.refl _ _⟩
    case round =>
      obtain ⟨k, hk, rfl, hpre, hb⟩ := hrel
      have HP := Lib.hid hpre
      clear hpre
      by_cases hlt : k < L
      · have h1 : k < ss.length := HL.out ▸ hlt
        have h2 : k < ss'.length := HM.out ▸ hlt
        obtain ⟨ba, oa, rfl, hBa, e1, _, _, hlA⟩ := load_sec HS.out h1
        obtain ⟨bb, ob, rfl, hBb, e2, _, _, hlB⟩ := load_sec HS'.out h2
        have hlA := hlA wr.drew (fun p hp => hb.cell hp)
        have hlB := hlB wr.drew (fun p hp => hb.cell hp)
        obtain ⟨X, hX⟩ : ∃ X, X = (u8s ss[k]).toArray := ⟨_, rfl⟩
        obtain ⟨Y, hY⟩ : ∃ Y, Y = (u8s ss'[k]).toArray := ⟨_, rfl⟩
        obtain ⟨q, hq0⟩ : ∃ q, q = decide (ss[k] = ss'[k]) := ⟨_, rfl⟩
        have hq : (Op.equalIn 10000 33 (.agg X) (.agg Y)).run Try.prog wr.drew = .ok q wr.drew := by
          rw [hX, hY, hq0]
          exact equal44 (HS.out.1 _ (List.getElem_mem h1)) (HS'.out.1 _ (List.getElem_mem h2)) _
        rw [← hX] at hlA
        rw [← hY] at hlB
        have HQ := Lib.hid hq0
        clear hX hY e1 e2 hq0
        have hB2 := below_draws hb 1
        cases q with
        | true =>
          go_wp2_with fail
          refine wp_region_still_lit (by kernel_rfl) (by kernel_rfl) ?_
          repeat still_step
          refine still_load (.tmp 18) 33 rfl rfl rfl hlA ?_
          repeat still_step
          refine still_load (.tmp 22) 33 rfl rfl rfl hlB ?_
          repeat still_step
          refine wpStill_nil ?_
          change Exit.then _ _ _ _ (wr.drewN 1)
          go_wp2_with fail
          go_roundw
          case rel =>
            refine ⟨k + 1, by omega, by go_num, fun j hj => ?_, hB2⟩
            by_cases hjk : j < k
            · exact HP.out j hjk
            · obtain rfl : j = k := by omega
              rw [List.getElem?_eq_getElem h1, List.getElem?_eq_getElem h2, of_decide_eq_true HQ.out.symm]
          case measure => simp [intOf]; omega
        | false =>
          go_wp2_with fail
          refine wp_region_still_lit (by kernel_rfl) (by kernel_rfl) ?_
          repeat still_step
          refine still_load (.tmp 18) 33 rfl rfl rfl hlA ?_
          repeat still_step
          refine still_load (.tmp 22) 33 rfl rfl rfl hlB ?_
          repeat still_step
          refine wpStill_nil ?_
          change Exit.then _ _ _ _ (wr.drewN 1)
          go_wp2_with fail
          go_ret
          have hd : decide (ss = ss') = false := decide_eq_false (fun e => by
            have := of_decide_eq_false HQ.out.symm
            subst e
            exact this rfl)
          exact ⟨by rw [hd]; rfl, hB2⟩
      · go_wp2_with fail
        go_ret
        have hd : decide (ss = ss') = true := decide_eq_true (List.ext_getElem? fun j => by
          by_cases hj : j < L
          · exact HP.out j (by omega)
          · have := HL.out
            have := HM.out
            rw [List.getElem?_eq_none (by omega), List.getElem?_eq_none (by omega)])
        exact ⟨by rw [hd]; rfl, hb⟩
  · have hne : ((L : Int) == (M : Int)) = false := by rw [beq_eq_false_iff_ne]; omega
    go_enter Try.func28, Try.ntmps28
    go_wp2_with fail
    go_ret
    have hd : decide (ss = ss') = false := decide_eq_false (fun e => by
      have h1 := HL.out
      have h2 := HM.out
      rw [e] at h1
      omega)
    exact ⟨by rw [hd]; rfl, Below.refl _ _⟩
end Go.Proofs.Ytccjjlefpdlegab
