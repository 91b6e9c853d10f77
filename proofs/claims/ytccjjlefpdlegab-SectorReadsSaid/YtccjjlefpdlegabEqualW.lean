/- slices.Equal on writes. -/
import Derived.Test.YtccjjlefpdlegabEqual
namespace Go.Proofs.Ytccjjlefpdlegab
open Go.RowKit
def pr (x : WriteP) : Int × List UInt8 := (x.at_, x.data)
theorem equal_ints (d : Nat) (a b : Int) (w : World) : (Op.equalIn (d + 1) 3 (.int .i64 a) (.int .i64 b)).run Try.prog w = .ok (decide (a = b)) w := by
  simp [Op.equalIn, run_underlying Try.underlying3]
  by_cases h : a = b <;> simp [h]
set_option maxRecDepth 100000 in
set_option maxHeartbeats 2000000 in
theorem equalW_any {B B' : Nat} (v v' : Value) (ss ss' : List WriteP) (w : World) (h : Loose B w v ss) (h' : Loose B' w v' ss') :
    Calls Try.prog 29 #[v, v'] w fun e w' => e = .returned (.bool (decide (ss.map pr = ss'.map pr))) ∧ Below w.heap.size w w' := by
  have hs := h.tight
  have hs' := h'.tight
  clear h h'
  have HS := Lib.hid hs
  have HS' := Lib.hid hs'
  obtain ⟨_, _, a1, n1, rfl, q1, p1, _⟩ := hs
  obtain ⟨_, _, c1, m1, rfl, q2, p2, _⟩ := hs'
  unfold maxLen at p1 p2
  obtain ⟨L, hL⟩ : ∃ L, L = ss.length := ⟨_, rfl⟩
  obtain ⟨M, hM⟩ : ∃ M, M = ss'.length := ⟨_, rfl⟩
  rw [← hL] at q1 HS ⊢
  rw [← hM] at q2 HS' ⊢
  have HL := Lib.hid hL
  have HM := Lib.hid hM
  clear hL hM
  have hg46 : Try.prog.eqGuardType Try.prog.depth 46 = false := by kernel_rfl
  by_cases hLM : L = M
  · subst hLM
    go_enter Try.func29, Try.ntmps29
    go_wp2_with fail
    go_loopw [13] (fun i wr => ∃ k : Nat, k ≤ L ∧ i = .int .i64 k ∧ (∀ j, j < k → (ss.map pr)[j]? = (ss'.map pr)[j]?) ∧ Below w.heap.size w wr) (fun i _ => L - (intOf i).toNat)
    case atStart => exact ⟨0, Nat.zero_le _, rfl, fun j h => absurd h (Nat.not_lt_zero _), Below.refl _ _⟩
    case round =>
      obtain ⟨k, hk, rfl, hpre, hb⟩ := hrel
      have HP := Lib.hid hpre
      clear hpre
      by_cases hlt : k < L
      · have h1 : k < ss.length := HL.out ▸ hlt
        have h2 : k < ss'.length := HM.out ▸ hlt
        obtain ⟨ba, oa, rfl, hBa, e1, _, _, hlA⟩ := load_loose HS.out h1
        obtain ⟨bb, ob, rfl, hBb, e2, _, _, hlB⟩ := load_loose HS'.out h2
        have hlA := hlA wr.drew (fun p hp => hb.cell hp)
        have hlB := hlB wr.drew (fun p hp => hb.cell hp)
        obtain ⟨X, hX⟩ : ∃ X, X = (wcells ss[k]).toArray := ⟨_, rfl⟩
        obtain ⟨Y, hY⟩ : ∃ Y, Y = (wcells ss'[k]).toArray := ⟨_, rfl⟩
        have g1 := HS.out.1 _ (List.getElem_mem h1)
        have g2 := HS'.out.1 _ (List.getElem_mem h2)
        obtain ⟨x, hx⟩ : ∃ x, x = ss[k].at_ := ⟨_, rfl⟩
        obtain ⟨y, hy⟩ : ∃ y, y = ss'[k].at_ := ⟨_, rfl⟩
        obtain ⟨q, hqd⟩ : ∃ q, q = decide (ss[k].data = ss'[k].data) := ⟨_, rfl⟩
        have hX0 : X[0]? = some (.int .i64 x) := by rw [hX, hx]; simp [wcells]
        have hY0 : Y[0]? = some (.int .i64 y) := by rw [hY, hy]; simp [wcells]
        have hq : (Op.equalIn 9999 33 (.agg (X.extract 1 65)) (.agg (Y.extract 1 65))).run Try.prog wr.drew = .ok q wr.drew := by
          rw [hX, hY, wextract g1, wextract g2, hqd]
          exact equal44_in 9997 g1 g2 _
        have HE := Lib.hid (show (decide (x = y) && q) = decide (pr ss[k] = pr ss'[k]) by
          rw [hqd, hx, hy]
          simp only [pr, Prod.mk.injEq, Bool.decide_and])
        rw [← hX] at hlA
        rw [← hY] at hlB
        clear hX hY e1 e2 hqd hx hy g1 g2
        have hB2 := below_draws hb 1
        by_cases hxy : x = y
        · subst hxy
          have HE := Lib.hid (show q = decide (pr ss[k] = pr ss'[k]) by rw [← HE.out]; simp)
          cases q with
          | true =>
            go_wp2_with fail
            refine wp_region_still_lit (by kernel_rfl) (by kernel_rfl) ?_
            repeat still_step
            refine still_load (.tmp 18) 46 rfl rfl rfl hlA ?_
            repeat still_step
            refine still_load (.tmp 22) 46 rfl rfl rfl hlB ?_
            repeat still_step
            refine wpStill_nil ?_
            change Exit.then _ _ _ _ (wr.drewN 1)
            go_wp2_with fail
            go_roundw
            case rel =>
              refine ⟨k + 1, by omega, by go_num, fun j hj => ?_, hB2⟩
              by_cases hjk : j < k
              · exact HP.out j hjk
              · obtain rfl : j = k := by omega
                rw [List.getElem?_map, List.getElem?_map, List.getElem?_eq_getElem h1, List.getElem?_eq_getElem h2, Option.map_some, Option.map_some, of_decide_eq_true HE.out.symm]
            case measure => simp [intOf]; omega
          | false =>
            go_wp2_with fail
            refine wp_region_still_lit (by kernel_rfl) (by kernel_rfl) ?_
            repeat still_step
            refine still_load (.tmp 18) 46 rfl rfl rfl hlA ?_
            repeat still_step
            refine still_load (.tmp 22) 46 rfl rfl rfl hlB ?_
            repeat still_step
            refine wpStill_nil ?_
            change Exit.then _ _ _ _ (wr.drewN 1)
            go_wp2_with fail
            go_ret
            have hd : decide (ss.map pr = ss'.map pr) = false := decide_eq_false (fun e => by
              have := of_decide_eq_false HE.out.symm
              have e2 := congrArg (fun l => l[k]?) e
              simp only [List.getElem?_map, List.getElem?_eq_getElem h1, List.getElem?_eq_getElem h2, Option.map_some, Option.some.injEq] at e2
              exact this e2)
            exact ⟨by rw [hd]; rfl, hB2⟩
        · have HE := Lib.hid (show false = decide (pr ss[k] = pr ss'[k]) by rw [← HE.out]; simp [hxy])
          go_wp2_with fail
          refine wp_region_still_lit (by kernel_rfl) (by kernel_rfl) ?_
          repeat still_step
          refine still_load (.tmp 18) 46 rfl rfl rfl hlA ?_
          repeat still_step
          refine still_load (.tmp 22) 46 rfl rfl rfl hlB ?_
          repeat still_step
          refine wpStill_nil ?_
          change Exit.then _ _ _ _ (wr.drewN 1)
          go_wp2_with fail
          go_ret
          have hd : decide (ss.map pr = ss'.map pr) = false := decide_eq_false (fun e => by
            have := of_decide_eq_false HE.out.symm
            have e2 := congrArg (fun l => l[k]?) e
            simp only [List.getElem?_map, List.getElem?_eq_getElem h1, List.getElem?_eq_getElem h2, Option.map_some, Option.some.injEq] at e2
            exact this e2)
          exact ⟨by rw [hd]; rfl, hB2⟩
      · go_wp2_with fail
        go_ret
        have hd : decide (ss.map pr = ss'.map pr) = true := decide_eq_true (List.ext_getElem? fun j => by
          by_cases hj : j < L
          · exact HP.out j (by omega)
          · have := HL.out
            have := HM.out
            rw [List.getElem?_eq_none (by rw [List.length_map]; omega), List.getElem?_eq_none (by rw [List.length_map]; omega)])
        exact ⟨by rw [hd]; rfl, hb⟩
  · have hne : ((L : Int) == (M : Int)) = false := by rw [beq_eq_false_iff_ne]; omega
    go_enter Try.func29, Try.ntmps29
    go_wp2_with fail
    go_ret
    have hd : decide (ss.map pr = ss'.map pr) = false := decide_eq_false (fun e => by
      have h1 := HL.out
      have h2 := HM.out
      have e2 := congrArg List.length e
      rw [List.length_map, List.length_map] at e2
      omega)
    exact ⟨by rw [hd]; rfl, Below.refl _ _⟩
end Go.Proofs.Ytccjjlefpdlegab
