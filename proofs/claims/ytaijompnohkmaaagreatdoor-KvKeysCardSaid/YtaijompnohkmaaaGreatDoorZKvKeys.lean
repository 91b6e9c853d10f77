/- Layer 6 (kv): what was put is got, what is gone isn't, all else is as it was: the law's walk. -/
import Derived.Test.YtaijompnohkmaaaGreatDoorMT
import Derived.Test.YtaijompnohkmaaaGreatDoorZKvR1
import Derived.Test.YtaijompnohkmaaaGreatDoorZKvR2
import Derived.Test.YtaijompnohkmaaaGreatDoorZKvE
set_option linter.unusedSimpArgs false
set_option linter.unusedVariables false
namespace Go.Proofs.YtaijompnohkmaaaGreatDoor
open Go.RowKit KvP PackP WalP
section
variable {P : Program} {ops : Array Oper} {rest : List Oper} {o : Oper} {a : Act} {w : World} {Q : Exit → Act → World → Prop}
theorem wpList_wantK (hw : Region.wanted o (yielded ops a.tmps) = true)
    (h : ∀ K : Act → World → Prop, (∀ a w, wpList P ops Q rest a w → K a w) → o.wp P a w K Q) : wpList P ops Q (o :: rest) a w :=
  wpList_step fun K hK => by simp only [hw, if_true]; exact h K hK
theorem wp_buildSlice_w (t : TypeId) (n : Nat) (L : List (Nat × Operand)) {v : Value} {w' : World} {L' : List (Nat × Value)} (hb : (Instr.buildSlice t n L'.toArray).run P w = .ok v w') (hgd : Region.wanted o (yielded ops a.tmps) = true) (ho : o.op = .buildSlice t n L.toArray) (hL : L.map (fun x => (x.1, a.eval x.2)) = L')
    (h : wpList P ops Q rest (a.put o.dst v) w') : wpList P ops Q (o :: rest) a w := by
  refine wpList_wantK hgd fun K hK => ?_
  subst hL
  unfold Oper.wp execOp
  simp only [ho, Sem.run_bind, Sem.run_pure, Result.andThen_ok, List.map_toArray, hb]
  exact hK _ _ h
end
/-- One change, as a slice that was built of it. -/
theorem changes1 (c : ChangeP) (w : World) : ChangesV (w.heap.size + 1) (w.alloc (.cells #[str c.key, str c.val, .bool c.gone] 33)) (.slice (some ⟨w.heap.size, 0, none⟩) 1 1) [c] :=
  row_of_heap (sz := 3) (n := 1) (heap_alloc_new w _) (Nat.lt_succ_self _) rfl (Nat.le_refl _) (by decide) (fun k u hk => by
    rw [show ([c].map changeCells).flatten = [str c.key, str c.val, .bool c.gone] from rfl] at hk
    simpa using hk)
theorem ba_eq {a b : List UInt8} : (ByteArray.mk a.toArray = ByteArray.mk b.toArray) ↔ a = b :=
  ⟨fun h => by
    have h2 := congrArg (fun s : ByteArray => s.data.toList) h
    simpa using h2, fun h => by rw [h]⟩
/-- What is got behind one change. -/
theorem got_one (l : List PairP) (c : ChangeP) (x : List UInt8) : getP (doP l [c]) x = if c.key = x then (if c.gone then none else some c.val) else getP l x := getP_do1 l c x
set_option maxRecDepth 100000 in
set_option maxHeartbeats 8000000 in
theorem KvKeys_walk (v : Value) (l : List PairP) (c : ChangeP) (key : List UInt8) (w : World) (ht : TabAt w) (hT : 1 < w.heap.size) (hp : PairsV w.heap.size w v l) :
    Calls Tryz.prog 8 #[v, .agg #[str c.key, str c.val, .bool c.gone], str key] w fun e w' => e = .returned (.bool true) ∧ Below w.heap.size w w' := by
  obtain ⟨a, ca, rfl, hlc⟩ := pairs_len hp
  obtain ⟨N, hN⟩ : ∃ n, n = l.length := ⟨_, rfl⟩
  obtain ⟨ck, hck⟩ : ∃ s, s = ByteArray.mk c.key.toArray := ⟨_, rfl⟩
  obtain ⟨cv, hcv⟩ : ∃ s, s = ByteArray.mk c.val.toArray := ⟨_, rfl⟩
  obtain ⟨ks, hks⟩ : ∃ s, s = ByteArray.mk key.toArray := ⟨_, rfl⟩
  obtain ⟨g, hg⟩ : ∃ g, g = c.gone := ⟨_, rfl⟩
  have e1 : str c.key = .string ck := by rw [hck]; rfl
  have e2 : str c.val = .string cv := by rw [hcv]; rfl
  have e3 : str key = .string ks := by rw [hks]; rfl
  have hch : ∀ w' : World, ChangesV (w'.heap.size + 1) (w'.alloc (.cells #[.string ck, .string cv, .bool g] 33)) (.slice (some ⟨w'.heap.size, 0, none⟩) 1 1) [c] := fun w' => by
    rw [← e1, ← e2, hg]
    exact changes1 c w'
  rw [e1, e2, e3, ← hN, ← hg]
  obtain ⟨wx, hwx⟩ : ∃ x, x = w.alloc (.cells #[.string ck, .string cv, .bool g] 33) := ⟨_, rfl⟩
  obtain ⟨G, hG⟩ : ∃ g, g = w.heap.size := ⟨_, rfl⟩
  have hbx : Below w.heap.size w wx := by rw [hwx]; exact Below.alloc (Below.refl _ _) (Nat.le_refl _) _
  have hbox : wx.heap[G]? = some (.cells #[.string ck, .string cv, .bool g] 33 (0, 0)) := by rw [hwx, hG]; exact heap_alloc_new w _
  have ka := kvAlive_any wx (ht.below hbx hT) (Nat.lt_of_lt_of_le hT hbx.size)
  have HP := Lib.hid hp
  have HN := Lib.hid hN
  have HCK := Lib.hid hck
  have HCV := Lib.hid hcv
  have HKS := Lib.hid hks
  have HGO := Lib.hid hg
  have E1 := Lib.hid e1
  have E3 := Lib.hid e3
  have HCH := Lib.hid hch
  have HWX := Lib.hid hwx
  have HG := Lib.hid hG
  have HBX := Lib.hid hbx
  clear hp ht hT hN hlc hck hcv hks hg e1 e2 e3 hch hwx hG hbx
  go_enter Tryz.func8, Tryz.ntmps8
  go_upto_region 1 with (fail)
  rw [← HWX.out, ← HG.out]
  go_wp2_with fail
  refine ka.mono ?_
  rintro e w1 ⟨rfl, hb1⟩
  clear ka
  have bx1 := (hb1.block _ (block_lt hbox)).trans hbox
  have HB1 := Lib.hid (HBX.out.trans (hb1.mono HBX.out.size))
  clear hb1 hbox
  -- more than is looked at?
  have C0 := cell_of_row w1 _ 0 _ _ _ bx1
  have C1 := cell_of_row w1 _ 1 _ _ _ bx1
  have C2 := cell_of_row w1 _ 2 _ _ _ bx1
  obtain ⟨wc, hwc⟩ : ∃ x, x = w1.alloc (.cells #[.string ck, .string cv, .bool g] 33) := ⟨_, rfl⟩
  obtain ⟨gc, hgc⟩ : ∃ x, x = w1.heap.size := ⟨_, rfl⟩
  have hcv := HCH.out w1
  have hbs := run_bsC ck cv g w1
  have hbc : Below w1.heap.size w1 wc := by rw [hwc]; exact Below.alloc (Below.refl _ _) (Nat.le_refl _) _
  rw [← hwc, ← hgc] at hbs hcv
  have HB2 := Lib.hid (HB1.out.trans (hbc.mono HB1.out.size))
  have kg := kvGreat_any (.slice a l.length ca) _ l [c] wc (HP.out.below HB2.out) hcv
  rw [← HN.out] at kg
  have bx2 := (hbc.block _ (block_lt bx1)).trans bx1
  clear hwc hgc hcv hbc
  go_wp2_with (with_reducible refine wp_buildSlice_r 22 1 [(0, .tmp 17)] hbs rfl ?_; refine Halt.in ?_)
  refine Halt.out ?_
  clear hbs C0 C1 C2
  go_wp2_with fail
  refine kg.mono ?_
  rintro e w3 ⟨⟨gr, rfl⟩, hb3⟩
  clear kg
  have bx3 := (hb3.block _ (block_lt bx2)).trans bx2
  have HB3 := Lib.hid (HB2.out.trans (hb3.mono HB2.out.size))
  clear hb3 bx2 bx1
  cases gr with
  | true =>
    go_wp2_with fail
    go_ret
    exact ⟨rfl, HB3.out⟩
  | false =>
    by_cases hks : 200 < ks.size
    · have k0 : decide ((200 : Int) < (ks.size : Int)) = true := by simp; omega
      go_wp2_with fail
      go_ret
      exact ⟨rfl, HB3.out⟩
    have k0 : decide ((200 : Int) < (ks.size : Int)) = false := by simp; omega
    have kp := refpairs_any _ l w3 (HP.out.below HB3.out)
    rw [← HN.out] at kp
    obtain ⟨pb, hpb⟩ : ∃ x, x = pairsB l := ⟨_, rfl⟩
    rw [← hpb] at kp
    have HPB := Lib.hid hpb
    clear hpb
    go_wp2_with fail
    refine kp.mono ?_
    rintro e w4 ⟨rfl, hb4⟩
    clear kp
    have bx4 := (hb4.block _ (block_lt bx3)).trans bx3
    have HB4 := Lib.hid (HB3.out.trans (hb4.mono HB3.out.size))
    clear hb4 bx3
    cases pb with
    | false =>
      go_wp2_with fail
      go_ret
      exact ⟨rfl, HB4.out⟩
    | true =>
      obtain ⟨p1, p2, p3⟩ := pairsB_parts HPB.out.symm
      have HP1 := Lib.hid p1
      have HP2 := Lib.hid p2
      have HP3 := Lib.hid p3
      clear p1 p2 p3
      have C0 := cell_of_row w4 _ 0 _ _ _ bx4
      have C1 := cell_of_row w4 _ 1 _ _ _ bx4
      have C2 := cell_of_row w4 _ 2 _ _ _ bx4
      obtain ⟨wc, hwc⟩ : ∃ x, x = w4.alloc (.cells #[.string ck, .string cv, .bool g] 33) := ⟨_, rfl⟩
      obtain ⟨gc, hgc⟩ : ∃ x, x = w4.heap.size := ⟨_, rfl⟩
      have hcv := HCH.out w4
      have hbs := run_bsC ck cv g w4
      have hbc : Below w4.heap.size w4 wc := by rw [hwc]; exact Below.alloc (Below.refl _ _) (Nat.le_refl _) _
      rw [← hwc, ← hgc] at hbs hcv
      have HB5 := Lib.hid (HB4.out.trans (hbc.mono HB4.out.size))
      have kr := refchanges_any _ [c] wc hcv
      obtain ⟨cb, hcb⟩ : ∃ x, x = changesB [c] := ⟨_, rfl⟩
      rw [← hcb] at kr
      have HCB := Lib.hid hcb
      have bx5 := (hbc.block _ (block_lt bx4)).trans bx4
      clear hwc hgc hcv hbc hcb
      go_wp2_with (refine wp_buildSlice_w 22 1 [(0, .tmp 31)] hbs rfl rfl rfl ?_; refine Halt.in ?_)
      refine Halt.out ?_
      clear hbs C0 C1 C2
      go_wp2_with fail
      refine kr.mono ?_
      rintro e w6 ⟨rfl, hb6⟩
      clear kr
      have bx6 := (hb6.block _ (block_lt bx5)).trans bx5
      have HB6 := Lib.hid (HB5.out.trans (hb6.mono HB5.out.size))
      clear hb6 bx5 bx4
      cases cb with
      | false =>
        go_wp2_with fail
        go_ret
        exact ⟨rfl, HB6.out⟩
      | true =>
        obtain ⟨_, cl⟩ := changesB_len HCB.out.symm
        have HCL := Lib.hid (cl c (List.mem_singleton.2 rfl))
        clear cl
        go_upto_region 5 with (fail)
        have C0 := cell_of_row w6 _ 0 _ _ _ bx6
        have C1 := cell_of_row w6 _ 1 _ _ _ bx6
        have C2 := cell_of_row w6 _ 2 _ _ _ bx6
        obtain ⟨wc, hwc⟩ : ∃ x, x = w6.alloc (.cells #[.string ck, .string cv, .bool g] 33) := ⟨_, rfl⟩
        obtain ⟨gc, hgc⟩ : ∃ x, x = w6.heap.size := ⟨_, rfl⟩
        have hcv := HCH.out w6
        have hbs := run_bsC ck cv g w6
        have hbc : Below w6.heap.size w6 wc := by rw [hwc]; exact Below.alloc (Below.refl _ _) (Nat.le_refl _) _
        rw [← hwc, ← hgc] at hbs hcv
        have HB7 := Lib.hid (HB6.out.trans (hbc.mono HB6.out.size))
        have kd := do_any _ _ l [c] wc (HP.out.below HB7.out) hcv HP3.out (by have := HP1.out; omega) (by rw [List.length_singleton]; decide) (fun p hp => by
          have h := HP2.out p hp
          unfold mayP at h
          simp only [Bool.and_eq_true, decide_eq_true_eq] at h
          omega) (fun x hx => by
          obtain rfl := List.mem_singleton.1 hx
          have := HCL.out
          omega)
        rw [← HN.out] at kd
        have bx7 := (hbc.block _ (block_lt bx6)).trans bx6
        clear hwc hgc hcv hbc
        go_wp2_with (with_reducible refine wp_buildSlice_r 22 1 [(0, .tmp 37)] hbs rfl ?_; refine Halt.in ?_)
        refine Halt.out ?_
        clear hbs C0 C1 C2
        go_wp2_with fail
        refine kd.mono ?_
        rintro e w8 ⟨x8, rfl, hP8, hb8⟩
        clear kd
        have bx8 := (hb8.block _ (block_lt bx7)).trans bx7
        have HB8 := Lib.hid (HB7.out.trans (hb8.mono HB7.out.size))
        have HP8 := PairsO.v hP8
        clear hb8 bx7 bx6 hP8
        have hrs := Rising.doP HP3.out [c]
        have hl8 := len_doP l [c]
        obtain ⟨l8, hl8e⟩ : ∃ x, x = doP l [c] := ⟨_, rfl⟩
        have hgot := got_one l c
        rw [← hl8e] at HP8 hrs hl8 hgot
        clear hl8e
        obtain ⟨a8, c8, rfl, _⟩ := pairs_len HP8
        obtain ⟨M, hM⟩ : ∃ n, n = l8.length := ⟨_, rfl⟩
        obtain ⟨w9, S, HWa, HGa, hS9, hb9, lt9, le9⟩ := fresh_store w8
        obtain ⟨sa, sc, TS, _⟩ := id hS9
        obtain ⟨w10, hst, T10, hb10, hz10, hk10, _⟩ := storeBig info_store TS rfl #[.int .i64 0, .int .i64 0, .int .i64 0, .int .i64 0, .slice a8 l8.length c8] rfl (ones5 rfl rfl rfl rfl rfl)
        have HB10 := Lib.hid ((HB8.out.trans (hb9.mono HB8.out.size)).trans (hb10.mono (Nat.le_trans HB8.out.size le9)))
        have hP10 := (HP8.below (hb9.trans (hb10.mono le9)))
        have HB810 := Lib.hid (hb9.trans (hb10.mono le9)).size
        have bx10 := ((hb9.trans (hb10.mono le9)).block _ (block_lt bx8)).trans bx8
        have hsv : StoreV w8.heap.size w10 (storeV log0 (.slice a8 l8.length c8)) ⟨log0, l8⟩ := ⟨_, rfl, hP10⟩
        have HSV := Lib.hid hsv
        have HM := Lib.hid hM
        have HRS := Lib.hid hrs
        have HL8 := Lib.hid hl8
        have HGOT := Lib.hid hgot
        rw [← hM] at hst T10 
        clear hS9 hb9 lt9 le9 TS hb10 hz10 hk10 HP8 hP10 hsv hM hrs hl8 hgot bx8
        rw [← HM.out]
        go_wp2_with (with_reducible refine wp_alloc_to (w' := w9) 44 rfl rfl (zero_store _) HWa.out ?_; refine Halt.in ?_)
        refine Halt.out ?_
        rw [← HGa.out]
        go_wp2_with (with_reducible refine wp_store_r (.tmp 7) (.tmp 40) 44 hst rfl rfl ?_; refine Halt.in ?_)
        refine Halt.out ?_
        clear hst
        go_upto_region 6 with (fail)
        -- the change's own key
        have F0 := cell_of_row w10 _ 0 _ _ _ T10
        have F1 := cell_of_row w10 _ 1 _ _ _ T10
        have F2 := cell_of_row w10 _ 2 _ _ _ T10
        have F3 := cell_of_row w10 _ 3 _ _ _ T10
        have F4 := cell_of_row w10 _ 4 _ _ _ T10
        have C0 := cell_of_row w10 _ 0 _ _ _ bx10
        have kget := get_any _ ⟨log0, l8⟩ c.key w10 HSV.out HRS.out (by have := HL8.out; have := HP1.out; simp only [List.length_singleton] at *; omega)
        obtain ⟨xs, hxs, hxs2⟩ : ∃ s : ByteArray, str ((if g = true then none else some c.val : Option (List UInt8)).getD []) = .string s ∧ (g = false → s = cv) := by
          cases g
          · exact ⟨cv, by rw [HCV.out]; rfl, fun _ => rfl⟩
          · exact ⟨ByteArray.mk #[], rfl, fun h => by cases h⟩
        have hsm : (if g = true then none else some c.val : Option (List UInt8)).isSome = !g := by cases g <;> rfl
        rw [E1.out] at kget
        dsimp only at kget
        rw [HGOT.out c.key, if_pos rfl, ← HGO.out, hxs, hsm, ← HM.out] at kget
        unfold storeV log0 at kget
        dsimp only at kget
        have HXS := Lib.hid hxs2
        clear hxs hxs2 hsm
        go_wp2_with fail
        refine kget.mono ?_
        rintro e w11 ⟨rfl, hb11⟩
        clear kget F0 F1 F2 F3 F4 C0
        have HB11 := Lib.hid (HB10.out.trans (hb11.mono HB10.out.size))
        have T11 := (hb11.block _ (block_lt T10)).trans T10
        have bx11 := (hb11.block _ (block_lt bx10)).trans bx10
        have HSV11 := Lib.hid (HSV.out.below (hb11.mono (by have := HSV; exact HB810.out)))
        clear hb11 T10 bx10
        have C0 := cell_of_row w11 _ 0 _ _ _ bx11
        have C1 := cell_of_row w11 _ 1 _ _ _ bx11
        have C2 := cell_of_row w11 _ 2 _ _ _ bx11
        have F0 := cell_of_row w11 _ 0 _ _ _ T11
        have F1 := cell_of_row w11 _ 1 _ _ _ T11
        have F2 := cell_of_row w11 _ 2 _ _ _ T11
        have F3 := cell_of_row w11 _ 3 _ _ _ T11
        have F4 := cell_of_row w11 _ 4 _ _ _ T11
        clear T11 bx11
        have kg2 := get_any _ ⟨log0, l8⟩ key w11 HSV11.out HRS.out (by have := HL8.out; have := HP1.out; simp only [List.length_singleton] at *; omega)
        obtain ⟨rs, hrs⟩ : ∃ s : ByteArray, str ((getP l key).getD []) = .string s := ⟨_, rfl⟩
        obtain ⟨ro, hro⟩ : ∃ b : Bool, (getP l key).isSome = b := ⟨_, rfl⟩
        have HRO := Lib.hid hro
        have HRI := Lib.hid hrs
        have q1 : (cv == cv) = true := by rw [beq_ba]; exact decide_eq_true rfl
        have q2 : (rs == rs) = true := by rw [beq_ba]; exact decide_eq_true rfl
        have key_eq : (ks.toList == ck.toList) = true ∨ ((ks.toList == ck.toList) = false ∧ ¬ c.key = key) := by
          have t1 : ks.toList = key := by rw [HKS.out, Lib.toList_data]
          have t2 : ck.toList = c.key := by rw [HCK.out, Lib.toList_data]
          rw [t1, t2]
          by_cases h : c.key = key
          · exact .inl (by rw [h]; exact beq_self_eq_true _)
          · exact .inr ⟨beq_eq_false_iff_ne.2 (Ne.symm h), h⟩
        clear hro hrs
        go_upto_region 7 with (fail)
        cases g
        all_goals (
          first
            | (obtain rfl := HXS.out rfl)
            | skip
          rcases key_eq with hke | ⟨hke, hne⟩
          · clear kg2
            go_wp2_with fail
            go_ret
            exact ⟨rfl, HB11.out⟩
          · rw [E3.out] at kg2
            try dsimp only at kg2
            rw [HGOT.out key, if_neg hne, HRI.out, HRO.out, ← HM.out] at kg2
            unfold storeV log0 at kg2
            dsimp only at kg2
            clear hne
            go_wp2_with fail
            refine kg2.mono ?_
            rintro e w12 ⟨rfl, hb12⟩
            clear kg2 F0 F1 F2 F3 F4 C0 C1 C2
            have HB12 := Lib.hid (HB11.out.trans (hb12.mono HB11.out.size))
            have kg3 := get_any (storeV log0 (.slice a l.length ca)) ⟨log0, l⟩ key w12 ⟨_, rfl, HP.out.below HB12.out⟩ HP3.out (by have := HP1.out; dsimp only; omega)
            try dsimp only at kg3
            rw [E3.out, HRI.out, HRO.out, ← HN.out] at kg3
            unfold storeV log0 at kg3
            dsimp only at kg3
            clear hb12
            go_wp2_with fail
            refine kg3.mono ?_
            rintro e w13 ⟨rfl, hb13⟩
            clear kg3
            have HB13 := Lib.hid (HB12.out.trans (hb13.mono HB12.out.size))
            clear hb13
            cases ro
            all_goals (
              go_wp2_with fail
              go_ret
              exact ⟨rfl, HB13.out⟩))
end Go.Proofs.YtaijompnohkmaaaGreatDoor
