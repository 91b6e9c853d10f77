/- Layer 6 (kv): any changes have the document's bytes, any bytes are its changes, or refused, and are laid just so again: the law's walk. -/
import Derived.Test.YtaijompnohkmaaaGreatDoorMT
import Derived.Test.YtaijompnohkmaaaGreatDoorZKvR4
import Derived.Test.YtaijompnohkmaaaGreatDoorZKvR6
import Derived.Test.YtaijompnohkmaaaGreatDoorZKvE
namespace Go.Proofs.YtaijompnohkmaaaGreatDoor
open Go.RowKit KvP PackP WalP
theorem changes_len {B : Nat} {w : World} {v : Value} {l : List ChangeP} (h : ChangesV B w v l) : ∃ a c, v = .slice a l.length c ∧ l.length ≤ c ∧ c ≤ 2 ^ 63 - 1 := by
  obtain ⟨_, a, c, rfl, h1, h2, _⟩ := h
  unfold maxLen at h2
  exact ⟨a, c, rfl, h1, h2⟩
set_option maxRecDepth 100000 in
set_option maxHeartbeats 8000000 in
theorem KvBytes_walk (v u : Value) (l : List ChangeP) (bs : List UInt8) (w : World) (ht : TabAt w) (hT : 1 < w.heap.size) (hc : ChangesV w.heap.size w v l) (hb : Bytes w.heap.size w u bs) :
    Calls Tryz.prog 3 #[v, u] w fun e w' => e = .returned (.bool true) ∧ Below w.heap.size w w' := by
  have ka := kvAlive_any w ht hT
  obtain ⟨_, ua, uc, rfl, huc, hum, _⟩ := id hb
  obtain ⟨nb, hnb⟩ : ∃ n, n = bs.length := ⟨_, rfl⟩
  obtain ⟨ca, cc, rfl, hcc, _⟩ := changes_len hc
  obtain ⟨nc, hnc⟩ : ∃ n, n = l.length := ⟨_, rfl⟩
  have HB := Lib.hid hb
  have HC := Lib.hid hc
  rw [← hnb, ← hnc]
  have HNB := Lib.hid hnb
  have HNC := Lib.hid hnc
  clear hb hc ht hT hnb hnc hum huc
  go_enter Tryz.func3, Tryz.ntmps3
  go_wp2_with fail
  refine ka.mono ?_
  rintro e w1 ⟨rfl, hb1⟩
  clear ka
  have kg := kvGreat_any (.slice none 0 0) (.slice ca l.length cc) [] l w1 (Row.nil 0 w1 2) (HC.out.below hb1)
  rw [← HNC.out] at kg
  go_wp2_with fail
  refine kg.mono ?_
  rintro e w2 ⟨⟨g, rfl⟩, hb2⟩
  clear kg
  have HB2 := Lib.hid (hb1.trans (hb2.mono hb1.size))
  clear hb1 hb2
  cases g with
  | true =>
    go_wp2_with fail
    go_ret
    exact ⟨rfl, HB2.out⟩
  | false =>
    by_cases h8 : 8000 < nb
    · have q8 : decide ((8000 : Int) < (nb : Int)) = true := by simp; omega
      go_wp2_with fail
      go_ret
      exact ⟨rfl, HB2.out⟩
    · have q8 : decide ((8000 : Int) < (nb : Int)) = false := by simp; omega
      obtain ⟨ep, hep⟩ : ∃ x, x = encodeP l := ⟨_, rfl⟩
      obtain ⟨dp, hdp⟩ : ∃ x, x = decodeP bs := ⟨_, rfl⟩
      have k1 := encode_any _ l w2 (HC.out.below HB2.out)
      rw [← hep, ← HNC.out] at k1
      have HEP := Lib.hid hep
      have HDP := Lib.hid hdp
      clear h8 hep hdp
      go_wp2_with fail
      refine k1.mono ?_
      rintro e w3 ⟨⟨x1, rfl, hx1⟩, hb3⟩
      clear k1
      have HX3 := Lib.hid hx1.bytes
      have HB3 := Lib.hid (HB2.out.trans (hb3.mono HB2.out.size))
      clear hx1 hb3
      have k2 := refencode_any _ l w3 (HC.out.below HB3.out)
      rw [← HEP.out, ← HNC.out] at k2
      go_wp2_with fail
      refine k2.mono ?_
      rintro e w4 ⟨⟨x2, rfl, hx2⟩, hb4⟩
      clear k2
      have HX4 := Lib.hid (HX3.out.below hb4).tight
      have HY4 := Lib.hid hx2.bytes
      have HB4 := Lib.hid (HB3.out.trans (hb4.mono HB3.out.size))
      clear hx2 hb4 HX3
      have k3 := decode_any _ bs w4 (HB.out.below HB4.out)
      rw [← HDP.out, ← HNB.out] at k3
      go_wp2_with fail
      refine k3.mono ?_
      rintro e w5 ⟨⟨x3, rfl, hx3⟩, hb5⟩
      clear k3
      have HX5 := Lib.hid (HX4.out.below hb5).tight
      have HY5 := Lib.hid (HY4.out.below hb5).tight
      have HC5 := Lib.hid (ChangesO.v hx3)
      have HB5 := Lib.hid (HB4.out.trans (hb5.mono HB4.out.size))
      clear hx3 hb5 HX4 HY4
      have k4 := refdecode_any _ bs w5 (HB.out.below HB5.out)
      rw [← HDP.out, ← HNB.out] at k4
      go_wp2_with fail
      refine k4.mono ?_
      rintro e w6 ⟨⟨x4, rfl, hx4⟩, hb6⟩
      clear k4
      have HX6 := Lib.hid (HX5.out.below hb6).tight
      have HY6 := Lib.hid (HY5.out.below hb6).tight
      have hc6 := (HC5.out.below hb6).tight
      have hk6 := ChangesO.v hx4
      have HB6 := Lib.hid (HB5.out.trans (hb6.mono HB5.out.size))
      obtain ⟨a3, c3, rfl, l3, m3⟩ := changes_len hc6
      obtain ⟨a4, c4, rfl, _⟩ := changes_len hk6
      obtain ⟨M, hM⟩ : ∃ M, M = dp.1.length := ⟨_, rfl⟩
      rw [← hM] at hc6 hk6 l3 ⊢
      have HM := Lib.hid hM
      have HC6 := Lib.hid hc6
      have HK6 := Lib.hid hk6
      have ks := sameB_any _ _ x1 x2 ep.1 ep.1 w6 HX6.out HY6.out
      rw [decide_eq_true rfl] at ks
      have e1 : (ep.2 != ep.2) = false := by simp
      have e2 : (dp.2 != dp.2) = false := by simp
      clear hx4 hb6 HX5 HY5 HC5 hM hc6 hk6
      go_wp2_with fail
      refine ks.mono ?_
      rintro e w7 ⟨rfl, rfl⟩
      clear ks
      go_wp2_with fail
      go_loopw [13] (fun i wr => ∃ k : Nat, k ≤ M ∧ i = .int .i64 k ∧ Below w6.heap.size w6 wr) (fun i _ => M - (intOf i).toNat)
      case atStart => exact ⟨0, Nat.zero_le _, rfl, Below.refl _ _⟩
      case round =>
        obtain ⟨k, hk, rfl, hbr⟩ := hrel
        by_cases hkM : k < M
        · have k0 : decide ((k : Int) < (M : Int)) = true := by simp; omega
          have k1 : (0 : Int) ≤ (k : Int) := by omega
          have k2 : (k : Int) < (M : Int) := by omega
          have hkl : k < dp.1.length := HM.out ▸ hkM
          obtain ⟨b, off, rfl, _, hcA⟩ := load_change HC6.out hkl
          obtain ⟨b2, off2, rfl, _, hcB⟩ := load_change HK6.out hkl
          obtain ⟨sk, hsk⟩ : ∃ s, s = ByteArray.mk dp.1[k].key.toArray := ⟨_, rfl⟩
          obtain ⟨sv, hsv⟩ : ∃ s, s = ByteArray.mk dp.1[k].val.toArray := ⟨_, rfl⟩
          obtain ⟨gn, hgn⟩ : ∃ s, s = dp.1[k].gone := ⟨_, rfl⟩
          have L0 : ∀ w', Below w6.heap.size w6 w' → w'.cell? ⟨b, off + k * 3, none⟩ = some (.string sk) := fun w' h => by rw [hsk]; exact (hcA w' h).1
          have L1 : ∀ w', Below w6.heap.size w6 w' → w'.cell? ⟨b, off + k * 3 + 1, none⟩ = some (.string sv) := fun w' h => by rw [hsv]; exact (hcA w' h).2.1
          have L2 : ∀ w', Below w6.heap.size w6 w' → w'.cell? ⟨b, off + k * 3 + 2, none⟩ = some (.bool gn) := fun w' h => by rw [hgn]; exact (hcA w' h).2.2
          have N0 : ∀ w', Below w6.heap.size w6 w' → w'.cell? ⟨b2, off2 + k * 3, none⟩ = some (.string sk) := fun w' h => by rw [hsk]; exact (hcB w' h).1
          have N1 : ∀ w', Below w6.heap.size w6 w' → w'.cell? ⟨b2, off2 + k * 3 + 1, none⟩ = some (.string sv) := fun w' h => by rw [hsv]; exact (hcB w' h).2.1
          have N2 : ∀ w', Below w6.heap.size w6 w' → w'.cell? ⟨b2, off2 + k * 3 + 2, none⟩ = some (.bool gn) := fun w' h => by rw [hgn]; exact (hcB w' h).2.2
          have kn : ∀ w' : World, (binOp .neq 33 (.agg #[.string sk, .string sv, .bool gn]) (.agg #[.string sk, .string sv, .bool gn])).run Tryz.prog w' = .ok (.bool false) w' := fun w' => by rw [neqChange]; simp
          have s0 : Below w6.heap.size w6 wr.drew := below_draws hbr 1
          clear hsk hsv hgn hcA hcB
          go_upto_region 14 with (fail)
          refine wp_region_I [(false, 0), (false, 1), (false, 2), (false, 3), (false, 4), (false, 5), (false, 6), (false, 7), (false, 8)] (fun w' => Below w6.heap.size w6 w') (by kernel_rfl) (by kernel_rfl) s0 ?_
          repeat (first | (refine heldI_skip rfl rfl ?_; simp only [Act.put, List.setIfInBounds_toArray, List.set_cons_zero, List.set_cons_succ]) | (refine heldI_take rfl ?_ rfl (fun w' hw' => ?_) ?_; rotate_left; (go_simp; first | done | with_reducible rfl); (try simp only [Act.put, List.setIfInBounds_toArray, List.set_cons_zero, List.set_cons_succ])))
          refine heldI_nil ?_
          go_wp2_with fail
          go_roundw
          case rel => exact ⟨k + 1, by omega, by go_num, s0⟩
          case measure => simp [intOf]; omega
        · have k0 : decide ((k : Int) < (M : Int)) = false := by simp; omega
          have HBR := Lib.hid (HB6.out.trans (hbr.mono HB6.out.size))
          have HCR := Lib.hid (HC6.out.below hbr)
          clear hbr
          by_cases hz : dp.2 = 0
          · have q0 : (dp.2 == 0) = true := by rw [hz]; rfl
            by_cases h6 : nb ≤ 6000
            · have q6 : decide ((nb : Int) ≤ 6000) = true := by simp; omega
              have hcb : changesB dp.1 = true := by rw [HDP.out]; exact decodeP_changes (by rw [← HDP.out]; exact hz)
              have hby : bytesP dp.1 = bs := by rw [HDP.out]; exact (decode_e (l := (decodeP bs).1) (by rw [← HDP.out, ← hz])).1
              have hen : encodeP dp.1 = (bs, 0) := by
                unfold encodeP
                rw [hcb, if_pos rfl, hby, if_neg (by rw [← HNB.out]; omega)]
              have k5 := encode_any _ dp.1 wr HCR.out
              rw [hen] at k5
              clear hcb hby hen hz h6
              go_wp2_with fail
              refine k5.mono ?_
              rintro e w8 ⟨⟨x8, rfl, hx8⟩, hb8⟩
              clear k5
              have ks := sameB_any _ _ x8 (.slice ua bs.length uc) bs bs w8 hx8.bytes (HB.out.below (HBR.out.trans (hb8.mono HBR.out.size)))
              rw [decide_eq_true rfl, ← HNB.out] at ks
              have HB8 := Lib.hid (HBR.out.trans (hb8.mono HBR.out.size))
              clear hx8 hb8
              go_wp2_with fail
              refine ks.mono ?_
              rintro e w9 ⟨rfl, rfl⟩
              clear ks
              go_wp2_with fail
              go_ret
              exact ⟨rfl, HB8.out⟩
            · have q6 : decide ((nb : Int) ≤ 6000) = false := by simp; omega
              go_wp2_with fail
              go_ret
              exact ⟨rfl, HBR.out⟩
          · have q0 : (dp.2 == 0) = false := by rw [beq_eq_false_iff_ne]; exact hz
            go_wp2_with fail
            go_ret
            exact ⟨rfl, HBR.out⟩
end Go.Proofs.YtaijompnohkmaaaGreatDoor
