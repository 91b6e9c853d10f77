/- Layer 6 (kv), the document's answer: Encode. -/
import Derived.Test.YtaijompnohkmaaaGreatDoorZKvR3
import Derived.Test.YtaijompnohkmaaaGreatDoorZKvR2
import Derived.Test.YtaijompnohkmaaaGreatDoorMT
namespace Go.Proofs.YtaijompnohkmaaaGreatDoor
open Go.RowKit KvP PackP
set_option maxRecDepth 100000 in
set_option maxHeartbeats 4000000 in
theorem refencode_any {B : Nat} (v : Value) (l : List ChangeP) (w : World) (hv : ChangesV B w v l) :
    Calls Tryz.prog 13 #[v] w fun e w' => (∃ u, e = .returned (.tuple #[u, .int .i64 (encodeP l).2]) ∧ OwnB w.heap.size w' u (encodeP l).1) ∧ Below w.heap.size w w' := by
  have hv := hv.tight
  have kc := refchanges_any v l w hv
  obtain ⟨_, a, c, rfl, h1, h2, _⟩ := id hv
  obtain ⟨ok, hok⟩ : ∃ x, x = changesB l := ⟨_, rfl⟩
  rw [← hok] at kc
  obtain ⟨N, hN⟩ : ∃ N, N = l.length := ⟨_, rfl⟩
  rw [← hN] at hv kc ⊢
  have HN := Lib.hid hN
  have HOK := Lib.hid hok
  have HV := Lib.hid hv
  clear hok hN hv h1
  go_enter Tryz.func13, Tryz.ntmps13
  go_wp2_with fail
  refine kc.mono ?_
  rintro e w1 ⟨rfl, hb1⟩
  clear kc
  cases ok with
  | false =>
    have hfin : encodeP l = ([], 1) := by unfold encodeP; rw [← HOK.out]; rfl
    have HFIN := Lib.hid hfin
    clear hfin
    go_wp2_with fail
    go_ret2
    exact ⟨⟨_, by rw [HFIN.out]; rfl, by rw [HFIN.out]; exact Own.none _ _ _ none _⟩, hb1⟩
  | true =>
    obtain ⟨hl4, hsz⟩ := changesB_len HOK.out.symm
    have kb := refbytes_any _ l w1 (HV.out.below hb1) (by omega) (fun c hc => by have := hsz c hc; omega)
    obtain ⟨L, hL⟩ : ∃ L, L = (bytesP l).length := ⟨_, rfl⟩
    have hL2 : L < 2 ^ 60 := by
      rw [hL, ← bytesK_all]
      have := len_bytesK l l.length (by omega)
      omega
    have HL := Lib.hid hL
    have HL2 := Lib.hid hL2
    have HB1 := Lib.hid hb1
    clear hsz hL hL2 hb1
    go_wp2_with fail
    refine kb.mono ?_
    rintro e w2 ⟨u, rfl, hu, hb2⟩
    clear kb
    obtain ⟨_, x, y, rfl, _, _, _⟩ := id hu.bytes
    have HU := Lib.hid hu
    rw [← HL.out]
    have HB2 := Lib.hid hb2
    clear hu hb2
    by_cases h6 : 6000 < L
    · have q0 : decide ((6000 : Int) < (L : Int)) = true := by simp; omega
      have hfin : encodeP l = ([], 4) := by unfold encodeP; rw [← HOK.out, ← HL.out, if_pos rfl, if_pos h6]
      have HFIN := Lib.hid hfin
      clear hfin
      go_wp2_with fail
      go_ret2
      exact ⟨⟨_, by rw [HFIN.out]; rfl, by rw [HFIN.out]; exact Own.none _ _ _ none _⟩, HB1.out.trans (HB2.out.mono HB1.out.size)⟩
    · have q0 : decide ((6000 : Int) < (L : Int)) = false := by simp; omega
      have hfin : encodeP l = (bytesP l, 0) := by unfold encodeP; rw [← HOK.out, ← HL.out, if_pos rfl, if_neg h6]
      have HFIN := Lib.hid hfin
      clear hfin
      go_wp2_with fail
      go_ret2
      exact ⟨⟨_, by rw [HFIN.out]; rfl, by rw [HFIN.out]; rw [← HL.out] at HU; exact Own.lower HU.out HB1.out.size⟩, HB1.out.trans (HB2.out.mono HB1.out.size)⟩
end Go.Proofs.YtaijompnohkmaaaGreatDoor
