/- Layer 3 (pack): the fixed fact, and the laws' own functions. -/
import Derived.Test.YtccjjlefpdlegaaPackRef
import Derived.Test.YtccjjlefpdlegaaPackRd2
import Derived.Test.YtccjjlefpdlegaaPackRdRef
namespace Go.Proofs.Ytccjjlefpdlegaa
open Go.RowKit PackP
def abS : ByteArray := { data := #[97, 98] }
def aliveB : List UInt8 := [0, 0, 0, 0, 0, 0, 0, 7, 0, 0, 0, 2, 97, 98]
theorem aliveB_eq : [] ++ numsB [7] ++ textsB [abS] = aliveB := by decide
theorem alive_num : (RS.mk aliveB 0).num = (RS.mk [0, 0, 0, 2, 97, 98] 0, 7) := by
  simp [RS.num, RS.take, aliveB, numOf]
theorem alive_text : (RS.mk [0, 0, 0, 2, 97, 98] 0).text = (RS.mk [] 0, [97, 98]) := by
  simp [RS.text, RS.take, numOf]
theorem ints_fresh (w : World) (z : Int) : Ints (w.heap.size + 1) (w.alloc (.cells #[.int .i64 z] 3)) (.slice (some ⟨w.heap.size, 0, none⟩) 1 1) [z] :=
  Row.fresh (sz := 1) (by simp) (Nat.le_refl _) (by decide) (fun k u hk => by simpa using hk)
theorem strs_fresh (w : World) (s : ByteArray) : Strs (w.heap.size + 1) (w.alloc (.cells #[.string s] 9)) (.slice (some ⟨w.heap.size, 0, none⟩) 1 1) [s] :=
  Row.fresh (sz := 1) (by simp) (Nat.le_refl _) (by decide) (fun k u hk => by simpa using hk)
set_option maxRecDepth 100000 in
set_option maxHeartbeats 2000000 in
theorem packAlive_any (w : World) : Calls Try.prog 11 #[] w fun e w' => e = .returned (.bool true) ∧ Below w.heap.size w w' := by
  go_enter Try.func11, Try.ntmps11
  go_wp2_with fail
  have hbA : Below w.heap.size w (w.alloc (.cells #[.int .i64 7] 3)) := Below.alloc (Below.refl _ _) (Nat.le_refl _) _
  have hn0 := nil_bytes w.heap.size (w.alloc (.cells #[.int .i64 7] 3))
  refine (num_any _ _ [] [7] _ hn0 (ints_fresh w 7) (by decide)).mono ?_
  rintro e w1 ⟨v1, rfl, ho1, hb1⟩
  go_wp2_with fail
  have hbB : Below w1.heap.size w1 (w1.alloc (.cells #[.string abS] 9)) := Below.alloc (Below.refl _ _) (Nat.le_refl _) _
  refine (text_any _ _ _ [abS] _ (ho1.bytes.below hbB) (strs_fresh w1 abS) (by decide) (by decide)).mono ?_
  rintro e w2 ⟨v2, rfl, ho2, hb2⟩
  have hbC : Below w.heap.size w w2 := ((hbA.trans (hb1.mono hbA.size)).trans (hbB.mono (Nat.le_trans hbA.size hb1.size))).trans (hb2.mono (Nat.le_trans (Nat.le_trans hbA.size hb1.size) hbB.size))
  have hby := ho2.bytes
  rw [aliveB_eq] at hby
  clear ho1 ho2 hbA hb1 hbB hb2 hn0
  go_wp2_with fail
  refine (from_any _ _ aliveB w2 hby).mono ?_
  rintro e w3 ⟨rfl, hr3, hb3⟩
  have kc := run_bytes_string (P := Try.prog) Try.underlying22 Try.underlying5 Try.underlying9 (hby.below hb3)
  have hbD := hbC.trans (hb3.mono hbC.size)
  have hsz := hb3.size
  obtain ⟨g, hg⟩ : ∃ g, g = w2.heap.size := ⟨_, rfl⟩
  rw [← hg] at hr3 hsz
  rw [← hg]
  have hs8 : strB aliveB = { data := #[0, 0, 0, 0, 0, 0, 0, 7, 0, 0, 0, 2, 97, 98] } := rfl
  rw [hs8] at kc
  have hgB : w.heap.size ≤ g := by have := hbC.size; omega
  clear hg hbC hby hb3
  have k4 := rnum_any _ _ _ _ hr3
  rw [alive_num] at k4
  have hab : strB [97, 98] = { data := #[97, 98] } := rfl
  clear hr3
  go_wp2_with fail
  refine k4.mono ?_
  rintro e w4 ⟨rfl, hr4⟩
  have k6 := rtext_any _ _ _ _ hr4.1
  rw [alive_text] at k6
  have ho4 := hr4.2
  clear k4 hr4
  go_wp2_with fail
  refine k6.mono ?_
  rintro e w6 ⟨rfl, hr6⟩
  have k8 := rdone_any _ _ _ _ hr6.1
  have ho6 := only_trans ho4 hr6.2
  clear k6 hr6 ho4
  go_wp2_with fail
  refine k8.mono ?_
  rintro e w8 ⟨rfl, hr8⟩
  have ho8 := only_trans ho6 hr8.2
  clear k8 hr8 ho6
  go_wp2_with fail
  refine (num_nil _).mono ?_
  rintro e w9 ⟨rfl, rfl⟩
  go_wp2_with fail
  refine (done_nil _).mono ?_
  rintro e w9 ⟨rfl, rfl⟩
  go_wp2_with fail
  go_ret
  exact ⟨rfl, hbD.trans (below_of_only ho8 hgB hbD.size)⟩
end Go.Proofs.Ytccjjlefpdlegaa
