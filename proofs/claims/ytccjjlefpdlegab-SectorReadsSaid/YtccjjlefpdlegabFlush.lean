/- Layer 1 (sector): the closure of Start. -/
import Derived.Test.YtccjjlefpdlegabFlush0
import Derived.Test.YtccjjlefpdlegabNew
namespace Go.Proofs.Ytccjjlefpdlegab
open Go.RowKit
theorem cf_start : ∀ args w, (callFunc 24 args).run Try.prog w = .ok (.enter 24 args) w := fun args w => callFunc_run Try.func24 rfl rfl args w
theorem start1_any (g : Nat) (m : Int) (k : Nat) (w : World) (hk : k ≤ 2 ^ 40) (hg : w.cell? ⟨g, 0, none⟩ = some (.int .u64 m)) (hm0 : 0 ≤ m) (hm : m < 2 ^ 64) : Calls Try.prog 24 (#[.int .i64 k] ++ #[.pointer (some ⟨g, 0, none⟩)]) w fun e w' => e = .returned (.bool (stay m k)) ∧ Below w.heap.size w w' := by
  obtain ⟨n, rfl⟩ := Int.eq_ofNat_of_zero_le hm0
  go_enter Try.func24, Try.ntmps24
  go_wp2_with fail
  go_ret
  exact ⟨rfl, Below.refl _ _⟩
end Go.Proofs.Ytccjjlefpdlegab
