/- WalOpens: any disk's log is opened as the document says, or refused, and any log's room is its: the law's function returns true at every input and leaves its arguments as they were. -/
import Derived.Test.YtaijompnohkmaaaDoorZTab
import Derived.Test.YtaijompnohkmaaaDoorZOpenR
import Derived.Test.YtaijompnohkmaaaDoorZWalOpens
import Derived.Test.YtaijompnohkmaaaDoorZOpen
import Derived.Test.YtaijompnohkmaaaDoorZRow
namespace Go.Proofs.YtaijompnohkmaaaDoor.lawWalOpens
open Go.ChangeShapes Go.WideShapes Go.ChangeAt Go.RowKit
theorem laidOut : laidOutB Tryd.prog = true := by kernel_rfl
theorem readable : ∀ t ∈ Tryd.f3.params.toList, Tryd.prog.readableRec t = true ∧ t < Tryd.prog.types.size := by
  rw [Tryd.params3]
  intro t ht
  simp only [List.mem_cons, List.not_mem_nil, or_false] at ht
  rcases ht with rfl | rfl | rfl
  · exact ⟨by kernel_rfl, of_decide_eq_true (by kernel_rfl)⟩
  · exact ⟨by kernel_rfl, of_decide_eq_true (by kernel_rfl)⟩
  · exact ⟨by kernel_rfl, of_decide_eq_true (by kernel_rfl)⟩
set_option maxRecDepth 100000 in
theorem contract (H : Type) (enc : TypeId × Value → H) (W : World) (base : Nat) (args : Array Value) (ds gs : List (DataW H)) (before : List MemPlace)
    (hval : ∀ (j : Nat) t v, Tryd.f3.params[j]? = some t → args[j]? = some v → Value.okWide Tryd.prog W .any base t v)
    (hW : DataW.Whole enc Tryd.prog Tryd.f3.params.toList Rows.walOpensSpec.vars false W args.toList ds gs before)
    (hwt : (DataW.weightsEach Tryd.prog (Tryd.f3.params.toList ++ (OpenSpec.ofChange Rows.walOpensSpec).bare.plain.varTypes Tryd.prog) (ds ++ gs)).all (· ≤ reachBytes) = true)
    (hL : laidMetH Tryd.prog Rows.walOpensRow.laid W) :
    Calls Tryd.prog 3 args W fun e W' => ∃ v, e = .returned v ∧ Rows.walOpensSpec.post enc Tryd.prog Tryd.f3 false true false false W args v W' := by
  have hW' := hW
  obtain ⟨p, q, hA0, hV, rfl, hfz, hnd⟩ := hW
  have hA : DataW.TrodAll enc Tryd.prog W 0 (fun _ => true) true Tryd.f3.params.toList args.toList ds p := hA0
  have hwt' := hwt
  rw [Tryd.params3] at hA hval hwt'
  obtain ⟨v0, vs0, d0, ds0, p0, q0, hargs, rfl, rfl, h0, r0⟩ := trodAll_cons hA
  obtain ⟨v1, vs1, d1, ds1, p1, q1, rfl, rfl, rfl, h1, r1⟩ := trodAll_cons r0
  obtain ⟨v2, vs2, d2, ds2, p2, q2, rfl, rfl, rfl, h2, r2⟩ := trodAll_cons r1
  obtain ⟨rfl, rfl, rfl⟩ := trodAll_nil r2
  obtain rfl : args = #[v0, v1, v2] := by cases args; simp_all
  obtain ⟨rfl, rfl⟩ := trodVars_none hV
  obtain ⟨x0, ⟨cs0, rfl, hd0, hf0⟩⟩ := open_struct_val Tryd.underlying25 (opens_disk W) (hval 0 25 v0 rfl rfl) h0 (weights_at hwt' 0 _ _ rfl rfl)
  obtain ⟨x1, ⟨cs1, rfl, rfl, hl1⟩⟩ := open_struct_val Tryd.underlying27 (opens_log W) (hval 1 27 v1 rfl rfl) h1 (weights_at hwt' 1 _ _ rfl rfl)
  obtain ⟨z2, rfl, _, _, hz2⟩ := open_int Tryd.underlying3 (hval 2 3 v2 rfl rfl) h2
  obtain ⟨hlo2, hhi2⟩ := wf_i64 hz2
  obtain ⟨p1, q1, p2, q2, hv, _, _⟩ := hd0.parts
  obtain rfl : cs0 = [.slice p1 x0.secs.length q1, .slice p2 x0.loose.length q2, .int .i64 x0.fuse, .bool x0.down] := by
    injection hv with hv
    have := congrArg Array.toList hv
    simpa using this
  have ht := tabAt_of_laid hL
  refine (WalOpens_walk x0 x1 z2 W ht (tab_block ht) hd0 hl1).mono fun e W' ⟨he, hbl⟩ => ?_
  subst he
  exact ⟨_, rfl, post_law hW' rfl laidOut readable (by kernel_rfl) Tryd.underlying4 rfl hbl⟩
theorem laid_met (os : Os) : laidMet Tryd.prog Rows.walOpensRow.laid ((laidWorld os).forCall (fun _ _ => 0) ⟨#[], #[(Value.agg #[.slice none 0 0, .slice none 0 0, .int .i64 0, .bool false]), (Value.agg #[.int .i64 0, .int .i64 0, .int .i64 0, .int .i64 0]), Value.int .i64 0], []⟩).memory :=
  laidMet_of_run' 8 (by kernel_rfl) (by kernel_rfl)
theorem reads (os : Os) {H : Type} (enc : TypeId × Value → H) : ∃ places, DataW.whole enc Tryd.prog ((laidWorld os).forCall (fun _ _ => 0) ⟨#[], #[(Value.agg #[.slice none 0 0, .slice none 0 0, .int .i64 0, .bool false]), (Value.agg #[.int .i64 0, .int .i64 0, .int .i64 0, .int .i64 0]), Value.int .i64 0], []⟩).memory Tryd.f3.params.toList Rows.walOpensSpec.vars false #[(Value.agg #[.slice none 0 0, .slice none 0 0, .int .i64 0, .bool false]), (Value.agg #[.int .i64 0, .int .i64 0, .int .i64 0, .int .i64 0]), Value.int .i64 0].toList 8 = some ([.agg [.nil, .nil, .lit (.int .i64 0), .lit (.bool false)], .agg [.lit (.int .i64 0), .lit (.int .i64 0), .lit (.int .i64 0), .lit (.int .i64 0)], .lit (.int .i64 0)], [], places) :=
  ⟨[], by kernel_rfl⟩
set_option maxRecDepth 100000 in
theorem lifted (os : Os) (started : os.Started) (H : Type) (enc : TypeId × Value → H) (F : Stop.Interp) :
    ReturnsInHanded {} Tryd.checked os 3 .any ((OpenSpec.ofChange Rows.walOpensSpec).preRow enc Tryd.prog Tryd.f3 Rows.walOpensRow.domain false Rows.walOpensRow.laid) (((OpenSpec.ofChange Rows.walOpensSpec).at F).post enc Tryd.prog Tryd.f3 false true false false) := by
  obtain ⟨places, hx⟩ := reads os enc
  refine returnsInHanded_of_row (C := Tryd.checked) (s := OpenSpec.ofChange Rows.walOpensSpec) ownKnob_none started (by kernel_rfl) Tryd.func3
    (witness_row_at (enc := enc) (C := Tryd.checked) false (laidWorld os) #[(Value.agg #[.slice none 0 0, .slice none 0 0, .int .i64 0, .bool false]), (Value.agg #[.int .i64 0, .int .i64 0, .int .i64 0, .int .i64 0]), Value.int .i64 0] rfl (by kernel_rfl) (by kernel_rfl) (by kernel_rfl)
      (OpenSpec.preRow_of_cond 8 hx (by kernel_rfl) (fun k hk => by cases hk) (by kernel_rfl) (laid_met os))) ?_
  intro W base args ds gs before hval hW _ _ hwt hL _ _
  exact contract H enc W base args ds gs before hval hW hwt hL
theorem said : Rows.WalOpensSaid :=
  OpenClaim.holds_of_cond 3 Tryd.f3 rfl rfl rfl rfl rfl rfl rfl ⟨rfl, rfl, rfl, rfl, rfl⟩ rfl rfl rfl rfl rfl (by kernel_rfl) Tryd.func3 (by kernel_rfl)
    (of_decide_eq_true (by kernel_rfl)) (by unfold Func.isWrapper; first | (rw [if_pos (by decide +kernel)]; kernel_rfl) | (rw [if_neg (by decide +kernel)]; exact ⟨rfl, rfl⟩))
    (fun os started H enc _ F => by rw [OpenClaim.pre_eq_preRow]; exact lifted os started H enc F)
theorem plain (f : FuncId) (fn : Func) (hf : Tryd.pinned.checked.prog.funcNamed "escheat/escheatlaw05.WalOpens" = some f) (hfn : Tryd.pinned.checked.prog.funcs[f]? = some fn) :
    true = Tryd.pinned.checked.prog.looks [] ∧ ∀ (j : Nat) t, fn.params[j]? = some t → Tryd.pinned.checked.prog.wantsStandIn t = false := by
  obtain rfl : f = 3 := Option.some.inj ((show Tryd.prog.funcNamed "escheat/escheatlaw05.WalOpens" = some 3 by kernel_rfl).symm.trans hf) |>.symm
  obtain rfl : fn = Tryd.f3 := (Option.some.inj (Tryd.func3.symm.trans hfn)).symm
  refine ⟨by kernel_rfl, fun j t ht => ?_⟩
  rw [Tryd.params3] at ht
  have hm := Array.mem_of_getElem? ht
  simp only [List.mem_toArray, List.mem_cons, List.not_mem_nil, or_false] at hm
  rcases hm with rfl | rfl | rfl
  · exact (show Tryd.prog.wantsStandIn _ = false by kernel_rfl)
  · exact (show Tryd.prog.wantsStandIn _ = false by kernel_rfl)
  · exact (show Tryd.prog.wantsStandIn _ = false by kernel_rfl)
theorem card : Rows.WalOpensCardSaid :=
  Claim7.holds_tied_plain_at .later [] _ _ _ _ said (fun _ h => by cases h) (by kernel_rfl) (fun _ h => by cases h) walOpens_row_tie rfl ⟨rfl, rfl⟩ (by kernel_rfl) rfl plain (by kernel_rfl)
end Go.Proofs.YtaijompnohkmaaaDoor.lawWalOpens
