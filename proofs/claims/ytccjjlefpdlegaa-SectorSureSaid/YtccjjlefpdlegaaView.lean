/- Layer 1 (sector): the law SectorView. -/
import Derived.Test.YtccjjlefpdlegaaAlive
import Derived.Test.YtccjjlefpdlegaaEq2
namespace Go.Proofs.Ytccjjlefpdlegaa
open Go.RowKit
section
variable {P : Program} {ops : Array Oper} {rest : List Oper} {o : Oper} {a : Act} {w : World} {Q : Exit → Act → World → Prop}
theorem wpList_wanted (hw : Region.wanted o (yielded ops a.tmps) = true)
    (h : ∀ K : Act → World → Prop, (∀ a w, wpList P ops Q rest a w → K a w) → o.wp P a w K Q) : wpList P ops Q (o :: rest) a w :=
  wpList_step fun K hK => by simp only [hw, if_true]; exact h K hK
theorem wp_rem_at (k : IntKind) (x y : Operand) (t u : TypeId) (hgd : o.guard = none) (ho : o.op = .binOp .rem t x y u) {m n : Int} {v : Value} (hx : a.eval x = .int k m) (hy : a.eval y = .int k n) (hl : (Op.intDiv .rem k m n).run P w = .ok v w)
    (h : wpList P ops Q rest (a.put o.dst v) w) : wpList P ops Q (o :: rest) a w := by
  refine wpList_plain hgd fun K hK => ?_
  unfold Oper.wp execOp
  simp only [ho, hx, hy, eqGuard_rem, binOp_rem, Sem.run_bind, Sem.run_pure, Result.andThen_ok, hl]
  exact hK _ _ h
/-- A guarded load that is carried out. -/
theorem wp_load_w (x : Operand) (t : TypeId) (hgd : Region.wanted o (yielded ops a.tmps) = true) (ho : o.op = .load t x) {ad : Addr} {v : Value} {w' : World} (hw : w' = w) (hx : a.eval x = .pointer (some ad)) (hl : (loadVar t ad).run P w' = .ok v w')
    (h : wpList P ops Q rest (a.put o.dst v) w') : wpList P ops Q (o :: rest) a w := by
  subst hw
  refine wpList_wanted hgd fun K hK => ?_
  unfold Oper.wp execOp
  simp only [ho, hx, Instr.loadAt, Instr.sureAddr, Sem.run_bind, Sem.run_pure, Result.andThen_ok, hl]
  exact hK _ _ h
end
theorem lastW_snoc (ls : List WriteP) (x : WriteP) (at_ : Int) (s : List UInt8) : lastW (ls ++ [x]) at_ s = if x.at_ = at_ then x.data else lastW ls at_ s := by
  unfold lastW
  rw [List.foldl_append]
  rfl
theorem put_view {d : DiskP} {at_ : Int} {data : List UInt8} (hg : greatB d = false) (h : (putP d at_ data).2 = 0) :
    ∃ m : Nat, at_ = (m : Int) ∧ m < d.secs.length ∧ readP (putP d at_ data).1 at_ = (data, 0) ∧ (putP d at_ data).1.secs = d.secs ∧
      ∀ k : Nat, k < d.secs.length → (readP (putP d at_ data).1 k).2 = 0 ∧ (readP d k).2 = 0 ∧ ((k : Int) ≠ at_ → (readP (putP d at_ data).1 k).1 = (readP d k).1) := by
  unfold putP at h ⊢
  cases hR : rightB d with
  | false => simp [hR] at h
  | true =>
    cases hT : thereB d at_ with
    | false => simp [hR, hT] at h
    | true =>
      cases hD : downP d with
      | true => simp [hR, hT, hD] at h
      | false =>
        simp only [hR, hT, hD, Bool.and_self, if_true, Bool.false_eq_true, if_false]
        have hdn : d.down = false := by
          unfold downP at hD
          simp at hD
          exact hD.1
        have hR2 : rightB { d with loose := d.loose ++ [⟨at_, data⟩], fuse := burnF d, down := false } = true := by
          simp only [rightB, fusedB, Bool.and_eq_true, decide_eq_true_eq, badAt, List.any_append, Bool.not_eq_true', List.any_cons, List.any_nil, Bool.or_false, Bool.or_eq_false_iff] at hR ⊢
          simp only [greatB, Bool.or_eq_false_iff, decide_eq_false_iff_not] at hg
          refine ⟨⟨⟨hR.1.1.1, by simp; omega⟩, ?_⟩, hR.2, ?_⟩
          · simp only [burnF, hD]
            split <;> (try split) <;> omega
          · simp only [thereB] at hT ⊢
            simp [hT] at *
        have hT2 : ∀ z, thereB { d with loose := d.loose ++ [⟨at_, data⟩], fuse := burnF d, down := false } z = thereB d z := fun z => rfl
        obtain ⟨m, hm, hml⟩ : ∃ m : Nat, at_ = (m : Int) ∧ m < d.secs.length := by
          simp only [thereB, Bool.and_eq_true, decide_eq_true_eq] at hT
          exact ⟨at_.toNat, by omega, by omega⟩
        refine ⟨m, hm, hml, ?_, by simp, fun k hk => ?_⟩
        · unfold readP
          rw [hR2, hT2, hT]
          simp [lastW_snoc]
        · have hTk : thereB d (k : Int) = true := by simp [thereB]; omega
          unfold readP
          rw [hR2, hT2, hTk, hR, hdn]
          refine ⟨rfl, rfl, fun hne => ?_⟩
          simp only [Bool.and_self, if_true, Bool.false_eq_true, if_false, lastW_snoc]
          rw [if_neg (Ne.symm hne)]
theorem lastW_len (at_ : Int) : ∀ (ls : List WriteP) (s : List UInt8), (∀ x ∈ ls, x.data.length = 64) → s.length = 64 → (lastW ls at_ s).length = 64
  | [], _, _, h => h
  | x :: ls, s, h, hs => by
    unfold lastW
    rw [List.foldl_cons]
    refine lastW_len at_ ls _ (fun y hy => h y (List.mem_cons_of_mem _ hy)) ?_
    split
    · exact h x (List.mem_cons_self ..)
    · exact hs
theorem read_len {d : DiskP} (h1 : ∀ s ∈ d.secs, s.length = 64) (h2 : ∀ x ∈ d.loose, x.data.length = 64) (at_ : Int) : (readP d at_).1.length = 64 := by
  unfold readP
  split
  · split
    · rfl
    · refine lastW_len _ _ _ h2 ?_
      cases h : d.secs[at_.toNat]? with
      | none => rfl
      | some s => exact h1 s (List.mem_of_getElem? h)
  · rfl
theorem DiskV.lens {B : Nat} {w : World} {v : Value} {d : DiskP} (h : DiskV B w v d) : (∀ s ∈ d.secs, s.length = 64) ∧ ∀ x ∈ d.loose, x.data.length = 64 := by
  obtain ⟨_, _, _, h1, h2⟩ := h
  exact ⟨h1.1, h2.1⟩
/-- A fresh block, and 64 cells laid into it. -/
theorem fresh64 (w : World) (X : Array Value) (hX : X.size = 64) (h1 : ∀ v ∈ X.toList, v.oneCell' = true) : ∃ z w1 w2, (∀ w, (zeroValue 44).run Try.prog w = .ok z w) ∧ w1 = w.alloc (.cells z.cells 44) ∧ (storeVar 44 ⟨w.heap.size, 0, none⟩ (.agg X)).run Try.prog w1 = .ok () w2 ∧ w2.heap[w.heap.size]? = some (.cells X 44 (0, 0)) ∧ Below w.heap.size w w2 := by
  obtain ⟨z, hz, hzr⟩ := zero44
  obtain ⟨w1, hw1⟩ : ∃ w1, w1 = w.alloc (.cells z.cells 44) := ⟨_, rfl⟩
  have hn1 : w1.heap[w.heap.size]? = some (.cells z.cells 44 (0, 0)) := by rw [hw1]; exact heap_alloc_new w _
  have hb1 : Below w.heap.size w w1 := by rw [hw1]; exact Below.alloc (Below.refl _ _) (Nat.le_refl _) _
  obtain ⟨w2, hst, hn2, hb2, _, _, _⟩ := store64 hn1 (by rw [hz]; rfl) X hX h1
  exact ⟨z, w1, w2, hzr, hw1, hst, hn2, hb1.trans hb2⟩
theorem run_rem (P : Program) (m n : Nat) (hm : m < 2 ^ 16) (hn : n ≠ 0) (w : World) : (Op.intDiv .rem .i64 m n).run P w = .ok (.int .i64 ((m % n : Nat) : Int)) w := by
  simp [Op.intDiv, hn]
  exact Int.ofNat_tmod m n
theorem putP_e (d : DiskP) (at_ : Int) (data : List UInt8) : (putP d at_ data).2 = 0 ∨ (putP d at_ data).2 = 1 ∨ (putP d at_ data).2 = 9 := by
  unfold putP
  split
  · split <;> simp
  · simp
set_option maxRecDepth 100000 in
set_option maxHeartbeats 2000000 in
theorem SectorView_walk (v0 : Value) (d : DiskP) (x : WriteP) (z2 : Int) (W : World) (h0 : DiskV W.heap.size W v0 d) (hx : x.data.length = 64) (hlo : 0 ≤ z2) (hhi : z2 < 2 ^ 16) :
    Calls Try.prog 8 #[v0, .agg (wcells x).toArray, .int .u16 z2] W fun e w' => e = .returned (.bool true) ∧ Below W.heap.size W w' := by
  obtain ⟨a1, n1, a2, n2, rfl, hs, hl⟩ := h0.parts
  have hcs := hs.2
  obtain ⟨_, _, _, hv, hcapn, hcap1, _⟩ := hcs
  cases hv
  unfold maxLen at hcap1
  obtain ⟨L, hL⟩ : ∃ L, L = d.secs.length := ⟨_, rfl⟩
  rw [← hL] at h0 hcapn ⊢
  have HL := Lib.hid hL
  clear hL
  obtain ⟨z, rfl⟩ := Int.eq_ofNat_of_zero_le hlo
  obtain ⟨X, hX⟩ : ∃ X, X = (wcells x).toArray := ⟨_, rfl⟩
  rw [← hX]
  obtain ⟨Y, hY⟩ : ∃ Y, Y = (u8s x.data).toArray := ⟨_, rfl⟩
  obtain ⟨i44, hi44, hs44⟩ := info44
  have hX0 : X[0]? = some (.int .i64 x.at_) := by rw [hX]; simp [wcells]
  have ldX : ∀ (g : Nat) (w : World), w.heap[g]? = some (.cells X 46 (0, 0)) → (loadVar 44 ⟨g, 1, none⟩).run Try.prog w = .ok (.agg Y) w := fun g w hg => by
    rw [hY]
    exact run_load_big (P := Try.prog) (t := 44) Try.underlying44 (.inl ⟨_, _, rfl⟩) hi44 (w := w) (b := g) (off := 1) (cs := u8s x.data) hs44 (by rw [length_u8s, hx])
      (fun j u hj => by rw [cell_of_row w _ _ _ _ _ hg, hX]; simpa [wcells, Nat.add_comm 1 j] using hj)
  obtain ⟨w2, hw2⟩ : ∃ w2, w2 = (W.alloc (.cells #[.slice a1 L n1, .slice a2 d.loose.length n2, .int .i64 d.fuse, .bool d.down] 43)).alloc (.cells X 46) := ⟨_, rfl⟩
  have hB : Below W.heap.size W w2 := by rw [hw2]; exact Below.alloc (Below.alloc (Below.refl _ _) (Nat.le_refl _) _) (by simp) _
  have G0 : w2.heap[W.heap.size]? = some (.cells #[.slice a1 L n1, .slice a2 d.loose.length n2, .int .i64 d.fuse, .bool d.down] 43 (0, 0)) := by rw [hw2]; exact heap_alloc2_old W _ _
  have G1 : w2.heap[W.heap.size + 1]? = some (.cells X 46 (0, 0)) := by rw [hw2]; exact heap_alloc2_new W _ _
  have hle : W.heap.size + 2 ≤ w2.heap.size := by have := block_lt G1; omega
  have k1 := alive_any w2
  have HX := Lib.hid hX
  have HY := Lib.hid hY
  have LDX := Lib.hid ldX
  have HH := Lib.hid hhi
  clear hX hY ldX hs hl hlo hhi
  go_enter Try.func8, Try.ntmps8
  go_wp2_with fail
  rw [← hw2]
  clear hw2
  refine k1.mono ?_
  rintro e w3 ⟨rfl, hb3⟩
  have G0 := (hb3.block _ (by omega)).trans G0
  have G1 := (hb3.block _ (by omega)).trans G1
  have hB := hB.trans (hb3.mono hB.size)
  have hle := Nat.le_trans hle hb3.size
  clear k1 hb3
  have C0 := cell_of_row w3 _ 0 _ _ _ G0
  have C1 := cell_of_row w3 _ 1 _ _ _ G0
  have C2 := cell_of_row w3 _ 2 _ _ _ G0
  have C3 := cell_of_row w3 _ 3 _ _ _ G0
  have k2 := great_any _ d w3 (h0.below hB)
  obtain ⟨g, hg⟩ : ∃ g, g = greatB d := ⟨_, rfl⟩
  rw [← hg] at k2
  have HG := Lib.hid hg
  clear hg
  go_wp2_with fail
  refine k2.mono ?_
  rintro e w4 ⟨rfl, hb4⟩
  have G0 := (hb4.block _ (by omega)).trans G0
  have G1 := (hb4.block _ (by omega)).trans G1
  have hB := hB.trans (hb4.mono hB.size)
  have hle := Nat.le_trans hle hb4.size
  clear k2 hb4 C0 C1 C2 C3
  have C0 := cell_of_row w4 _ 0 _ _ _ G0
  have C1 := cell_of_row w4 _ 1 _ _ _ G0
  have C2 := cell_of_row w4 _ 2 _ _ _ G0
  have C3 := cell_of_row w4 _ 3 _ _ _ G0
  cases g with
  | true =>
    go_wp2_with fail
    go_ret
    exact ⟨rfl, hB⟩
  | false =>
  by_cases hz : L = 0
  · rw [hz] at C0
    go_wp2_with fail
    go_ret
    exact ⟨rfl, hB⟩
  · have E0 := cell_of_row w4 _ 0 _ _ _ G1
    rw [hX0] at E0
    have hld := LDX.out _ _ G1
    have k3 := put_any _ d x.at_ x.data w4 (h0.below hB) hx (fun _ => True) (fun _ _ _ _ _ => ⟨fun _ _ _ _ _ => trivial, fun _ _ _ _ _ => trivial⟩) (fun _ _ => trivial)
    rw [← HY.out] at k3
    obtain ⟨D, hD⟩ : ∃ D, D = (putP d x.at_ x.data).1 := ⟨_, rfl⟩
    obtain ⟨E, hE⟩ : ∃ E, E = (putP d x.at_ x.data).2 := ⟨_, rfl⟩
    rw [← hD, ← hE] at k3
    have hE3 := putP_e d x.at_ x.data
    rw [← hE] at hE3
    have HD := Lib.hid hD
    have HE := Lib.hid hE
    have HE3 := Lib.hid hE3
    clear hD hE hE3
    have hz1 : ((L : Int) == 0) = false := by rw [beq_eq_false_iff_ne]; omega
    have HZ := Lib.hid hz
    clear hz
    go_wp2_with (refine wp_load_to (w' := w4) (.tmp 30) 44 rfl rfl ?_ rfl hld ?_; (exact rfl); refine Halt.in ?_)
    refine Halt.out ?_
    clear hld hz1
    go_wp2_with fail
    refine k3.mono ?_
    rintro e w5 ⟨⟨v', rfl, hd5, _⟩, hb5⟩
    obtain ⟨c1, m1, c2, m2, rfl, _, _⟩ := hd5.parts
    have G0 := (hb5.block _ (by omega)).trans G0
    have G1 := (hb5.block _ (by omega)).trans G1
    have hB := hB.trans (hb5.mono hB.size)
    have hle := Nat.le_trans hle hb5.size
    clear k3 hb5 C0 C1 C2 C3 E0
    have hB6 := fun o : Obj => Below.alloc hB (by omega) o
    rcases HE3.out with rfl | rfl | rfl
    rotate_left
    · go_wp2_with fail
      go_ret
      exact ⟨rfl, hB6 _⟩
    · go_wp2_with fail
      go_ret
      exact ⟨rfl, hB6 _⟩
    obtain ⟨m, hm, hml, hr1, hsec, hk⟩ := put_view (HG.out.symm) HE.out.symm
    rw [← HD.out] at hr1 hsec hk
    obtain ⟨kk, hkk⟩ : ∃ kk, kk = z % L := ⟨_, rfl⟩
    have hkl : kk < L := by rw [hkk]; exact Nat.mod_lt _ (Nat.pos_of_ne_zero HZ.out)
    obtain ⟨e2, e3, he4⟩ := hk kk (HL.out ▸ hkl)
    have k4 := fun w v B (h : DiskV B w v D) => read_any v D x.at_ w h
    rw [hr1] at k4
    simp only [← HY.out] at k4
    have hln := hd5.lens
    have hlb := read_len hln.1 hln.2 (kk : Int)
    have hln := h0.lens
    have hlc := read_len hln.1 hln.2 (kk : Int)
    obtain ⟨rb, hrb⟩ : ∃ r, r = (readP D kk).1 := ⟨_, rfl⟩
    obtain ⟨rc, hrc⟩ : ∃ r, r = (readP d kk).1 := ⟨_, rfl⟩
    have k5 := fun w v B (h : DiskV B w v D) => read_any v D kk w h
    have k6 := fun w v B (h : DiskV B w v d) => read_any v d kk w h
    rw [e2] at k5
    rw [e3] at k6
    rw [← hrb] at hlb he4 k5
    rw [← hrc] at hlc he4 k6
    obtain ⟨Yb, hYb⟩ : ∃ X, X = (u8s rb).toArray := ⟨_, rfl⟩
    obtain ⟨Yc, hYc⟩ : ∃ X, X = (u8s rc).toArray := ⟨_, rfl⟩
    rw [← hYb] at k5
    rw [← hYc] at k6
    have Eb := fun w => equal44 hlb hlb w
    have Ea := fun w => equal44 hx hx w
    simp only [decide_true, ← HY.out, ← hYb] at Ea Eb
    have sa : Y.size = 64 := by rw [HY.out]; simp [length_u8s, hx]
    have sb : Yb.size = 64 := by rw [hYb]; simp [length_u8s, hlb]
    have sc : Yc.size = 64 := by rw [hYc]; simp [length_u8s, hlc]
    have oa : ∀ v ∈ Y.toList, v.oneCell' = true := by rw [HY.out]; exact oneCell_u8s _
    have ob : ∀ v ∈ Yb.toList, v.oneCell' = true := by rw [hYb]; exact oneCell_u8s _
    have oc : ∀ v ∈ Yc.toList, v.oneCell' = true := by rw [hYc]; exact oneCell_u8s _
    have HBC := Lib.hid (show (kk : Int) ≠ x.at_ → Yb = Yc from fun h => by rw [hYb, hYc, he4 h])
    have HKK := Lib.hid hkk
    have K4 := Lib.hid k4
    have K5 := Lib.hid k5
    have K6 := Lib.hid k6
    have HEb := Lib.hid Eb
    have HEa := Lib.hid Ea
    have HOS := Lib.hid (And.intro (And.intro sa oa) (And.intro (And.intro sb ob) (And.intro sc oc)))
    clear hm hml hr1 hsec hk hkk e2 e3 he4 k4 k5 k6 hln hlb hlc hrb hrc hYb hYc Eb Ea sa sb sc oa ob oc
    obtain ⟨T, hT⟩ : ∃ T, T = w5.heap.size := ⟨_, rfl⟩
    obtain ⟨w6, hw6⟩ : ∃ w6, w6 = w5.alloc (.cells #[.slice c1 D.secs.length m1, .slice c2 D.loose.length m2, .int .i64 D.fuse, .bool D.down] 43) := ⟨_, rfl⟩
    have hb6 : Below w5.heap.size w5 w6 := by rw [hw6]; exact Below.alloc (Below.refl _ _) (Nat.le_refl _) _
    have GT : w6.heap[T]? = some (.cells #[.slice c1 D.secs.length m1, .slice c2 D.loose.length m2, .int .i64 D.fuse, .bool D.down] 43 (0, 0)) := by rw [hw6, hT]; exact heap_alloc_new w5 _
    have G0 := (hb6.block _ (by omega)).trans G0
    have G1 := (hb6.block _ (by omega)).trans G1
    have hB := hB.trans (hb6.mono hB.size)
    have hd6 := hd5.below hb6
    have hTl := block_lt GT
    have hTW : W.heap.size + 1 < T := by omega
    clear hb6 hd5 hle hB6
    have C0 := cell_of_row w6 _ 0 _ _ _ GT
    have C1 := cell_of_row w6 _ 1 _ _ _ GT
    have C2 := cell_of_row w6 _ 2 _ _ _ GT
    have C3 := cell_of_row w6 _ 3 _ _ _ GT
    have E0 := cell_of_row w6 _ 0 _ _ _ G1
    rw [hX0] at E0
    have F0 := cell_of_row w6 _ 0 _ _ _ G0
    have hz1 : ((L : Int) == 0) = false := by rw [beq_eq_false_iff_ne]; have := HZ.out; omega
    have hld40 : (loadVar 40 ⟨W.heap.size, 0, none⟩).run Try.prog w6 = .ok (.slice a1 L n1) w6 := by simp [go_sem, F0]
    have hhi := HH.out
    have hrem := run_rem Try.prog z L (by omega) HZ.out w6
    rw [← HKK.out] at hrem
    have HW6 := Lib.hid hw6
    have HTT := Lib.hid hT
    clear hw6 hT
    have k4 := K4.out w6 _ _ hd6
    go_wp2_with (refine wp_load_to (w' := w6) (.tmp 39) 40 rfl rfl ?_ rfl hld40 ?_; (exact HW6.out); refine Halt.in ?_)
    refine Halt.out ?_
    clear hld40
    rw [← HTT.out]
    go_wp2_with (refine wp_rem_at .i64 (.tmp 38) (.tmp 41) 3 3 rfl rfl rfl rfl hrem ?_; refine Halt.in ?_)
    refine Halt.out ?_
    clear hrem
    go_wp2_with fail
    clear hhi hz1
    refine k4.mono ?_
    rintro e w7 ⟨rfl, hb7⟩
    obtain ⟨z0, w7a, w8, hzr, hwa, hst, R10, hb8⟩ := fresh64 w7 Y HOS.out.1.1 HOS.out.1.2
    have HZR := Lib.hid hzr
    have HWA := Lib.hid hwa
    clear hzr hwa k4
    have hlw : w6.heap.size ≤ w7.heap.size := hb7.size
    have G0 := (hb8.block _ (Nat.lt_of_lt_of_le (block_lt G0) hlw)).trans ((hb7.block _ (block_lt G0)).trans G0)
    have G1 := (hb8.block _ (Nat.lt_of_lt_of_le (block_lt G1) hlw)).trans ((hb7.block _ (block_lt G1)).trans G1)
    have GT := (hb8.block _ (Nat.lt_of_lt_of_le (block_lt GT) hlw)).trans ((hb7.block _ (block_lt GT)).trans GT)
    have hB := hB.trans ((hb7.trans (hb8.mono hlw)).mono hB.size)
    have hd6 := (hd6.tight.below hb7).tight.below hb8
    clear C0 C1 C2 C3 E0 F0 hb7 hb8 hlw
    go_wp2_with (refine wp_alloc_to (w' := w7a) 44 rfl rfl (HZR.out _) ?_ ?_; (exact HWA.out); refine Halt.in ?_)
    refine Halt.out ?_
    clear HZR HWA
    go_wp2_with (refine wp_store_at (.tmp 10) (.tmp 48) 44 rfl rfl rfl rfl hst ?_; refine Halt.in ?_)
    refine Halt.out ?_
    clear hst
    have C0 := cell_of_row w8 _ 0 _ _ _ GT
    have C1 := cell_of_row w8 _ 1 _ _ _ GT
    have C2 := cell_of_row w8 _ 2 _ _ _ GT
    have C3 := cell_of_row w8 _ 3 _ _ _ GT
    have E0 := C0
    have F0 := C0
    have k4 := K5.out w8 _ _ hd6.tight
    have hd6 := hd6.tight
    go_wp2_with fail
    refine k4.mono ?_
    rintro e w9 ⟨rfl, hb7⟩
    obtain ⟨z1, w9a, w10, hzr, hwa, hst, R12, hb8⟩ := fresh64 w9 Yb HOS.out.2.1.1 HOS.out.2.1.2
    have HZR := Lib.hid hzr
    have HWA := Lib.hid hwa
    clear hzr hwa k4
    have hlw : w8.heap.size ≤ w9.heap.size := hb7.size
    have G0 := (hb8.block _ (Nat.lt_of_lt_of_le (block_lt G0) hlw)).trans ((hb7.block _ (block_lt G0)).trans G0)
    have G1 := (hb8.block _ (Nat.lt_of_lt_of_le (block_lt G1) hlw)).trans ((hb7.block _ (block_lt G1)).trans G1)
    have GT := (hb8.block _ (Nat.lt_of_lt_of_le (block_lt GT) hlw)).trans ((hb7.block _ (block_lt GT)).trans GT)
    have R10 := (hb8.block _ (Nat.lt_of_lt_of_le (block_lt R10) hlw)).trans ((hb7.block _ (block_lt R10)).trans R10)
    have hB := hB.trans ((hb7.trans (hb8.mono hlw)).mono hB.size)
    have hd6 := (hd6.tight.below hb7).tight.below hb8
    clear C0 C1 C2 C3 E0 F0 hb7 hb8 hlw
    go_wp2_with (refine wp_alloc_to (w' := w9a) 44 rfl rfl (HZR.out _) ?_ ?_; (exact HWA.out); refine Halt.in ?_)
    refine Halt.out ?_
    clear HZR HWA
    go_wp2_with (refine wp_store_at (.tmp 12) (.tmp 54) 44 rfl rfl rfl rfl hst ?_; refine Halt.in ?_)
    refine Halt.out ?_
    clear hst
    have C0 := cell_of_row w10 _ 0 _ _ _ G0
    have C1 := cell_of_row w10 _ 1 _ _ _ G0
    have C2 := cell_of_row w10 _ 2 _ _ _ G0
    have C3 := cell_of_row w10 _ 3 _ _ _ G0
    have E0 := C0
    have F0 := C0
    have k4 := K6.out w10 _ _ (h0.below hB)
    have hd6 := hd6.tight
    go_wp2_with fail
    refine k4.mono ?_
    rintro e w11 ⟨rfl, hb7⟩
    obtain ⟨z2, w11a, w12, hzr, hwa, hst, R14, hb8⟩ := fresh64 w11 Yc HOS.out.2.2.1 HOS.out.2.2.2
    have HZR := Lib.hid hzr
    have HWA := Lib.hid hwa
    clear hzr hwa k4
    have hlw : w10.heap.size ≤ w11.heap.size := hb7.size
    have G0 := (hb8.block _ (Nat.lt_of_lt_of_le (block_lt G0) hlw)).trans ((hb7.block _ (block_lt G0)).trans G0)
    have G1 := (hb8.block _ (Nat.lt_of_lt_of_le (block_lt G1) hlw)).trans ((hb7.block _ (block_lt G1)).trans G1)
    have GT := (hb8.block _ (Nat.lt_of_lt_of_le (block_lt GT) hlw)).trans ((hb7.block _ (block_lt GT)).trans GT)
    have R10 := (hb8.block _ (Nat.lt_of_lt_of_le (block_lt R10) hlw)).trans ((hb7.block _ (block_lt R10)).trans R10)
    have R12 := (hb8.block _ (Nat.lt_of_lt_of_le (block_lt R12) hlw)).trans ((hb7.block _ (block_lt R12)).trans R12)
    have hB := hB.trans ((hb7.trans (hb8.mono hlw)).mono hB.size)
    have hd6 := (hd6.tight.below hb7).tight.below hb8
    clear C0 C1 C2 C3 E0 F0 hb7 hb8 hlw
    go_wp2_with (refine wp_alloc_to (w' := w11a) 44 rfl rfl (HZR.out _) ?_ ?_; (exact HWA.out); refine Halt.in ?_)
    refine Halt.out ?_
    clear HZR HWA
    go_wp2_with (refine wp_store_at (.tmp 14) (.tmp 60) 44 rfl rfl rfl rfl hst ?_; refine Halt.in ?_)
    refine Halt.out ?_
    clear hst
    have E0 := cell_of_row w12 _ 0 _ _ _ G1
    rw [hX0] at E0
    have hlX := LDX.out _ _ G1
    have hl10 := run_loadVar_row (P := Try.prog) w12 w7.heap.size 44 44 Y (0, 0) _ R10 Try.underlying44 rfl (by rw [HOS.out.1.1]; exact size_sector)
    have hl12 := run_loadVar_row (P := Try.prog) w12 w9.heap.size 44 44 Yb (0, 0) _ R12 Try.underlying44 rfl (by rw [HOS.out.2.1.1]; exact size_sector)
    have hl14 := run_loadVar_row (P := Try.prog) w12 w11.heap.size 44 44 Yc (0, 0) _ R14 Try.underlying44 rfl (by rw [HOS.out.2.2.1]; exact size_sector)
    have Ea := HEa.out
    have Eb := HEb.out
    clear hd6 G0 G1 GT R10 R12 R14
    by_cases hka : (kk : Int) = x.at_
    · have hq : ((kk : Int) == x.at_) = true := by rw [hka]; exact beq_self_eq_true _
      clear hka
      go_wp2_with (first
        | (refine wp_load_w (w' := w12) (.tmp 10) 44 rfl rfl ?_ rfl hl10 ?_; (exact rfl))
        | (refine wp_load_w (w' := w12) (.tmp 74) 44 rfl rfl ?_ rfl hlX ?_; (exact rfl)))
      go_ret
      exact ⟨rfl, hB⟩
    · have hYY := HBC.out hka
      have hq : ((kk : Int) == x.at_) = false := by rw [beq_eq_false_iff_ne]; exact hka
      clear hka
      subst hYY
      go_wp2_with (first
        | (refine wp_load_w (w' := w12) (.tmp 10) 44 rfl rfl ?_ rfl hl10 ?_; (exact rfl))
        | (refine wp_load_w (w' := w12) (.tmp 74) 44 rfl rfl ?_ rfl hlX ?_; (exact rfl))
        | (refine wp_load_w (w' := w12) (.tmp 12) 44 rfl rfl ?_ rfl hl12 ?_; (exact rfl))
        | (refine wp_load_w (w' := w12) (.tmp 14) 44 rfl rfl ?_ rfl hl14 ?_; (exact rfl)))
      go_ret
      exact ⟨rfl, hB⟩
end Go.Proofs.Ytccjjlefpdlegaa
