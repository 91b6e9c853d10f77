/- Layer 1 (sector): Read. -/
import Derived.Test.YtaijompnohkmaaaGreatDoorMD
import Derived.WalkKit
set_option linter.unusedSimpArgs false
set_option linter.unusedVariables false
namespace Go.Proofs.YtaijompnohkmaaaGreatDoor
open Go.RowKit Go.Shelf
attribute [local go_sem] Oper.semAt_some
/-- The last loose write of a sector, or the sector. -/
def lastW (ls : List WriteP) (at_ : Int) (s : List UInt8) : List UInt8 := ls.foldl (fun s x => if x.at_ = at_ then x.data else s) s
def readP (d : DiskP) (at_ : Int) : List UInt8 × Int :=
  if rightB d && thereB d at_ then (if d.down then (zeroS, 9) else (lastW d.loose at_ (d.secs[at_.toNat]?.getD zeroS), 0)) else (zeroS, 1)
theorem alloc_old (w : World) (o : Obj) {r : Nat} (h : r < w.heap.size) : (w.alloc o).heap[r]? = w.heap[r]? := (Below.refl w.heap.size w |>.alloc (Nat.le_refl _) o).block r h
theorem zero44 : ∃ z : Value, z.cells = (u8s zeroS).toArray ∧ ∀ w, (zeroValue 94).run Tryz.prog w = .ok z w := by
  obtain ⟨i0, hi, hx⟩ := Option.bind_eq_some_iff.1 zero_sector
  obtain ⟨z0, hz0, hx⟩ := Option.map_eq_some_iff.1 hx
  simp only [Prod.mk.injEq] at hx
  refine ⟨z0, ?_, fun w => by simp [zeroValue, typeInfo, hi, hz0]⟩
  rw [hx.2.2]
  rfl
/-- What Read's own blocks hold. -/
structure RF (G : Nat) (w : World) (sv lv : Value) (d : DiskP) (at_ : Int) (A : Array Value) (e : Value) (Z : Array Value) : Prop where
  g0 : w.heap[G]? = some (.cells #[sv, lv, .int .i64 d.fuse, .bool d.down] 38 (0, 0))
  g1 : w.heap[G + 1]? = some (.cells #[.int .i64 at_] 3 (0, 0))
  g2 : w.heap[G + 1 + 1]? = some (.cells A 94 (0, 0))
  g3 : w.heap[G + 1 + 1 + 1]? = some (.cells #[e] 26 (0, 0))
  g4 : w.heap[G + 1 + 1 + 1 + 1]? = some (.cells Z 94 (0, 0))
  s : Secs G w sv d.secs
  l : Loose G w lv d.loose
theorem RF.size {G : Nat} {w : World} {sv lv : Value} {d : DiskP} {at_ : Int} {A Z : Array Value} {e : Value} (h : RF G w sv lv d at_ A e Z) : G + 5 ≤ w.heap.size := by have := block_lt h.g4; omega
theorem RF.below {G B' : Nat} {w w' : World} {sv lv : Value} {d : DiskP} {at_ : Int} {A Z : Array Value} {e : Value} (h : RF G w sv lv d at_ A e Z) (hb : Below B' w w') (hB : G + 5 ≤ B') : RF G w' sv lv d at_ A e Z :=
  ⟨(hb.block _ (by omega)).trans h.g0, (hb.block _ (by omega)).trans h.g1, (hb.block _ (by omega)).trans h.g2, (hb.block _ (by omega)).trans h.g3, (hb.block _ (by omega)).trans h.g4, h.s.below (hb.mono (by omega)), h.l.below (hb.mono (by omega))⟩
theorem info44 : ∃ i, Tryz.prog.info? 94 = some i ∧ i.size = 64 := by
  obtain ⟨i, _, hi, _, hs, _⟩ := zero_parts infoz_sector
  exact ⟨i, hi, hs⟩
/-- Cells stored over just as many cells. -/
theorem storeBig {t : TypeId} {n : Nat} (hi : ∃ i, Tryz.prog.info? t = some i ∧ i.size = n) {w : World} {g : Nat} {cur : Array Value} (hg : w.heap[g]? = some (.cells cur t (0, 0))) (hc : cur.size = n) (X : Array Value) (hX : X.size = n) (h1 : ∀ v ∈ X.toList, v.oneCell' = true) :
    ∃ w', (storeVar t ⟨g, 0, none⟩ (.agg X)).run Tryz.prog w = .ok () w' ∧ w'.heap[g]? = some (.cells X t (0, 0)) ∧ Below g w w' ∧ w'.heap.size = w.heap.size ∧ (∀ k, k ≠ g → w'.heap[k]? = w.heap[k]?) ∧ KeepsOthers w w' := by
  obtain ⟨i, hi, hs⟩ := hi
  have hst := run_store_big (P := Tryz.prog) hi (off := 0) (cs := X.toList) hg (by rw [hs]; simp [hX]) (by simp [hX, hc]) h1
  have e : (cur.toList.take 0 ++ X.toList ++ cur.toList.drop (0 + X.toList.length)).toArray = X := by
    rw [List.drop_eq_nil_of_le (by simp [hX, hc])]; simp
  rw [e] at hst
  refine ⟨_, hst, setRow_heap _ _ _ _ _ _ hg, ⟨rfl, rfl, rfl, by simp [World.setRow], fun j hj => setRow_other _ _ j _ (by omega)⟩, by simp [World.setRow], fun k hk => setRow_other _ _ k _ hk, ⟨by simp [World.setRow], fun k o hk ho => ?_⟩⟩
  by_cases hkg : k = g
  · subst hkg
    rw [hg] at hk
    cases hk
    simp [Obj.isCells] at ho
  · rw [setRow_other _ _ k _ hkg]
    exact hk
theorem store64 {w : World} {g : Nat} {cur : Array Value} (hg : w.heap[g]? = some (.cells cur 94 (0, 0))) (hc : cur.size = 64) (X : Array Value) (hX : X.size = 64) (h1 : ∀ v ∈ X.toList, v.oneCell' = true) :
    ∃ w', (storeVar 94 ⟨g, 0, none⟩ (.agg X)).run Tryz.prog w = .ok () w' ∧ w'.heap[g]? = some (.cells X 94 (0, 0)) ∧ Below g w w' ∧ w'.heap.size = w.heap.size ∧ (∀ k, k ≠ g → w'.heap[k]? = w.heap[k]?) ∧ KeepsOthers w w' := storeBig info44 hg hc X hX h1
theorem info46 : ∃ i, Tryz.prog.info? 96 = some i ∧ i.size = 65 := by
  obtain ⟨i, _, hi, _, hs, _⟩ := zero_parts infoz_write
  exact ⟨i, hi, hs⟩
theorem zero46 : ∃ z : Value, z.cells.size = 65 ∧ ∀ w, (zeroValue 96).run Tryz.prog w = .ok z w := by
  obtain ⟨i0, z0, hi, hz0, _, _, hz3⟩ := zero_parts infoz_write
  exact ⟨z0, hz3, fun w => by simp [zeroValue, typeInfo, hi, hz0]⟩
theorem lastW_none (at_ : Int) : ∀ (ls : List WriteP) (s : List UInt8), (∀ x ∈ ls, x.at_ ≠ at_) → lastW ls at_ s = s
  | [], _, _ => rfl
  | x :: ls, s, h => by
    unfold lastW
    rw [List.foldl_cons, if_neg (h x (List.mem_cons_self ..))]
    exact lastW_none at_ ls s (fun y hy => h y (List.mem_cons_of_mem _ hy))
theorem lastW_at {at_ : Int} {ls : List WriteP} {m : Nat} (hm : m < ls.length) (h1 : ls[m].at_ = at_) (h2 : ∀ j (hj : j < ls.length), m < j → ls[j].at_ ≠ at_) (s : List UInt8) : lastW ls at_ s = ls[m].data := by
  have e : ls = ls.take m ++ ls[m] :: ls.drop (m + 1) := by rw [List.getElem_cons_drop]; exact (List.take_append_drop m ls).symm
  have hn : lastW (ls.drop (m + 1)) at_ ls[m].data = ls[m].data := lastW_none at_ _ _ (fun x hx => by
    obtain ⟨j, hj, rfl⟩ := List.getElem_of_mem hx
    rw [List.getElem_drop]
    exact h2 _ _ (by omega))
  have hf : lastW ls at_ s = (ls.take m ++ ls[m] :: ls.drop (m + 1)).foldl (fun s x => if x.at_ = at_ then x.data else s) s := by rw [← e]; rfl
  rw [hf, List.foldl_append, List.foldl_cons, if_pos h1]
  exact hn
theorem lastW_upto_none {at_ : Int} {ls : List WriteP} (h64 : ∀ x ∈ ls, x.data.length = 64) (h : ∀ p ∈ upto (backAt ls) ls.length, p.2.1.at_ ≠ at_) (s : List UInt8) : lastW ls at_ s = s :=
  lastW_none at_ ls s (fun x hx => by
    obtain ⟨j, hj, rfl⟩ := List.getElem_of_mem hx
    have := h (backAt ls (ls.length - 1 - j)) (by simp only [upto, List.mem_map, List.mem_range]; exact ⟨_, by omega, rfl⟩)
    have e : ls.length - 1 - (ls.length - 1 - j) = j := by omega
    simp only [backAt, e, sub64_at h64 hj] at this
    exact this)
theorem lastW_upto_at {at_ : Int} {ls : List WriteP} (h64 : ∀ x ∈ ls, x.data.length = 64) {k : Nat} (hk : k ≤ ls.length) {ini : List (Int × W64)} {last : Int × W64} (e : upto (backAt ls) k = ini ++ [last]) (hi : ∀ p ∈ ini, p.2.1.at_ ≠ at_) (hl : last.2.1.at_ = at_) (s : List UInt8) : lastW ls at_ s = last.2.1.data := by
  cases k with
  | zero => simp [upto] at e
  | succ k =>
    rw [upto_succ] at e
    obtain ⟨rfl, e5⟩ := List.append_inj' e rfl
    obtain rfl : backAt ls k = last := by simpa using e5
    have hm : ls.length - 1 - k < ls.length := by omega
    simp only [backAt, sub64_at h64 hm] at hl ⊢
    refine lastW_at hm hl (fun j hj hmj => ?_) s
    have := hi (backAt ls (ls.length - 1 - j)) (by simp only [upto, List.mem_map, List.mem_range]; exact ⟨_, by omega, rfl⟩)
    have e : ls.length - 1 - (ls.length - 1 - j) = j := by omega
    simp only [backAt, e, sub64_at h64 hj] at this
    exact this
theorem results_cc {fn : Func} {p q : Tmp} (h : fn.results = #[.cell p 94, .cell q 26]) (tmps : Array Value) (w : World) (g g' : Nat) (cs : Array Value) (e : Int)
    (hp : tmps.getD p undef = .pointer (some ⟨g, 0, none⟩)) (hg : w.heap[g]? = some (.cells cs 94 (0, 0))) (hq : tmps.getD q undef = .pointer (some ⟨g', 0, none⟩)) (hg' : w.heap[g']? = some (.cells #[.int .i64 e] 26 (0, 0))) (hc : cs.size = 64) :
    (results fn tmps).run Tryz.prog w = .ok (.tuple #[.agg cs, .int .i64 e]) w := by
  have hp' : tmps[p]?.getD undef = .pointer (some ⟨g, 0, none⟩) := by simpa using hp
  have hq' : tmps[q]?.getD undef = .pointer (some ⟨g', 0, none⟩) := by simpa using hq
  have h1 := run_loadVar_row (P := Tryz.prog) w g 94 94 cs (0, 0) _ hg Tryz.underlying94 rfl (by rw [hc]; exact size_sector)
  have hcell := cell_of_row w g' 0 _ _ _ hg'
  have h2 : (loadVar 26 ⟨g', 0, none⟩).run Tryz.prog w = .ok (.int .i64 e) w := by simp [go_sem, hcell]
  simp [results, h, hp', hq', asAddr, h1, h2]
theorem retM {F : Fence} {n : Nat} {P : Program} {fn : Func} {R : Ending → World → Prop} {tmps : Array Value} {w : World} {v : Value} (h : (results fn tmps).run P w = .ok v w) (hR : R (.returned v) w) : bodyPostM F n P fn R .ret { tmps := tmps, defers := [] } w := ⟨_, h, hR⟩
theorem retD {F : Fence} {n : Nat} {P : Program} {fn : Func} {R : Ending → World → Prop} {tmps : Array Value} {w : World} {v : Value} {D : Nat} (hK : w.heap[D]? = some (.deferred (some []))) (h : (results fn tmps).run P (w.putObj D (.deferred none)) = .ok v (w.putObj D (.deferred none))) (hR : R (.returned v) (w.putObj D (.deferred none))) :
    bodyPostM F n P fn R .ret { tmps := tmps, defers := [{ target := .collected D, args := #[] }] } w := ⟨by simp, .inl ⟨_, _, rfl, run_takeDeferred hK, ⟨_, h, hR⟩⟩⟩
theorem setCell_one {w : World} {g : Nat} {u : Value} {t : TypeId} (h : w.heap[g]? = some (.cells #[u] t (0, 0))) (v : Value) : (w.setCell ⟨g, 0, none⟩ v).heap[g]? = some (.cells #[v] t (0, 0)) := by
  simp [World.setCell, Array.getElem?_modify, h]
set_option maxRecDepth 100000 in
set_option maxHeartbeats 2000000 in
theorem read_any {B : Nat} (v : Value) (d : DiskP) (at_ : Int) (w : World) (h : DiskV B w v d) :
    Calls Tryz.prog 135 #[v, .int .i64 at_] w fun e w' => e = .returned (.tuple #[.agg (u8s (readP d at_).1).toArray, .int .i64 (readP d at_).2]) ∧ Below w.heap.size w w' := by
  obtain ⟨a1, n1, a2, n2, rfl, hs, hl⟩ := h.tight.parts
  clear h
  obtain ⟨z, hz, hzr⟩ := zero44
  obtain ⟨Z, hZ⟩ : ∃ Z, Z = z.cells := ⟨_, rfl⟩
  rw [← hZ] at hz
  have HZ := Lib.hid hz
  have HZC := Lib.hid hZ
  have HZR := Lib.hid hzr
  clear hz hzr
  obtain ⟨w2, hw2⟩ : ∃ w2, w2 = ((w.alloc (.cells #[.slice a1 d.secs.length n1, .slice a2 d.loose.length n2, .int .i64 d.fuse, .bool d.down] 38)).alloc (.cells #[.int .i64 at_] 3)) := ⟨_, rfl⟩
  have hsz2 : w2.heap.size = w.heap.size + 1 + 1 := by rw [hw2]; simp
  have hb2 : Below w.heap.size w w2 := by rw [hw2]; exact Below.alloc (Below.alloc (Below.refl _ _) (Nat.le_refl _) _) (by simp) _
  have G0 : w2.heap[w.heap.size]? = some (.cells #[.slice a1 d.secs.length n1, .slice a2 d.loose.length n2, .int .i64 d.fuse, .bool d.down] 38 (0, 0)) := by rw [hw2]; exact heap_alloc2_old w _ _
  have G1 : w2.heap[w.heap.size + 1]? = some (.cells #[.int .i64 at_] 3 (0, 0)) := by rw [hw2]; exact heap_alloc2_new w _ _
  obtain ⟨w3, hw3⟩ : ∃ w3, w3 = w2.alloc (.cells Z 94) := ⟨_, rfl⟩
  obtain ⟨w4, hw4⟩ : ∃ w4, w4 = w3.alloc (.cells #[.int .i64 0] 26) := ⟨_, rfl⟩
  obtain ⟨w5, hw5⟩ : ∃ w5, w5 = w4.alloc (.cells Z 94) := ⟨_, rfl⟩
  have hsz3 : w3.heap.size = w.heap.size + 1 + 1 + 1 := by rw [hw3]; simp [hsz2]
  have hsz4 : w4.heap.size = w.heap.size + 1 + 1 + 1 + 1 := by rw [hw4]; simp [hsz3]
  have hsz5 : w5.heap.size = w.heap.size + 1 + 1 + 1 + 1 + 1 := by rw [hw5]; simp [hsz4]
  have hb5 : Below w2.heap.size w2 w5 := by
    rw [hw5, hw4, hw3]
    exact Below.alloc (Below.alloc (Below.alloc (Below.refl _ _) (Nat.le_refl _) _) (by simp) _) (by simp; omega) _
  have G2 : w5.heap[w.heap.size + 1 + 1]? = some (.cells Z 94 (0, 0)) := by
    rw [hw5, alloc_old _ _ (by omega), hw4, alloc_old _ _ (by omega), hw3, ← hsz2]; exact heap_alloc_new w2 _
  have G3 : w5.heap[w.heap.size + 1 + 1 + 1]? = some (.cells #[.int .i64 0] 26 (0, 0)) := by
    rw [hw5, alloc_old _ _ (by omega), hw4, ← hsz3]; exact heap_alloc_new w3 _
  have G4 : w5.heap[w.heap.size + 1 + 1 + 1 + 1]? = some (.cells Z 94 (0, 0)) := by
    rw [hw5, ← hsz4]; exact heap_alloc_new w4 _
  have G0 := (hb5.block _ (by omega)).trans G0
  have G1 := (hb5.block _ (by omega)).trans G1
  have hbb := hb2.trans (hb5.mono hb2.size)
  have hs := hs.below hbb
  have hl := hl.below hbb
  have hZs : Z.size = 64 := by rw [HZ.out]; simp [length_u8s, zeroS]
  have hZ1 : ∀ v ∈ Z.toList, v.oneCell' = true := by rw [HZ.out]; exact oneCell_u8s _
  have F : RF w.heap.size w5 (.slice a1 d.secs.length n1) (.slice a2 d.loose.length n2) d at_ Z (.int .i64 0) Z := ⟨G0, G1, G2, G3, G4, hs, hl⟩
  have k1 := right_any _ d w5 ⟨_, _, rfl, F.s, F.l⟩
  have C0 := cell_of_row w5 _ 0 _ _ _ F.g0
  have C1 := cell_of_row w5 _ 1 _ _ _ F.g0
  have C2 := cell_of_row w5 _ 2 _ _ _ F.g0
  have C3 := cell_of_row w5 _ 3 _ _ _ F.g0
  have hle := F.size
  clear hb2 hb5 hZ G0 G1 G2 G3 G4 hs hl
  have HW3 := Lib.hid (show w3 = ((w.alloc (.cells #[.slice a1 d.secs.length n1, .slice a2 d.loose.length n2, .int .i64 d.fuse, .bool d.down] 38)).alloc (.cells #[.int .i64 at_] 3)).alloc (.cells z.cells 94) by rw [hw3, hw2, HZC.out])
  have HW4 := Lib.hid hw4
  have HW5 := Lib.hid (show w5 = w4.alloc (.cells z.cells 94) by rw [hw5, HZC.out])
  clear hw2 hw3 hw4 hw5
  obtain ⟨R, hR⟩ : ∃ R, R = rightB d := ⟨_, rfl⟩
  rw [← hR] at k1
  have HR := Lib.hid hR
  clear hR
  refine (callsIn_wide (n := 4)).1 ?_
  refine callsIn_of_wp_marks Tryz.func135 rfl trivial ?_ rfl
  simp only [Tryz.ntmps135, List.size_toArray, List.length_cons, List.length_nil, Nat.reduceAdd, Nat.reduceSub, Array.replicate_succ, Array.replicate_zero, List.push_toArray, List.append_toArray, List.nil_append, List.cons_append]
  gi_wp2_with (refine wpin_alloc_to (w' := w3) 94 rfl rfl (HZR.out _) ?_ ?_; (exact HW3.out); refine Halt.in ?_)
  refine Halt.out ?_
  gi_wp2_with (refine wpin_alloc_to (w' := w5) 94 rfl rfl (HZR.out _) ?_ ?_; (rw [← HW4.out]; exact HW5.out); refine Halt.in ?_)
  refine Halt.out ?_
  gi_wp2_with fail
  refine ⟨trivial, (callsIn_wide.2 k1).mono ?_⟩
  rintro e w6 ⟨rfl, hb6⟩
  have F := F.below hb6 (by omega)
  have hbb := hbb.trans (hb6.mono hbb.size)
  have hle := F.size
  clear k1 C0 C1 C2 C3 hb6 hsz2 hsz3 hsz4 hsz5
  have C0 := cell_of_row w6 _ 0 _ _ _ F.g0
  have C1 := cell_of_row w6 _ 1 _ _ _ F.g0
  have C2 := cell_of_row w6 _ 2 _ _ _ F.g0
  have C3 := cell_of_row w6 _ 3 _ _ _ F.g0
  have C4 := cell_of_row w6 _ 0 _ _ _ F.g1
  have C5 := cell_of_row w6 _ 0 _ _ _ F.g3
  have Y := frozen_row F.g3
  have hldz := run_loadVar_row (P := Tryz.prog) w6 (w.heap.size + 1 + 1 + 1 + 1) 94 94 Z (0, 0) _ F.g4 Tryz.underlying94 rfl (by rw [hZs]; exact size_sector)
  cases R with
  | false =>
    have hP : readP d at_ = (zeroS, 1) := by simp [readP, ← HR.out]
    have HP := Lib.hid hP
    clear hP
    obtain ⟨w7, hst, hn7, hb7, hsz7, hoth7, _⟩ := store64 F.g2 hZs Z hZs hZ1
    gi_wp2_with fail
    refine ⟨trivial, ?_⟩
    gi_wp2_with (first
      | (refine wpin_load_to (w' := w6) (.tmp 6) 94 rfl rfl ?_ rfl hldz ?_; (exact rfl))
      | (refine wpin_store_at (.tmp 4) (.tmp 19) 94 rfl rfl rfl rfl hst ?_; refine Halt.in ?_))
    refine Halt.out ?_
    clear hst hldz C0 C1 C2 C3 C4 C5 Y
    have H3 := (hoth7 (w.heap.size + 1 + 1 + 1) (by omega)).trans F.g3
    have C5 := cell_of_row w7 _ 0 _ _ _ H3
    have Y := frozen_row H3
    gi_wp2
    refine retM (results_cc rfl _ _ _ _ _ _ rfl ((setFar (by omega) 0 _).trans hn7) rfl (setCell_one H3 _) hZs) ?_
    rw [HP.out, HZ.out]
    exact ⟨rfl, (hbb.trans (hb7.mono (by omega))).setCell (p := ⟨w.heap.size + 1 + 1 + 1, 0, none⟩) (show w.heap.size ≤ w.heap.size + 1 + 1 + 1 by omega) _⟩
  | true =>
    have k1 := there_any _ d at_ w6 ⟨_, _, rfl, F.s, F.l⟩
    cases hT : thereB d at_ with
    | false =>
      have hP : readP d at_ = (zeroS, 1) := by simp [readP, hT]
      rw [hT] at k1
      have HP := Lib.hid hP
      clear hP hT hldz
      gi_wp2_with fail
      refine ⟨trivial, (callsIn_wide.2 k1).mono ?_⟩
      rintro e w6' ⟨rfl, hb6'⟩
      have F := F.below hb6' (by omega)
      have hbb := hbb.trans (hb6'.mono hbb.size)
      have hle := F.size
      have hldz := run_loadVar_row (P := Tryz.prog) w6' (w.heap.size + 1 + 1 + 1 + 1) 94 94 Z (0, 0) _ F.g4 Tryz.underlying94 rfl (by rw [hZs]; exact size_sector)
      obtain ⟨w7, hst, hn7, hb7, hsz7, hoth7, _⟩ := store64 F.g2 hZs Z hZs hZ1
      gi_wp2_with (first
        | (refine wpin_load_to (w' := w6') (.tmp 6) 94 rfl rfl ?_ rfl hldz ?_; (exact rfl))
        | (refine wpin_store_at (.tmp 4) (.tmp 19) 94 rfl rfl rfl rfl hst ?_; refine Halt.in ?_))
      refine Halt.out ?_
      clear hst hldz C0 C1 C2 C3 C4 C5 Y
      have H3 := (hoth7 (w.heap.size + 1 + 1 + 1) (by omega)).trans F.g3
      have C5 := cell_of_row w7 _ 0 _ _ _ H3
      have Y := frozen_row H3
      gi_wp2
      refine retM (results_cc rfl _ _ _ _ _ _ rfl ((setFar (by omega) 0 _).trans hn7) rfl (setCell_one H3 _) hZs) ?_
      rw [HP.out, HZ.out]
      exact ⟨rfl, (hbb.trans (hb7.mono (by omega))).setCell (p := ⟨w.heap.size + 1 + 1 + 1, 0, none⟩) (show w.heap.size ≤ w.heap.size + 1 + 1 + 1 by omega) _⟩
    | true =>
      have hR := HR.out.symm
      rw [hT] at k1
      have HTT := Lib.hid hT
      clear hldz
      gi_wp2_with fail
      refine ⟨trivial, (callsIn_wide.2 k1).mono ?_⟩
      rintro e w6' ⟨rfl, hb6'⟩
      have F := F.below hb6' (by omega)
      have hbb := hbb.trans (hb6'.mono hbb.size)
      have hle := F.size
      have hldz := run_loadVar_row (P := Tryz.prog) w6' (w.heap.size + 1 + 1 + 1 + 1) 94 94 Z (0, 0) _ F.g4 Tryz.underlying94 rfl (by rw [hZs]; exact size_sector)
      obtain ⟨w7, hst, hn7, hb7, hsz7, hoth7, _⟩ := store64 F.g2 hZs Z hZs hZ1
      clear C0 C1 C2 C3 C4 C5 Y hb6' k1
      have C0 := cell_of_row w6' _ 0 _ _ _ F.g0
      have C1 := cell_of_row w6' _ 1 _ _ _ F.g0
      have C2 := cell_of_row w6' _ 2 _ _ _ F.g0
      have C3 := cell_of_row w6' _ 3 _ _ _ F.g0
      have C4 := cell_of_row w6' _ 0 _ _ _ F.g1
      have C5 := cell_of_row w6' _ 0 _ _ _ F.g3
      have Y := frozen_row F.g3
      cases hD : d.down with
      | true =>
        have hP : readP d at_ = (zeroS, 9) := by simp [readP, hT, hR, hD]
        have HP := Lib.hid hP
        rw [hD] at C3
        clear hP hT hR
        gi_wp2_with (first
          | (refine wpin_load_to (w' := w6') (.tmp 6) 94 rfl rfl ?_ rfl hldz ?_; (exact rfl))
          | (refine wpin_store_at (.tmp 4) (.tmp 23) 94 rfl rfl rfl rfl hst ?_; refine Halt.in ?_))
        refine Halt.out ?_
        clear hst hldz C0 C1 C2 C3 C4 C5 Y
        have H3 := (hoth7 (w.heap.size + 1 + 1 + 1) (by omega)).trans F.g3
        have C5 := cell_of_row w7 _ 0 _ _ _ H3
        have Y := frozen_row H3
        gi_wp2
        refine retM (results_cc rfl _ _ _ _ _ _ rfl ((setFar (by omega) 0 _).trans hn7) rfl (setCell_one H3 _) hZs) ?_
        rw [HP.out, HZ.out]
        exact ⟨rfl, (hbb.trans (hb7.mono (by omega))).setCell (p := ⟨w.heap.size + 1 + 1 + 1, 0, none⟩) (show w.heap.size ≤ w.heap.size + 1 + 1 + 1 by omega) _⟩
      | false =>
        have hP : readP d at_ = (lastW d.loose at_ (d.secs[at_.toNat]?.getD zeroS), 0) := by simp [readP, hT, hR, hD]
        have HP := Lib.hid hP
        have hlen : d.loose.length ≤ 2 ^ 40 := by simp only [rightB, Bool.and_eq_true, decide_eq_true_eq] at hR; omega
        have HL := Lib.hid hlen
        rw [hD] at C3
        clear hP hT hR hst hldz hn7 hb7 hsz7 hoth7 hlen hD
        have k2 := fun w => backward_any a2 d.loose.length n2 w
        gi_wp2_with fail
        refine ⟨trivial, (callsIn_wide.2 (k2 _)).mono ?_⟩
        rintro e w8 ⟨rfl, hw8⟩
        have hb8 : Below w6'.heap.size w6' w8 := by rw [hw8]; exact Below.alloc (Below.refl _ _) (Nat.le_refl _) _
        have hbs := heap_alloc_new w6' (.cells #[.slice a2 d.loose.length n2] 36)
        rw [← hw8] at hbs
        have hbs := cell_of_row w8 _ 0 _ _ _ hbs
        have hs8 : w8.heap.size = w6'.heap.size + 1 := by rw [hw8]; simp
        have F := F.below hb8 (by omega)
        have hbb := hbb.trans (hb8.mono hbb.size)
        have hl8 := F.l
        have hbb8 : w.heap.size + 5 ≤ w8.heap.size := F.size
        clear k2 C0 C1 C2 C3 C4 C5 Y hb8 hw8
        obtain ⟨Bs, hBs⟩ : ∃ Bs, Bs = w6'.heap.size := ⟨_, rfl⟩
        rw [← hBs] at hbs hs8 ⊢
        clear hBs
        gi_wp2_with fail
        refine wpIn_rangeFunc_ownH rfl (by decide) (gf := 173) (lb := #[.pointer (some ⟨Bs, 0, none⟩)]) rfl trivial (fun args w => callFunc_run Tryz.func173 rfl rfl args w)
          (backward_stops 3 (by decide) Bs w8.heap.size _ d.loose HL.out (by omega) w8 (Nat.le_refl _) hbs hl8.tight) belowK_t (belowK_b (Nat.le_refl _)) (Below.refl _ _) (fun _ => rfl)
          (fun pre W => (∀ p ∈ pre, p.2.1.at_ ≠ at_) ∧ Below w8.heap.size w8 W)
          (fun c pre W => (c = .ret ∧ ∃ ini last, pre = ini ++ [last] ∧ (∀ p ∈ ini, p.2.1.at_ ≠ at_) ∧ last.2.1.at_ = at_ ∧ W.heap[w.heap.size + 1 + 1]? = some (.cells (u8s last.2.1.data).toArray 94 (0, 0)) ∧ W.heap[w.heap.size + 1 + 1 + 1]? = some (.cells #[.int .i64 0] 26 (0, 0))) ∧ Below w.heap.size w W)
          (OwnFrom.and (ownFrom_pure _ _) (ownFrom_below (Nat.le_refl _) (Nat.le_refl _)))
          (fun c => OwnFrom.and (Go.Own.from (fun s A B row hs hg hr => by
            obtain ⟨hc, ini, last, e1, e2, e3, h2, h3⟩ := hs
            exact ⟨hc, ini, last, e1, e2, e3, (grownBy_keeps_cells hg hr h2 rfl).trans h2, (grownBy_keeps_cells hg hr h3 rfl).trans h3⟩) _) (ownFrom_below (Nat.le_refl _) hbb.size))
          ⟨fun p hp => absurd hp List.not_mem_nil, Below.refl _ _⟩
          (fun x a' W => ∃ Bx, w8.heap.size ≤ Bx ∧ W.heap[Bx]? = some (.cells (wcells x.2.1).toArray 96 (0, 0)) ∧ a' = { tmps := #[.agg #[.slice a1 d.secs.length n1, .slice a2 d.loose.length n2, .int .i64 d.fuse, .bool false], .int .i64 at_, .pointer (some ⟨w.heap.size, 0, none⟩), .pointer (some ⟨w.heap.size + 1, 0, none⟩), .pointer (some ⟨w.heap.size + 1 + 1, 0, none⟩), .pointer (some ⟨w.heap.size + 1 + 1 + 1, 0, none⟩), .pointer (some ⟨w.heap.size + 1 + 1 + 1 + 1, 0, none⟩), undef, .pointer (some ⟨Bx, 0, none⟩), .bool false, .agg #[.slice a1 d.secs.length n1, .slice a2 d.loose.length n2, .int .i64 d.fuse, .bool false], .bool true, .bool false, .bool false, .agg #[.slice a1 d.secs.length n1, .slice a2 d.loose.length n2, .int .i64 d.fuse, .bool false], .int .i64 at_, .bool true, .bool false, .bool false, undef, .bool false, .pointer (some ⟨w.heap.size, 3, none⟩), .bool false, undef, .pointer (some ⟨w.heap.size, 1, none⟩), .slice a2 d.loose.length n2, .func (.func 173) #[] #[.pointer (some ⟨Bs, 0, none⟩)], .int .i64 x.1, .agg (wcells x.2.1).toArray, undef, undef, undef, undef, undef, undef, undef, undef, undef, undef, undef], defers := [] })
          (fun x a' => Go.Own.from (fun s A B row hs hg hr => by
            obtain ⟨Bx, h1, h2, h3⟩ := hs
            exact ⟨Bx, h1, (grownBy_keeps_cells hg hr h2 rfl).trans h2, h3⟩) _) ?assign ?body ?done ?stop
        case assign =>
          rintro l pre x W K ⟨hp, hB⟩ hK
          obtain ⟨z, hzs, hzr⟩ := zero46
          obtain ⟨W1, hW1⟩ : ∃ W1, W1 = W.alloc (.cells z.cells 96) := ⟨_, rfl⟩
          have hn1 : W1.heap[W.heap.size]? = some (.cells z.cells 96 (0, 0)) := by rw [hW1]; exact heap_alloc_new W _
          have hK1 : KeepsOthers W W1 := by rw [hW1]; exact KeepsOthers.alloc _ _
          have hB1 : Below W.heap.size W W1 := by rw [hW1]; exact Below.alloc (Below.refl _ _) (Nat.le_refl _) _
          obtain ⟨X, hX⟩ : ∃ X, X = (wcells x.2.1).toArray := ⟨_, rfl⟩
          obtain ⟨W2, hst, hn2, hB2, _, _, hK2⟩ := storeBig info46 hn1 hzs X (by rw [hX]; simp [length_wcells, x.2.2]) (by rw [hX]; exact oneCell_w _)
          have hB2 := hB1.trans (hB2.mono (Nat.le_refl _))
          have HK := Lib.hid (hK { tmps := #[.agg #[.slice a1 d.secs.length n1, .slice a2 d.loose.length n2, .int .i64 d.fuse, .bool false], .int .i64 at_, .pointer (some ⟨w.heap.size, 0, none⟩), .pointer (some ⟨w.heap.size + 1, 0, none⟩), .pointer (some ⟨w.heap.size + 1 + 1, 0, none⟩), .pointer (some ⟨w.heap.size + 1 + 1 + 1, 0, none⟩), .pointer (some ⟨w.heap.size + 1 + 1 + 1 + 1, 0, none⟩), undef, .pointer (some ⟨W.heap.size, 0, none⟩), .bool false, .agg #[.slice a1 d.secs.length n1, .slice a2 d.loose.length n2, .int .i64 d.fuse, .bool false], .bool true, .bool false, .bool false, .agg #[.slice a1 d.secs.length n1, .slice a2 d.loose.length n2, .int .i64 d.fuse, .bool false], .int .i64 at_, .bool true, .bool false, .bool false, undef, .bool false, .pointer (some ⟨w.heap.size, 3, none⟩), .bool false, undef, .pointer (some ⟨w.heap.size, 1, none⟩), .slice a2 d.loose.length n2, .func (.func 173) #[] #[.pointer (some ⟨Bs, 0, none⟩)], .int .i64 x.1, .agg (wcells x.2.1).toArray, undef, undef, undef, undef, undef, undef, undef, undef, undef, undef, undef], defers := [] } W2 ((hK1.trans hK2).from _) (hB2.mono hB.size) ⟨hp, hB.trans (hB2.mono hB.size)⟩ ⟨W.heap.size, hB.size, by rw [hn2, hX], rfl⟩)
          rw [← hX] at HK
          have HZ46 := Lib.hid hzr
          have HW1 := Lib.hid hW1
          unfold encW
          rw [← hX]
          clear hX hK hzr hW1
          gi_wp2_with (refine wpin_alloc_to (w' := W1) 96 rfl rfl (HZ46.out _) ?_ ?_; (exact HW1.out); refine Halt.in ?_)
          refine Halt.out ?_
          gi_wp2_with (refine wpin_store_at (.tmp 8) (.tmp 28) 96 rfl rfl rfl rfl hst ?_)
          exact HK.out
        case body =>
          rintro l pre x a' W hl ⟨r, hr⟩ ⟨hp, hB⟩ ⟨Bx, hBx, bX, rfl⟩ hlt
          have F := F.below hB hbb8
          have hbW := hbb.trans (hB.mono hbb.size)
          have X0 := cell_of_row W _ 0 _ _ _ bX
          have hX0 : (wcells x.2.1).toArray[0]? = some (.int .i64 x.2.1.at_) := by simp [wcells]
          rw [hX0] at X0
          have C4 := cell_of_row W _ 0 _ _ _ F.g1
          have C5 := cell_of_row W _ 0 _ _ _ F.g3
          have Y := frozen_row F.g3
          obtain ⟨i44, hi44, hs44⟩ := info44
          have hld := run_load_big (P := Tryz.prog) (t := 94) Tryz.underlying94 (.inl ⟨_, _, rfl⟩) hi44 (w := W) (b := Bx) (off := 1) (cs := u8s x.2.1.data) hs44 (by rw [length_u8s, x.2.2])
            (fun j u hj => by rw [cell_of_row W _ _ _ _ _ bX]; simpa [wcells, Nat.add_comm 1 j] using hj)
          obtain ⟨X, hX⟩ : ∃ X, X = (u8s x.2.1.data).toArray := ⟨_, rfl⟩
          rw [← hX] at hld
          obtain ⟨W2, hst, hn2, hB2, _, hoth2, hK2⟩ := store64 F.g2 hZs X (by rw [hX]; simp [length_u8s, x.2.2]) (by rw [hX]; exact oneCell_u8s _)
          have HX := Lib.hid hX
          obtain ⟨y, hy⟩ : ∃ y, y = x.2.1.at_ := ⟨_, rfl⟩
          rw [← hy] at X0
          have HY := Lib.hid hy
          obtain ⟨V, hV⟩ : ∃ V, V = (wcells x.2.1).toArray := ⟨_, rfl⟩
          rw [← hV]
          clear hX hX0 hy hV
          by_cases hx : y = at_
          · gi_wp2_with (first
              | (refine wpin_load_to (w' := W) (.tmp 33) 94 rfl rfl ?_ rfl hld ?_; (exact rfl))
              | (refine wpin_store_at (.tmp 4) (.tmp 34) 94 rfl rfl rfl rfl hst ?_; refine Halt.in ?_))
            refine Halt.out ?_
            clear hst hld C4 C5 Y X0
            have H3 := (hoth2 (w.heap.size + 1 + 1 + 1) (by omega)).trans F.g3
            have C5 := cell_of_row W2 _ 0 _ _ _ H3
            have Y := frozen_row H3
            gi_wp2
            refine ⟨?_, ⟨rfl, pre, x, rfl, hp, HY.out.symm.trans hx, ?_, ?_⟩, ?_⟩
            · exact (hK2.trans (KeepsOthers.setCell _ _ _)).from _
            · rw [setFar (by omega), ← HX.out]; exact hn2
            · exact setCell_one H3 _
            · exact (hbW.trans (hB2.mono (by omega))).setCell (p := ⟨w.heap.size + 1 + 1 + 1, 0, none⟩) (show w.heap.size ≤ w.heap.size + 1 + 1 + 1 by omega) _
          · gi_wp2
            exact ⟨KeepsFrom.refl _ _, Below.refl _ _, fun p hp' => (List.mem_append.1 hp').elim (hp p) (fun e => by simp at e; subst e; rw [← HY.out]; exact hx), hB⟩
        case done =>
          rintro D xs W hD rfl ⟨hp, hB⟩ hK
          have F := F.below hB hbb8
          have hbW := hbb.trans (hB.mono hbb.size)
          have C0 := cell_of_row W _ 0 _ _ _ F.g0
          have C4 := cell_of_row W _ 0 _ _ _ F.g1
          have C5 := cell_of_row W _ 0 _ _ _ F.g3
          have Y := frozen_row F.g3
          obtain ⟨m, hm, hmlt⟩ : ∃ m : Nat, at_ = (m : Int) ∧ m < d.secs.length := by
            have := HTT.out
            simp only [thereB, Bool.and_eq_true, decide_eq_true_eq] at this
            exact ⟨at_.toNat, by omega, by omega⟩
          have hfs := F.s
          obtain ⟨h64s, _, a, cap, hv, hnc, hcap, hcells⟩ := hfs
          obtain ⟨b, off, rfl, hBb, hc⟩ := hcells (by omega)
          unfold maxLen at hcap
          cases hv
          have hat := flat_at u8s 64 d.secs (fun x hx => by rw [length_u8s, h64s x hx]) m d.secs[m] (List.getElem?_eq_getElem hmlt)
          obtain ⟨i44, hi44, hs44⟩ := info44
          have hld := run_load_big (P := Tryz.prog) (t := 94) Tryz.underlying94 (.inl ⟨_, _, rfl⟩) hi44 (w := W) (b := b) (off := off + m * 64) (cs := u8s d.secs[m]) hs44 (by rw [length_u8s, h64s _ (List.getElem_mem hmlt)])
            (fun j u hj => by rw [Nat.add_assoc]; exact hc _ _ (hat j u hj))
          obtain ⟨X, hX⟩ : ∃ X, X = (u8s d.secs[m]).toArray := ⟨_, rfl⟩
          rw [← hX] at hld
          have hXs : X.size = 64 := by rw [hX]; simp [length_u8s, h64s _ (List.getElem_mem hmlt)]
          obtain ⟨W2, hst, hn2, hB2, _, hoth2, hK2⟩ := store64 F.g2 hZs X hXs (by rw [hX]; exact oneCell_u8s _)
          have HX := Lib.hid hX
          have HM := Lib.hid hm
          rw [hm] at C4
          clear hX hat hc hcells hm
          gi_wp2_with (first
            | (refine wpin_load_to (w' := W) (.tmp 38) 94 rfl rfl ?_ rfl hld ?_; (exact rfl))
            | (refine wpin_store_at (.tmp 4) (.tmp 39) 94 rfl rfl rfl rfl hst ?_; refine Halt.in ?_))
          refine Halt.out ?_
          clear hst hld C0 C4 C5 Y
          have H3 := (hoth2 (w.heap.size + 1 + 1 + 1) (by omega)).trans F.g3
          have C5 := cell_of_row W2 _ 0 _ _ _ H3
          have Y := frozen_row H3
          gi_wp2
          have hK' := (hK2.trans (KeepsOthers.setCell _ ⟨w.heap.size + 1 + 1 + 1, 0, none⟩ (.int .i64 0))).same D _ hK rfl
          have hDl : w.heap.size ≤ D := by omega
          have e2 : (W2.setCell ⟨w.heap.size + 1 + 1 + 1, 0, none⟩ (.int .i64 0)).heap[w.heap.size + 1 + 1]? = some (.cells X 94 (0, 0)) := (setFar (by omega) 0 _).trans hn2
          refine retD hK' (results_cc rfl _ _ (w.heap.size + 1 + 1) (w.heap.size + 1 + 1 + 1) X 0 rfl ?_ rfl ?_ hXs) ?_
          · exact (grownBy_keeps_cells (grownBy_putObj' _ D (.deferred none)) (fun r e => by cases e; exact ⟨_, hK', rfl⟩) e2 rfl).trans e2
          · exact (grownBy_keeps_cells (grownBy_putObj' _ D (.deferred none)) (fun r e => by cases e; exact ⟨_, hK', rfl⟩) (setCell_one H3 _) rfl).trans (setCell_one H3 _)
          · refine ⟨?_, ((hbW.trans (hB2.mono (by omega))).setCell (p := ⟨w.heap.size + 1 + 1 + 1, 0, none⟩) (show w.heap.size ≤ w.heap.size + 1 + 1 + 1 by omega) _).trans (belowK_b (w := w) (Nat.le_refl _) _ D _ _ hDl hK' rfl rfl)⟩
            rw [HP.out, lastW_upto_none F.l.1 hp, HM.out, HX.out]
            simp [hmlt]
        case stop =>
          rintro D c pre W hD ⟨k, hk, rfl⟩ ⟨⟨rfl, ini, last, e1, e2, e3, h2, h3⟩, hB⟩ hK
          gi_wp2
          refine retD hK (results_cc rfl _ _ (w.heap.size + 1 + 1) (w.heap.size + 1 + 1 + 1) (u8s last.2.1.data).toArray 0 rfl ?_ rfl ?_ (by simp [length_u8s, last.2.2])) ?_
          · exact (grownBy_keeps_cells (grownBy_putObj' _ D (.deferred none)) (fun r e => by cases e; exact ⟨_, hK, rfl⟩) h2 rfl).trans h2
          · exact (grownBy_keeps_cells (grownBy_putObj' _ D (.deferred none)) (fun r e => by cases e; exact ⟨_, hK, rfl⟩) h3 rfl).trans h3
          · refine ⟨?_, hB.trans (belowK_b (w := w) (Nat.le_refl _) _ D _ _ (by omega) hK rfl rfl)⟩
            rw [HP.out, lastW_upto_at F.l.1 hk e1 e2 e3]
end Go.Proofs.YtaijompnohkmaaaGreatDoor
/- The sum of layer 2, as plain functions over 32-bit words: the table's way and the reference's way are one. -/
namespace Go.Proofs.YtaijompnohkmaaaGreatDoor
namespace SumP
/-- A word as the number that Go's uint32 holds. A plain definition: the walk does not look into it. -/
def toI (x : BitVec 32) : Int := x.toNat
theorem toI_lo (x : BitVec 32) : 0 ≤ toI x := by unfold toI; omega
theorem toI_hi (x : BitVec 32) : toI x < 4294967296 := by have := x.isLt; unfold toI; omega
theorem toI_inj {x y : BitVec 32} (h : toI x = toI y) : x = y := BitVec.eq_of_toNat_eq (by unfold toI at h; omega)
theorem ofInt_toI (a : BitVec 32) : BitVec.ofInt 32 (toI a) = a := by
  apply BitVec.eq_of_toNat_eq
  simp [toI]
theorem wrap_toI (a : BitVec 32) : IntKind.u32.wrap (a.toNat : Int) = toI a := by
  have h := a.isLt
  simp only [IntKind.wrap, IntKind.bits, IntKind.signed, toI]
  simp
  omega
theorem bits_xor (a b : BitVec 32) : bits .xor .u32 (toI a) (toI b) = toI (a ^^^ b) := by
  simp only [bits, IntKind.bits, ofInt_toI]
  exact wrap_toI _
theorem bits_and (a b : BitVec 32) : bits .and .u32 (toI a) (toI b) = toI (a &&& b) := by
  simp only [bits, IntKind.bits, ofInt_toI]
  exact wrap_toI _
theorem not_eq (a : BitVec 32) : bits .xor .u32 IntKind.u32.max (toI a) = toI (~~~ a) := by
  have h : IntKind.u32.max = toI (BitVec.allOnes 32) := by decide
  rw [h, bits_xor, BitVec.allOnes_xor]
theorem shr4 (a : BitVec 32) : toI a / (16 : Int) = toI (a >>> 4) := by
  unfold toI; rw [BitVec.toNat_ushiftRight, Nat.shiftRight_eq_div_pow]; omega
theorem shr1 (a : BitVec 32) : toI a / (2 : Int) = toI (a >>> 1) := by
  unfold toI; rw [BitVec.toNat_ushiftRight, Nat.shiftRight_eq_div_pow]; omega

/-- What half a byte does. -/
def tabL : List (BitVec 32) := [0x00000000#32, 0x1db71064#32, 0x3b6e20c8#32, 0x26d930ac#32, 0x76dc4190#32, 0x6b6b51f4#32, 0x4db26158#32, 0x5005713c#32,
  0xedb88320#32, 0xf00f9344#32, 0xd6d6a3e8#32, 0xcb61b38c#32, 0x9b64c2b0#32, 0x86d3d2d4#32, 0xa00ae278#32, 0xbdbdf21c#32]
def tab (x : BitVec 32) : BitVec 32 := tabL.getD x.toNat 0#32
def half (s : BitVec 32) : BitVec 32 := (s >>> 4) ^^^ tab (s &&& 15#32)
def byte (b : UInt8) : BitVec 32 := b.toBitVec.setWidth 32
theorem byte_toNat (b : UInt8) : (byte b).toNat = b.toNat := by
  have h := b.toNat_lt
  simp [byte]
def step1 (s : BitVec 32) (b : UInt8) : BitVec 32 := half (half (s ^^^ byte b))
def more (s : BitVec 32) (bs : List UInt8) : BitVec 32 := ~~~ (bs.foldl step1 (~~~ s))
def sum (bs : List UInt8) : BitVec 32 := more 0#32 bs

/-- One bit of the reference's way. -/
def bit (s : BitVec 32) : BitVec 32 := (s >>> 1) ^^^ (if s.getLsbD 0 = true then 0xedb88320#32 else 0#32)
def bitN : Nat → BitVec 32 → BitVec 32
  | 0, s => s
  | n + 1, s => bitN n (bit s)

theorem bit_xor (a b : BitVec 32) : bit (a ^^^ b) = bit a ^^^ bit b := by
  unfold bit
  rw [BitVec.ushiftRight_xor_distrib, BitVec.getLsbD_xor]
  generalize a >>> 1 = x
  generalize b >>> 1 = y
  generalize (0xedb88320#32) = p
  have e1 : x ^^^ y ^^^ p = x ^^^ (y ^^^ p) := BitVec.xor_assoc _ _ _
  have e2 : x ^^^ y ^^^ p = x ^^^ p ^^^ y := by rw [BitVec.xor_assoc, BitVec.xor_comm y p, ← BitVec.xor_assoc]
  have e3 : x ^^^ y = x ^^^ p ^^^ (y ^^^ p) := by
    rw [BitVec.xor_comm y p, ← BitVec.xor_assoc, BitVec.xor_assoc x p p, BitVec.xor_self, BitVec.xor_zero]
  cases a.getLsbD 0 <;> cases b.getLsbD 0
  · simp
  · simpa using e1
  · simpa using e2
  · simpa using e3
theorem bitN_xor (n : Nat) : ∀ a b : BitVec 32, bitN n (a ^^^ b) = bitN n a ^^^ bitN n b := by
  induction n with
  | zero => intro a b; rfl
  | succ n ih => intro a b; simp only [bitN, bit_xor, ih]
theorem bit_even (a : BitVec 32) (h : a.getLsbD 0 = false) : bit a = a >>> 1 := by
  unfold bit; rw [h]; simp
theorem high4 (a : BitVec 32) (h : ∀ i, i < 4 → a.getLsbD i = false) : bitN 4 a = a >>> 4 := by
  have e : ∀ i, i < 4 → (a >>> i).getLsbD 0 = false := fun i hi => by
    rw [BitVec.getLsbD_ushiftRight]; simpa using h i hi
  have e0 : bit a = a >>> 1 := bit_even a (by simpa using e 0 (by omega))
  have e1 : bit (a >>> 1) = a >>> 2 := by rw [bit_even _ (e 1 (by omega)), ← BitVec.shiftRight_add]
  have e2 : bit (a >>> 2) = a >>> 3 := by rw [bit_even _ (e 2 (by omega)), ← BitVec.shiftRight_add]
  have e3 : bit (a >>> 3) = a >>> 4 := by rw [bit_even _ (e 3 (by omega)), ← BitVec.shiftRight_add]
  simp only [bitN, e0, e1, e2, e3]
theorem low4 : ∀ k : Fin 16, bitN 4 (BitVec.ofNat 32 k.val) = tab (BitVec.ofNat 32 k.val) := by decide
theorem split (s : BitVec 32) : s = (s &&& ~~~ 15#32) ^^^ (s &&& 15#32) := by
  apply BitVec.eq_of_getLsbD_eq
  intro i hi
  simp only [BitVec.getLsbD_xor, BitVec.getLsbD_and, BitVec.getLsbD_not, hi, decide_true, Bool.true_and]
  cases s.getLsbD i <;> cases (15#32).getLsbD i <;> rfl
theorem and15_lt (s : BitVec 32) : (s &&& 15#32).toNat < 16 := by
  rw [BitVec.toNat_and]
  exact Nat.lt_of_le_of_lt Nat.and_le_right (by decide)
theorem half_eq (s : BitVec 32) : half s = bitN 4 s := by
  have hl : (s &&& 15#32) = BitVec.ofNat 32 (s &&& 15#32).toNat := by simp
  have h1 : bitN 4 (s &&& 15#32) = tab (s &&& 15#32) := by
    rw [hl]; exact low4 ⟨_, and15_lt s⟩
  have h2 : bitN 4 (s &&& ~~~ 15#32) = (s &&& ~~~ 15#32) >>> 4 := by
    apply high4
    intro i hi
    have hb : (15#32).getLsbD i = true := by
      have : i = 0 ∨ i = 1 ∨ i = 2 ∨ i = 3 := by omega
      rcases this with rfl | rfl | rfl | rfl <;> decide
    rw [BitVec.getLsbD_and, BitVec.getLsbD_not, hb]; simp
  have h3 : (s &&& ~~~ 15#32) >>> 4 = s >>> 4 := by
    apply BitVec.eq_of_getLsbD_eq
    intro i hi
    rw [BitVec.getLsbD_ushiftRight, BitVec.getLsbD_ushiftRight, BitVec.getLsbD_and, BitVec.getLsbD_not]
    by_cases h : 4 + i < 32
    · have hb : (15#32).getLsbD (4 + i) = false := by
        have : ∀ j : Fin 28, (15#32).getLsbD (4 + j.val) = false := by decide
        exact this ⟨i, by omega⟩
      rw [hb]; simp [h]
    · rw [BitVec.getLsbD_of_ge s _ (by omega)]; simp
  conv => rhs; rw [split s]
  rw [bitN_xor, h1, h2, h3]; rfl
theorem bitN_add (m n : Nat) : ∀ s, bitN n (bitN m s) = bitN (m + n) s := by
  induction m with
  | zero => intro s; simp [bitN]
  | succ m ih => intro s; rw [Nat.add_right_comm]; simp only [bitN]; exact ih _
theorem step1_eq (s : BitVec 32) (b : UInt8) : step1 s b = bitN 8 (s ^^^ byte b) := by
  unfold step1; rw [half_eq, half_eq, bitN_add]

/-- A bit's step loses nothing. -/
theorem bit_inj0 (a : BitVec 32) (h : bit a = 0#32) : a = 0#32 := by
  unfold bit at h
  cases h0 : a.getLsbD 0 with
  | true =>
    exfalso
    rw [h0] at h
    have h31 := congrArg (fun x => BitVec.getLsbD x 31) h
    simp only [BitVec.getLsbD_xor, BitVec.getLsbD_ushiftRight, if_true] at h31
    rw [BitVec.getLsbD_of_ge a (1 + 31) (by omega)] at h31
    revert h31; decide
  | false =>
    rw [h0] at h
    simp only [Bool.false_eq_true, if_false, BitVec.xor_zero] at h
    apply BitVec.eq_of_getLsbD_eq
    intro i hi
    cases i with
    | zero => rw [h0]; simp
    | succ i =>
      have := congrArg (fun x => BitVec.getLsbD x i) h
      simp only [BitVec.getLsbD_ushiftRight] at this
      rw [Nat.add_comm] at this
      rw [this]; simp
theorem xor_eq_zero {a b : BitVec 32} (h : a ^^^ b = 0#32) : a = b := by
  have h2 := congrArg (· ^^^ b) h
  simpa [BitVec.xor_assoc] using h2
theorem bitN_inj0 (n : Nat) : ∀ a : BitVec 32, bitN n a = 0#32 → a = 0#32 := by
  induction n with
  | zero => intro a h; exact h
  | succ n ih => intro a h; exact bit_inj0 a (ih _ h)
theorem bitN_inj (n : Nat) {a b : BitVec 32} (h : bitN n a = bitN n b) : a = b := by
  apply xor_eq_zero
  apply bitN_inj0 n
  rw [bitN_xor, h]; simp
theorem xor_right_inj {a b c : BitVec 32} (h : a ^^^ c = b ^^^ c) : a = b := by
  have h2 := congrArg (· ^^^ c) h
  simpa [BitVec.xor_assoc] using h2
theorem step1_inj {a b : BitVec 32} {c : UInt8} (h : step1 a c = step1 b c) : a = b := by
  rw [step1_eq, step1_eq] at h
  exact xor_right_inj (bitN_inj 8 h)
theorem fold_inj (bs : List UInt8) : ∀ a b : BitVec 32, bs.foldl step1 a = bs.foldl step1 b → a = b := by
  induction bs with
  | nil => intro a b h; exact h
  | cons c bs ih => intro a b h; exact step1_inj (ih _ _ h)
theorem byte_inj {x y : UInt8} (h : byte x = byte y) : x = y := by
  have := congrArg BitVec.toNat h
  rw [byte_toNat, byte_toNat] at this
  exact UInt8.toNat_inj.1 this
theorem not_inj {a b : BitVec 32} (h : ~~~ a = ~~~ b) : a = b := by
  have := congrArg (~~~ ·) h
  simpa using this
/-- One byte that is another one changes the sum. -/
theorem sum_other (l r : List UInt8) (x y : UInt8) : sum (l ++ x :: r) = sum (l ++ y :: r) ↔ x = y := by
  constructor
  · intro h
    unfold sum more at h
    have h := not_inj h
    simp only [List.foldl_append, List.foldl_cons] at h
    have h := fold_inj r _ _ h
    rw [step1_eq, step1_eq] at h
    have h := bitN_inj 8 h
    apply byte_inj
    have h2 := congrArg (fun z => List.foldl step1 (~~~ 0#32) l ^^^ z) h
    simpa [← BitVec.xor_assoc] using h2
  · rintro rfl; rfl
theorem fixed8 : ∀ k : Fin 256, bitN 8 (BitVec.ofNat 32 k.val) = BitVec.ofNat 32 k.val → k.val = 0 := by decide +kernel
theorem byte_xor (x y : UInt8) : byte x ^^^ byte y = byte (x ^^^ y) := by
  unfold byte
  rw [UInt8.toBitVec_xor]
  apply BitVec.eq_of_getLsbD_eq
  intro i hi
  simp only [BitVec.getLsbD_xor, BitVec.getLsbD_setWidth, hi, decide_true, Bool.true_and]
/-- Two unlike bytes beside one another that change places change the sum. -/
theorem sum_swap (l r : List UInt8) (x y : UInt8) : sum (l ++ x :: y :: r) = sum (l ++ y :: x :: r) ↔ x = y := by
  constructor
  · intro h
    unfold sum more at h
    have h := not_inj h
    simp only [List.foldl_append, List.foldl_cons] at h
    have h := fold_inj r _ _ h
    simp only [step1_eq] at h
    have h := bitN_inj 8 h
    rw [bitN_xor, bitN_xor 8 _ (byte y)] at h
    generalize bitN 8 (List.foldl step1 (~~~ 0#32) l) = s at h
    have h2 : bitN 8 (byte x ^^^ byte y) = byte x ^^^ byte y := by
      rw [bitN_xor]
      have h3 := congrArg (fun z => s ^^^ (z ^^^ (bitN 8 (byte y) ^^^ byte y))) h
      have e1 : s ^^^ (s ^^^ bitN 8 (byte x) ^^^ byte y ^^^ (bitN 8 (byte y) ^^^ byte y)) = bitN 8 (byte x) ^^^ bitN 8 (byte y) := by
        apply BitVec.eq_of_getLsbD_eq; intro i hi
        simp only [BitVec.getLsbD_xor]
        cases s.getLsbD i <;> cases (byte y).getLsbD i <;> cases (bitN 8 (byte x)).getLsbD i <;> cases (bitN 8 (byte y)).getLsbD i <;> rfl
      have e2 : s ^^^ (s ^^^ bitN 8 (byte y) ^^^ byte x ^^^ (bitN 8 (byte y) ^^^ byte y)) = byte x ^^^ byte y := by
        apply BitVec.eq_of_getLsbD_eq; intro i hi
        simp only [BitVec.getLsbD_xor]
        cases s.getLsbD i <;> cases (byte y).getLsbD i <;> cases (byte x).getLsbD i <;> cases (bitN 8 (byte y)).getLsbD i <;> rfl
      exact e1.symm.trans (h3.trans e2)
    rw [byte_xor] at h2
    have hl : byte (x ^^^ y) = BitVec.ofNat 32 (x ^^^ y).toNat := by
      apply BitVec.eq_of_toNat_eq; rw [byte_toNat]; have := (x ^^^ y).toNat_lt; simp
    rw [hl] at h2
    have h0 := fixed8 ⟨(x ^^^ y).toNat, (x ^^^ y).toNat_lt⟩ h2
    simp only at h0
    have hz : x ^^^ y = 0 := UInt8.toNat_inj.1 (by rw [h0]; rfl)
    have h4 := congrArg (· ^^^ y) hz
    simpa [UInt8.xor_assoc] using h4
  · rintro rfl; rfl
theorem more_append (s : BitVec 32) (a b : List UInt8) : more (more s a) b = more s (a ++ b) := by
  unfold more; rw [List.foldl_append, BitVec.not_not]
theorem more_nil (s : BitVec 32) : more s [] = s := by unfold more; simp
end SumP
end Go.Proofs.YtaijompnohkmaaaGreatDoor
/- Layer 5 (wal), as plain functions: what the code does, step by step. -/
namespace Go.Proofs.YtaijompnohkmaaaGreatDoor
namespace WalP
open PackP
/-- What is done to a disk: a sector is put, or all is flushed. -/
inductive Deed where
  | put (at_ : Int) (s : List UInt8)
  | flush
def deed (d : DiskP) : Deed → DiskP × Int
  | .put a s => putP d a s
  | .flush => flushP d
/-- Deeds in a row, until one fails. -/
def run : DiskP → List Deed → DiskP × Int
  | d, [] => (d, 0)
  | d, x :: xs => if (deed d x).2 = 0 then run (deed d x).1 xs else deed d x
theorem run_append (xs ys : List Deed) : ∀ d, run d (xs ++ ys) = if (run d xs).2 = 0 then run (run d xs).1 ys else run d xs := by
  induction xs with
  | nil => intro d; simp [run]
  | cons x xs ih =>
    intro d
    rw [List.cons_append]
    simp only [run]
    by_cases h : (deed d x).2 = 0
    · simp only [h, if_true]; exact ih _
    · simp only [h, if_false]
theorem run_one (d : DiskP) (x : Deed) : run d [x] = deed d x := by
  simp only [run]
  by_cases h : (deed d x).2 = 0
  · rw [if_pos h, ← h]
  · rw [if_neg h]
def takes (n : Nat) : Nat := if n < 1 ∨ 6000 < n then 0 else 1 + (n + 63) / 64
def takesZ (n : Int) : Int := if n < 1 ∨ 6000 < n then 0 else 1 + (n + 63) / 64
theorem takesZ_nat (n : Nat) : takesZ (n : Int) = (takes n : Int) := by
  unfold takesZ takes
  by_cases h : n < 1 ∨ 6000 < n
  · rw [if_pos (by omega), if_pos h]; rfl
  · rw [if_neg (by omega), if_neg h]; omega
theorem takes_le (n : Nat) : takes n ≤ 95 := by unfold takes; split <;> omega
def half (d : DiskP) : Nat := d.secs.length / 2
structure LogP where
  half : Int
  gen : Int
  used : Int
  count : Int
def log0 : LogP := ⟨0, 0, 0, 0⟩
def rightL (d : DiskP) (l : LogP) : Bool :=
  rightB d && (decide (l.half = 0) || decide (l.half = 1)) && decide (1 ≤ l.gen) && decide (l.gen ≤ 1099511627776) && decide (2 ≤ l.used) && decide (l.used ≤ half d) && decide (1 ≤ l.count) && decide (l.count ≤ l.used)
def roomP (d : DiskP) (l : LogP) : Int := if rightL d l then half d - l.used else 0
def pad64 (b : List UInt8) : List UInt8 := b.take 64 ++ List.replicate (64 - b.length) 0
theorem length_pad64 (b : List UInt8) : (pad64 b).length = 64 := by simp [pad64]; omega
def markB (gen k len sum : Int) : List UInt8 := [87, 76, 79, 71] ++ (numB gen ++ (numB k ++ (numB len ++ numB sum)))
def markS (gen k len sum : Int) : List UInt8 := pad64 (markB gen k len sum)
theorem length_markS (gen k len sum : Int) : (markS gen k len sum).length = 64 := length_pad64 _
/-- A record's mark. -/
def markOf (gen : Int) (k : Nat) (b : List UInt8) : List UInt8 := markS gen k b.length (SumP.toI (SumP.sum b))
/-- A record's bytes, behind the sector of its mark. -/
def bytesD (at_ : Int) (b : List UInt8) : List Deed := (List.range ((b.length + 63) / 64)).map fun i : Nat => .put (at_ + 1 + i) (pad64 (b.drop (64 * i)))
def recD (at_ gen : Int) (k : Nat) (b : List UInt8) : List Deed := bytesD at_ b ++ if 0 < k then [.put at_ (markOf gen k b)] else []
def recsD (gen : Int) : Int → Nat → List (List UInt8) → List Deed
  | _, _, [] => []
  | at_, k, b :: bs => recD at_ gen k b ++ recsD gen (at_ + takes b.length) (k + 1) bs
def zerosD (first : Int) (n : Nat) : List Deed := (List.range n).map fun i : Nat => .put (first + i) zeroS
def layD (size : Nat) (which gen : Int) (list : List (List UInt8)) : List Deed :=
  zerosD (which * size) size ++ ([.flush] ++ (recsD gen (which * size) 0 list ++ [.flush, .put (which * size) (markOf gen 0 (list.headD [])), .flush]))
/-- How many sectors records take; none: one may not be. -/
def totalN : List (List UInt8) → Option Nat
  | [] => some 0
  | b :: bs => if takes b.length = 0 then none else (totalN bs).map (takes b.length + ·)
def total (l : List (List UInt8)) : Option Nat := if l = [] then none else totalN l
def formatP (d : DiskP) (l : List (List UInt8)) : DiskP × LogP × Int :=
  match total l with
  | none => (d, log0, 1)
  | some n =>
    if rightB d then
      if half d < n then (d, log0, 8)
      else
        let r := run d (.put (half d) zeroS :: layD (half d) 0 1 l)
        if r.2 = 0 then (r.1, ⟨0, 1, n, l.length⟩, 0) else (r.1, log0, r.2)
    else (d, log0, 1)
def appendD (d : DiskP) (l : LogP) (b : List UInt8) : List Deed :=
  bytesD (l.half * half d + l.used) b ++ [.flush, .put (l.half * half d + l.used) (markS l.gen l.count b.length (SumP.toI (SumP.sum b))), .flush]
def appendP (d : DiskP) (l : LogP) (b : List UInt8) : DiskP × LogP × Int :=
  if takes b.length = 0 ∨ rightL d l = false then (d, l, 1)
  else if roomP d l < takes b.length then (d, l, 8)
  else
    let r := run d (appendD d l b)
    if r.2 = 0 then (r.1, { l with used := l.used + takes b.length, count := l.count + 1 }, 0) else (r.1, l, r.2)
def compactP (d : DiskP) (l : LogP) (list : List (List UInt8)) : DiskP × LogP × Int :=
  match total list with
  | none => (d, l, 1)
  | some n =>
    if rightL d l then
      if half d < n then (d, l, 8)
      else if l.gen = 1099511627776 then (d, l, 15)
      else
        let r := run d (layD (half d) (1 - l.half) (l.gen + 1) list)
        if r.2 = 0 then (r.1, ⟨1 - l.half, l.gen + 1, n, list.length⟩, 0) else (r.1, l, r.2)
    else (d, l, 1)
structure MarkP where
  gen : Int
  number : Int
  length : Int
  sum : Int
/-- Four numbers that are read. -/
def nums4 (r : RS) : MarkP × RS :=
  let a := r.num
  let b := a.1.num
  let c := b.1.num
  let d := c.1.num
  (⟨a.2, b.2, c.2, d.2⟩, d.1)
def readMark (s : List UInt8) : MarkP × Bool :=
  let x := nums4 ⟨(s.drop 4).take 32, 0⟩
  let m : MarkP := { x.1 with sum := x.1.sum % 4294967296 }
  (m, decide (x.2.e = 0) && decide (s = markS m.gen m.number m.length m.sum) && decide (1 ≤ m.gen) && decide (m.gen ≤ 1099511627776) && decide (0 < takesZ m.length))
def viewP (d : DiskP) (which : Int) : List (List UInt8) := (List.range (half d)).map fun i : Nat => (readP d (which * half d + i)).1
/-- The records of a half's sectors, from one on: what is there so far, how much is used, the generation. -/
def recsGo (l : List (List UInt8)) : Nat → List (List UInt8) → Nat → Int → List (List UInt8) × Nat × Int × Int
  | 0, list, used, gen => if list = [] then ([], 0, 0, 6) else (list, used, gen, 0)
  | f + 1, list, used, gen =>
    if used < l.length then
      let x := readMark (l.getD used [])
      let gen' := if list = [] then x.1.gen else gen
      let n := (takesZ x.1.length).toNat
      if x.2 = false ∨ x.1.gen ≠ gen' ∨ x.1.number ≠ list.length ∨ l.length - used < n then (if list = [] then ([], 0, 0, 6) else (list, used, gen', 0))
      else
        let b := ((l.drop (used + 1)).take (n - 1)).flatten.take x.1.length.toNat
        if SumP.toI (SumP.sum b) ≠ x.1.sum then ([], 0, gen', 10)
        else recsGo l f (list ++ [b]) (used + n) gen'
    else (if list = [] then ([], 0, 0, 6) else (list, used, gen, 0))
def recordsP (l : List (List UInt8)) : List (List UInt8) × Nat × Int × Int := recsGo l (l.length + 1) [] 0 0
def openP (d : DiskP) : DiskP × LogP × List (List UInt8) × Int :=
  if rightB d = false then (d, log0, [], 1)
  else if d.down then (d, log0, [], 9)
  else
    let a := recordsP (viewP d 0)
    let b := recordsP (viewP d 1)
    let w : Int := if a.2.2.1 < b.2.2.1 then 1 else 0
    let x := if a.2.2.1 < b.2.2.1 then b else a
    if x.2.2.2 ≠ 0 then (d, log0, [], x.2.2.2)
    else
      let c := compactP d ⟨w, x.2.2.1, x.2.1, x.1.length⟩ x.1
      if c.2.2 ≠ 0 then (c.1, log0, [], c.2.2) else (c.1, c.2.1, x.1, 0)
end WalP
end Go.Proofs.YtaijompnohkmaaaGreatDoor
/- Layer 5 (wal), plainly: the deeds of a half that is laid, record by record. -/
namespace Go.Proofs.YtaijompnohkmaaaGreatDoor
namespace WalP
/-- How many sectors records take. -/
def posN (l : List (List UInt8)) : Nat := (l.map fun b => takes b.length).sum
theorem posN_cons (b : List UInt8) (l : List (List UInt8)) : posN (b :: l) = takes b.length + posN l := by simp [posN]
theorem posN_append (l m : List (List UInt8)) : posN (l ++ m) = posN l + posN m := by simp [posN]
theorem posN_le : ∀ l : List (List UInt8), posN l ≤ 95 * l.length
  | [] => by simp [posN]
  | b :: l => by have := posN_le l; have := takes_le b.length; rw [posN_cons, List.length_cons]; omega
theorem recsD_append (gen : Int) : ∀ (l m : List (List UInt8)) (at_ : Int) (k : Nat), recsD gen at_ k (l ++ m) = recsD gen at_ k l ++ recsD gen (at_ + posN l) (k + l.length) m
  | [], m, at_, k => by simp [recsD, posN]
  | b :: l, m, at_, k => by
    rw [List.cons_append]
    simp only [recsD]
    rw [recsD_append gen l m, posN_cons, List.append_assoc]
    congr 3
    · rw [Int.natCast_add, Int.add_assoc]
    · rw [List.length_cons]; omega
/-- A half, laid but for its last steps, with the first k records. -/
def layA (F : Int) (H : Nat) (gen : Int) (list : List (List UInt8)) (k : Nat) : List Deed := zerosD F H ++ ([.flush] ++ recsD gen F 0 (list.take k))
theorem layD_eq (H : Nat) (which gen : Int) (list : List (List UInt8)) : layD H which gen list = layA (which * H) H gen list list.length ++ [.flush, .put (which * H) (markOf gen 0 (list.headD [])), .flush] := by
  unfold layD layA
  rw [List.take_length]
  simp only [List.append_assoc]
theorem layA_succ (F : Int) (H : Nat) (gen : Int) (list : List (List UInt8)) (k : Nat) (hk : k < list.length) : layA F H gen list (k + 1) = layA F H gen list k ++ recD (F + posN (list.take k)) gen k list[k] := by
  unfold layA
  have e : list.take (k + 1) = list.take k ++ [list[k]] := by rw [List.take_add_one, List.getElem?_eq_getElem hk]; rfl
  rw [e, recsD_append]
  have e2 : 0 + (list.take k).length = k := by rw [List.length_take]; omega
  rw [e2]
  simp only [recsD, List.append_nil, List.append_assoc]
theorem layA_zero (F : Int) (H : Nat) (gen : Int) (list : List (List UInt8)) : layA F H gen list 0 = zerosD F H ++ [.flush] := by simp [layA, recsD]
/-- What is ahead of a point of a laying goes on. -/
theorem layA_pre (H : Nat) (which gen : Int) (list : List (List UInt8)) (k : Nat) : ∃ r, layD H which gen list = layA (which * H) H gen list k ++ r := by
  rw [layD_eq]
  unfold layA
  rw [List.take_length]
  refine ⟨recsD gen (which * H + posN (list.take k)) (0 + (list.take k).length) (list.drop k) ++ [.flush, .put (which * H) (markOf gen 0 (list.headD [])), .flush], ?_⟩
  have e := recsD_append gen (list.take k) (list.drop k) (which * H) 0
  rw [List.take_append_drop] at e
  rw [e]
  simp only [List.append_assoc]
theorem zerosD_succ (F : Int) (H k : Nat) (hk : k < H) : (zerosD F H).take (k + 1) = (zerosD F H).take k ++ [.put (F + k) zeroS] := by
  unfold zerosD
  rw [List.take_add_one, List.getElem?_map, List.getElem?_range hk]
  rfl
theorem zerosD_all (F : Int) (H k : Nat) (hk : H ≤ k) : (zerosD F H).take k = zerosD F H := List.take_of_length_le (by unfold zerosD; simpa using hk)
/-- A part that fails is the whole's end. -/
theorem run_split {d d' : DiskP} {xs ys zs r : List Deed} (hz : zs = xs ++ (ys ++ r)) (h : run d xs = (d', 0)) (hb : (run d' ys).2 ≠ 0) : run d zs = run d' ys := by
  have h1 : run d (xs ++ ys) = run d' ys := by rw [WalP.run_append, h]; simp
  rw [hz, ← List.append_assoc, WalP.run_append, if_neg (by rw [h1]; exact hb), h1]
theorem run_good2 {d d' : DiskP} {xs ys : List Deed} (h : run d xs = (d', 0)) : run d (xs ++ ys) = run d' ys := by rw [WalP.run_append, h]; simp
theorem run_ok {d : DiskP} {xs : List Deed} (h : (run d xs).2 = 0) : run d xs = ((run d xs).1, 0) := by rw [← h]
end WalP
end Go.Proofs.YtaijompnohkmaaaGreatDoor
/- Layer 6 (kv), plainly: a store on a disk: formatted, opened, changed. -/
namespace Go.Proofs.YtaijompnohkmaaaGreatDoor
namespace KvP
open PackP WalP
structure StoreP where
  log : LogP
  pairs : List PairP
def store0 : StoreP := ⟨log0, []⟩
def rightS (d : DiskP) (s : StoreP) : Bool := rightL d s.log && pairsB s.pairs
def formatK (d : DiskP) : DiskP × StoreP × Int := ((formatP d (snapP [])).1, ⟨(formatP d (snapP [])).2.1, []⟩, (formatP d (snapP [])).2.2)
/-- The pairs of records. -/
def playedP : List (List UInt8) → List PairP → List PairP × Int
  | [], l => (l, 0)
  | b :: bs, l => if (decodeP b).2 = 0 then (if pairsB (doP l (decodeP b).1) then playedP bs (doP l (decodeP b).1) else ([], 3)) else ([], 3)
def openK (d : DiskP) : DiskP × StoreP × Int :=
  let x := openP d
  if x.2.2.2 = 0 then (if (playedP x.2.2.1 []).2 = 0 then (x.1, ⟨x.2.1, (playedP x.2.2.1 []).1⟩, 0) else (x.1, store0, 3)) else (x.1, store0, x.2.2.2)
def commitK (d : DiskP) (s : StoreP) (l : List ChangeP) : DiskP × StoreP × Int :=
  if changesB l && rightS d s then
    (if (encodeP l).2 = 0 then
      (if pairsB (doP s.pairs l) then
        let x := appendP d s.log (encodeP l).1
        let y := if x.2.2 = 8 then compactP d s.log (snapP (doP s.pairs l)) else x
        if y.2.2 = 0 then (y.1, ⟨y.2.1, doP s.pairs l⟩, 0) else (y.1, s, y.2.2)
      else (d, s, 8))
    else (d, s, (encodeP l).2))
  else (d, s, 1)
theorem played_two (l : List PairP) : ∀ (a b : List (List UInt8)) (x : List PairP), playedP a x = (l, 0) → playedP (a ++ b) x = playedP b l := by
  intro a
  induction a with
  | nil =>
    intro b x h
    cases h
    rfl
  | cons c a ih =>
    intro b x h
    rw [List.cons_append]
    rw [playedP] at h ⊢
    by_cases h1 : (decodeP c).2 = 0
    · rw [if_pos h1] at h ⊢
      by_cases h2 : pairsB (doP x (decodeP c).1) = true
      · rw [if_pos h2] at h ⊢
        exact ih b _ h
      · rw [if_neg h2] at h
        cases h
    · rw [if_neg h1] at h
      cases h
/-- One transaction more. -/
theorem played_snoc {a : List (List UInt8)} {x l : List PairP} {c : List ChangeP} (h : playedP a x = (l, 0)) (hc : changesB c = true) (hp : pairsB (doP l c) = true) : playedP (a ++ [bytesP c]) x = (doP l c, 0) := by
  rw [played_two l a [bytesP c] x h, playedP, decode_bytes hc]
  simp only [if_true]
  rw [if_pos hp]
  rfl
theorem pairsB_parts {l : List PairP} (h : pairsB l = true) : l.length ≤ 400 ∧ (∀ p ∈ l, mayP p.key p.val = true) ∧ Rising l := by
  unfold pairsB at h
  simp only [Bool.and_eq_true, decide_eq_true_eq, List.all_eq_true] at h
  exact ⟨h.1.1, h.1.2, h.2⟩
theorem pairsB_of {l : List PairP} (h1 : l.length ≤ 400) (h2 : ∀ p ∈ l, mayP p.key p.val = true) (h3 : Rising l) : pairsB l = true := by
  unfold pairsB
  simp only [Bool.and_eq_true, decide_eq_true_eq, List.all_eq_true]
  exact ⟨⟨h1, h2⟩, h3⟩
/-- A snapshot is played whole. -/
theorem played_chunks : ∀ (cs : List (List ChangeP)) (x : List PairP), (∀ c ∈ cs, ChunkOk c) → (∀ n, pairsB ((cs.take n).foldl doP x) = true) → playedP (cs.map bytesP) x = (cs.foldl doP x, 0)
  | [], x, _, _ => rfl
  | c :: cs, x, h, hp => by
    rw [List.map_cons, playedP, decode_bytes (h c (List.mem_cons_self ..)).changes]
    simp only [if_true]
    rw [if_pos (by simpa using hp 1)]
    exact played_chunks cs _ (fun y hy => h y (List.mem_cons_of_mem _ hy)) (fun n => by simpa using hp (n + 1))
theorem prefix_done {l : List PairP} (h : Rising l) (n : Nat) : ∃ k, ((snapF l []).take n).foldl doP [] = l.take k := by
  have hf := snapF_flat l []
  rw [List.nil_append] at hf
  have hpre : ((snapF l []).take n).flatten <+: l.map chg := by
    rw [← hf]
    exact ⟨((snapF l []).drop n).flatten, by rw [← List.flatten_append, List.take_append_drop]⟩
  obtain ⟨k, hk⟩ : ∃ k, ((snapF l []).take n).flatten = (l.take k).map chg := by
    refine ⟨((snapF l []).take n).flatten.length, ?_⟩
    rw [List.map_take]
    exact List.prefix_iff_eq_take.1 hpre
  refine ⟨k, ?_⟩
  rw [doP_flat, hk]
  have hr : Rising ([] ++ l.take k) := h.sublist (List.take_sublist k l)
  simpa using do_chg (l.take k) [] hr
theorem played_snap {l : List PairP} (h : pairsB l = true) : playedP (snapP l) [] = (l, 0) := by
  obtain ⟨h1, h2, h3⟩ := pairsB_parts h
  have := played_chunks (snapF l []) [] (snap_ok h2) (fun n => by
    obtain ⟨k, hk⟩ := prefix_done h3 n
    rw [hk]
    exact pairsB_of (by rw [List.length_take]; omega) (fun p hp => h2 p (List.mem_of_mem_take hp)) (h3.sublist (List.take_sublist k l)))
  unfold snapP
  rw [this, snap_done h3]
end KvP
end Go.Proofs.YtaijompnohkmaaaGreatDoor
/- Layer 6 (kv), plainly: pairs that may be, looked at one by one. -/
namespace Go.Proofs.YtaijompnohkmaaaGreatDoor
namespace KvP
theorem rising_step {l : List PairP} (h : ∀ i (hi : i + 1 < l.length), l[i].key < l[i + 1].key) : ∀ (d i : Nat) (hi : i + d + 1 < l.length), l[i].key < l[i + d + 1].key
  | 0, i, hi => h i hi
  | d + 1, i, hi => lt_trans3 (rising_step h d i (by omega)) (h (i + d + 1) (by omega))
theorem rising_iff {l : List PairP} : Rising l ↔ ∀ i (hi : i + 1 < l.length), l[i].key < l[i + 1].key := by
  constructor
  · intro h i hi
    exact (List.pairwise_iff_getElem.1 h) i (i + 1) (by omega) hi (by omega)
  · intro h
    refine List.pairwise_iff_getElem.2 (fun i j hi hj hij => ?_)
    have := rising_step h (j - i - 1) i (by omega)
    have e : i + (j - i - 1) + 1 = j := by omega
    simpa only [e] using this
/-- What is asked of one pair. -/
def goodAt (l : List PairP) (i : Nat) (p : PairP) : Bool := decide (i < 400) && mayP p.key p.val && (decide (i = 0) || match l[i - 1]? with | some q => decide (q.key < p.key) | none => true)
theorem pairsB_iff {l : List PairP} : pairsB l = true ↔ ∀ i (hi : i < l.length), goodAt l i l[i] = true := by
  constructor
  · intro h i hi
    obtain ⟨h1, h2, h3⟩ := pairsB_parts h
    unfold goodAt
    rw [decide_eq_true (show i < 400 by omega), h2 _ (List.getElem_mem hi)]
    simp only [Bool.true_and]
    by_cases h0 : i = 0
    · simp [h0]
    · rw [List.getElem?_eq_getElem (show i - 1 < l.length by omega)]
      simp only
      have := (rising_iff.1 h3) (i - 1) (by omega)
      have e : i - 1 + 1 = i := by omega
      simp only [e] at this
      rw [decide_eq_true this]
      simp
  · intro h
    refine pairsB_of ?_ (fun p hp => ?_) (rising_iff.2 (fun i hi => ?_))
    · by_cases h0 : l.length ≤ 400
      · exact h0
      · have := h 400 (by omega)
        unfold goodAt at this
        simp at this
    · obtain ⟨i, hi, rfl⟩ := List.getElem_of_mem hp
      have := h i hi
      unfold goodAt at this
      simp only [Bool.and_eq_true] at this
      exact this.1.2
    · have := h (i + 1) hi
      unfold goodAt at this
      simp only [Bool.and_eq_true, Nat.add_sub_cancel, List.getElem?_eq_getElem (show i < l.length by omega), Bool.or_eq_true, decide_eq_true_eq] at this
      rcases this.2 with h2 | h2
      · omega
      · exact h2
end KvP
end Go.Proofs.YtaijompnohkmaaaGreatDoor
