/- Layer 1 (sector): Read. -/
import Derived.Test.YtccjjlefpdlegabBack
namespace Go.Proofs.Ytccjjlefpdlegab
open Go.RowKit Go.Shelf
attribute [local go_sem] Oper.semAt_some
/-- The last loose write of a sector, or the sector. -/
def lastW (ls : List WriteP) (at_ : Int) (s : List UInt8) : List UInt8 := ls.foldl (fun s x => if x.at_ = at_ then x.data else s) s
def readP (d : DiskP) (at_ : Int) : List UInt8 × Int :=
  if rightB d && thereB d at_ then (if d.down then (zeroS, 9) else (lastW d.loose at_ (d.secs[at_.toNat]?.getD zeroS), 0)) else (zeroS, 1)
theorem alloc_old (w : World) (o : Obj) {r : Nat} (h : r < w.heap.size) : (w.alloc o).heap[r]? = w.heap[r]? := (Below.refl w.heap.size w |>.alloc (Nat.le_refl _) o).block r h
theorem zero44 : ∃ z : Value, z.cells = (u8s zeroS).toArray ∧ ∀ w, (zeroValue 33).run Try.prog w = .ok z w := by
  obtain ⟨i0, hi, hx⟩ := Option.bind_eq_some_iff.1 zero_sector
  obtain ⟨z0, hz0, hx⟩ := Option.map_eq_some_iff.1 hx
  simp only [Prod.mk.injEq] at hx
  refine ⟨z0, ?_, fun w => by simp [zeroValue, typeInfo, hi, hz0]⟩
  rw [hx.2.2]
  rfl
/-- What Read's own blocks hold. -/
structure RF (G : Nat) (w : World) (sv lv : Value) (d : DiskP) (at_ : Int) (A : Array Value) (e : Value) (Z : Array Value) : Prop where
  g0 : w.heap[G]? = some (.cells #[sv, lv, .int .i64 d.fuse, .bool d.down] 27 (0, 0))
  g1 : w.heap[G + 1]? = some (.cells #[.int .i64 at_] 3 (0, 0))
  g2 : w.heap[G + 1 + 1]? = some (.cells A 33 (0, 0))
  g3 : w.heap[G + 1 + 1 + 1]? = some (.cells #[e] 28 (0, 0))
  g4 : w.heap[G + 1 + 1 + 1 + 1]? = some (.cells Z 33 (0, 0))
  s : Secs G w sv d.secs
  l : Loose G w lv d.loose
theorem RF.size {G : Nat} {w : World} {sv lv : Value} {d : DiskP} {at_ : Int} {A Z : Array Value} {e : Value} (h : RF G w sv lv d at_ A e Z) : G + 5 ≤ w.heap.size := by have := block_lt h.g4; omega
theorem RF.below {G B' : Nat} {w w' : World} {sv lv : Value} {d : DiskP} {at_ : Int} {A Z : Array Value} {e : Value} (h : RF G w sv lv d at_ A e Z) (hb : Below B' w w') (hB : G + 5 ≤ B') : RF G w' sv lv d at_ A e Z :=
  ⟨(hb.block _ (by omega)).trans h.g0, (hb.block _ (by omega)).trans h.g1, (hb.block _ (by omega)).trans h.g2, (hb.block _ (by omega)).trans h.g3, (hb.block _ (by omega)).trans h.g4, h.s.below (hb.mono (by omega)), h.l.below (hb.mono (by omega))⟩
theorem info44 : ∃ i, Try.prog.info? 33 = some i ∧ i.size = 64 := by
  obtain ⟨i, _, hi, _, hs, _⟩ := zero_parts infoz_sector
  exact ⟨i, hi, hs⟩
/-- Cells stored over just as many cells. -/
theorem storeBig {t : TypeId} {n : Nat} (hi : ∃ i, Try.prog.info? t = some i ∧ i.size = n) {w : World} {g : Nat} {cur : Array Value} (hg : w.heap[g]? = some (.cells cur t (0, 0))) (hc : cur.size = n) (X : Array Value) (hX : X.size = n) (h1 : ∀ v ∈ X.toList, v.oneCell' = true) :
    ∃ w', (storeVar t ⟨g, 0, none⟩ (.agg X)).run Try.prog w = .ok () w' ∧ w'.heap[g]? = some (.cells X t (0, 0)) ∧ Below g w w' ∧ w'.heap.size = w.heap.size ∧ (∀ k, k ≠ g → w'.heap[k]? = w.heap[k]?) ∧ KeepsOthers w w' := by
  obtain ⟨i, hi, hs⟩ := hi
  have hst := run_store_big (P := Try.prog) hi (off := 0) (cs := X.toList) hg (by rw [hs]; simp [hX]) (by simp [hX, hc]) h1
  have e : (cur.toList.take 0 ++ X.toList ++ cur.toList.drop (0 + X.toList.length)).toArray = X := by
    rw [List.drop_eq_nil_of_le (by simp [hX, hc])]; simp
  rw [e] at hst
  refine ⟨_, hst, setRow_heap _ _ _ _ _ _ hg, ⟨rfl, rfl, rfl, by simp [World.setRow], fun j hj => setRow_other _ _ j _ (by omega)⟩, by simp [World.setRow], fun k hk => setRow_other _ _ k _ hk, ⟨by simp [World.setRow], fun k o hk ho => ?_⟩⟩
  by_cases hkg : k = g
  · subst hkg
    rw [hg] at hk
    cases hk
    simp [Obj.isCells] at ho
  · rw [setRow_other _ _ k _ hkg]
    exact hk
theorem store64 {w : World} {g : Nat} {cur : Array Value} (hg : w.heap[g]? = some (.cells cur 33 (0, 0))) (hc : cur.size = 64) (X : Array Value) (hX : X.size = 64) (h1 : ∀ v ∈ X.toList, v.oneCell' = true) :
    ∃ w', (storeVar 33 ⟨g, 0, none⟩ (.agg X)).run Try.prog w = .ok () w' ∧ w'.heap[g]? = some (.cells X 33 (0, 0)) ∧ Below g w w' ∧ w'.heap.size = w.heap.size ∧ (∀ k, k ≠ g → w'.heap[k]? = w.heap[k]?) ∧ KeepsOthers w w' := storeBig info44 hg hc X hX h1
theorem info46 : ∃ i, Try.prog.info? 46 = some i ∧ i.size = 65 := by
  obtain ⟨i, _, hi, _, hs, _⟩ := zero_parts infoz_write
  exact ⟨i, hi, hs⟩
theorem zero46 : ∃ z : Value, z.cells.size = 65 ∧ ∀ w, (zeroValue 46).run Try.prog w = .ok z w := by
  obtain ⟨i0, z0, hi, hz0, _, _, hz3⟩ := zero_parts infoz_write
  exact ⟨z0, hz3, fun w => by simp [zeroValue, typeInfo, hi, hz0]⟩
theorem lastW_none (at_ : Int) : ∀ (ls : List WriteP) (s : List UInt8), (∀ x ∈ ls, x.at_ ≠ at_) → lastW ls at_ s = s
  | [], _, _ => rfl
  | x :: ls, s, h => by
    unfold lastW
    rw [List.foldl_cons, if_neg (h x (List.mem_cons_self ..))]
    exact lastW_none at_ ls s (fun y hy => h y (List.mem_cons_of_mem _ hy))
theorem lastW_at {at_ : Int} {ls : List WriteP} {m : Nat} (hm : m < ls.length) (h1 : ls[m].at_ = at_) (h2 : ∀ j (hj : j < ls.length), m < j → ls[j].at_ ≠ at_) (s : List UInt8) : lastW ls at_ s = ls[m].data := by
  have e : ls = ls.take m ++ ls[m] :: ls.drop (m + 1) := by rw [List.getElem_cons_drop]; exact (List.take_append_drop m ls).symm
  have hn : lastW (ls.drop (m + 1)) at_ ls[m].data = ls[m].data := lastW_none at_ _ _ (fun x hx => by
    obtain ⟨j, hj, rfl⟩ := List.getElem_of_mem hx
    rw [List.getElem_drop]
    exact h2 _ _ (by omega))
  have hf : lastW ls at_ s = (ls.take m ++ ls[m] :: ls.drop (m + 1)).foldl (fun s x => if x.at_ = at_ then x.data else s) s := by rw [← e]; rfl
  rw [hf, List.foldl_append, List.foldl_cons, if_pos h1]
  exact hn
theorem lastW_upto_none {at_ : Int} {ls : List WriteP} (h64 : ∀ x ∈ ls, x.data.length = 64) (h : ∀ p ∈ upto (backAt ls) ls.length, p.2.1.at_ ≠ at_) (s : List UInt8) : lastW ls at_ s = s :=
  lastW_none at_ ls s (fun x hx => by
    obtain ⟨j, hj, rfl⟩ := List.getElem_of_mem hx
    have := h (backAt ls (ls.length - 1 - j)) (by simp only [upto, List.mem_map, List.mem_range]; exact ⟨_, by omega, rfl⟩)
    have e : ls.length - 1 - (ls.length - 1 - j) = j := by omega
    simp only [backAt, e, sub64_at h64 hj] at this
    exact this)
theorem lastW_upto_at {at_ : Int} {ls : List WriteP} (h64 : ∀ x ∈ ls, x.data.length = 64) {k : Nat} (hk : k ≤ ls.length) {ini : List (Int × W64)} {last : Int × W64} (e : upto (backAt ls) k = ini ++ [last]) (hi : ∀ p ∈ ini, p.2.1.at_ ≠ at_) (hl : last.2.1.at_ = at_) (s : List UInt8) : lastW ls at_ s = last.2.1.data := by
  cases k with
  | zero => simp [upto] at e
  | succ k =>
    rw [upto_succ] at e
    obtain ⟨rfl, e5⟩ := List.append_inj' e rfl
    obtain rfl : backAt ls k = last := by simpa using e5
    have hm : ls.length - 1 - k < ls.length := by omega
    simp only [backAt, sub64_at h64 hm] at hl ⊢
    refine lastW_at hm hl (fun j hj hmj => ?_) s
    have := hi (backAt ls (ls.length - 1 - j)) (by simp only [upto, List.mem_map, List.mem_range]; exact ⟨_, by omega, rfl⟩)
    have e : ls.length - 1 - (ls.length - 1 - j) = j := by omega
    simp only [backAt, e, sub64_at h64 hj] at this
    exact this
theorem results_cc {fn : Func} {p q : Tmp} (h : fn.results = #[.cell p 33, .cell q 28]) (tmps : Array Value) (w : World) (g g' : Nat) (cs : Array Value) (e : Int)
    (hp : tmps.getD p undef = .pointer (some ⟨g, 0, none⟩)) (hg : w.heap[g]? = some (.cells cs 33 (0, 0))) (hq : tmps.getD q undef = .pointer (some ⟨g', 0, none⟩)) (hg' : w.heap[g']? = some (.cells #[.int .i64 e] 28 (0, 0))) (hc : cs.size = 64) :
    (results fn tmps).run Try.prog w = .ok (.tuple #[.agg cs, .int .i64 e]) w := by
  have hp' : tmps[p]?.getD undef = .pointer (some ⟨g, 0, none⟩) := by simpa using hp
  have hq' : tmps[q]?.getD undef = .pointer (some ⟨g', 0, none⟩) := by simpa using hq
  have h1 := run_loadVar_row (P := Try.prog) w g 33 33 cs (0, 0) _ hg Try.underlying33 rfl (by rw [hc]; exact size_sector)
  have hcell := cell_of_row w g' 0 _ _ _ hg'
  have h2 : (loadVar 28 ⟨g', 0, none⟩).run Try.prog w = .ok (.int .i64 e) w := by simp [go_sem, hcell]
  simp [results, h, hp', hq', asAddr, h1, h2]
theorem retM {F : Fence} {n : Nat} {P : Program} {fn : Func} {R : Ending → World → Prop} {tmps : Array Value} {w : World} {v : Value} (h : (results fn tmps).run P w = .ok v w) (hR : R (.returned v) w) : bodyPostM F n P fn R .ret { tmps := tmps, defers := [] } w := ⟨_, h, hR⟩
theorem retD {F : Fence} {n : Nat} {P : Program} {fn : Func} {R : Ending → World → Prop} {tmps : Array Value} {w : World} {v : Value} {D : Nat} (hK : w.heap[D]? = some (.deferred (some []))) (h : (results fn tmps).run P (w.putObj D (.deferred none)) = .ok v (w.putObj D (.deferred none))) (hR : R (.returned v) (w.putObj D (.deferred none))) :
    bodyPostM F n P fn R .ret { tmps := tmps, defers := [{ target := .collected D, args := #[] }] } w := ⟨by simp, .inl ⟨_, _, rfl, run_takeDeferred hK, ⟨_, h, hR⟩⟩⟩
theorem setCell_one {w : World} {g : Nat} {u : Value} {t : TypeId} (h : w.heap[g]? = some (.cells #[u] t (0, 0))) (v : Value) : (w.setCell ⟨g, 0, none⟩ v).heap[g]? = some (.cells #[v] t (0, 0)) := by
  simp [World.setCell, Array.getElem?_modify, h]
set_option maxRecDepth 100000 in
set_option maxHeartbeats 2000000 in
theorem read_any {B : Nat} (v : Value) (d : DiskP) (at_ : Int) (w : World) (h : DiskV B w v d) :
    Calls Try.prog 12 #[v, .int .i64 at_] w fun e w' => e = .returned (.tuple #[.agg (u8s (readP d at_).1).toArray, .int .i64 (readP d at_).2]) ∧ Below w.heap.size w w' := by
  obtain ⟨a1, n1, a2, n2, rfl, hs, hl⟩ := h.tight.parts
  clear h
  obtain ⟨z, hz, hzr⟩ := zero44
  obtain ⟨Z, hZ⟩ : ∃ Z, Z = z.cells := ⟨_, rfl⟩
  rw [← hZ] at hz
  have HZ := Lib.hid hz
  have HZC := Lib.hid hZ
  have HZR := Lib.hid hzr
  clear hz hzr
  obtain ⟨w2, hw2⟩ : ∃ w2, w2 = ((w.alloc (.cells #[.slice a1 d.secs.length n1, .slice a2 d.loose.length n2, .int .i64 d.fuse, .bool d.down] 27)).alloc (.cells #[.int .i64 at_] 3)) := ⟨_, rfl⟩
  have hsz2 : w2.heap.size = w.heap.size + 1 + 1 := by rw [hw2]; simp
  have hb2 : Below w.heap.size w w2 := by rw [hw2]; exact Below.alloc (Below.alloc (Below.refl _ _) (Nat.le_refl _) _) (by simp) _
  have G0 : w2.heap[w.heap.size]? = some (.cells #[.slice a1 d.secs.length n1, .slice a2 d.loose.length n2, .int .i64 d.fuse, .bool d.down] 27 (0, 0)) := by rw [hw2]; exact heap_alloc2_old w _ _
  have G1 : w2.heap[w.heap.size + 1]? = some (.cells #[.int .i64 at_] 3 (0, 0)) := by rw [hw2]; exact heap_alloc2_new w _ _
  obtain ⟨w3, hw3⟩ : ∃ w3, w3 = w2.alloc (.cells Z 33) := ⟨_, rfl⟩
  obtain ⟨w4, hw4⟩ : ∃ w4, w4 = w3.alloc (.cells #[.int .i64 0] 28) := ⟨_, rfl⟩
  obtain ⟨w5, hw5⟩ : ∃ w5, w5 = w4.alloc (.cells Z 33) := ⟨_, rfl⟩
  have hsz3 : w3.heap.size = w.heap.size + 1 + 1 + 1 := by rw [hw3]; simp [hsz2]
  have hsz4 : w4.heap.size = w.heap.size + 1 + 1 + 1 + 1 := by rw [hw4]; simp [hsz3]
  have hsz5 : w5.heap.size = w.heap.size + 1 + 1 + 1 + 1 + 1 := by rw [hw5]; simp [hsz4]
  have hb5 : Below w2.heap.size w2 w5 := by
    rw [hw5, hw4, hw3]
    exact Below.alloc (Below.alloc (Below.alloc (Below.refl _ _) (Nat.le_refl _) _) (by simp) _) (by simp; omega) _
  have G2 : w5.heap[w.heap.size + 1 + 1]? = some (.cells Z 33 (0, 0)) := by
    rw [hw5, alloc_old _ _ (by omega), hw4, alloc_old _ _ (by omega), hw3, ← hsz2]; exact heap_alloc_new w2 _
  have G3 : w5.heap[w.heap.size + 1 + 1 + 1]? = some (.cells #[.int .i64 0] 28 (0, 0)) := by
    rw [hw5, alloc_old _ _ (by omega), hw4, ← hsz3]; exact heap_alloc_new w3 _
  have G4 : w5.heap[w.heap.size + 1 + 1 + 1 + 1]? = some (.cells Z 33 (0, 0)) := by
    rw [hw5, ← hsz4]; exact heap_alloc_new w4 _
  have G0 := (hb5.block _ (by omega)).trans G0
  have G1 := (hb5.block _ (by omega)).trans G1
  have hbb := hb2.trans (hb5.mono hb2.size)
  have hs := hs.below hbb
  have hl := hl.below hbb
  have hZs : Z.size = 64 := by rw [HZ.out]; simp [length_u8s, zeroS]
  have hZ1 : ∀ v ∈ Z.toList, v.oneCell' = true := by rw [HZ.out]; exact oneCell_u8s _
  have F : RF w.heap.size w5 (.slice a1 d.secs.length n1) (.slice a2 d.loose.length n2) d at_ Z (.int .i64 0) Z := ⟨G0, G1, G2, G3, G4, hs, hl⟩
  have k1 := right_any _ d w5 ⟨_, _, rfl, F.s, F.l⟩
  have C0 := cell_of_row w5 _ 0 _ _ _ F.g0
  have C1 := cell_of_row w5 _ 1 _ _ _ F.g0
  have C2 := cell_of_row w5 _ 2 _ _ _ F.g0
  have C3 := cell_of_row w5 _ 3 _ _ _ F.g0
  have hle := F.size
  clear hb2 hb5 hZ G0 G1 G2 G3 G4 hs hl
  have HW3 := Lib.hid (show w3 = ((w.alloc (.cells #[.slice a1 d.secs.length n1, .slice a2 d.loose.length n2, .int .i64 d.fuse, .bool d.down] 27)).alloc (.cells #[.int .i64 at_] 3)).alloc (.cells z.cells 33) by rw [hw3, hw2, HZC.out])
  have HW4 := Lib.hid hw4
  have HW5 := Lib.hid (show w5 = w4.alloc (.cells z.cells 33) by rw [hw5, HZC.out])
  clear hw2 hw3 hw4 hw5
  obtain ⟨R, hR⟩ : ∃ R, R = rightB d := ⟨_, rfl⟩
  rw [← hR] at k1
  have HR := Lib.hid hR
  clear hR
  refine (callsIn_wide (n := 4)).1 ?_
  refine callsIn_of_wp_marks Try.func12 rfl trivial ?_ rfl
  simp only [Try.ntmps12, List.size_toArray, List.length_cons, List.length_nil, Nat.reduceAdd, Nat.reduceSub, Array.replicate_succ, Array.replicate_zero, List.push_toArray, List.append_toArray, List.nil_append, List.cons_append]
  gi_wp2_with (refine wpin_alloc_to (w' := w3) 33 rfl rfl (HZR.out _) ?_ ?_; (exact HW3.out); refine Halt.in ?_)
  refine Halt.out ?_
  gi_wp2_with (refine wpin_alloc_to (w' := w5) 33 rfl rfl (HZR.out _) ?_ ?_; (rw [← HW4.out]; exact HW5.out); refine Halt.in ?_)
  refine Halt.out ?_
  gi_wp2_with fail
  refine ⟨trivial, (callsIn_wide.2 k1).mono ?_⟩
  rintro e w6 ⟨rfl, hb6⟩
  have F := F.below hb6 (by omega)
  have hbb := hbb.trans (hb6.mono hbb.size)
  have hle := F.size
  clear k1 C0 C1 C2 C3 hb6 hsz2 hsz3 hsz4 hsz5
  have C0 := cell_of_row w6 _ 0 _ _ _ F.g0
  have C1 := cell_of_row w6 _ 1 _ _ _ F.g0
  have C2 := cell_of_row w6 _ 2 _ _ _ F.g0
  have C3 := cell_of_row w6 _ 3 _ _ _ F.g0
  have C4 := cell_of_row w6 _ 0 _ _ _ F.g1
  have C5 := cell_of_row w6 _ 0 _ _ _ F.g3
  have Y := frozen_row F.g3
  have hldz := run_loadVar_row (P := Try.prog) w6 (w.heap.size + 1 + 1 + 1 + 1) 33 33 Z (0, 0) _ F.g4 Try.underlying33 rfl (by rw [hZs]; exact size_sector)
  cases R with
  | false =>
    have hP : readP d at_ = (zeroS, 1) := by simp [readP, ← HR.out]
    have HP := Lib.hid hP
    clear hP
    obtain ⟨w7, hst, hn7, hb7, hsz7, hoth7, _⟩ := store64 F.g2 hZs Z hZs hZ1
    gi_wp2_with fail
    refine ⟨trivial, ?_⟩
    gi_wp2_with (first
      | (refine wpin_load_to (w' := w6) (.tmp 6) 33 rfl rfl ?_ rfl hldz ?_; (exact rfl))
      | (refine wpin_store_at (.tmp 4) (.tmp 19) 33 rfl rfl rfl rfl hst ?_; refine Halt.in ?_))
    refine Halt.out ?_
    clear hst hldz C0 C1 C2 C3 C4 C5 Y
    have H3 := (hoth7 (w.heap.size + 1 + 1 + 1) (by omega)).trans F.g3
    have C5 := cell_of_row w7 _ 0 _ _ _ H3
    have Y := frozen_row H3
    gi_wp2
    refine retM (results_cc rfl _ _ _ _ _ _ rfl ((setFar (by omega) 0 _).trans hn7) rfl (setCell_one H3 _) hZs) ?_
    rw [HP.out, HZ.out]
    exact ⟨rfl, (hbb.trans (hb7.mono (by omega))).setCell (p := ⟨w.heap.size + 1 + 1 + 1, 0, none⟩) (show w.heap.size ≤ w.heap.size + 1 + 1 + 1 by omega) _⟩
  | true =>
    have k1 := there_any _ d at_ w6 ⟨_, _, rfl, F.s, F.l⟩
    cases hT : thereB d at_ with
    | false =>
      have hP : readP d at_ = (zeroS, 1) := by simp [readP, hT]
      rw [hT] at k1
      have HP := Lib.hid hP
      clear hP hT hldz
      gi_wp2_with fail
      refine ⟨trivial, (callsIn_wide.2 k1).mono ?_⟩
      rintro e w6' ⟨rfl, hb6'⟩
      have F := F.below hb6' (by omega)
      have hbb := hbb.trans (hb6'.mono hbb.size)
      have hle := F.size
      have hldz := run_loadVar_row (P := Try.prog) w6' (w.heap.size + 1 + 1 + 1 + 1) 33 33 Z (0, 0) _ F.g4 Try.underlying33 rfl (by rw [hZs]; exact size_sector)
      obtain ⟨w7, hst, hn7, hb7, hsz7, hoth7, _⟩ := store64 F.g2 hZs Z hZs hZ1
      gi_wp2_with (first
        | (refine wpin_load_to (w' := w6') (.tmp 6) 33 rfl rfl ?_ rfl hldz ?_; (exact rfl))
        | (refine wpin_store_at (.tmp 4) (.tmp 19) 33 rfl rfl rfl rfl hst ?_; refine Halt.in ?_))
      refine Halt.out ?_
      clear hst hldz C0 C1 C2 C3 C4 C5 Y
      have H3 := (hoth7 (w.heap.size + 1 + 1 + 1) (by omega)).trans F.g3
      have C5 := cell_of_row w7 _ 0 _ _ _ H3
      have Y := frozen_row H3
      gi_wp2
      refine retM (results_cc rfl _ _ _ _ _ _ rfl ((setFar (by omega) 0 _).trans hn7) rfl (setCell_one H3 _) hZs) ?_
      rw [HP.out, HZ.out]
      exact ⟨rfl, (hbb.trans (hb7.mono (by omega))).setCell (p := ⟨w.heap.size + 1 + 1 + 1, 0, none⟩) (show w.heap.size ≤ w.heap.size + 1 + 1 + 1 by omega) _⟩
    | true =>
      have hR := HR.out.symm
      rw [hT] at k1
      have HTT := Lib.hid hT
      clear hldz
      gi_wp2_with fail
      refine ⟨trivial, (callsIn_wide.2 k1).mono ?_⟩
      rintro e w6' ⟨rfl, hb6'⟩
      have F := F.below hb6' (by omega)
      have hbb := hbb.trans (hb6'.mono hbb.size)
      have hle := F.size
      have hldz := run_loadVar_row (P := Try.prog) w6' (w.heap.size + 1 + 1 + 1 + 1) 33 33 Z (0, 0) _ F.g4 Try.underlying33 rfl (by rw [hZs]; exact size_sector)
      obtain ⟨w7, hst, hn7, hb7, hsz7, hoth7, _⟩ := store64 F.g2 hZs Z hZs hZ1
      clear C0 C1 C2 C3 C4 C5 Y hb6' k1
      have C0 := cell_of_row w6' _ 0 _ _ _ F.g0
      have C1 := cell_of_row w6' _ 1 _ _ _ F.g0
      have C2 := cell_of_row w6' _ 2 _ _ _ F.g0
      have C3 := cell_of_row w6' _ 3 _ _ _ F.g0
      have C4 := cell_of_row w6' _ 0 _ _ _ F.g1
      have C5 := cell_of_row w6' _ 0 _ _ _ F.g3
      have Y := frozen_row F.g3
      cases hD : d.down with
      | true =>
        have hP : readP d at_ = (zeroS, 9) := by simp [readP, hT, hR, hD]
        have HP := Lib.hid hP
        rw [hD] at C3
        clear hP hT hR
        gi_wp2_with (first
          | (refine wpin_load_to (w' := w6') (.tmp 6) 33 rfl rfl ?_ rfl hldz ?_; (exact rfl))
          | (refine wpin_store_at (.tmp 4) (.tmp 23) 33 rfl rfl rfl rfl hst ?_; refine Halt.in ?_))
        refine Halt.out ?_
        clear hst hldz C0 C1 C2 C3 C4 C5 Y
        have H3 := (hoth7 (w.heap.size + 1 + 1 + 1) (by omega)).trans F.g3
        have C5 := cell_of_row w7 _ 0 _ _ _ H3
        have Y := frozen_row H3
        gi_wp2
        refine retM (results_cc rfl _ _ _ _ _ _ rfl ((setFar (by omega) 0 _).trans hn7) rfl (setCell_one H3 _) hZs) ?_
        rw [HP.out, HZ.out]
        exact ⟨rfl, (hbb.trans (hb7.mono (by omega))).setCell (p := ⟨w.heap.size + 1 + 1 + 1, 0, none⟩) (show w.heap.size ≤ w.heap.size + 1 + 1 + 1 by omega) _⟩
      | false =>
        have hP : readP d at_ = (lastW d.loose at_ (d.secs[at_.toNat]?.getD zeroS), 0) := by simp [readP, hT, hR, hD]
        have HP := Lib.hid hP
        have hlen : d.loose.length ≤ 2 ^ 40 := by simp only [rightB, Bool.and_eq_true, decide_eq_true_eq] at hR; omega
        have HL := Lib.hid hlen
        rw [hD] at C3
        clear hP hT hR hst hldz hn7 hb7 hsz7 hoth7 hlen hD
        have k2 := fun w => backward_any a2 d.loose.length n2 w
        gi_wp2_with fail
        refine ⟨trivial, (callsIn_wide.2 (k2 _)).mono ?_⟩
        rintro e w8 ⟨rfl, hw8⟩
        have hb8 : Below w6'.heap.size w6' w8 := by rw [hw8]; exact Below.alloc (Below.refl _ _) (Nat.le_refl _) _
        have hbs := heap_alloc_new w6' (.cells #[.slice a2 d.loose.length n2] 25)
        rw [← hw8] at hbs
        have hbs := cell_of_row w8 _ 0 _ _ _ hbs
        have hs8 : w8.heap.size = w6'.heap.size + 1 := by rw [hw8]; simp
        have F := F.below hb8 (by omega)
        have hbb := hbb.trans (hb8.mono hbb.size)
        have hl8 := F.l
        have hbb8 : w.heap.size + 5 ≤ w8.heap.size := F.size
        clear k2 C0 C1 C2 C3 C4 C5 Y hb8 hw8
        obtain ⟨Bs, hBs⟩ : ∃ Bs, Bs = w6'.heap.size := ⟨_, rfl⟩
        rw [← hBs] at hbs hs8 ⊢
        clear hBs
        gi_wp2_with fail
        refine wpIn_rangeFunc_ownH rfl (by decide) (gf := 32) (lb := #[.pointer (some ⟨Bs, 0, none⟩)]) rfl trivial (fun args w => callFunc_run Try.func32 rfl rfl args w)
          (backward_stops 3 (by decide) Bs w8.heap.size _ d.loose HL.out (by omega) w8 (Nat.le_refl _) hbs hl8.tight) belowK_t (belowK_b (Nat.le_refl _)) (Below.refl _ _) (fun _ => rfl)
          (fun pre W => (∀ p ∈ pre, p.2.1.at_ ≠ at_) ∧ Below w8.heap.size w8 W)
          (fun c pre W => (c = .ret ∧ ∃ ini last, pre = ini ++ [last] ∧ (∀ p ∈ ini, p.2.1.at_ ≠ at_) ∧ last.2.1.at_ = at_ ∧ W.heap[w.heap.size + 1 + 1]? = some (.cells (u8s last.2.1.data).toArray 33 (0, 0)) ∧ W.heap[w.heap.size + 1 + 1 + 1]? = some (.cells #[.int .i64 0] 28 (0, 0))) ∧ Below w.heap.size w W)
          (OwnFrom.and (ownFrom_pure _ _) (ownFrom_below (Nat.le_refl _) (Nat.le_refl _)))
          (fun c => OwnFrom.and (Go.Own.from (fun s A B row hs hg hr => by
            obtain ⟨hc, ini, last, e1, e2, e3, h2, h3⟩ := hs
            exact ⟨hc, ini, last, e1, e2, e3, (grownBy_keeps_cells hg hr h2 rfl).trans h2, (grownBy_keeps_cells hg hr h3 rfl).trans h3⟩) _) (ownFrom_below (Nat.le_refl _) hbb.size))
          ⟨fun p hp => absurd hp List.not_mem_nil, Below.refl _ _⟩
          (fun x a' W => ∃ Bx, w8.heap.size ≤ Bx ∧ W.heap[Bx]? = some (.cells (wcells x.2.1).toArray 46 (0, 0)) ∧ a' = { tmps := #[.agg #[.slice a1 d.secs.length n1, .slice a2 d.loose.length n2, .int .i64 d.fuse, .bool false], .int .i64 at_, .pointer (some ⟨w.heap.size, 0, none⟩), .pointer (some ⟨w.heap.size + 1, 0, none⟩), .pointer (some ⟨w.heap.size + 1 + 1, 0, none⟩), .pointer (some ⟨w.heap.size + 1 + 1 + 1, 0, none⟩), .pointer (some ⟨w.heap.size + 1 + 1 + 1 + 1, 0, none⟩), undef, .pointer (some ⟨Bx, 0, none⟩), .bool false, .agg #[.slice a1 d.secs.length n1, .slice a2 d.loose.length n2, .int .i64 d.fuse, .bool false], .bool true, .bool false, .bool false, .agg #[.slice a1 d.secs.length n1, .slice a2 d.loose.length n2, .int .i64 d.fuse, .bool false], .int .i64 at_, .bool true, .bool false, .bool false, undef, .bool false, .pointer (some ⟨w.heap.size, 3, none⟩), .bool false, undef, .pointer (some ⟨w.heap.size, 1, none⟩), .slice a2 d.loose.length n2, .func (.func 32) #[] #[.pointer (some ⟨Bs, 0, none⟩)], .int .i64 x.1, .agg (wcells x.2.1).toArray, undef, undef, undef, undef, undef, undef, undef, undef, undef, undef, undef], defers := [] })
          (fun x a' => Go.Own.from (fun s A B row hs hg hr => by
            obtain ⟨Bx, h1, h2, h3⟩ := hs
            exact ⟨Bx, h1, (grownBy_keeps_cells hg hr h2 rfl).trans h2, h3⟩) _) ?assign ?body ?done ?stop
        case assign =>
          rintro l pre x W K ⟨hp, hB⟩ hK
          obtain ⟨z, hzs, hzr⟩ := zero46
          obtain ⟨W1, hW1⟩ : ∃ W1, W1 = W.alloc (.cells z.cells 46) := ⟨_, rfl⟩
          have hn1 : W1.heap[W.heap.size]? = some (.cells z.cells 46 (0, 0)) := by rw [hW1]; exact heap_alloc_new W _
          have hK1 : KeepsOthers W W1 := by rw [hW1]; exact KeepsOthers.alloc _ _
          have hB1 : Below W.heap.size W W1 := by rw [hW1]; exact Below.alloc (Below.refl _ _) (Nat.le_refl _) _
          obtain ⟨X, hX⟩ : ∃ X, X = (wcells x.2.1).toArray := ⟨_, rfl⟩
          obtain ⟨W2, hst, hn2, hB2, _, _, hK2⟩ := storeBig info46 hn1 hzs X (by rw [hX]; simp [length_wcells, x.2.2]) (by rw [hX]; exact oneCell_w _)
          have hB2 := hB1.trans (hB2.mono (Nat.le_refl _))
          have HK := Lib.hid (hK { tmps := #[.agg #[.slice a1 d.secs.length n1, .slice a2 d.loose.length n2, .int .i64 d.fuse, .bool false], .int .i64 at_, .pointer (some ⟨w.heap.size, 0, none⟩), .pointer (some ⟨w.heap.size + 1, 0, none⟩), .pointer (some ⟨w.heap.size + 1 + 1, 0, none⟩), .pointer (some ⟨w.heap.size + 1 + 1 + 1, 0, none⟩), .pointer (some ⟨w.heap.size + 1 + 1 + 1 + 1, 0, none⟩), undef, .pointer (some ⟨W.heap.size, 0, none⟩), .bool false, .agg #[.slice a1 d.secs.length n1, .slice a2 d.loose.length n2, .int .i64 d.fuse, .bool false], .bool true, .bool false, .bool false, .agg #[.slice a1 d.secs.length n1, .slice a2 d.loose.length n2, .int .i64 d.fuse, .bool false], .int .i64 at_, .bool true, .bool false, .bool false, undef, .bool false, .pointer (some ⟨w.heap.size, 3, none⟩), .bool false, undef, .pointer (some ⟨w.heap.size, 1, none⟩), .slice a2 d.loose.length n2, .func (.func 32) #[] #[.pointer (some ⟨Bs, 0, none⟩)], .int .i64 x.1, .agg (wcells x.2.1).toArray, undef, undef, undef, undef, undef, undef, undef, undef, undef, undef, undef], defers := [] } W2 ((hK1.trans hK2).from _) (hB2.mono hB.size) ⟨hp, hB.trans (hB2.mono hB.size)⟩ ⟨W.heap.size, hB.size, by rw [hn2, hX], rfl⟩)
          rw [← hX] at HK
          have HZ46 := Lib.hid hzr
          have HW1 := Lib.hid hW1
          unfold encW
          rw [← hX]
          clear hX hK hzr hW1
          gi_wp2_with (refine wpin_alloc_to (w' := W1) 46 rfl rfl (HZ46.out _) ?_ ?_; (exact HW1.out); refine Halt.in ?_)
          refine Halt.out ?_
          gi_wp2_with (refine wpin_store_at (.tmp 8) (.tmp 28) 46 rfl rfl rfl rfl hst ?_)
          exact HK.out
        case body =>
          rintro l pre x a' W hl ⟨r, hr⟩ ⟨hp, hB⟩ ⟨Bx, hBx, bX, rfl⟩ hlt
          have F := F.below hB hbb8
          have hbW := hbb.trans (hB.mono hbb.size)
          have X0 := cell_of_row W _ 0 _ _ _ bX
          have hX0 : (wcells x.2.1).toArray[0]? = some (.int .i64 x.2.1.at_) := by simp [wcells]
          rw [hX0] at X0
          have C4 := cell_of_row W _ 0 _ _ _ F.g1
          have C5 := cell_of_row W _ 0 _ _ _ F.g3
          have Y := frozen_row F.g3
          obtain ⟨i44, hi44, hs44⟩ := info44
          have hld := run_load_big (P := Try.prog) (t := 33) Try.underlying33 (.inl ⟨_, _, rfl⟩) hi44 (w := W) (b := Bx) (off := 1) (cs := u8s x.2.1.data) hs44 (by rw [length_u8s, x.2.2])
            (fun j u hj => by rw [cell_of_row W _ _ _ _ _ bX]; simpa [wcells, Nat.add_comm 1 j] using hj)
          obtain ⟨X, hX⟩ : ∃ X, X = (u8s x.2.1.data).toArray := ⟨_, rfl⟩
          rw [← hX] at hld
          obtain ⟨W2, hst, hn2, hB2, _, hoth2, hK2⟩ := store64 F.g2 hZs X (by rw [hX]; simp [length_u8s, x.2.2]) (by rw [hX]; exact oneCell_u8s _)
          have HX := Lib.hid hX
          obtain ⟨y, hy⟩ : ∃ y, y = x.2.1.at_ := ⟨_, rfl⟩
          rw [← hy] at X0
          have HY := Lib.hid hy
          obtain ⟨V, hV⟩ : ∃ V, V = (wcells x.2.1).toArray := ⟨_, rfl⟩
          rw [← hV]
          clear hX hX0 hy hV
          by_cases hx : y = at_
          · gi_wp2_with (first
              | (refine wpin_load_to (w' := W) (.tmp 33) 33 rfl rfl ?_ rfl hld ?_; (exact rfl))
              | (refine wpin_store_at (.tmp 4) (.tmp 34) 33 rfl rfl rfl rfl hst ?_; refine Halt.in ?_))
            refine Halt.out ?_
            clear hst hld C4 C5 Y X0
            have H3 := (hoth2 (w.heap.size + 1 + 1 + 1) (by omega)).trans F.g3
            have C5 := cell_of_row W2 _ 0 _ _ _ H3
            have Y := frozen_row H3
            gi_wp2
            refine ⟨?_, ⟨rfl, pre, x, rfl, hp, HY.out.symm.trans hx, ?_, ?_⟩, ?_⟩
            · exact (hK2.trans (KeepsOthers.setCell _ _ _)).from _
            · rw [setFar (by omega), ← HX.out]; exact hn2
            · exact setCell_one H3 _
            · exact (hbW.trans (hB2.mono (by omega))).setCell (p := ⟨w.heap.size + 1 + 1 + 1, 0, none⟩) (show w.heap.size ≤ w.heap.size + 1 + 1 + 1 by omega) _
          · gi_wp2
            exact ⟨KeepsFrom.refl _ _, Below.refl _ _, fun p hp' => (List.mem_append.1 hp').elim (hp p) (fun e => by simp at e; subst e; rw [← HY.out]; exact hx), hB⟩
        case done =>
          rintro D xs W hD rfl ⟨hp, hB⟩ hK
          have F := F.below hB hbb8
          have hbW := hbb.trans (hB.mono hbb.size)
          have C0 := cell_of_row W _ 0 _ _ _ F.g0
          have C4 := cell_of_row W _ 0 _ _ _ F.g1
          have C5 := cell_of_row W _ 0 _ _ _ F.g3
          have Y := frozen_row F.g3
          obtain ⟨m, hm, hmlt⟩ : ∃ m : Nat, at_ = (m : Int) ∧ m < d.secs.length := by
            have := HTT.out
            simp only [thereB, Bool.and_eq_true, decide_eq_true_eq] at this
            exact ⟨at_.toNat, by omega, by omega⟩
          have hfs := F.s
          obtain ⟨h64s, _, a, cap, hv, hnc, hcap, hcells⟩ := hfs
          obtain ⟨b, off, rfl, hBb, hc⟩ := hcells (by omega)
          unfold maxLen at hcap
          cases hv
          have hat := flat_at u8s 64 d.secs (fun x hx => by rw [length_u8s, h64s x hx]) m d.secs[m] (List.getElem?_eq_getElem hmlt)
          obtain ⟨i44, hi44, hs44⟩ := info44
          have hld := run_load_big (P := Try.prog) (t := 33) Try.underlying33 (.inl ⟨_, _, rfl⟩) hi44 (w := W) (b := b) (off := off + m * 64) (cs := u8s d.secs[m]) hs44 (by rw [length_u8s, h64s _ (List.getElem_mem hmlt)])
            (fun j u hj => by rw [Nat.add_assoc]; exact hc _ _ (hat j u hj))
          obtain ⟨X, hX⟩ : ∃ X, X = (u8s d.secs[m]).toArray := ⟨_, rfl⟩
          rw [← hX] at hld
          have hXs : X.size = 64 := by rw [hX]; simp [length_u8s, h64s _ (List.getElem_mem hmlt)]
          obtain ⟨W2, hst, hn2, hB2, _, hoth2, hK2⟩ := store64 F.g2 hZs X hXs (by rw [hX]; exact oneCell_u8s _)
          have HX := Lib.hid hX
          have HM := Lib.hid hm
          rw [hm] at C4
          clear hX hat hc hcells hm
          gi_wp2_with (first
            | (refine wpin_load_to (w' := W) (.tmp 38) 33 rfl rfl ?_ rfl hld ?_; (exact rfl))
            | (refine wpin_store_at (.tmp 4) (.tmp 39) 33 rfl rfl rfl rfl hst ?_; refine Halt.in ?_))
          refine Halt.out ?_
          clear hst hld C0 C4 C5 Y
          have H3 := (hoth2 (w.heap.size + 1 + 1 + 1) (by omega)).trans F.g3
          have C5 := cell_of_row W2 _ 0 _ _ _ H3
          have Y := frozen_row H3
          gi_wp2
          have hK' := (hK2.trans (KeepsOthers.setCell _ ⟨w.heap.size + 1 + 1 + 1, 0, none⟩ (.int .i64 0))).same D _ hK rfl
          have hDl : w.heap.size ≤ D := by omega
          have e2 : (W2.setCell ⟨w.heap.size + 1 + 1 + 1, 0, none⟩ (.int .i64 0)).heap[w.heap.size + 1 + 1]? = some (.cells X 33 (0, 0)) := (setFar (by omega) 0 _).trans hn2
          refine retD hK' (results_cc rfl _ _ (w.heap.size + 1 + 1) (w.heap.size + 1 + 1 + 1) X 0 rfl ?_ rfl ?_ hXs) ?_
          · exact (grownBy_keeps_cells (grownBy_putObj' _ D (.deferred none)) (fun r e => by cases e; exact ⟨_, hK', rfl⟩) e2 rfl).trans e2
          · exact (grownBy_keeps_cells (grownBy_putObj' _ D (.deferred none)) (fun r e => by cases e; exact ⟨_, hK', rfl⟩) (setCell_one H3 _) rfl).trans (setCell_one H3 _)
          · refine ⟨?_, ((hbW.trans (hB2.mono (by omega))).setCell (p := ⟨w.heap.size + 1 + 1 + 1, 0, none⟩) (show w.heap.size ≤ w.heap.size + 1 + 1 + 1 by omega) _).trans (belowK_b (w := w) (Nat.le_refl _) _ D _ _ hDl hK' rfl rfl)⟩
            rw [HP.out, lastW_upto_none F.l.1 hp, HM.out, HX.out]
            simp [hmlt]
        case stop =>
          rintro D c pre W hD ⟨k, hk, rfl⟩ ⟨⟨rfl, ini, last, e1, e2, e3, h2, h3⟩, hB⟩ hK
          gi_wp2
          refine retD hK (results_cc rfl _ _ (w.heap.size + 1 + 1) (w.heap.size + 1 + 1 + 1) (u8s last.2.1.data).toArray 0 rfl ?_ rfl ?_ (by simp [length_u8s, last.2.2])) ?_
          · exact (grownBy_keeps_cells (grownBy_putObj' _ D (.deferred none)) (fun r e => by cases e; exact ⟨_, hK, rfl⟩) h2 rfl).trans h2
          · exact (grownBy_keeps_cells (grownBy_putObj' _ D (.deferred none)) (fun r e => by cases e; exact ⟨_, hK, rfl⟩) h3 rfl).trans h3
          · refine ⟨?_, hB.trans (belowK_b (w := w) (Nat.le_refl _) _ D _ _ (by omega) hK rfl rfl)⟩
            rw [HP.out, lastW_upto_at F.l.1 hk e1 e2 e3]
end Go.Proofs.Ytccjjlefpdlegab
