/- Layer 1 (sector): Put. -/
import Derived.Test.YtaijompnohkmaaaGreatDoorMC
import Derived.OwnWalk
import Derived.RangeFuncNested
import Derived.RangeFuncBound
import Derived.RangeFuncCalls
import Derived.RangeFuncLeaves
import Derived.RangeFuncBox
import Derived.Shelf.Abstract
import Derived.Shelf.RegionOpen
import Derived.WalkKit
import Derived.OwnWalkIn
import Derived.TacticsInMore
import Derived.LoopNIn
import Derived.LoopIn
set_option linter.unusedSimpArgs false
set_option linter.unusedVariables false
namespace Go.Proofs.YtaijompnohkmaaaGreatDoor
open Go.RowKit
theorem size_sector : (Tryz.prog.info? 94).map (·.size) = some 64 := by kernel_rfl
def Halt (p : Prop) : Prop := p
theorem Halt.out {p : Prop} (h : p) : Halt p := h
theorem Halt.in {p : Prop} (h : Halt p) : p := h
/-- Put, told plainly. -/
def putP (d : DiskP) (at_ : Int) (data : List UInt8) : DiskP × Int :=
  if rightB d && thereB d at_ then (if downP d then ({ d with fuse := burnF d, down := true }, 9) else ({ d with loose := d.loose ++ [⟨at_, data⟩], fuse := burnF d, down := false }, 0)) else (d, 1)
/-- What the function's own blocks hold. -/
structure Fr (B G : Nat) (w : World) (sv lv : Value) (d : DiskP) (A : Array Value) : Prop where
  g0 : w.heap[G]? = some (.cells #[sv, lv, .int .i64 d.fuse, .bool d.down] 38 (0, 0))
  g1 : w.heap[G + 1]? = some (.cells A 94 (0, 0))
  g2 : w.heap[G + 1 + 1]? = some (.cells #[.slice none 0 0, .slice none 0 0, .int .i64 0, .bool false] 38 (0, 0))
  s : Secs B w sv d.secs
  l : Loose B w lv d.loose
theorem Fr.below {B G B' : Nat} {w w' : World} {sv lv : Value} {d : DiskP} {A : Array Value} (h : Fr B G w sv lv d A) (hb : Below B' w w') (hB : G + 1 + 1 < B') (hB2 : B ≤ B') : Fr B G w' sv lv d A :=
  ⟨(hb.block _ (by omega)).trans h.g0, (hb.block _ (by omega)).trans h.g1, (hb.block _ hB).trans h.g2, h.s.below (hb.mono hB2), h.l.below (hb.mono hB2)⟩
theorem Fr.diskV {B G : Nat} {w : World} {sv lv : Value} {d : DiskP} {A : Array Value} (h : Fr B G w sv lv d A) : DiskV B w (.agg #[sv, lv, .int .i64 d.fuse, .bool d.down]) d := ⟨sv, lv, rfl, h.s, h.l⟩
theorem DiskV.parts {B : Nat} {w : World} {v : Value} {d : DiskP} (h : DiskV B w v d) : ∃ a1 k1 a2 k2, v = .agg #[.slice a1 d.secs.length k1, .slice a2 d.loose.length k2, .int .i64 d.fuse, .bool d.down] ∧ Secs B w (.slice a1 d.secs.length k1) d.secs ∧ Loose B w (.slice a2 d.loose.length k2) d.loose := by
  obtain ⟨sv, lv, rfl, hs, hl⟩ := h
  have hs' := hs
  have hl' := hl
  obtain ⟨_, _, a, cap, rfl, _⟩ := hs'
  obtain ⟨_, _, a2, cap2, rfl, _⟩ := hl'
  exact ⟨_, _, _, _, rfl, hs, hl⟩
theorem put4_secsV {B h : Nat} {w : World} {v : Value} {ss : List (List UInt8)} (hs : Secs B w v ss) (hB : B ≤ h) (a b c d : Value) : Secs B (put4 w h a b c d) v ss := hs.below (put4_below (Below.refl _ _) hB a b c d)
theorem put4_looseV {B h : Nat} {w : World} {v : Value} {ss : List WriteP} (hs : Loose B w v ss) (hB : B ≤ h) (a b c d : Value) : Loose B (put4 w h a b c d) v ss := hs.below (put4_below (Below.refl _ _) hB a b c d)
theorem LooseO.snoc {B : Nat} {w : World} {v : Value} {ls : List WriteP} {x : WriteP} (h : ∀ x ∈ ls, x.data.length = 64) (hx : x.data.length = 64) (ho : Own B w 96 v 65 (ls.length + 1) ((ls.map wcells).flatten ++ wcells x)) : LooseO B w v (ls ++ [x]) := by
  refine ⟨fun y hy => ?_, ?_⟩
  · rcases List.mem_append.1 hy with hy | hy
    · exact h y hy
    · rw [List.mem_singleton.1 hy]; exact hx
  · simpa using ho
theorem normC {G C : Nat} {w : World} {sv lv : Value} {ss : List (List UInt8)} {ls : List WriteP} (hC : G ≤ C) (ho : SecsO G w sv ss) (r : Row C w sv 64 ss.length (ss.map u8s).flatten) (hl : LooseO C w lv ls) (hs : G ≤ w.heap.size) :
    ∃ C, G ≤ C ∧ C ≤ w.heap.size ∧ Row C w sv 64 ss.length (ss.map u8s).flatten ∧ LooseO C w lv ls := by
  rcases Nat.le_total C w.heap.size with h | h
  · exact ⟨C, hC, h, r, hl⟩
  · exact ⟨w.heap.size, hs, Nat.le_refl _, ho.secs.2, hl.lower h⟩
/-- A row whose block lies in between. -/
def RowIn (B C : Nat) (w : World) (v : Value) (sz n : Nat) (cs : List Value) : Prop :=
  cs.length = n * sz ∧ ∃ a cap, v = .slice a n cap ∧ n ≤ cap ∧ cap ≤ maxLen ∧ (0 < n → ∃ b off, a = some ⟨b, off, none⟩ ∧ B ≤ b ∧ b < C ∧ ∀ k u, cs[k]? = some u → w.cell? ⟨b, off + k, none⟩ = some u)
theorem RowIn.of {B C : Nat} {w : World} {e : TypeId} {v : Value} {sz n : Nat} {cs : List Value} (ho : Own B w e v sz n cs) (r : Row C w v sz n cs) : RowIn B C w v sz n cs := by
  obtain ⟨_, a, cap, rfl, hn, _, ho⟩ := ho
  obtain ⟨hl, a', cap', hv, h1, h2, h3⟩ := r
  obtain ⟨rfl, rfl⟩ : a = a' ∧ cap = cap' := by cases hv; exact ⟨rfl, rfl⟩
  refine ⟨hl, a, cap, rfl, h1, h2, fun hp => ?_⟩
  obtain ⟨b, off, rfl, hb, hc⟩ := h3 hp
  rcases ho with ho | ⟨g, cur, hg, hB, _⟩
  · omega
  · cases hg
    exact ⟨b, 0, rfl, hB, hb, hc⟩
theorem RowIn.below {B C : Nat} {w w' : World} {v : Value} {sz n : Nat} {cs : List Value} (h : RowIn B C w v sz n cs) (hb : Below C w w') : RowIn B C w' v sz n cs := by
  obtain ⟨hl, a, cap, rfl, h1, h2, h3⟩ := h
  refine ⟨hl, a, cap, rfl, h1, h2, fun hp => ?_⟩
  obtain ⟨b, off, rfl, hB, hC, hc⟩ := h3 hp
  exact ⟨b, off, rfl, hB, hC, fun k u hk => (hb.cell (p := ⟨b, off + k, none⟩) hC).trans (hc k u hk)⟩
theorem RowIn.setOther {B C : Nat} {w : World} {v : Value} {sz n : Nat} {cs : List Value} (h : RowIn B C w v sz n cs) (p : Addr) (u : Value) (hp : p.block < B) : RowIn B C (w.setCell p u) v sz n cs := by
  obtain ⟨hl, a, cap, rfl, h1, h2, h3⟩ := h
  refine ⟨hl, a, cap, rfl, h1, h2, fun hn => ?_⟩
  obtain ⟨b, off, rfl, hB, hC, hc⟩ := h3 hn
  refine ⟨b, off, rfl, hB, hC, fun k u' hk => ?_⟩
  rw [← hc k u' hk]
  unfold World.cell?
  have : (w.setCell p u).heap[b]? = w.heap[b]? := by
    simp only [World.setCell, Array.getElem?_modify]
    rw [if_neg (by omega)]
  simp only [this]
theorem RowIn.row {B C : Nat} {w : World} {v : Value} {sz n : Nat} {cs : List Value} (h : RowIn B C w v sz n cs) : Row C w v sz n cs := by
  obtain ⟨hl, a, cap, rfl, h1, h2, h3⟩ := h
  refine ⟨hl, a, cap, rfl, h1, h2, fun hn => ?_⟩
  obtain ⟨b, off, rfl, _, hC, hc⟩ := h3 hn
  exact ⟨b, off, rfl, hC, hc⟩
theorem DiskV.mk {B B' : Nat} {w : World} {sv lv : Value} {d : DiskP} (hs : Secs B w sv d.secs) (hl : Loose B' w lv d.loose) : DiskV w.heap.size w (.agg #[sv, lv, .int .i64 d.fuse, .bool d.down]) d := ⟨sv, lv, rfl, hs.tight, hl.tight⟩
theorem put4_far {w : World} {g h : Nat} {o : Obj} (hh : w.heap[h]? = some o) (hne : g ≠ h) (a b c d : Value) : (put4 w g a b c d).heap[h]? = some o := by
  unfold put4
  rw [setFar hne, setFar hne, setFar hne, setFar hne]
  exact hh
/-- Where a slice's elements may lie. -/
def Sl (S : Nat → Prop) (v : Value) : Prop := ∀ a n c, v = .slice (some a) n c → 0 < n → S a.block
def DSl (S : Nat → Prop) (v : Value) : Prop := ∀ sv lv f dn, v = .agg #[sv, lv, f, dn] → Sl S sv ∧ Sl S lv
theorem DSl.mk {S : Nat → Prop} {sv lv f dn : Value} (h1 : Sl S sv) (h2 : Sl S lv) : DSl S (.agg #[sv, lv, f, dn]) := by
  intro sv' lv' f' dn' h
  simp only [Value.agg.injEq, Array.mk.injEq, List.cons.injEq] at h
  obtain ⟨rfl, rfl, _⟩ := h
  exact ⟨h1, h2⟩
theorem Sl.none (S : Nat → Prop) (n c : Nat) : Sl S (.slice none n c) := fun _ _ _ h => by simp at h
theorem Own.sl {B : Nat} {w : World} {e : TypeId} {v : Value} {sz n : Nat} {cs : List Value} (h : Own B w e v sz n cs) {S : Nat → Prop} (hS : ∀ b, B ≤ b → S b) : Sl S v := by
  obtain ⟨_, a, cap, rfl, hn, _, h4⟩ := h
  intro a' n' c' h hp
  cases h
  rcases h4 with h4 | ⟨g, cur, hg, hB, _⟩
  · omega
  · cases hg
    exact hS _ hB
theorem Row.sl {B : Nat} {w : World} {v : Value} {sz n : Nat} {cs : List Value} (h : Row B w v sz n cs) {S : Nat → Prop} (hS : ∀ b, b < B → S b) : Sl S v := by
  obtain ⟨_, a, cap, rfl, _, _, h4⟩ := h
  intro a' n' c' h hp
  cases h
  obtain ⟨b, off, hb, hB, _⟩ := h4 hp
  cases hb
  exact hS _ hB
theorem DiskV.sl {B : Nat} {w : World} {v : Value} {d : DiskP} (h : DiskV B w v d) {S : Nat → Prop} (hS : ∀ b, b < B → S b) : DSl S v := by
  obtain ⟨sv, lv, rfl, hs, hl⟩ := h
  exact DSl.mk (hs.2.sl hS) (hl.2.sl hS)
theorem Row.setFar {B : Nat} {w : World} {v : Value} {sz n : Nat} {cs : List Value} (h : Row B w v sz n cs) {p : Addr} (hs : Sl (· ≠ p.block) v) (u : Value) : Row B (w.setCell p u) v sz n cs := by
  obtain ⟨hl, a, cap, rfl, h1, h2, h3⟩ := h
  refine ⟨hl, a, cap, rfl, h1, h2, fun hp => ?_⟩
  obtain ⟨b, off, rfl, hb, hc⟩ := h3 hp
  have := hs _ _ _ rfl hp
  refine ⟨b, off, rfl, hb, fun k u' hk => ?_⟩
  exact (World.cell?_setCell_other w p ⟨b, off + k, none⟩ u (fun e => this (by rw [e]))).trans (hc k u' hk)
/-- A disk that lies elsewhere outlives a write. -/
theorem DiskV.setFar {B : Nat} {w : World} {v : Value} {d : DiskP} (h : DiskV B w v d) {p : Addr} (hs : DSl (· ≠ p.block) v) (u : Value) : DiskV B (w.setCell p u) v d := by
  obtain ⟨sv, lv, rfl, h1, h2⟩ := h
  obtain ⟨q1, q2⟩ := hs _ _ _ _ rfl
  exact ⟨sv, lv, rfl, ⟨h1.1, h1.2.setFar q1 u⟩, ⟨h2.1, h2.2.setFar q2 u⟩⟩
set_option maxRecDepth 100000 in
set_option maxHeartbeats 1000000 in
theorem put_any {B : Nat} (v : Value) (d : DiskP) (at_ : Int) (data : List UInt8) (w : World) (h : DiskV B w v d) (h64 : data.length = 64) (S : Nat → Prop) (hS : DSl S v) (hF : ∀ b, w.heap.size ≤ b → S b) :
    Calls Tryz.prog 142 #[v, .int .i64 at_, .agg (u8s data).toArray] w fun e w' => (∃ v', e = .returned (.tuple #[v', .int .i64 (putP d at_ data).2]) ∧ DiskV w'.heap.size w' v' (putP d at_ data).1 ∧ DSl S v') ∧ Below w.heap.size w w' := by
  obtain ⟨a1, n1, a2, n2, rfl, hs, hl⟩ := h.tight.parts
  have HSl := Lib.hid (hS _ _ _ _ rfl)
  have HFr := Lib.hid hF
  clear hS hF
  have hAs : (u8s data).toArray.size = 64 := by simp [length_u8s, h64]
  obtain ⟨A, hA⟩ : ∃ A, A = (u8s data).toArray := ⟨_, rfl⟩
  rw [← hA] at hAs ⊢
  have HA := Lib.hid hA
  clear hA
  clear h
  obtain ⟨w2, hw2⟩ : ∃ w2, w2 = ((w.alloc (.cells #[.slice a1 d.secs.length n1, .slice a2 d.loose.length n2, .int .i64 d.fuse, .bool d.down] 38)).alloc (.cells A 94)).alloc (.cells #[.slice none 0 0, .slice none 0 0, .int .i64 0, .bool false] 38) := ⟨_, rfl⟩
  have hb2 : Below w.heap.size w w2 := by rw [hw2]; exact Below.alloc (Below.alloc (Below.alloc (Below.refl _ _) (Nat.le_refl _) _) (by simp) _) (by simp; omega) _
  have hsz2 : w2.heap.size = w.heap.size + 3 := by rw [hw2]; simp
  have F : Fr w.heap.size w.heap.size w2 (.slice a1 d.secs.length n1) (.slice a2 d.loose.length n2) d A := by
    refine ⟨?_, ?_, ?_, hs.below hb2, hl.below hb2⟩
    · rw [hw2, heap_alloc_old _ _ (by simp; omega)]; exact heap_alloc2_old w _ _
    · rw [hw2, heap_alloc_old _ _ (by simp)]; exact heap_alloc2_new w _ _
    · rw [hw2]
      have h := heap_alloc_new ((w.alloc (.cells #[.slice a1 d.secs.length n1, .slice a2 d.loose.length n2, .int .i64 d.fuse, .bool d.down] 38)).alloc (.cells A 94)) (.cells #[.slice none 0 0, .slice none 0 0, .int .i64 0, .bool false] 38)
      simpa using h
  clear hs hl
  have k1 := right_any _ d w2 F.diskV
  have C0 := cell_of_row w2 _ 0 _ _ _ F.g0
  have C1 := cell_of_row w2 _ 1 _ _ _ F.g0
  have C2 := cell_of_row w2 _ 2 _ _ _ F.g0
  have C3 := cell_of_row w2 _ 3 _ _ _ F.g0
  have D0 := cell_of_row w2 _ 0 _ _ _ F.g2
  have D1 := cell_of_row w2 _ 1 _ _ _ F.g2
  have D2 := cell_of_row w2 _ 2 _ _ _ F.g2
  have D3 := cell_of_row w2 _ 3 _ _ _ F.g2
  have Y := frozen_row F.g0
  have Z := frozen_row F.g2
  have hle : w.heap.size + 3 ≤ w2.heap.size := by omega
  clear hsz2
  have H3 : w.heap.size ≤ w.heap.size + 1 + 1 := by omega
  cases hR : rightB d with
  | false =>
    have hP : putP d at_ data = (d, 1) := by simp [putP, hR]
    rw [hR] at k1
    rw [hP]
    clear hP
    go_enter Tryz.func142, Tryz.ntmps142
    go_wp2_with fail
    rw [← hw2]
    clear hw2
    go_wp2_with fail
    refine k1.mono ?_
    rintro e w3 ⟨rfl, hb3⟩
    have F := F.below hb3 (by omega) (by omega)
    have hbb := hb2.trans (hb3.mono hb2.size)
    clear k1 C0 C1 C2 C3 D0 D1 D2 D3 Y Z
    have C0 := cell_of_row w3 _ 0 _ _ _ F.g0
    have C1 := cell_of_row w3 _ 1 _ _ _ F.g0
    have C2 := cell_of_row w3 _ 2 _ _ _ F.g0
    have C3 := cell_of_row w3 _ 3 _ _ _ F.g0
    have D0 := cell_of_row w3 _ 0 _ _ _ F.g2
    have D1 := cell_of_row w3 _ 1 _ _ _ F.g2
    have D2 := cell_of_row w3 _ 2 _ _ _ F.g2
    have D3 := cell_of_row w3 _ 3 _ _ _ F.g2
    have Y := frozen_row F.g0
    have Z := frozen_row F.g2
    go_wp2_with fail
    refine bodyPost_ret (results_ct rfl _ _ (w.heap.size + 1 + 1) _ _ _ _ rfl (put4_heap F.g2 _ _ _ _) Tryz.underlying38 rfl size_disk) rfl ?_
    exact ⟨⟨_, rfl, DiskV.tight ⟨_, _, rfl, put4_secsV F.s H3 _ _ _ _, put4_looseV F.l H3 _ _ _ _⟩, DSl.mk HSl.out.1 HSl.out.2⟩, put4_below hbb H3 _ _ _ _⟩
  | true =>
    rw [hR] at k1
    go_enter Tryz.func142, Tryz.ntmps142
    go_wp2_with fail
    rw [← hw2]
    clear hw2
    go_wp2_with fail
    refine k1.mono ?_
    rintro e w3 ⟨rfl, hb3⟩
    have F := F.below hb3 (by omega) (by omega)
    have hbb := hb2.trans (hb3.mono hb2.size)
    have hle := Nat.le_trans hle hb3.size
    clear hb3 hb2
    clear k1 C0 C1 C2 C3 D0 D1 D2 D3 Y Z
    have C0 := cell_of_row w3 _ 0 _ _ _ F.g0
    have C1 := cell_of_row w3 _ 1 _ _ _ F.g0
    have C2 := cell_of_row w3 _ 2 _ _ _ F.g0
    have C3 := cell_of_row w3 _ 3 _ _ _ F.g0
    have D0 := cell_of_row w3 _ 0 _ _ _ F.g2
    have D1 := cell_of_row w3 _ 1 _ _ _ F.g2
    have D2 := cell_of_row w3 _ 2 _ _ _ F.g2
    have D3 := cell_of_row w3 _ 3 _ _ _ F.g2
    have Y := frozen_row F.g0
    have Z := frozen_row F.g2
    have k1 := there_any _ d at_ w3 F.diskV
    cases hT : thereB d at_ with
    | false =>
      have hP : putP d at_ data = (d, 1) := by simp [putP, hR, hT]
      rw [hT] at k1
      have HP := Lib.hid hP
      clear hP hR hT
      go_wp2_with fail
      refine k1.mono ?_
      rintro e w4 ⟨rfl, hb4⟩
      have F := F.below hb4 (by omega) (by omega)
      have hbb := hbb.trans (hb4.mono hbb.size)
      clear k1 hb4 C0 C1 C2 C3 D0 D1 D2 D3 Y Z
      have C0 := cell_of_row w4 _ 0 _ _ _ F.g0
      have C1 := cell_of_row w4 _ 1 _ _ _ F.g0
      have C2 := cell_of_row w4 _ 2 _ _ _ F.g0
      have C3 := cell_of_row w4 _ 3 _ _ _ F.g0
      have D0 := cell_of_row w4 _ 0 _ _ _ F.g2
      have D1 := cell_of_row w4 _ 1 _ _ _ F.g2
      have D2 := cell_of_row w4 _ 2 _ _ _ F.g2
      have D3 := cell_of_row w4 _ 3 _ _ _ F.g2
      have Y := frozen_row F.g0
      have Z := frozen_row F.g2
      go_wp2_with fail
      refine bodyPost_ret (results_ct rfl _ _ (w.heap.size + 1 + 1) _ _ _ _ rfl (put4_heap F.g2 _ _ _ _) Tryz.underlying38 rfl size_disk) rfl ?_
      rw [HP.out]
      exact ⟨⟨_, rfl, DiskV.tight ⟨_, _, rfl, put4_secsV F.s H3 _ _ _ _, put4_looseV F.l H3 _ _ _ _⟩, DSl.mk HSl.out.1 HSl.out.2⟩, put4_below hbb H3 _ _ _ _⟩
    | true =>
      rw [hT] at k1
      go_wp2_with fail
      refine k1.mono ?_
      rintro e w4 ⟨rfl, hb4⟩
      have F := F.below hb4 (by omega) (by omega)
      have hbb := hbb.trans (hb4.mono hbb.size)
      have hle := Nat.le_trans hle hb4.size
      clear k1 hb4 C0 C1 C2 C3 D0 D1 D2 D3 Y Z
      have C0 := cell_of_row w4 _ 0 _ _ _ F.g0
      have C1 := cell_of_row w4 _ 1 _ _ _ F.g0
      have C2 := cell_of_row w4 _ 2 _ _ _ F.g0
      have C3 := cell_of_row w4 _ 3 _ _ _ F.g0
      have D0 := cell_of_row w4 _ 0 _ _ _ F.g2
      have D1 := cell_of_row w4 _ 1 _ _ _ F.g2
      have D2 := cell_of_row w4 _ 2 _ _ _ F.g2
      have D3 := cell_of_row w4 _ 3 _ _ _ F.g2
      have Y := frozen_row F.g0
      have Z := frozen_row F.g2
      have k1 := burn_any _ d w4 F.diskV hR
      cases hD : downP d with
      | true =>
        have hP : putP d at_ data = ({ d with fuse := burnF d, down := true }, 9) := by simp [putP, hR, hT, hD]
        have hE : burnE d = 9 := by simp [burnE, hD]
        rw [hD, hE] at k1
        have HP := Lib.hid hP
        clear hP hR hT hD hE
        go_wp2_with fail
        refine k1.mono ?_
        rintro e w5 ⟨⟨sv, lv, rfl, C, hC, ho5, r5, hl5⟩, hb5⟩
        obtain ⟨C, hC, hC5, r5, hl5⟩ := normC hC ho5 r5 hl5 hb5.size
        obtain ⟨b1, m1, rfl⟩ := ho5.form
        obtain ⟨b2, m2, rfl⟩ := hl5.form
        have F := F.below hb5 (by omega) (by omega)
        have hbb := hbb.trans (hb5.mono hbb.size)
        clear k1 hb5 C0 C1 C2 C3 D0 D1 D2 D3 Y Z
        have C0 := cell_of_row w5 _ 0 _ _ _ F.g0
        have C1 := cell_of_row w5 _ 1 _ _ _ F.g0
        have C2 := cell_of_row w5 _ 2 _ _ _ F.g0
        have C3 := cell_of_row w5 _ 3 _ _ _ F.g0
        have D0 := cell_of_row w5 _ 0 _ _ _ F.g2
        have D1 := cell_of_row w5 _ 1 _ _ _ F.g2
        have D2 := cell_of_row w5 _ 2 _ _ _ F.g2
        have D3 := cell_of_row w5 _ 3 _ _ _ F.g2
        have Y := frozen_row F.g0
        have Z := frozen_row F.g2
        go_wp2_with fail
        have hg : w.heap.size < C := by omega
        have hg4 : w.heap.size < w4.heap.size := by omega
        have hg2 : w.heap.size + 1 + 1 < C := by omega
        have hg24 : w.heap.size + 1 + 1 < w4.heap.size := by omega
        refine bodyPost_ret (results_ct rfl _ _ (w.heap.size + 1 + 1) _ _ _ _ rfl (put4_heap (w := put4 w5 w.heap.size _ _ _ _) (put4_far F.g2 (by omega) _ _ _ _) _ _ _ _) Tryz.underlying38 rfl size_disk) rfl ?_
        rw [HP.out]
        exact ⟨⟨_, rfl, ⟨_, _, rfl, (put4_secs (put4_secs ho5 hg4 _ _ _ _) hg24 _ _ _ _).secs, (put4_loose (put4_loose hl5 hg _ _ _ _) hg2 _ _ _ _).loose⟩, DSl.mk (ho5.2.sl fun b hb => HFr.out b (by omega)) (hl5.2.sl fun b hb => HFr.out b (by omega))⟩, put4_below (put4_below hbb (Nat.le_refl _) _ _ _ _) H3 _ _ _ _⟩
      | false =>
        have hP : putP d at_ data = ({ d with loose := d.loose ++ [⟨at_, data⟩], fuse := burnF d, down := false }, 0) := by simp [putP, hR, hT, hD]
        have hE : burnE d = 0 := by simp [burnE, hD]
        rw [hD, hE] at k1
        have HP := Lib.hid hP
        have hlen : d.loose.length ≤ 100000 := by simp only [rightB, Bool.and_eq_true, decide_eq_true_eq] at hR; omega
        have R1 := Lib.hid (show d.loose.length + 1 ≤ maxLen by unfold maxLen; omega)
        have R2 := Lib.hid (show (d.loose.length + 1) * 72 ≤ 140737488355328 by omega)
        clear hP hR hT hD hE hlen
        go_wp2_with fail
        refine k1.mono ?_
        rintro e w5 ⟨⟨sv, lv, rfl, C, hC, ho5, r5, hl5⟩, hb5⟩
        obtain ⟨C, hC, hC5, r5, hl5⟩ := normC hC ho5 r5 hl5 hb5.size
        obtain ⟨b1, m1, rfl⟩ := ho5.form
        obtain ⟨b2, m2, rfl⟩ := hl5.form
        have F := F.below hb5 (by omega) (by omega)
        have hbb := hbb.trans (hb5.mono hbb.size)
        have hle5 := hb5.size
        clear k1 hb5 C0 C1 C2 C3 D0 D1 D2 D3 Y Z
        have C0 := cell_of_row w5 _ 0 _ _ _ F.g0
        have C1 := cell_of_row w5 _ 1 _ _ _ F.g0
        have C2 := cell_of_row w5 _ 2 _ _ _ F.g0
        have C3 := cell_of_row w5 _ 3 _ _ _ F.g0
        have D0 := cell_of_row w5 _ 0 _ _ _ F.g2
        have D1 := cell_of_row w5 _ 1 _ _ _ F.g2
        have D2 := cell_of_row w5 _ 2 _ _ _ F.g2
        have D3 := cell_of_row w5 _ 3 _ _ _ F.g2
        have Y := frozen_row F.g0
        have Z := frozen_row F.g2
        have hg : w.heap.size < C := by omega
        have hg4 : w.heap.size < w4.heap.size := by omega
        have hg2 : w.heap.size + 1 + 1 < C := by omega
        have hg24 : w.heap.size + 1 + 1 < w4.heap.size := by omega
        obtain ⟨w6, hw6⟩ : ∃ w6, w6 = (put4 w5 w.heap.size (.slice b1 d.secs.length m1) (.slice b2 d.loose.length m2) (.int .i64 (burnF d)) (.bool false)) := ⟨_, rfl⟩
        have hb56 : Below w.heap.size w5 w6 := by rw [hw6]; exact put4_below (Below.refl _ _) (Nat.le_refl _) _ _ _ _
        have hsz6 : w6.heap.size = w5.heap.size := by rw [hw6]; simp [put4]
        have E0 : w6.heap[w.heap.size]? = some (.cells #[.slice b1 d.secs.length m1, .slice b2 d.loose.length m2, .int .i64 (burnF d), .bool false] 38 (0, 0)) := by rw [hw6]; exact put4_heap F.g0 _ _ _ _
        have E1 : w6.heap[w.heap.size + 1]? = some (.cells A 94 (0, 0)) := by rw [hw6]; exact put4_far F.g1 (by omega) _ _ _ _
        have E2 : w6.heap[w.heap.size + 1 + 1]? = some (.cells #[.slice none 0 0, .slice none 0 0, .int .i64 0, .bool false] 38 (0, 0)) := by rw [hw6]; exact put4_far F.g2 (by omega) _ _ _ _
        have ho6 : SecsO w4.heap.size w6 (.slice b1 d.secs.length m1) d.secs := by rw [hw6]; exact put4_secs ho5 hg4 _ _ _ _
        have r6 := r5.mix ho6.2.row
        have hl6 : LooseO C w6 (.slice b2 d.loose.length m2) d.loose := by rw [hw6]; exact put4_loose hl5 hg _ _ _ _
        have hb6 := hbb.trans hb56
        have hld := run_loadVar_row (P := Tryz.prog) w6 (w.heap.size + 1) 94 94 A (0, 0) _ E1 Tryz.underlying94 rfl (by rw [hAs]; exact size_sector)
        unfold put4 at hw6
        have hbd := run_build_write (w := w6) at_ A hAs
        have hXs : (Value.int .i64 at_ :: A.toList).toArray.size = 65 := by simp [hAs]
        obtain ⟨X, hX⟩ : ∃ X, X = (Value.int .i64 at_ :: A.toList).toArray := ⟨_, rfl⟩
        rw [← hX] at hbd hXs
        have hbs := run_buildSlice_write (w := w6) X hXs
        have hXw : X.toList = wcells ⟨at_, data⟩ := by rw [hX, HA.out]; simp [wcells]
        obtain ⟨w8, hw8⟩ : ∃ w8, w8 = w6.alloc (.cells X 96) := ⟨_, rfl⟩
        have hb68 : Below w6.heap.size w6 w8 := by rw [hw8]; exact Below.alloc (Below.refl _ _) (Nat.le_refl _) _
        have hl8 := (hl6.keep hb68 (Nat.le_refl _)).2
        have hsrc : Src Tryz.prog w8 (.slice (some ⟨w6.heap.size, 0, none⟩) 1 1) 65 1 (wcells ⟨at_, data⟩) := by
          rw [hw8]
          refine Row.src (Row.fresh (by simp [wcells, length_u8s, h64]) (Nat.le_refl _) (by decide) (fun k u hk => ?_))
          rw [← hXw] at hk
          simpa using hk
        have hle8 : C ≤ w8.heap.size := by have := hb68.size; omega
        obtain ⟨i0, z0, hi, hz0, hz1, hz2, hz3⟩ := zero_parts infoz_write
        obtain ⟨g6, hg6⟩ : ∃ g, g = w6.heap.size := ⟨_, rfl⟩
        rw [← hw8, ← hg6] at hbs
        rw [← hg6] at hsrc
        have hone := oneCell_w ⟨at_, data⟩
        clear hXw hX hw8 F ho5 hl5 hg6
        go_wp2_with (refine wp_load_to (.tmp 5) 94 rfl rfl hw6 rfl hld ?_; clear hld hw6; refine Halt.in ?_)
        refine Halt.out ?_
        refine wp_build_l 96 [(0, .tmp 28), (1, .tmp 29)] rfl rfl rfl hbd ?_
        refine wp_buildSlice_l 36 1 [(0, .tmp 30)] rfl rfl rfl hbs ?_
        refine wp_append rfl (.tmp 27) (.tmp 31) 36 36 96 rfl i0 z0 65 72 Tryz.underlying36 (.inl ⟨_, Tryz.underlying36⟩) hi hz0 hz1 hz2 hz3 rfl rfl hl8 hsrc hone R1.out R2.out hle8 ?_
        intro v2 w9 hown9 hb9
        clear C0 C1 C2 C3 D0 D1 D2 D3 Y Z
        clear hbd hbs hsrc hl8 hi hz0 hz1 hz2 hz3 hone
        have hx9 : LooseO C w9 v2 (d.loose ++ [⟨at_, data⟩]) := LooseO.snoc hl6.1 h64 hown9
        obtain ⟨b3, m3, hv2⟩ := hx9.form
        rw [List.length_append, List.length_singleton] at hv2
        subst hv2
        have hb69 : Below C w6 w9 := (hb68.mono (by omega)).trans hb9
        have G0 := (hb69.block _ hg).trans E0
        have G2 := (hb69.block _ hg2).trans E2
        have r9 := (RowIn.of ho6.2 r6).below hb69
        have H0 : w.heap.size ≤ C := by omega
        have hbb9 := (hb6.trans (hb69.mono H0)).setCell (p := ⟨w.heap.size, 1, none⟩) (Nat.le_refl _) (.slice b3 (d.loose.length + 1) m3)
        have C0 := cell_of_row w9 _ 0 _ _ _ G0
        have C1 := cell_of_row w9 _ 1 _ _ _ G0
        have C2 := cell_of_row w9 _ 2 _ _ _ G0
        have C3 := cell_of_row w9 _ 3 _ _ _ G0
        have D0 := cell_of_row w9 _ 0 _ _ _ G2
        have D1 := cell_of_row w9 _ 1 _ _ _ G2
        have D2 := cell_of_row w9 _ 2 _ _ _ G2
        have D3 := cell_of_row w9 _ 3 _ _ _ G2
        have Y := frozen_row G0
        have Z := frozen_row G2
        go_wp2_with fail
        refine bodyPost_ret (results_ct rfl _ _ (w.heap.size + 1 + 1) _ _ _ _ rfl (put4_heap ((setFar (by omega) 1 _).trans G2) _ _ _ _) Tryz.underlying38 rfl size_disk) rfl ?_
        rw [HP.out]
        exact ⟨⟨_, rfl, DiskV.mk (d := { d with loose := d.loose ++ [⟨at_, data⟩], fuse := burnF d, down := false }) ⟨ho6.1, (((((r9.setOther ⟨w.heap.size, 1, none⟩ _ hg4).setOther ⟨w.heap.size + 1 + 1, 0, none⟩ _ hg24).setOther ⟨w.heap.size + 1 + 1, 1, none⟩ _ hg24).setOther ⟨w.heap.size + 1 + 1, 2, none⟩ _ hg24).setOther ⟨w.heap.size + 1 + 1, 3, none⟩ _ hg24).row⟩ (put4_loose (hx9.setOther ⟨w.heap.size, 1, none⟩ _ hg) hg2 _ _ _ _).loose, DSl.mk (ho6.2.sl fun b hb => HFr.out b (by omega)) (hx9.2.sl fun b hb => HFr.out b (by omega))⟩, put4_below hbb9 H3 _ _ _ _⟩
end Go.Proofs.YtaijompnohkmaaaGreatDoor
/- Layer 1 (sector): Arm. -/
namespace Go.Proofs.YtaijompnohkmaaaGreatDoor
open Go.RowKit
def armP (d : DiskP) (fuse : Int) : DiskP × Int := if rightB d && fusedB fuse then ({ d with fuse := fuse }, 0) else (d, 1)
/-- Two blocks: the disk, and the result's. -/
structure Fr2 (B G : Nat) (w : World) (sv lv : Value) (d : DiskP) : Prop where
  g0 : w.heap[G]? = some (.cells #[sv, lv, .int .i64 d.fuse, .bool d.down] 38 (0, 0))
  g2 : w.heap[G + 1]? = some (.cells #[.slice none 0 0, .slice none 0 0, .int .i64 0, .bool false] 38 (0, 0))
  s : Secs B w sv d.secs
  l : Loose B w lv d.loose
theorem Fr2.below {B G B' : Nat} {w w' : World} {sv lv : Value} {d : DiskP} (h : Fr2 B G w sv lv d) (hb : Below B' w w') (hB : G + 1 < B') (hB2 : B ≤ B') : Fr2 B G w' sv lv d :=
  ⟨(hb.block _ (by omega)).trans h.g0, (hb.block _ hB).trans h.g2, h.s.below (hb.mono hB2), h.l.below (hb.mono hB2)⟩
theorem Fr2.diskV {B G : Nat} {w : World} {sv lv : Value} {d : DiskP} (h : Fr2 B G w sv lv d) : DiskV B w (.agg #[sv, lv, .int .i64 d.fuse, .bool d.down]) d := ⟨sv, lv, rfl, h.s, h.l⟩
theorem Fr2.new {w : World} {sv lv : Value} {d : DiskP} (hs : Secs w.heap.size w sv d.secs) (hl : Loose w.heap.size w lv d.loose) :
    Fr2 w.heap.size w.heap.size ((w.alloc (.cells #[sv, lv, .int .i64 d.fuse, .bool d.down] 38)).alloc (.cells #[.slice none 0 0, .slice none 0 0, .int .i64 0, .bool false] 38)) sv lv d := by
  have hb : Below w.heap.size w ((w.alloc (.cells #[sv, lv, .int .i64 d.fuse, .bool d.down] 38)).alloc (.cells #[.slice none 0 0, .slice none 0 0, .int .i64 0, .bool false] 38)) := Below.alloc (Below.alloc (Below.refl _ _) (Nat.le_refl _) _) (by simp) _
  exact ⟨heap_alloc2_old w _ _, heap_alloc2_new w _ _, hs.below hb, hl.below hb⟩
end Go.Proofs.YtaijompnohkmaaaGreatDoor
/- Layer 1 (sector): New. -/
namespace Go.Proofs.YtaijompnohkmaaaGreatDoor
open Go.RowKit
def zeroS : List UInt8 := List.replicate 64 0
def newP (n : Int) : DiskP × Int := if 0 ≤ n ∧ n ≤ 4096 then (⟨List.replicate n.toNat zeroS, [], -1, false⟩, 0) else (⟨[], [], 0, false⟩, 1)
theorem zero_sector : (Tryz.prog.info? 94).bind (fun i => i.zero.map fun z => (i.size, i.bytes, z.cells)) = some (64, 64, Array.replicate 64 (.int .u8 0)) := by kernel_rfl
theorem secs_zero (n : Nat) : ((List.replicate n zeroS).map u8s).flatten = List.replicate (n * 64) (.int .u8 0) := by
  have e : u8s zeroS = List.replicate 64 (.int .u8 0) := by simp [u8s, zeroS, u8]
  rw [List.map_replicate, e, List.flatten_replicate_replicate]
theorem made_zero (n : Nat) : (madeCells (Array.replicate 64 (Value.int .u8 0)) (n * 64)).toList = List.replicate (n * 64) (.int .u8 0) := by
  apply List.ext_getElem
  · simp [size_madeCells]
  · intro k h1 h2
    simp only [madeCells, Array.toList_map, Array.toList_range, List.getElem_map, List.getElem_range, List.getElem_replicate, Array.size_replicate]
    have : k % 64 < 64 := Nat.mod_lt _ (by decide)
    rw [getElem!_pos _ _ (by simpa using this)]
    simp
theorem ownsRow_secs {w : World} {base n : Nat} {e : TypeId} {a : Option Addr} {c : Nat} (h : w.ownsRow base e 64 (.slice a n c) n (madeCells (Array.replicate 64 (Value.int .u8 0)) (n * 64)).toList) : Secs w.heap.size w (.slice a n c) (List.replicate n zeroS) := by
  rw [made_zero] at h
  obtain ⟨h1, h⟩ := h
  refine ⟨fun s hs => by rw [(List.mem_replicate.1 hs).2]; rfl, ?_⟩
  rw [secs_zero, List.length_replicate]
  rcases h with ⟨h, rfl⟩ | ⟨g, cap, cur, hv, _, hh, hn, hc, hz, ht⟩
  · cases h
    exact ⟨by simp, none, 0, rfl, Nat.le_refl _, by simp [maxLen], fun h => absurd h (Nat.lt_irrefl _)⟩
  · cases hv
    refine ⟨by simp, _, c, rfl, hn, hc, fun _ => ⟨g, 0, rfl, block_lt hh, fun k u hk => ?_⟩⟩
    rw [Nat.zero_add, cell_of_row w g k cur e (0, 0) hh]
    rw [← ht, List.getElem?_take] at hk
    split at hk
    · simpa using hk
    · cases hk
theorem Loose.nil (B : Nat) (w : World) : Loose B w (.slice none 0 0) [] := ⟨fun _ h => absurd h List.not_mem_nil, Row.nil B w 65⟩
theorem Secs.nil (B : Nat) (w : World) : Secs B w (.slice none 0 0) [] := ⟨fun _ h => absurd h List.not_mem_nil, Row.nil B w 64⟩
end Go.Proofs.YtaijompnohkmaaaGreatDoor
/- Layer 1 (sector): loose writes are done. -/
namespace Go.Proofs.YtaijompnohkmaaaGreatDoor
open Go.RowKit
/-- The sectors when the first k loose writes have been looked at. -/
def settleN (ss : List (List UInt8)) (ls : List WriteP) (st : Nat → Bool) : Nat → List (List UInt8)
  | 0 => ss
  | k + 1 => match ls[k]? with
    | some x => if st k then (settleN ss ls st k).set x.at_.toNat x.data else settleN ss ls st k
    | none => settleN ss ls st k
theorem length_settleN (ss : List (List UInt8)) (ls : List WriteP) (st : Nat → Bool) : ∀ k, (settleN ss ls st k).length = ss.length
  | 0 => rfl
  | k + 1 => by
    unfold settleN
    split
    · split <;> simp [length_settleN ss ls st k]
    · exact length_settleN ss ls st k
theorem flat_set (sz : Nat) (f : List UInt8 → List Value) : ∀ (ss : List (List UInt8)) (k : Nat) (x : List UInt8), (∀ s ∈ ss, (f s).length = sz) → (f x).length = sz → k < ss.length →
    ((ss.set k x).map f).flatten = (ss.map f).flatten.take (k * sz) ++ f x ++ (ss.map f).flatten.drop (k * sz + sz)
  | [], k, x, _, _, h => by simp at h
  | y :: ys, 0, x, hs, hx, _ => by
    have h0 := hs y (List.mem_cons_self ..)
    simp only [List.set_cons_zero, List.map_cons, List.flatten_cons, Nat.zero_mul, List.take_zero, List.nil_append, Nat.zero_add]
    rw [← h0, List.drop_left]
  | y :: ys, k + 1, x, hs, hx, h => by
    have h0 := hs y (List.mem_cons_self ..)
    have ih := flat_set sz f ys k x (fun s hs' => hs s (List.mem_cons_of_mem _ hs')) hx (by simpa using h)
    simp only [List.set_cons_succ, List.map_cons, List.flatten_cons, ih]
    have e1 : (k + 1) * sz = (f y).length + k * sz := by rw [h0, Nat.succ_mul]; omega
    have e2 : (f y).length + k * sz + sz = (f y).length + (k * sz + sz) := by omega
    rw [e1, e2, List.take_length_add_append, List.drop_length_add_append]
    simp [List.append_assoc]
/-- An own slice of sectors, one of them laid anew. -/
theorem SecsO.lay {P : Program} {B : Nat} {w : World} {a : Option Addr} {n cap : Nat} {ss : List (List UInt8)} (h : SecsO B w (.slice a n cap) ss) (k : Nat) (x : List UInt8) (hk : k < ss.length) (hx : x.length = 64) {i : TypeInfo} (hi : P.info? 94 = some i) (hsz : i.size = 64) :
    ∃ g, a = some ⟨g, 0, none⟩ ∧ B ≤ g ∧ g < w.heap.size ∧ ∃ w', (storeVar 94 ⟨g, k * 64, none⟩ (.agg (u8s x).toArray)).run P w = .ok () w' ∧ SecsO B w' (.slice a n cap) (ss.set k x) ∧ Below B w w' ∧ w'.heap.size = w.heap.size ∧ ∀ g', g' ≠ g → w'.heap[g']? = w.heap[g']? := by
  obtain ⟨h64, hl, a', cap', hv, hn, hc, h4⟩ := h
  injection hv with ha hn' hcap
  subst ha
  subst hn'
  subst hcap
  rcases h4 with h4 | ⟨g, cur, rfl, hg, hh, hs, ht⟩
  · omega
  · have hfit : k * 64 + (u8s x).length ≤ cur.size := by rw [length_u8s, hx, hs]; omega
    have hst := run_store_big (P := P) hi (cs := u8s x) hh (by rw [length_u8s, hx, hsz]) hfit (oneCell_u8s x)
    have hh' := setRow_heap w g cur (cur.toList.take (k * 64) ++ u8s x ++ cur.toList.drop (k * 64 + (u8s x).length)).toArray 94 _ hh
    refine ⟨g, rfl, hg, block_lt hh, _, hst, ⟨?_, ?_⟩, ?_, ?_, ?_⟩
    · intro s hs'
      rcases List.mem_or_eq_of_mem_set hs' with h | h
      · exact h64 s h
      · rw [h]; exact hx
    · have hfl := flat_set 64 u8s ss k x (fun s hs' => by rw [length_u8s, h64 s hs']) (by rw [length_u8s, hx]) hk
      have hu : (u8s x).length = 64 := by rw [length_u8s, hx]
      have hall : ∀ s ∈ ss.set k x, (u8s s).length = 64 := fun s hs' => by
        rcases List.mem_or_eq_of_mem_set hs' with h | h
        · rw [length_u8s, h64 s h]
        · rw [h, length_u8s, hx]
      refine ⟨length_flat u8s 64 _ hall, _, cap, by rw [List.length_set], by rw [List.length_set]; exact hn, hc, .inr ⟨g, _, rfl, hg, hh', ?_, ?_⟩⟩
      · simp only [List.size_toArray, List.length_append, List.length_take, List.length_drop, Array.length_toList, hu]
        omega
      · rw [hfl, List.length_set, ← ht, hu]
        have a1 : k * 64 ≤ ss.length * 64 := by omega
        have a2 : k * 64 + 64 ≤ ss.length * 64 := by omega
        have a3 : k * 64 ≤ cur.toList.length := by simp; omega
        simp only [List.take_append, List.length_append, List.length_take, hu, List.take_take, List.drop_take]
        rw [Nat.min_eq_left a3]
        have b1 : min (ss.length * 64) (k * 64) = k * 64 := by omega
        have b2 : min (k * 64) (ss.length * 64) = k * 64 := by omega
        rw [b1, b2, List.take_of_length_le (l := u8s x) (by omega)]
    · exact ⟨rfl, rfl, rfl, by simp [World.setRow], fun j hj => setRow_other w g j _ (by omega)⟩
    · simp [World.setRow]
    · intro g' hne
      exact setRow_other w g g' _ (by omega)
end Go.Proofs.YtaijompnohkmaaaGreatDoor
/- Layer 1 (sector): settle. -/
namespace Go.Proofs.YtaijompnohkmaaaGreatDoor
open Go.RowKit
theorem wp_alloc_to {P : Program} {ops : Array Oper} {rest : List Oper} {o : Oper} {a : Act} {w : World} {Q : Exit → Act → World → Prop} (t : TypeId) (hgd : o.guard = none) (ho : o.op = .alloc t) {z : Value} {w' : World} (hz : (zeroValue t).run P w = .ok z w) (hw : w' = w.alloc (.cells z.cells t))
    (h : wpList P ops Q rest (a.put o.dst (.pointer (some ⟨w.heap.size, 0, none⟩))) w') : wpList P ops Q (o :: rest) a w := by
  subst hw
  exact wp_alloc_at t hgd ho hz h
theorem there_of_right {d : DiskP} (h : rightB d = true) (k : Nat) (hk : k < d.loose.length) : ∃ m : Nat, d.loose[k].at_ = (m : Int) ∧ m < d.secs.length := by
  simp only [rightB, Bool.and_eq_true, Bool.not_eq_true', badAt, List.any_eq_false] at h
  have := h.2 d.loose[k] (List.getElem_mem hk)
  simp only [Bool.not_eq_true', Bool.not_eq_false, thereB, Bool.and_eq_true, decide_eq_true_eq] at this
  refine ⟨d.loose[k].at_.toNat, by omega, by omega⟩
set_option maxRecDepth 100000 in
set_option maxHeartbeats 2000000 in
theorem settle_any {B : Nat} (v : Value) (d : DiskP) (st : Nat → Bool) (fn : Nat) (caps : Array Value) (w : World) (h : DiskV B w v d) (hr : rightB d = true)
    (hcf : ∀ args w, (callFunc fn args).run Tryz.prog w = .ok (.enter fn args) w) (K : ∀ (k : Nat) (w' : World), k < d.loose.length → Below w.heap.size w w' → Calls Tryz.prog fn (#[.int .i64 k] ++ caps) w' fun e w'' => e = .returned (.bool (st k)) ∧ Below w'.heap.size w' w'') :
    Calls Tryz.prog 158 #[v, .func (.func fn) #[] caps] w fun e w' => (∃ sv, e = .returned (.agg #[sv, .slice none 0 0, .int .i64 d.fuse, .bool d.down]) ∧ SecsO w.heap.size w' sv (settleN d.secs d.loose st d.loose.length)) ∧ Below w.heap.size w w' := by
  obtain ⟨a1, n1, a2, n2, rfl, hs, hl⟩ := h.tight.parts
  clear h
  have HR := Lib.hid hr
  have F := Fr2.new (w := w) hs hl
  obtain ⟨w2, hw2⟩ : ∃ w2, w2 = (w.alloc (.cells #[.slice a1 d.secs.length n1, .slice a2 d.loose.length n2, .int .i64 d.fuse, .bool d.down] 38)).alloc (.cells #[.slice none 0 0, .slice none 0 0, .int .i64 0, .bool false] 38) := ⟨_, rfl⟩
  have hb2 : Below w.heap.size w w2 := by rw [hw2]; exact Below.alloc (Below.alloc (Below.refl _ _) (Nat.le_refl _) _) (by simp) _
  have hle : w.heap.size + 2 ≤ w2.heap.size := by rw [hw2]; simp
  rw [← hw2] at F
  clear hs
  have C0 := cell_of_row w2 _ 0 _ _ _ F.g0
  have hsl : d.secs.length ≤ 2 ^ 40 := by simp only [rightB, Bool.and_eq_true, decide_eq_true_eq] at hr; omega
  have k1 := clone64_any _ d.secs w2 F.s hsl
  clear hr hsl
  go_enter Tryz.func158, Tryz.ntmps158
  go_wp2_with fail
  rw [← hw2]
  clear hw2
  go_wp2_with fail
  refine k1.mono ?_
  rintro e w3 ⟨sv, rfl, ho3, hb3⟩
  obtain ⟨b1, m1, rfl⟩ := ho3.form
  have F := F.below hb3 (by omega) (by omega)
  have hbb := hb2.trans (hb3.mono hb2.size)
  clear k1 C0
  have C1 := cell_of_row w3 _ 1 _ _ _ F.g0
  have hcap2 := hl.2
  obtain ⟨_, _, _, hv, _, hcap2, _⟩ := hcap2
  cases hv
  unfold maxLen at hcap2
  go_wp2_with fail
  obtain ⟨i0, z0, hi, hz0, hz1, hz2, hz3⟩ := zero_parts infoz_write
  obtain ⟨i1, z1, hi1, _, hs1, _, _⟩ := zero_parts infoz_sector
  have ho3 := ho3.lower hle
  have hle3 := Nat.le_trans hle hb3.size
  have hb03 := hbb
  have HT := Lib.hid (fun k hk => there_of_right HR.out k hk)
  have Hl := Lib.hid hl
  clear hb3 hb2 hcap2
  go_loopw [14] (fun i wr => ∃ k : Nat, k ≤ d.loose.length ∧ i = .int .i64 k ∧ SecsO (w.heap.size + 2) wr (.slice b1 d.secs.length m1) (settleN d.secs d.loose st k) ∧ Fr2 w.heap.size w.heap.size wr (.slice a1 d.secs.length n1) (.slice a2 d.loose.length n2) d ∧ Below w.heap.size w wr ∧ w.heap.size + 2 ≤ wr.heap.size) (fun i _ => d.loose.length - (intOf i).toNat)
  case atStart => exact ⟨0, Nat.zero_le _, rfl, ho3, F, hbb, hle3⟩
  case round =>
    obtain ⟨k, hk, rfl, ho, F, hb, hszr⟩ := hrel
    clear ho3 hle3 hbb C1
    by_cases hlt : k < d.loose.length
    · obtain ⟨hls, _, a, cap, hv, hnc, hcap, hcells⟩ := hl
      cases hv
      unfold maxLen at hcap
      obtain ⟨b, off, rfl, hBb, hc⟩ := hcells (by omega)
      have hat := flat_at wcells 65 d.loose (fun x hx => by rw [length_wcells, hls x hx]) k d.loose[k] (List.getElem?_eq_getElem hlt)
      have hld := run_load_big (P := Tryz.prog) (t := 96) Tryz.underlying96 (.inr ⟨_, rfl⟩) hi (w := wr) (b := b) (off := off + k * 65) (cs := wcells d.loose[k]) hz1 (by rw [length_wcells, hls _ (List.getElem_mem hlt)])
        (fun j u hj => by rw [Nat.add_assoc]; exact (hb.cell (p := ⟨b, off + (k * 65 + j), none⟩) hBb).trans (hc _ _ (hat j u hj)))
      obtain ⟨x, hx⟩ : ∃ x, x = d.loose[k] := ⟨_, rfl⟩
      rw [← hx] at hld
      have hxl : x.data.length = 64 := by rw [hx]; exact hls _ (List.getElem_mem hlt)
      obtain ⟨m, hm, hmlt⟩ := HT.out k hlt
      rw [← hx] at hm
      have hset : settleN d.secs d.loose st (k + 1) = if st k then (settleN d.secs d.loose st k).set m x.data else settleN d.secs d.loose st k := by
        show (match d.loose[k]? with | some x => _ | none => _) = _
        rw [List.getElem?_eq_getElem hlt, ← hx]
        simp only [hm, Int.toNat_natCast]
      have HS := Lib.hid hset
      have HX := Lib.hid hx
      clear hset hx hat hc hcells
      have hzr : (zeroValue 96).run Tryz.prog wr = .ok z0 wr := by simp [zeroValue, typeInfo, hi, hz0]
      obtain ⟨w4, hw4⟩ : ∃ w4, w4 = wr.alloc (.cells z0.cells 96) := ⟨_, rfl⟩
      have hn4 : w4.heap[wr.heap.size]? = some (.cells z0.cells 96 (0, 0)) := by rw [hw4]; exact heap_alloc_new wr _
      have hb4 : Below wr.heap.size wr w4 := by rw [hw4]; exact Below.alloc (Below.refl _ _) (Nat.le_refl _) _
      have hst := run_store_big (P := Tryz.prog) (t := 96) hi (off := 0) (cs := wcells x) hn4 (by rw [hz1, length_wcells, hxl]) (by rw [length_wcells, hxl, hz3]; decide) (oneCell_w x)
      have hcells5 : (z0.cells.toList.take 0 ++ wcells x ++ z0.cells.toList.drop (0 + (wcells x).length)).toArray = (wcells x).toArray := by
        rw [List.drop_eq_nil_of_le (by simp [length_wcells, hxl, hz3])]; simp
      rw [hcells5] at hst
      obtain ⟨w5, hw5⟩ : ∃ w5, w5 = w4.setRow wr.heap.size (wcells x).toArray := ⟨_, rfl⟩
      have hn5 : w5.heap[wr.heap.size]? = some (.cells (wcells x).toArray 96 (0, 0)) := by rw [hw5]; exact setRow_heap w4 _ _ _ _ _ hn4
      have hb5 : Below wr.heap.size w4 w5 := by rw [hw5]; exact ⟨rfl, rfl, rfl, by simp [World.setRow], fun j hj => setRow_other w4 _ j _ (by omega)⟩
      have hb5 := hb4.trans hb5
      have hs5 : wr.heap.size + 1 ≤ w5.heap.size := by have := block_lt hn5; omega
      rw [← hw5] at hst
      clear hn4 hb4 hcells5 hw5
      obtain ⟨X, hX⟩ : ∃ X, X = (wcells x).toArray := ⟨_, rfl⟩
      rw [← hX] at hst hld hn5
      have HXX := Lib.hid hX
      clear hX
      go_wp2_with (refine wp_load_at (.tmp 17) 96 rfl rfl rfl hld ?_; refine Halt.in ?_)
      refine Halt.out ?_
      refine wp_alloc_to 96 rfl rfl hzr hw4 ?_
      clear hld hzr hw4
      go_wp2_with (refine wp_store_at (.tmp 7) (.tmp 18) 96 rfl rfl rfl rfl hst ?_; refine Halt.in ?_)
      refine Halt.out ?_
      clear hst
      have ho5 := ho.keep hb5 (Nat.le_refl _)
      have F5 := F.below hb5 (by omega) (by omega)
      have hb05 := hb.trans (hb5.mono hb.size)
      have k1 := K k w5 hlt hb05
      clear ho F hb hb5
      go_wp2_with fail
      refine k1.mono ?_
      rintro e w6 ⟨rfl, hb6⟩
      have ho6 := ho5.keep hb6 (Nat.le_refl _)
      have F6 := F5.below hb6 (by omega) (by omega)
      have hn6 := (hb6.block _ (by omega)).trans hn5
      have hb06 := hb05.trans (hb6.mono hb05.size)
      have hs6 := Nat.le_trans hs5 hb6.size
      clear k1 ho5 F5 hn5 hb05 hb6 hs5
      obtain ⟨q, hq⟩ : ∃ q, q = st k := ⟨_, rfl⟩
      rw [← hq]
      have HQ := Lib.hid hq
      clear hq
      cases q with
      | false =>
        go_wp2_with fail
        go_roundw
        case rel =>
          refine ⟨k + 1, by omega, by go_num, ?_, F6, hb06, by omega⟩
          rw [HS.out, ← HQ.out]
          exact ho6
        case measure => simp [intOf]; omega
      | true =>
        have hXx : X = (Value.int .i64 (m : Int) :: u8s x.data).toArray := by rw [HXX.out, wcells, hm]
        have C0 : w6.cell? ⟨wr.heap.size, 0, none⟩ = some (.int .i64 (m : Int)) := by rw [cell_of_row w6 _ 0 _ _ _ hn6, hXx]; rfl
        have hld := run_load_big (P := Tryz.prog) (t := 94) Tryz.underlying94 (.inl ⟨_, _, rfl⟩) hi1 (w := w6) (b := wr.heap.size) (off := 1) (cs := u8s x.data) hs1 (by rw [length_u8s, hxl])
          (fun j u hj => by rw [cell_of_row w6 _ _ _ _ _ hn6, hXx]; simpa [Nat.add_comm 1 j] using hj)
        obtain ⟨g, rfl, hgB, hgw, w7, hst7, ho7, hb7, hsz7, _⟩ := ho6.lay (P := Tryz.prog) m x.data (by rw [length_settleN]; exact hmlt) hxl hi1 hs1
        have F7 := F6.below hb7 (by omega) (by omega)
        have hb07 := hb06.trans (hb7.mono (by omega))
        obtain ⟨Y, hY⟩ : ∃ Y, Y = (u8s x.data).toArray := ⟨_, rfl⟩
        rw [← hY] at hld hst7
        clear hn6 hXx F6 ho6 hb06 hb7 hY
        go_wp2_with (refine wp_load_at (.tmp 25) 94 rfl rfl rfl hld ?_; refine Halt.in ?_)
        refine Halt.out ?_
        clear hld C0
        go_wp2_with (refine wp_store_at (.tmp 27) (.tmp 26) 94 rfl rfl rfl rfl hst7 ?_; refine Halt.in ?_)
        refine Halt.out ?_
        clear hst7
        go_wp2_with fail
        go_roundw
        case rel =>
          refine ⟨k + 1, by omega, by go_num, ?_, F7, hb07, by omega⟩
          rw [HS.out, ← HQ.out]
          exact ho7
        case measure => simp [intOf]; omega
    · obtain rfl : k = d.loose.length := by omega
      have C0 := cell_of_row wr _ 0 _ _ _ F.g0
      have C1 := cell_of_row wr _ 1 _ _ _ F.g0
      have C2 := cell_of_row wr _ 2 _ _ _ F.g0
      have C3 := cell_of_row wr _ 3 _ _ _ F.g0
      have D0 := cell_of_row wr _ 0 _ _ _ F.g2
      have D1 := cell_of_row wr _ 1 _ _ _ F.g2
      have D2 := cell_of_row wr _ 2 _ _ _ F.g2
      have D3 := cell_of_row wr _ 3 _ _ _ F.g2
      have Y := frozen_row F.g0
      have Z := frozen_row F.g2
      go_wp2_with fail
      have hB0 : w.heap.size < w.heap.size + 2 := by omega
      have hB1 : w.heap.size + 1 < w.heap.size + 2 := by omega
      have hne : w.heap.size ≠ w.heap.size + 1 := by omega
      have G2 : ((wr.setCell ⟨w.heap.size, 0, none⟩ (.slice b1 d.secs.length m1)).setCell ⟨w.heap.size, 1, none⟩ (.slice none 0 0)).heap[w.heap.size + 1]? = _ := ((setFar hne 1 _).trans (setFar hne 0 _)).trans F.g2
      refine bodyPost_ret (results_cell_row rfl _ _ (w.heap.size + 1) _ _ _ _ rfl (put4_heap G2 _ _ _ _) Tryz.underlying38 rfl size_disk) rfl ?_
      exact ⟨⟨_, rfl, (put4_secs ((ho.setOther _ _ hB0).setOther _ _ hB0) hB1 _ _ _ _).lower (by omega)⟩, put4_below ((hb.setCell (p := ⟨w.heap.size, 0, none⟩) (Nat.le_refl _) _).setCell (p := ⟨w.heap.size, 1, none⟩) (Nat.le_refl _) _) (by omega) _ _ _ _⟩
end Go.Proofs.YtaijompnohkmaaaGreatDoor
/- Layer 1 (sector): Flush and Start. -/
namespace Go.Proofs.YtaijompnohkmaaaGreatDoor
open Go.RowKit
theorem callFunc_run {P : Program} {f : FuncId} {fn : Func} (hf : P.funcs[f]? = some fn) (hn : (fn.name == "runtime.NumGoroutine") = false) (hb : fn.body.isNone = false) (args : Array Value) (w : World) : (callFunc f args).run P w = .ok (.enter f args) w := by
  have hn' : fn.name ≠ "runtime.NumGoroutine" := by simpa using hn
  have hb' : fn.body ≠ none := by intro h; simp [h] at hb
  simp [callFunc, hf, hn', hb']
theorem cf_flush : ∀ args w, (callFunc 159 args).run Tryz.prog w = .ok (.enter 159 args) w := fun args w => callFunc_run Tryz.func159 rfl rfl args w
theorem flush1_any (k : Int) (w : World) : Calls Tryz.prog 159 (#[.int .i64 k] ++ #[]) w fun e w' => e = .returned (.bool true) ∧ Below w.heap.size w w' := by
  go_enter Tryz.func159, Tryz.ntmps159
  go_wp2_with fail
  go_ret
  exact ⟨rfl, Below.refl _ _⟩
/-- Does a loose write stay? -/
def stay (m : Int) (k : Nat) : Bool := bits BinOp.and IntKind.u64 (m / 2 ^ (k % 64)) 1 == 1
/-- All loose writes are done. -/
def flushP (d : DiskP) : DiskP × Int :=
  if rightB d then (if downP d then ({ d with fuse := burnF d, down := true }, 9) else (⟨settleN d.secs d.loose (fun _ => true) d.loose.length, [], burnF d, false⟩, 0)) else (d, 1)
def startP (d : DiskP) (mask : Int) : DiskP × Int :=
  if rightB d then (⟨settleN d.secs d.loose (stay mask) d.loose.length, [], -1, false⟩, 0) else (d, 1)
set_option maxRecDepth 100000 in
set_option maxHeartbeats 1000000 in
theorem flush_any {B : Nat} (v : Value) (d : DiskP) (w : World) (h : DiskV B w v d) (S : Nat → Prop) (hS : DSl S v) (hF : ∀ b, w.heap.size ≤ b → S b) :
    Calls Tryz.prog 144 #[v] w fun e w' => (∃ v', e = .returned (.tuple #[v', .int .i64 (flushP d).2]) ∧ DiskV w'.heap.size w' v' (flushP d).1 ∧ DSl S v') ∧ Below w.heap.size w w' := by
  obtain ⟨a1, n1, a2, n2, rfl, hs, hl⟩ := h.tight.parts
  have HSl := Lib.hid (hS _ _ _ _ rfl)
  have HFr := Lib.hid hF
  clear h hS hF
  have F := Fr2.new (w := w) hs hl
  obtain ⟨w2, hw2⟩ : ∃ w2, w2 = (w.alloc (.cells #[.slice a1 d.secs.length n1, .slice a2 d.loose.length n2, .int .i64 d.fuse, .bool d.down] 38)).alloc (.cells #[.slice none 0 0, .slice none 0 0, .int .i64 0, .bool false] 38) := ⟨_, rfl⟩
  have hb2 : Below w.heap.size w w2 := by rw [hw2]; exact Below.alloc (Below.alloc (Below.refl _ _) (Nat.le_refl _) _) (by simp) _
  have hle : w.heap.size + 2 ≤ w2.heap.size := by rw [hw2]; simp
  rw [← hw2] at F
  clear hs hl
  have k1 := right_any _ d w2 F.diskV
  have H3 : w.heap.size ≤ w.heap.size + 1 := by omega
  have C0 := cell_of_row w2 _ 0 _ _ _ F.g0
  have C1 := cell_of_row w2 _ 1 _ _ _ F.g0
  have C2 := cell_of_row w2 _ 2 _ _ _ F.g0
  have C3 := cell_of_row w2 _ 3 _ _ _ F.g0
  obtain ⟨R, hR⟩ : ∃ R, R = rightB d := ⟨_, rfl⟩
  rw [← hR] at k1
  have HR := Lib.hid hR
  clear hR
  go_enter Tryz.func144, Tryz.ntmps144
  go_wp2_with fail
  rw [← hw2]
  clear hw2
  go_wp2_with fail
  refine k1.mono ?_
  rintro e w3 ⟨rfl, hb3⟩
  have F := F.below hb3 (by omega) (by omega)
  have hbb := hb2.trans (hb3.mono hb2.size)
  have hle := Nat.le_trans hle hb3.size
  clear k1 C0 C1 C2 C3 hb2 hb3
  have C0 := cell_of_row w3 _ 0 _ _ _ F.g0
  have C1 := cell_of_row w3 _ 1 _ _ _ F.g0
  have C2 := cell_of_row w3 _ 2 _ _ _ F.g0
  have C3 := cell_of_row w3 _ 3 _ _ _ F.g0
  have D0 := cell_of_row w3 _ 0 _ _ _ F.g2
  have D1 := cell_of_row w3 _ 1 _ _ _ F.g2
  have D2 := cell_of_row w3 _ 2 _ _ _ F.g2
  have D3 := cell_of_row w3 _ 3 _ _ _ F.g2
  have Y := frozen_row F.g0
  have Z := frozen_row F.g2
  cases R with
  | false =>
    have hP : flushP d = (d, 1) := by simp [flushP, ← HR.out]
    have HP := Lib.hid hP
    clear hP
    go_wp2_with fail
    refine bodyPost_ret (results_ct rfl _ _ (w.heap.size + 1) _ _ _ _ rfl (put4_heap F.g2 _ _ _ _) Tryz.underlying38 rfl size_disk) rfl ?_
    rw [HP.out]
    exact ⟨⟨_, rfl, DiskV.tight ⟨_, _, rfl, put4_secsV F.s H3 _ _ _ _, put4_looseV F.l H3 _ _ _ _⟩, DSl.mk HSl.out.1 HSl.out.2⟩, put4_below hbb H3 _ _ _ _⟩
  | true =>
    have hR := HR.out.symm
    have k1 := burn_any _ d w3 F.diskV hR
    cases hD : downP d with
    | true =>
      have hP : flushP d = ({ d with fuse := burnF d, down := true }, 9) := by simp [flushP, hR, hD]
      have hE : burnE d = 9 := by simp [burnE, hD]
      rw [hD, hE] at k1
      have HP := Lib.hid hP
      clear hP hR hD hE
      go_wp2_with fail
      refine k1.mono ?_
      rintro e w5 ⟨⟨sv, lv, rfl, C, hC, ho5, r5, hl5⟩, hb5⟩
      obtain ⟨C, hC, hC5, r5, hl5⟩ := normC hC ho5 r5 hl5 hb5.size
      obtain ⟨b1, m1, rfl⟩ := ho5.form
      obtain ⟨b2, m2, rfl⟩ := hl5.form
      have F := F.below hb5 (by omega) (by omega)
      have hbb := hbb.trans (hb5.mono hbb.size)
      clear k1 hb5 C0 C1 C2 C3 D0 D1 D2 D3 Y Z
      have C0 := cell_of_row w5 _ 0 _ _ _ F.g0
      have C1 := cell_of_row w5 _ 1 _ _ _ F.g0
      have C2 := cell_of_row w5 _ 2 _ _ _ F.g0
      have C3 := cell_of_row w5 _ 3 _ _ _ F.g0
      have D0 := cell_of_row w5 _ 0 _ _ _ F.g2
      have D1 := cell_of_row w5 _ 1 _ _ _ F.g2
      have D2 := cell_of_row w5 _ 2 _ _ _ F.g2
      have D3 := cell_of_row w5 _ 3 _ _ _ F.g2
      have Y := frozen_row F.g0
      have Z := frozen_row F.g2
      go_wp2_with fail
      have hg : w.heap.size < C := by omega
      have hg3 : w.heap.size < w3.heap.size := by omega
      have hg1 : w.heap.size + 1 < C := by omega
      have hg13 : w.heap.size + 1 < w3.heap.size := by omega
      refine bodyPost_ret (results_ct rfl _ _ (w.heap.size + 1) _ _ _ _ rfl (put4_heap (w := put4 w5 w.heap.size _ _ _ _) (put4_far F.g2 (by omega) _ _ _ _) _ _ _ _) Tryz.underlying38 rfl size_disk) rfl ?_
      rw [HP.out]
      exact ⟨⟨_, rfl, ⟨_, _, rfl, (put4_secs (put4_secs ho5 hg3 _ _ _ _) hg13 _ _ _ _).secs, (put4_loose (put4_loose hl5 hg _ _ _ _) hg1 _ _ _ _).loose⟩, DSl.mk (ho5.2.sl fun b hb => HFr.out b (by omega)) (hl5.2.sl fun b hb => HFr.out b (by omega))⟩, put4_below (put4_below hbb (Nat.le_refl _) _ _ _ _) H3 _ _ _ _⟩
    | false =>
      have hP : flushP d = (⟨settleN d.secs d.loose (fun _ => true) d.loose.length, [], burnF d, false⟩, 0) := by simp [flushP, hR, hD]
      have hE : burnE d = 0 := by simp [burnE, hD]
      rw [hD, hE] at k1
      have HP := Lib.hid hP
      have hR2 : rightB { d with fuse := burnF d, down := false } = true := by
        simp only [rightB, fusedB, Bool.and_eq_true, decide_eq_true_eq] at hR ⊢
        refine ⟨⟨⟨hR.1.1.1, hR.1.1.2⟩, ?_⟩, hR.2⟩
        simp only [burnF, hD]
        split <;> omega
      clear hP hR hD hE
      go_wp2_with fail
      refine k1.mono ?_
      rintro e w5 ⟨⟨sv, lv, rfl, C, hC, ho5, r5, hl5⟩, hb5⟩
      obtain ⟨C, hC, hC5, r5, hl5⟩ := normC hC ho5 r5 hl5 hb5.size
      obtain ⟨b1, m1, rfl⟩ := ho5.form
      obtain ⟨b2, m2, rfl⟩ := hl5.form
      have F := F.below hb5 (by omega) (by omega)
      have hbb := hbb.trans (hb5.mono hbb.size)
      have hg : w.heap.size < C := by omega
      have hg3 : w.heap.size < w3.heap.size := by omega
      have hg1 : w.heap.size + 1 < C := by omega
      have hg13 : w.heap.size + 1 < w3.heap.size := by omega
      clear k1 C0 C1 C2 C3 D0 D1 D2 D3 Y Z
      have C0 := cell_of_row w5 _ 0 _ _ _ F.g0
      have C1 := cell_of_row w5 _ 1 _ _ _ F.g0
      have C2 := cell_of_row w5 _ 2 _ _ _ F.g0
      have C3 := cell_of_row w5 _ 3 _ _ _ F.g0
      have Y := frozen_row F.g0
      obtain ⟨w6, hw6⟩ : ∃ w6, w6 = put4 w5 w.heap.size (.slice b1 d.secs.length m1) (.slice b2 d.loose.length m2) (.int .i64 (burnF d)) (.bool false) := ⟨_, rfl⟩
      have hb56 : Below w.heap.size w5 w6 := by rw [hw6]; exact put4_below (Below.refl _ _) (Nat.le_refl _) _ _ _ _
      have E2 : w6.heap[w.heap.size + 1]? = some (.cells #[.slice none 0 0, .slice none 0 0, .int .i64 0, .bool false] 38 (0, 0)) := by rw [hw6]; exact put4_far F.g2 (by omega) _ _ _ _
      have hsz6 : w6.heap.size = w5.heap.size := by rw [hw6]; simp [put4]
      have hd6 : DiskV w6.heap.size w6 (.agg #[.slice b1 d.secs.length m1, .slice b2 d.loose.length m2, .int .i64 (burnF d), .bool false]) { d with fuse := burnF d, down := false } := by
        rw [hw6]
        exact ⟨_, _, rfl, (put4_secs ho5 hg3 _ _ _ _).secs, (put4_loose hl5 hg _ _ _ _).loose⟩
      have k2 := settle_any _ { d with fuse := burnF d, down := false } (fun _ => true) 159 #[] w6 hd6 hR2 cf_flush (fun k w' _ _ => flush1_any k w')
      have E0 : w6.heap[w.heap.size]? = some (.cells #[.slice b1 d.secs.length m1, .slice b2 d.loose.length m2, .int .i64 (burnF d), .bool false] 38 (0, 0)) := by rw [hw6]; exact put4_heap F.g0 _ _ _ _
      have hbb := hbb.trans hb56
      clear hd6 hR2 F ho5 r5 hl5 hb56
      clear hb5
      unfold put4 at hw6
      go_wp2_with fail
      rw [← hw6]
      clear hw6
      refine k2.mono ?_
      rintro e w7 ⟨⟨sv, rfl, ho7⟩, hb7⟩
      obtain ⟨b3, m3, rfl⟩ := ho7.form
      have G2 := (hb7.block _ (by omega)).trans E2
      have hg7 : w.heap.size + 1 < w6.heap.size := by omega
      have hbb := hbb.trans (hb7.mono hbb.size)
      clear k2 C0 C1 C2 C3 Y hb7 E0 E2
      have D0 := cell_of_row w7 _ 0 _ _ _ G2
      have D1 := cell_of_row w7 _ 1 _ _ _ G2
      have D2 := cell_of_row w7 _ 2 _ _ _ G2
      have D3 := cell_of_row w7 _ 3 _ _ _ G2
      have Z := frozen_row G2
      go_wp2_with fail
      refine bodyPost_ret (results_ct rfl _ _ (w.heap.size + 1) _ _ _ _ rfl (put4_heap G2 _ _ _ _) Tryz.underlying38 rfl size_disk) rfl ?_
      rw [HP.out]
      exact ⟨⟨_, rfl, ⟨_, _, rfl, (put4_secs ho7 hg7 _ _ _ _).secs, Loose.nil _ _⟩, DSl.mk (ho7.2.sl fun b hb => HFr.out b (by omega)) (Sl.none _ _ _)⟩, put4_below hbb H3 _ _ _ _⟩
end Go.Proofs.YtaijompnohkmaaaGreatDoor
/- Operations on values of many cells, as arms for a walk inside a fence. -/
namespace Go.Proofs.YtaijompnohkmaaaGreatDoor
open Go.RowKit Go.Shelf
section
variable {F : Fence} {n : Nat} {P : Program} {ops : Array Oper} {rest : List Oper} {o : Oper} {a : Act} {w : World} {Q : Exit → Act → World → Prop}
theorem wpin_load_to (x : Operand) (t : TypeId) (hgd : o.guard = none) (ho : o.op = .load t x) {ad : Addr} {v : Value} {w' : World} (hw : w' = w) (hx : a.eval x = .pointer (some ad)) (hl : (loadVar t ad).run P w' = .ok v w')
    (h : wpListIn F n P ops Q rest (a.put o.dst v) w') : wpListIn F n P ops Q (o :: rest) a w := by
  subst hw
  refine wpListIn_plain hgd fun K hK => ?_
  unfold Oper.wpIn
  refine ⟨by simp [Oper.about, ho], ?_⟩
  rw [Oper.semAt_plain F _ _ (by rw [ho]; intro c hc'; cases hc')]
  unfold execOp
  simp only [ho, hx, Instr.loadAt, Instr.sureAddr, Sem.run_bind, Sem.run_pure, Result.andThen_ok, hl]
  exact hK _ _ h
theorem wpin_store_at (x y : Operand) (t : TypeId) (hgd : o.guard = none) (ho : o.op = .store t x y) {ad : Addr} {v : Value} {w' : World} (hx : a.eval x = .pointer (some ad)) (hy : a.eval y = v) (hl : (storeVar t ad v).run P w = .ok () w')
    (h : wpListIn F n P ops Q rest (a.put o.dst undef) w') : wpListIn F n P ops Q (o :: rest) a w := by
  refine wpListIn_plain hgd fun K hK => ?_
  unfold Oper.wpIn
  refine ⟨by simp [Oper.about, ho], ?_⟩
  rw [Oper.semAt_plain F _ _ (by rw [ho]; intro c hc'; cases hc')]
  unfold execOp
  simp only [ho, hx, hy, Instr.storeAt, Instr.sureAddr, Sem.run_bind, Sem.run_pure, Result.andThen_ok, hl]
  exact hK _ _ h
theorem wpin_alloc_to (t : TypeId) (hgd : o.guard = none) (ho : o.op = .alloc t) {z : Value} {w' : World} (hz : (zeroValue t).run P w = .ok z w) (hw : w' = w.alloc (.cells z.cells t))
    (h : wpListIn F n P ops Q rest (a.put o.dst (.pointer (some ⟨w.heap.size, 0, none⟩))) w') : wpListIn F n P ops Q (o :: rest) a w := by
  subst hw
  refine wpListIn_plain hgd fun K hK => ?_
  unfold Oper.wpIn
  refine ⟨by simp [Oper.about, ho], ?_⟩
  rw [Oper.semAt_plain F _ _ (by rw [ho]; intro c hc'; cases hc')]
  unfold execOp
  have hr : (Instr.alloc t true (.tuple #[])).run P w = .ok (.pointer (some ⟨w.heap.size, 0, none⟩)) (w.alloc (.cells z.cells t)) := by
    simp only [Instr.alloc, Sem.run_bind, hz, Result.andThen_ok]
    rfl
  simp only [ho, Sem.run_bind, Sem.run_pure, Result.andThen_ok, hr]
  exact hK _ _ h
end
end Go.Proofs.YtaijompnohkmaaaGreatDoor
/- Layer 1 (sector): slices.Backward over loose writes: what the iterator yields, in order. -/
namespace Go.Proofs.YtaijompnohkmaaaGreatDoor
open Go.RowKit Go.Shelf
attribute [local go_sem] Oper.semAt_some
abbrev W64 := { x : WriteP // x.data.length = 64 }
def upto {α : Type} (f : Nat → α) (k : Nat) : List α := (List.range k).map f
theorem upto_succ {α : Type} (f : Nat → α) (k : Nat) : upto f (k + 1) = upto f k ++ [f k] := by simp [upto, List.range_succ]
theorem upto_length {α : Type} (f : Nat → α) (k : Nat) : (upto f k).length = k := by simp [upto]
def sub64 (ls : List WriteP) (k : Nat) : W64 := if h : (ls[k]?.getD ⟨0, zeroS⟩).data.length = 64 then ⟨_, h⟩ else ⟨⟨0, zeroS⟩, rfl⟩
theorem sub64_at {ls : List WriteP} (h : ∀ x ∈ ls, x.data.length = 64) {k : Nat} (hk : k < ls.length) : (sub64 ls k).1 = ls[k] := by
  have e : ls[k]?.getD ⟨0, zeroS⟩ = ls[k] := by simp [hk]
  have h1 : (ls[k]?.getD ⟨0, zeroS⟩).data.length = 64 := by rw [e]; exact h _ (List.getElem_mem hk)
  unfold sub64
  rw [dif_pos h1]
  exact e
/-- What comes behind k writes. -/
def backAt (ls : List WriteP) (k : Nat) : Int × W64 := ((ls.length : Int) - 1 - k, sub64 ls (ls.length - 1 - k))
def encW (x : Int × W64) : Array Value := #[.int .i64 x.1, .agg (wcells x.2.1).toArray]
theorem backward_any (a : Option Addr) (n c : Nat) (w : World) :
    Calls Tryz.prog 153 #[.slice a n c] w fun e w' => e = .returned (.func (.func 173) #[] #[.pointer (some ⟨w.heap.size, 0, none⟩)]) ∧ w' = w.alloc (.cells #[.slice a n c] 36) := by
  go_enter Tryz.func153, Tryz.ntmps153
  go_wp2_with fail
  go_ret
  exact ⟨rfl, rfl⟩
set_option maxRecDepth 100000 in
set_option maxHeartbeats 2000000 in
theorem backward1_in (n : Nat) (hn : 1 ≤ n) (l Bs n₀ : Nat) (v : Value) (ls : List WriteP) (hlen : ls.length ≤ 2 ^ 40) (hBs0 : Bs < n₀) (J Jx : List (Int × W64) → World → Prop)
    (hY : ∀ pre x W, J pre W → pre.length < ls.length → YieldAt Fence.wide (n - 1) Tryz.prog l (encW x) W fun e W' =>
      (e = .returned (.bool true) ∧ J (pre ++ [x]) W' ∧ Below n₀ W W') ∨ (e = .returned (.bool false) ∧ Jx (pre ++ [x]) W'))
    (W : World) (hBs : W.cell? ⟨Bs, 0, none⟩ = some v) (hl : Loose n₀ W v ls) (h0 : J [] W) :
    CallsIn Fence.wide n Tryz.prog 173 #[.func (.yield l) #[] #[], .pointer (some ⟨Bs, 0, none⟩)] W fun e W' => (∃ v, e = .returned v) ∧
      ((∃ ys, ys = upto (backAt ls) ls.length ∧ J ys W') ∨ (∃ pre, (∃ k, k ≤ ls.length ∧ pre = upto (backAt ls) k) ∧ Jx pre W')) := by
  have hl0 := hl
  obtain ⟨hls, _, a, cap, rfl, hnc, hcap, hcells⟩ := hl
  unfold maxLen at hcap
  have HY := Lib.hid hY
  clear hY
  refine callsIn_of_wp Tryz.func173 rfl trivial ?_ rfl
  simp only [Tryz.ntmps173, List.size_toArray, List.length_cons, List.length_nil, Nat.reduceAdd, Nat.reduceSub, Array.replicate_succ, Array.replicate_zero, List.push_toArray, List.append_toArray, List.nil_append, List.cons_append]
  obtain ⟨i0, z0, hi, hz0, hz1, hz2, hz3⟩ := zero_parts infoz_write
  gi_wp2
  gi_loopw [3] (fun i wr => ∃ k m : Nat, k + m = ls.length ∧ i = .int .i64 ((m : Int) - 1) ∧ J (upto (backAt ls) k) wr ∧ Below n₀ W wr) (fun i _ => (intOf i + 1).toNat)
  case atStart => exact ⟨0, ls.length, by omega, rfl, h0, Below.refl _ _⟩
  case round =>
    obtain ⟨k, m, hkm, rfl, hJ, hb⟩ := hrel
    have hbs := (hb.cell (p := ⟨Bs, 0, none⟩) hBs0).trans hBs
    cases m with
    | zero =>
      gi_wp2
      obtain rfl : k = ls.length := by omega
      go_end0
      exact ⟨⟨_, rfl⟩, .inl ⟨_, rfl, hJ⟩⟩
    | succ m =>
      have hm : (((m + 1 : Nat) : Int) - 1) = (m : Int) := by omega
      rw [hm]
      have hlt : m < ls.length := by omega
      obtain ⟨b, off, rfl, hBb, hc⟩ := hcells (by omega)
      have hat := flat_at wcells 65 ls (fun x hx => by rw [length_wcells, hls x hx]) m ls[m] (List.getElem?_eq_getElem hlt)
      have hld := run_load_big (P := Tryz.prog) (t := 96) Tryz.underlying96 (.inr ⟨_, rfl⟩) hi (w := wr) (b := b) (off := off + m * 65) (cs := wcells ls[m]) hz1 (by rw [length_wcells, hls _ (List.getElem_mem hlt)])
        (fun j u hj => by rw [Nat.add_assoc]; exact (hb.cell (p := ⟨b, off + (m * 65 + j), none⟩) hBb).trans (hc _ _ (hat j u hj)))
      have hba : backAt ls k = ((m : Int), sub64 ls m) := by
        unfold backAt
        have e1 : ls.length - 1 - k = m := by omega
        have e2 : (ls.length : Int) - 1 - k = m := by omega
        rw [e1, e2]
      obtain ⟨fn, tmps, assign, body, hy, hR⟩ := HY.out _ (backAt ls k) wr hJ (by rw [upto_length]; omega)
      unfold encW at hy
      rw [hba] at hy
      simp only [sub64_at hls hlt] at hy
      obtain ⟨X, hX⟩ : ∃ X, X = (wcells ls[m]).toArray := ⟨_, rfl⟩
      rw [← hX] at hld hy
      have HX := Lib.hid hX
      clear hX hat hc hcells hba
      gi_wp2_with (refine wpin_load_to (w' := wr) (.tmp 15) 96 rfl rfl ?_ rfl hld ?_; (exact rfl))
      refine hR.mono ?_
      rintro e W3 (⟨rfl, hJ3, hb3⟩ | ⟨rfl, hJx3⟩)
      · gi_wp2
        go_roundw
        case rel => exact ⟨k + 1, m, by omega, rfl, by rw [upto_succ]; exact hJ3, hb.trans hb3⟩
        case measure => simp [intOf]
      · gi_wp2
        refine bodyPost_ret (results_none rfl _ _ _) rfl ?_
        exact ⟨⟨_, rfl⟩, .inr ⟨_, ⟨k + 1, by omega, (upto_succ _ _).symm⟩, hJx3⟩⟩
/-- slices.Backward(ls) hands back a value that gives the writes from the last to the first. -/
theorem backward_stops (n : Nat) (hn : 1 ≤ n) (Bs n₀ : Nat) (v : Value) (ls : List WriteP) (hlen : ls.length ≤ 2 ^ 40) (hBs0 : Bs < n₀) (w : World) (hn₀ : n₀ ≤ w.heap.size) (hBs : w.cell? ⟨Bs, 0, none⟩ = some v) (hl : Loose n₀ w v ls) :
    SeqStopsK Fence.wide n Tryz.prog 173 #[.pointer (some ⟨Bs, 0, none⟩)] encW (Below n₀) (fun ys => ys = upto (backAt ls) ls.length) (fun pre => ∃ k, k ≤ ls.length ∧ pre = upto (backAt ls) k) ls.length w := fun l J Jx W hW _ _ hY h0 =>
  backward1_in n hn l Bs n₀ v ls hlen hBs0 J Jx hY W ((hW.cell (p := ⟨Bs, 0, none⟩) (Nat.lt_of_lt_of_le hBs0 hn₀)).trans hBs) (hl.below (hW.mono hn₀)) h0
end Go.Proofs.YtaijompnohkmaaaGreatDoor
