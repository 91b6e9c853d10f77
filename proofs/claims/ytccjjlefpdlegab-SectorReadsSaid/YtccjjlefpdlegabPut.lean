/- Layer 1 (sector): Put. -/
import Derived.Test.YtccjjlefpdlegabBuild
namespace Go.Proofs.Ytccjjlefpdlegab
open Go.RowKit
theorem size_sector : (Try.prog.info? 33).map (·.size) = some 64 := by kernel_rfl
def Halt (p : Prop) : Prop := p
theorem Halt.out {p : Prop} (h : p) : Halt p := h
theorem Halt.in {p : Prop} (h : Halt p) : p := h
/-- Put, told plainly. -/
def putP (d : DiskP) (at_ : Int) (data : List UInt8) : DiskP × Int :=
  if rightB d && thereB d at_ then (if downP d then ({ d with fuse := burnF d, down := true }, 9) else ({ d with loose := d.loose ++ [⟨at_, data⟩], fuse := burnF d, down := false }, 0)) else (d, 1)
/-- What the function's own blocks hold. -/
structure Fr (B G : Nat) (w : World) (sv lv : Value) (d : DiskP) (A : Array Value) : Prop where
  g0 : w.heap[G]? = some (.cells #[sv, lv, .int .i64 d.fuse, .bool d.down] 27 (0, 0))
  g1 : w.heap[G + 1]? = some (.cells A 33 (0, 0))
  g2 : w.heap[G + 1 + 1]? = some (.cells #[.slice none 0 0, .slice none 0 0, .int .i64 0, .bool false] 27 (0, 0))
  s : Secs B w sv d.secs
  l : Loose B w lv d.loose
theorem Fr.below {B G B' : Nat} {w w' : World} {sv lv : Value} {d : DiskP} {A : Array Value} (h : Fr B G w sv lv d A) (hb : Below B' w w') (hB : G + 1 + 1 < B') (hB2 : B ≤ B') : Fr B G w' sv lv d A :=
  ⟨(hb.block _ (by omega)).trans h.g0, (hb.block _ (by omega)).trans h.g1, (hb.block _ hB).trans h.g2, h.s.below (hb.mono hB2), h.l.below (hb.mono hB2)⟩
theorem Fr.diskV {B G : Nat} {w : World} {sv lv : Value} {d : DiskP} {A : Array Value} (h : Fr B G w sv lv d A) : DiskV B w (.agg #[sv, lv, .int .i64 d.fuse, .bool d.down]) d := ⟨sv, lv, rfl, h.s, h.l⟩
theorem DiskV.parts {B : Nat} {w : World} {v : Value} {d : DiskP} (h : DiskV B w v d) : ∃ a1 k1 a2 k2, v = .agg #[.slice a1 d.secs.length k1, .slice a2 d.loose.length k2, .int .i64 d.fuse, .bool d.down] ∧ Secs B w (.slice a1 d.secs.length k1) d.secs ∧ Loose B w (.slice a2 d.loose.length k2) d.loose := by
  obtain ⟨sv, lv, rfl, hs, hl⟩ := h
  have hs' := hs
  have hl' := hl
  obtain ⟨_, _, a, cap, rfl, _⟩ := hs'
  obtain ⟨_, _, a2, cap2, rfl, _⟩ := hl'
  exact ⟨_, _, _, _, rfl, hs, hl⟩
theorem put4_secsV {B h : Nat} {w : World} {v : Value} {ss : List (List UInt8)} (hs : Secs B w v ss) (hB : B ≤ h) (a b c d : Value) : Secs B (put4 w h a b c d) v ss := hs.below (put4_below (Below.refl _ _) hB a b c d)
theorem put4_looseV {B h : Nat} {w : World} {v : Value} {ss : List WriteP} (hs : Loose B w v ss) (hB : B ≤ h) (a b c d : Value) : Loose B (put4 w h a b c d) v ss := hs.below (put4_below (Below.refl _ _) hB a b c d)
theorem LooseO.snoc {B : Nat} {w : World} {v : Value} {ls : List WriteP} {x : WriteP} (h : ∀ x ∈ ls, x.data.length = 64) (hx : x.data.length = 64) (ho : Own B w 46 v 65 (ls.length + 1) ((ls.map wcells).flatten ++ wcells x)) : LooseO B w v (ls ++ [x]) := by
  refine ⟨fun y hy => ?_, ?_⟩
  · rcases List.mem_append.1 hy with hy | hy
    · exact h y hy
    · rw [List.mem_singleton.1 hy]; exact hx
  · simpa using ho
theorem normC {G C : Nat} {w : World} {sv lv : Value} {ss : List (List UInt8)} {ls : List WriteP} (hC : G ≤ C) (ho : SecsO G w sv ss) (r : Row C w sv 64 ss.length (ss.map u8s).flatten) (hl : LooseO C w lv ls) (hs : G ≤ w.heap.size) :
    ∃ C, G ≤ C ∧ C ≤ w.heap.size ∧ Row C w sv 64 ss.length (ss.map u8s).flatten ∧ LooseO C w lv ls := by
  rcases Nat.le_total C w.heap.size with h | h
  · exact ⟨C, hC, h, r, hl⟩
  · exact ⟨w.heap.size, hs, Nat.le_refl _, ho.secs.2, hl.lower h⟩
/-- A row whose block lies in between. -/
def RowIn (B C : Nat) (w : World) (v : Value) (sz n : Nat) (cs : List Value) : Prop :=
  cs.length = n * sz ∧ ∃ a cap, v = .slice a n cap ∧ n ≤ cap ∧ cap ≤ maxLen ∧ (0 < n → ∃ b off, a = some ⟨b, off, none⟩ ∧ B ≤ b ∧ b < C ∧ ∀ k u, cs[k]? = some u → w.cell? ⟨b, off + k, none⟩ = some u)
theorem RowIn.of {B C : Nat} {w : World} {e : TypeId} {v : Value} {sz n : Nat} {cs : List Value} (ho : Own B w e v sz n cs) (r : Row C w v sz n cs) : RowIn B C w v sz n cs := by
  obtain ⟨_, a, cap, rfl, hn, _, ho⟩ := ho
  obtain ⟨hl, a', cap', hv, h1, h2, h3⟩ := r
  obtain ⟨rfl, rfl⟩ : a = a' ∧ cap = cap' := by cases hv; exact ⟨rfl, rfl⟩
  refine ⟨hl, a, cap, rfl, h1, h2, fun hp => ?_⟩
  obtain ⟨b, off, rfl, hb, hc⟩ := h3 hp
  rcases ho with ho | ⟨g, cur, hg, hB, _⟩
  · omega
  · cases hg
    exact ⟨b, 0, rfl, hB, hb, hc⟩
theorem RowIn.below {B C : Nat} {w w' : World} {v : Value} {sz n : Nat} {cs : List Value} (h : RowIn B C w v sz n cs) (hb : Below C w w') : RowIn B C w' v sz n cs := by
  obtain ⟨hl, a, cap, rfl, h1, h2, h3⟩ := h
  refine ⟨hl, a, cap, rfl, h1, h2, fun hp => ?_⟩
  obtain ⟨b, off, rfl, hB, hC, hc⟩ := h3 hp
  exact ⟨b, off, rfl, hB, hC, fun k u hk => (hb.cell (p := ⟨b, off + k, none⟩) hC).trans (hc k u hk)⟩
theorem RowIn.setOther {B C : Nat} {w : World} {v : Value} {sz n : Nat} {cs : List Value} (h : RowIn B C w v sz n cs) (p : Addr) (u : Value) (hp : p.block < B) : RowIn B C (w.setCell p u) v sz n cs := by
  obtain ⟨hl, a, cap, rfl, h1, h2, h3⟩ := h
  refine ⟨hl, a, cap, rfl, h1, h2, fun hn => ?_⟩
  obtain ⟨b, off, rfl, hB, hC, hc⟩ := h3 hn
  refine ⟨b, off, rfl, hB, hC, fun k u' hk => ?_⟩
  rw [← hc k u' hk]
  unfold World.cell?
  have : (w.setCell p u).heap[b]? = w.heap[b]? := by
    simp only [World.setCell, Array.getElem?_modify]
    rw [if_neg (by omega)]
  simp only [this]
theorem RowIn.row {B C : Nat} {w : World} {v : Value} {sz n : Nat} {cs : List Value} (h : RowIn B C w v sz n cs) : Row C w v sz n cs := by
  obtain ⟨hl, a, cap, rfl, h1, h2, h3⟩ := h
  refine ⟨hl, a, cap, rfl, h1, h2, fun hn => ?_⟩
  obtain ⟨b, off, rfl, _, hC, hc⟩ := h3 hn
  exact ⟨b, off, rfl, hC, hc⟩
theorem DiskV.mk {B B' : Nat} {w : World} {sv lv : Value} {d : DiskP} (hs : Secs B w sv d.secs) (hl : Loose B' w lv d.loose) : DiskV w.heap.size w (.agg #[sv, lv, .int .i64 d.fuse, .bool d.down]) d := ⟨sv, lv, rfl, hs.tight, hl.tight⟩
theorem put4_far {w : World} {g h : Nat} {o : Obj} (hh : w.heap[h]? = some o) (hne : g ≠ h) (a b c d : Value) : (put4 w g a b c d).heap[h]? = some o := by
  unfold put4
  rw [setFar hne, setFar hne, setFar hne, setFar hne]
  exact hh
/-- Where a slice's elements may lie. -/
def Sl (S : Nat → Prop) (v : Value) : Prop := ∀ a n c, v = .slice (some a) n c → 0 < n → S a.block
def DSl (S : Nat → Prop) (v : Value) : Prop := ∀ sv lv f dn, v = .agg #[sv, lv, f, dn] → Sl S sv ∧ Sl S lv
theorem DSl.mk {S : Nat → Prop} {sv lv f dn : Value} (h1 : Sl S sv) (h2 : Sl S lv) : DSl S (.agg #[sv, lv, f, dn]) := by
  intro sv' lv' f' dn' h
  simp only [Value.agg.injEq, Array.mk.injEq, List.cons.injEq] at h
  obtain ⟨rfl, rfl, _⟩ := h
  exact ⟨h1, h2⟩
theorem Sl.none (S : Nat → Prop) (n c : Nat) : Sl S (.slice none n c) := fun _ _ _ h => by simp at h
theorem Own.sl {B : Nat} {w : World} {e : TypeId} {v : Value} {sz n : Nat} {cs : List Value} (h : Own B w e v sz n cs) {S : Nat → Prop} (hS : ∀ b, B ≤ b → S b) : Sl S v := by
  obtain ⟨_, a, cap, rfl, hn, _, h4⟩ := h
  intro a' n' c' h hp
  cases h
  rcases h4 with h4 | ⟨g, cur, hg, hB, _⟩
  · omega
  · cases hg
    exact hS _ hB
theorem Row.sl {B : Nat} {w : World} {v : Value} {sz n : Nat} {cs : List Value} (h : Row B w v sz n cs) {S : Nat → Prop} (hS : ∀ b, b < B → S b) : Sl S v := by
  obtain ⟨_, a, cap, rfl, _, _, h4⟩ := h
  intro a' n' c' h hp
  cases h
  obtain ⟨b, off, hb, hB, _⟩ := h4 hp
  cases hb
  exact hS _ hB
theorem DiskV.sl {B : Nat} {w : World} {v : Value} {d : DiskP} (h : DiskV B w v d) {S : Nat → Prop} (hS : ∀ b, b < B → S b) : DSl S v := by
  obtain ⟨sv, lv, rfl, hs, hl⟩ := h
  exact DSl.mk (hs.2.sl hS) (hl.2.sl hS)
theorem Row.setFar {B : Nat} {w : World} {v : Value} {sz n : Nat} {cs : List Value} (h : Row B w v sz n cs) {p : Addr} (hs : Sl (· ≠ p.block) v) (u : Value) : Row B (w.setCell p u) v sz n cs := by
  obtain ⟨hl, a, cap, rfl, h1, h2, h3⟩ := h
  refine ⟨hl, a, cap, rfl, h1, h2, fun hp => ?_⟩
  obtain ⟨b, off, rfl, hb, hc⟩ := h3 hp
  have := hs _ _ _ rfl hp
  refine ⟨b, off, rfl, hb, fun k u' hk => ?_⟩
  exact (World.cell?_setCell_other w p ⟨b, off + k, none⟩ u (fun e => this (by rw [e]))).trans (hc k u' hk)
/-- A disk that lies elsewhere outlives a write. -/
theorem DiskV.setFar {B : Nat} {w : World} {v : Value} {d : DiskP} (h : DiskV B w v d) {p : Addr} (hs : DSl (· ≠ p.block) v) (u : Value) : DiskV B (w.setCell p u) v d := by
  obtain ⟨sv, lv, rfl, h1, h2⟩ := h
  obtain ⟨q1, q2⟩ := hs _ _ _ _ rfl
  exact ⟨sv, lv, rfl, ⟨h1.1, h1.2.setFar q1 u⟩, ⟨h2.1, h2.2.setFar q2 u⟩⟩
set_option maxRecDepth 100000 in
set_option maxHeartbeats 1000000 in
theorem put_any {B : Nat} (v : Value) (d : DiskP) (at_ : Int) (data : List UInt8) (w : World) (h : DiskV B w v d) (h64 : data.length = 64) (S : Nat → Prop) (hS : DSl S v) (hF : ∀ b, w.heap.size ≤ b → S b) :
    Calls Try.prog 8 #[v, .int .i64 at_, .agg (u8s data).toArray] w fun e w' => (∃ v', e = .returned (.tuple #[v', .int .i64 (putP d at_ data).2]) ∧ DiskV w'.heap.size w' v' (putP d at_ data).1 ∧ DSl S v') ∧ Below w.heap.size w w' := by
  obtain ⟨a1, n1, a2, n2, rfl, hs, hl⟩ := h.tight.parts
  have HSl := Lib.hid (hS _ _ _ _ rfl)
  have HFr := Lib.hid hF
  clear hS hF
  have hAs : (u8s data).toArray.size = 64 := by simp [length_u8s, h64]
  obtain ⟨A, hA⟩ : ∃ A, A = (u8s data).toArray := ⟨_, rfl⟩
  rw [← hA] at hAs ⊢
  have HA := Lib.hid hA
  clear hA
  clear h
  obtain ⟨w2, hw2⟩ : ∃ w2, w2 = ((w.alloc (.cells #[.slice a1 d.secs.length n1, .slice a2 d.loose.length n2, .int .i64 d.fuse, .bool d.down] 27)).alloc (.cells A 33)).alloc (.cells #[.slice none 0 0, .slice none 0 0, .int .i64 0, .bool false] 27) := ⟨_, rfl⟩
  have hb2 : Below w.heap.size w w2 := by rw [hw2]; exact Below.alloc (Below.alloc (Below.alloc (Below.refl _ _) (Nat.le_refl _) _) (by simp) _) (by simp; omega) _
  have hsz2 : w2.heap.size = w.heap.size + 3 := by rw [hw2]; simp
  have F : Fr w.heap.size w.heap.size w2 (.slice a1 d.secs.length n1) (.slice a2 d.loose.length n2) d A := by
    refine ⟨?_, ?_, ?_, hs.below hb2, hl.below hb2⟩
    · rw [hw2, heap_alloc_old _ _ (by simp; omega)]; exact heap_alloc2_old w _ _
    · rw [hw2, heap_alloc_old _ _ (by simp)]; exact heap_alloc2_new w _ _
    · rw [hw2]
      have h := heap_alloc_new ((w.alloc (.cells #[.slice a1 d.secs.length n1, .slice a2 d.loose.length n2, .int .i64 d.fuse, .bool d.down] 27)).alloc (.cells A 33)) (.cells #[.slice none 0 0, .slice none 0 0, .int .i64 0, .bool false] 27)
      simpa using h
  clear hs hl
  have k1 := right_any _ d w2 F.diskV
  have C0 := cell_of_row w2 _ 0 _ _ _ F.g0
  have C1 := cell_of_row w2 _ 1 _ _ _ F.g0
  have C2 := cell_of_row w2 _ 2 _ _ _ F.g0
  have C3 := cell_of_row w2 _ 3 _ _ _ F.g0
  have D0 := cell_of_row w2 _ 0 _ _ _ F.g2
  have D1 := cell_of_row w2 _ 1 _ _ _ F.g2
  have D2 := cell_of_row w2 _ 2 _ _ _ F.g2
  have D3 := cell_of_row w2 _ 3 _ _ _ F.g2
  have Y := frozen_row F.g0
  have Z := frozen_row F.g2
  have hle : w.heap.size + 3 ≤ w2.heap.size := by omega
  clear hsz2
  have H3 : w.heap.size ≤ w.heap.size + 1 + 1 := by omega
  cases hR : rightB d with
  | false =>
    have hP : putP d at_ data = (d, 1) := by simp [putP, hR]
    rw [hR] at k1
    rw [hP]
    clear hP
    go_enter Try.func8, Try.ntmps8
    go_wp2_with fail
    rw [← hw2]
    clear hw2
    go_wp2_with fail
    refine k1.mono ?_
    rintro e w3 ⟨rfl, hb3⟩
    have F := F.below hb3 (by omega) (by omega)
    have hbb := hb2.trans (hb3.mono hb2.size)
    clear k1 C0 C1 C2 C3 D0 D1 D2 D3 Y Z
    have C0 := cell_of_row w3 _ 0 _ _ _ F.g0
    have C1 := cell_of_row w3 _ 1 _ _ _ F.g0
    have C2 := cell_of_row w3 _ 2 _ _ _ F.g0
    have C3 := cell_of_row w3 _ 3 _ _ _ F.g0
    have D0 := cell_of_row w3 _ 0 _ _ _ F.g2
    have D1 := cell_of_row w3 _ 1 _ _ _ F.g2
    have D2 := cell_of_row w3 _ 2 _ _ _ F.g2
    have D3 := cell_of_row w3 _ 3 _ _ _ F.g2
    have Y := frozen_row F.g0
    have Z := frozen_row F.g2
    go_wp2_with fail
    refine bodyPost_ret (results_ct rfl _ _ (w.heap.size + 1 + 1) _ _ _ _ rfl (put4_heap F.g2 _ _ _ _) Try.underlying27 rfl size_disk) rfl ?_
    exact ⟨⟨_, rfl, DiskV.tight ⟨_, _, rfl, put4_secsV F.s H3 _ _ _ _, put4_looseV F.l H3 _ _ _ _⟩, DSl.mk HSl.out.1 HSl.out.2⟩, put4_below hbb H3 _ _ _ _⟩
  | true =>
    rw [hR] at k1
    go_enter Try.func8, Try.ntmps8
    go_wp2_with fail
    rw [← hw2]
    clear hw2
    go_wp2_with fail
    refine k1.mono ?_
    rintro e w3 ⟨rfl, hb3⟩
    have F := F.below hb3 (by omega) (by omega)
    have hbb := hb2.trans (hb3.mono hb2.size)
    have hle := Nat.le_trans hle hb3.size
    clear hb3 hb2
    clear k1 C0 C1 C2 C3 D0 D1 D2 D3 Y Z
    have C0 := cell_of_row w3 _ 0 _ _ _ F.g0
    have C1 := cell_of_row w3 _ 1 _ _ _ F.g0
    have C2 := cell_of_row w3 _ 2 _ _ _ F.g0
    have C3 := cell_of_row w3 _ 3 _ _ _ F.g0
    have D0 := cell_of_row w3 _ 0 _ _ _ F.g2
    have D1 := cell_of_row w3 _ 1 _ _ _ F.g2
    have D2 := cell_of_row w3 _ 2 _ _ _ F.g2
    have D3 := cell_of_row w3 _ 3 _ _ _ F.g2
    have Y := frozen_row F.g0
    have Z := frozen_row F.g2
    have k1 := there_any _ d at_ w3 F.diskV
    cases hT : thereB d at_ with
    | false =>
      have hP : putP d at_ data = (d, 1) := by simp [putP, hR, hT]
      rw [hT] at k1
      have HP := Lib.hid hP
      clear hP hR hT
      go_wp2_with fail
      refine k1.mono ?_
      rintro e w4 ⟨rfl, hb4⟩
      have F := F.below hb4 (by omega) (by omega)
      have hbb := hbb.trans (hb4.mono hbb.size)
      clear k1 hb4 C0 C1 C2 C3 D0 D1 D2 D3 Y Z
      have C0 := cell_of_row w4 _ 0 _ _ _ F.g0
      have C1 := cell_of_row w4 _ 1 _ _ _ F.g0
      have C2 := cell_of_row w4 _ 2 _ _ _ F.g0
      have C3 := cell_of_row w4 _ 3 _ _ _ F.g0
      have D0 := cell_of_row w4 _ 0 _ _ _ F.g2
      have D1 := cell_of_row w4 _ 1 _ _ _ F.g2
      have D2 := cell_of_row w4 _ 2 _ _ _ F.g2
      have D3 := cell_of_row w4 _ 3 _ _ _ F.g2
      have Y := frozen_row F.g0
      have Z := frozen_row F.g2
      go_wp2_with fail
      refine bodyPost_ret (results_ct rfl _ _ (w.heap.size + 1 + 1) _ _ _ _ rfl (put4_heap F.g2 _ _ _ _) Try.underlying27 rfl size_disk) rfl ?_
      rw [HP.out]
      exact ⟨⟨_, rfl, DiskV.tight ⟨_, _, rfl, put4_secsV F.s H3 _ _ _ _, put4_looseV F.l H3 _ _ _ _⟩, DSl.mk HSl.out.1 HSl.out.2⟩, put4_below hbb H3 _ _ _ _⟩
    | true =>
      rw [hT] at k1
      go_wp2_with fail
      refine k1.mono ?_
      rintro e w4 ⟨rfl, hb4⟩
      have F := F.below hb4 (by omega) (by omega)
      have hbb := hbb.trans (hb4.mono hbb.size)
      have hle := Nat.le_trans hle hb4.size
      clear k1 hb4 C0 C1 C2 C3 D0 D1 D2 D3 Y Z
      have C0 := cell_of_row w4 _ 0 _ _ _ F.g0
      have C1 := cell_of_row w4 _ 1 _ _ _ F.g0
      have C2 := cell_of_row w4 _ 2 _ _ _ F.g0
      have C3 := cell_of_row w4 _ 3 _ _ _ F.g0
      have D0 := cell_of_row w4 _ 0 _ _ _ F.g2
      have D1 := cell_of_row w4 _ 1 _ _ _ F.g2
      have D2 := cell_of_row w4 _ 2 _ _ _ F.g2
      have D3 := cell_of_row w4 _ 3 _ _ _ F.g2
      have Y := frozen_row F.g0
      have Z := frozen_row F.g2
      have k1 := burn_any _ d w4 F.diskV hR
      cases hD : downP d with
      | true =>
        have hP : putP d at_ data = ({ d with fuse := burnF d, down := true }, 9) := by simp [putP, hR, hT, hD]
        have hE : burnE d = 9 := by simp [burnE, hD]
        rw [hD, hE] at k1
        have HP := Lib.hid hP
        clear hP hR hT hD hE
        go_wp2_with fail
        refine k1.mono ?_
        rintro e w5 ⟨⟨sv, lv, rfl, C, hC, ho5, r5, hl5⟩, hb5⟩
        obtain ⟨C, hC, hC5, r5, hl5⟩ := normC hC ho5 r5 hl5 hb5.size
        obtain ⟨b1, m1, rfl⟩ := ho5.form
        obtain ⟨b2, m2, rfl⟩ := hl5.form
        have F := F.below hb5 (by omega) (by omega)
        have hbb := hbb.trans (hb5.mono hbb.size)
        clear k1 hb5 C0 C1 C2 C3 D0 D1 D2 D3 Y Z
        have C0 := cell_of_row w5 _ 0 _ _ _ F.g0
        have C1 := cell_of_row w5 _ 1 _ _ _ F.g0
        have C2 := cell_of_row w5 _ 2 _ _ _ F.g0
        have C3 := cell_of_row w5 _ 3 _ _ _ F.g0
        have D0 := cell_of_row w5 _ 0 _ _ _ F.g2
        have D1 := cell_of_row w5 _ 1 _ _ _ F.g2
        have D2 := cell_of_row w5 _ 2 _ _ _ F.g2
        have D3 := cell_of_row w5 _ 3 _ _ _ F.g2
        have Y := frozen_row F.g0
        have Z := frozen_row F.g2
        go_wp2_with fail
        have hg : w.heap.size < C := by omega
        have hg4 : w.heap.size < w4.heap.size := by omega
        have hg2 : w.heap.size + 1 + 1 < C := by omega
        have hg24 : w.heap.size + 1 + 1 < w4.heap.size := by omega
        refine bodyPost_ret (results_ct rfl _ _ (w.heap.size + 1 + 1) _ _ _ _ rfl (put4_heap (w := put4 w5 w.heap.size _ _ _ _) (put4_far F.g2 (by omega) _ _ _ _) _ _ _ _) Try.underlying27 rfl size_disk) rfl ?_
        rw [HP.out]
        exact ⟨⟨_, rfl, ⟨_, _, rfl, (put4_secs (put4_secs ho5 hg4 _ _ _ _) hg24 _ _ _ _).secs, (put4_loose (put4_loose hl5 hg _ _ _ _) hg2 _ _ _ _).loose⟩, DSl.mk (ho5.2.sl fun b hb => HFr.out b (by omega)) (hl5.2.sl fun b hb => HFr.out b (by omega))⟩, put4_below (put4_below hbb (Nat.le_refl _) _ _ _ _) H3 _ _ _ _⟩
      | false =>
        have hP : putP d at_ data = ({ d with loose := d.loose ++ [⟨at_, data⟩], fuse := burnF d, down := false }, 0) := by simp [putP, hR, hT, hD]
        have hE : burnE d = 0 := by simp [burnE, hD]
        rw [hD, hE] at k1
        have HP := Lib.hid hP
        have hlen : d.loose.length ≤ 100000 := by simp only [rightB, Bool.and_eq_true, decide_eq_true_eq] at hR; omega
        have R1 := Lib.hid (show d.loose.length + 1 ≤ maxLen by unfold maxLen; omega)
        have R2 := Lib.hid (show (d.loose.length + 1) * 72 ≤ 140737488355328 by omega)
        clear hP hR hT hD hE hlen
        go_wp2_with fail
        refine k1.mono ?_
        rintro e w5 ⟨⟨sv, lv, rfl, C, hC, ho5, r5, hl5⟩, hb5⟩
        obtain ⟨C, hC, hC5, r5, hl5⟩ := normC hC ho5 r5 hl5 hb5.size
        obtain ⟨b1, m1, rfl⟩ := ho5.form
        obtain ⟨b2, m2, rfl⟩ := hl5.form
        have F := F.below hb5 (by omega) (by omega)
        have hbb := hbb.trans (hb5.mono hbb.size)
        have hle5 := hb5.size
        clear k1 hb5 C0 C1 C2 C3 D0 D1 D2 D3 Y Z
        have C0 := cell_of_row w5 _ 0 _ _ _ F.g0
        have C1 := cell_of_row w5 _ 1 _ _ _ F.g0
        have C2 := cell_of_row w5 _ 2 _ _ _ F.g0
        have C3 := cell_of_row w5 _ 3 _ _ _ F.g0
        have D0 := cell_of_row w5 _ 0 _ _ _ F.g2
        have D1 := cell_of_row w5 _ 1 _ _ _ F.g2
        have D2 := cell_of_row w5 _ 2 _ _ _ F.g2
        have D3 := cell_of_row w5 _ 3 _ _ _ F.g2
        have Y := frozen_row F.g0
        have Z := frozen_row F.g2
        have hg : w.heap.size < C := by omega
        have hg4 : w.heap.size < w4.heap.size := by omega
        have hg2 : w.heap.size + 1 + 1 < C := by omega
        have hg24 : w.heap.size + 1 + 1 < w4.heap.size := by omega
        obtain ⟨w6, hw6⟩ : ∃ w6, w6 = (put4 w5 w.heap.size (.slice b1 d.secs.length m1) (.slice b2 d.loose.length m2) (.int .i64 (burnF d)) (.bool false)) := ⟨_, rfl⟩
        have hb56 : Below w.heap.size w5 w6 := by rw [hw6]; exact put4_below (Below.refl _ _) (Nat.le_refl _) _ _ _ _
        have hsz6 : w6.heap.size = w5.heap.size := by rw [hw6]; simp [put4]
        have E0 : w6.heap[w.heap.size]? = some (.cells #[.slice b1 d.secs.length m1, .slice b2 d.loose.length m2, .int .i64 (burnF d), .bool false] 27 (0, 0)) := by rw [hw6]; exact put4_heap F.g0 _ _ _ _
        have E1 : w6.heap[w.heap.size + 1]? = some (.cells A 33 (0, 0)) := by rw [hw6]; exact put4_far F.g1 (by omega) _ _ _ _
        have E2 : w6.heap[w.heap.size + 1 + 1]? = some (.cells #[.slice none 0 0, .slice none 0 0, .int .i64 0, .bool false] 27 (0, 0)) := by rw [hw6]; exact put4_far F.g2 (by omega) _ _ _ _
        have ho6 : SecsO w4.heap.size w6 (.slice b1 d.secs.length m1) d.secs := by rw [hw6]; exact put4_secs ho5 hg4 _ _ _ _
        have r6 := r5.mix ho6.2.row
        have hl6 : LooseO C w6 (.slice b2 d.loose.length m2) d.loose := by rw [hw6]; exact put4_loose hl5 hg _ _ _ _
        have hb6 := hbb.trans hb56
        have hld := run_loadVar_row (P := Try.prog) w6 (w.heap.size + 1) 33 33 A (0, 0) _ E1 Try.underlying33 rfl (by rw [hAs]; exact size_sector)
        unfold put4 at hw6
        have hbd := run_build_write (w := w6) at_ A hAs
        have hXs : (Value.int .i64 at_ :: A.toList).toArray.size = 65 := by simp [hAs]
        obtain ⟨X, hX⟩ : ∃ X, X = (Value.int .i64 at_ :: A.toList).toArray := ⟨_, rfl⟩
        rw [← hX] at hbd hXs
        have hbs := run_buildSlice_write (w := w6) X hXs
        have hXw : X.toList = wcells ⟨at_, data⟩ := by rw [hX, HA.out]; simp [wcells]
        obtain ⟨w8, hw8⟩ : ∃ w8, w8 = w6.alloc (.cells X 46) := ⟨_, rfl⟩
        have hb68 : Below w6.heap.size w6 w8 := by rw [hw8]; exact Below.alloc (Below.refl _ _) (Nat.le_refl _) _
        have hl8 := (hl6.keep hb68 (Nat.le_refl _)).2
        have hsrc : Src Try.prog w8 (.slice (some ⟨w6.heap.size, 0, none⟩) 1 1) 65 1 (wcells ⟨at_, data⟩) := by
          rw [hw8]
          refine Row.src (Row.fresh (by simp [wcells, length_u8s, h64]) (Nat.le_refl _) (by decide) (fun k u hk => ?_))
          rw [← hXw] at hk
          simpa using hk
        have hle8 : C ≤ w8.heap.size := by have := hb68.size; omega
        obtain ⟨i0, z0, hi, hz0, hz1, hz2, hz3⟩ := zero_parts infoz_write
        obtain ⟨g6, hg6⟩ : ∃ g, g = w6.heap.size := ⟨_, rfl⟩
        rw [← hw8, ← hg6] at hbs
        rw [← hg6] at hsrc
        have hone := oneCell_w ⟨at_, data⟩
        clear hXw hX hw8 F ho5 hl5 hg6
        go_wp2_with (refine wp_load_to (.tmp 5) 33 rfl rfl hw6 rfl hld ?_; clear hld hw6; refine Halt.in ?_)
        refine Halt.out ?_
        refine wp_build_l 46 [(0, .tmp 28), (1, .tmp 29)] rfl rfl rfl hbd ?_
        refine wp_buildSlice_l 25 1 [(0, .tmp 30)] rfl rfl rfl hbs ?_
        refine wp_append rfl (.tmp 27) (.tmp 31) 25 25 46 rfl i0 z0 65 72 Try.underlying25 (.inl ⟨_, Try.underlying25⟩) hi hz0 hz1 hz2 hz3 rfl rfl hl8 hsrc hone R1.out R2.out hle8 ?_
        intro v2 w9 hown9 hb9
        clear C0 C1 C2 C3 D0 D1 D2 D3 Y Z
        clear hbd hbs hsrc hl8 hi hz0 hz1 hz2 hz3 hone
        have hx9 : LooseO C w9 v2 (d.loose ++ [⟨at_, data⟩]) := LooseO.snoc hl6.1 h64 hown9
        obtain ⟨b3, m3, hv2⟩ := hx9.form
        rw [List.length_append, List.length_singleton] at hv2
        subst hv2
        have hb69 : Below C w6 w9 := (hb68.mono (by omega)).trans hb9
        have G0 := (hb69.block _ hg).trans E0
        have G2 := (hb69.block _ hg2).trans E2
        have r9 := (RowIn.of ho6.2 r6).below hb69
        have H0 : w.heap.size ≤ C := by omega
        have hbb9 := (hb6.trans (hb69.mono H0)).setCell (p := ⟨w.heap.size, 1, none⟩) (Nat.le_refl _) (.slice b3 (d.loose.length + 1) m3)
        have C0 := cell_of_row w9 _ 0 _ _ _ G0
        have C1 := cell_of_row w9 _ 1 _ _ _ G0
        have C2 := cell_of_row w9 _ 2 _ _ _ G0
        have C3 := cell_of_row w9 _ 3 _ _ _ G0
        have D0 := cell_of_row w9 _ 0 _ _ _ G2
        have D1 := cell_of_row w9 _ 1 _ _ _ G2
        have D2 := cell_of_row w9 _ 2 _ _ _ G2
        have D3 := cell_of_row w9 _ 3 _ _ _ G2
        have Y := frozen_row G0
        have Z := frozen_row G2
        go_wp2_with fail
        refine bodyPost_ret (results_ct rfl _ _ (w.heap.size + 1 + 1) _ _ _ _ rfl (put4_heap ((setFar (by omega) 1 _).trans G2) _ _ _ _) Try.underlying27 rfl size_disk) rfl ?_
        rw [HP.out]
        exact ⟨⟨_, rfl, DiskV.mk (d := { d with loose := d.loose ++ [⟨at_, data⟩], fuse := burnF d, down := false }) ⟨ho6.1, (((((r9.setOther ⟨w.heap.size, 1, none⟩ _ hg4).setOther ⟨w.heap.size + 1 + 1, 0, none⟩ _ hg24).setOther ⟨w.heap.size + 1 + 1, 1, none⟩ _ hg24).setOther ⟨w.heap.size + 1 + 1, 2, none⟩ _ hg24).setOther ⟨w.heap.size + 1 + 1, 3, none⟩ _ hg24).row⟩ (put4_loose (hx9.setOther ⟨w.heap.size, 1, none⟩ _ hg) hg2 _ _ _ _).loose, DSl.mk (ho6.2.sl fun b hb => HFr.out b (by omega)) (hx9.2.sl fun b hb => HFr.out b (by omega))⟩, put4_below hbb9 H3 _ _ _ _⟩
end Go.Proofs.Ytccjjlefpdlegab
