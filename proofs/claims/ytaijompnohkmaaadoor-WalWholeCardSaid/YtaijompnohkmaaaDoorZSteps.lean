/- Layer 5 (wal): the steps and the masks that come in to WalWhole. -/
import Derived.Test.YtaijompnohkmaaaDoorZWholeLib
import Derived.Test.YtaijompnohkmaaaDoorZWalBack
namespace Go.Proofs.YtaijompnohkmaaaDoor
open Go.RowKit WalP PackP
structure StepP where
  bytes : List UInt8
  last : Int
  pack : Bool
  fuse : Int
def stepCells (u : Value) (s : StepP) : List Value := [u, .int .u8 s.last, .bool s.pack, .int .i8 s.fuse]
def StepP.wf (s : StepP) : Prop := 0 ≤ s.last ∧ s.last < 256 ∧ -128 ≤ s.fuse ∧ s.fuse ≤ 127
/-- Steps, in a slice. -/
def StepsV (B : Nat) (w : World) (v : Value) (ss : List StepP) : Prop :=
  ∃ css : List (List Value), Row B w v 4 ss.length css.flatten ∧ (∀ c ∈ css, c.length = 4) ∧ css.length = ss.length ∧ ∀ (k : Nat) (h : k < ss.length), ∃ u, css[k]? = some (stepCells u ss[k]) ∧ Bytes B w u ss[k].bytes
/-- Masks, in a slice. -/
def Masks (B : Nat) (w : World) (v : Value) (ms : List Int) : Prop := Row B w v 1 ms.length (ms.map fun z => .int .u64 z)
theorem flat4 {css : List (List Value)} (h4 : ∀ c ∈ css, c.length = 4) {k : Nat} {c : List Value} (hc : css[k]? = some c) (j : Nat) (hj : j < 4) : css.flatten[k * 4 + j]? = c[j]? := by
  induction css generalizing k with
  | nil => simp at hc
  | cons x css ih =>
    have hx := h4 x (List.mem_cons_self ..)
    rw [List.flatten_cons]
    cases k with
    | zero =>
      simp only [List.getElem?_cons_zero, Option.some.injEq] at hc
      subst hc
      rw [List.getElem?_append_left (by omega)]
      congr 1
      omega
    | succ k =>
      rw [List.getElem?_append_right (by omega), hx]
      have := ih (fun y hy => h4 y (List.mem_cons_of_mem _ hy)) (k := k) (by simpa using hc)
      rw [← this]
      congr 1
      omega
theorem load_step {B : Nat} {w : World} {a : Option Addr} {n c : Nat} {ss : List StepP} (h : StepsV B w (.slice a n c) ss) {k : Nat} (hk : k < ss.length) :
    ∃ b off ra rc, a = some ⟨b, off, none⟩ ∧ b < B ∧ (∀ w', Below B w w' → w'.cell? ⟨b, off + k * 4, none⟩ = some (.slice ra ss[k].bytes.length rc) ∧ w'.cell? ⟨b, off + k * 4 + 1, none⟩ = some (.int .u8 ss[k].last) ∧ w'.cell? ⟨b, off + k * 4 + 2, none⟩ = some (.bool ss[k].pack) ∧ w'.cell? ⟨b, off + k * 4 + 3, none⟩ = some (.int .i8 ss[k].fuse)) ∧ Bytes B w (.slice ra ss[k].bytes.length rc) ss[k].bytes := by
  obtain ⟨css, ⟨hl, a0, cap, hv, hnc, hcap, hcells⟩, h4, hcl, hel⟩ := h
  cases hv
  obtain ⟨b, off, rfl, hBb, hc⟩ := hcells (by omega)
  obtain ⟨u, hu, hb⟩ := hel k hk
  obtain ⟨_, ra, rc, rfl, _, _, _⟩ := id hb
  refine ⟨b, off, ra, rc, rfl, hBb, fun w' hw => ?_, hb⟩
  have one : ∀ j (x : Value), j < 4 → (stepCells (.slice ra ss[k].bytes.length rc) ss[k])[j]? = some x → w'.cell? ⟨b, off + k * 4 + j, none⟩ = some x := fun j x hj hx => by
    have e := flat4 h4 hu j hj
    rw [hx] at e
    have := hc (k * 4 + j) x e
    rw [Nat.add_assoc]
    exact (hw.cell (p := ⟨b, off + (k * 4 + j), none⟩) hBb).trans this
  exact ⟨by simpa using one 0 _ (by decide) rfl, one 1 _ (by decide) rfl, one 2 _ (by decide) rfl, one 3 _ (by decide) rfl⟩
theorem load_mask {B : Nat} {w : World} {a : Option Addr} {n c : Nat} {ms : List Int} (h : Masks B w (.slice a n c) ms) {k : Nat} (hk : k < ms.length) :
    ∃ b off, a = some ⟨b, off, none⟩ ∧ b < B ∧ ∀ w', Below B w w' → w'.cell? ⟨b, off + k, none⟩ = some (.int .u64 ms[k]) := by
  obtain ⟨hl, a0, cap, hv, hnc, hcap, hcells⟩ := h
  cases hv
  obtain ⟨b, off, rfl, hBb, hc⟩ := hcells (by omega)
  refine ⟨b, off, rfl, hBb, fun w' hw => (hw.cell (p := ⟨b, off + k, none⟩) hBb).trans (hc k _ ?_)⟩
  rw [List.getElem?_map, List.getElem?_eq_getElem hk]; rfl
theorem LS.keepB {D L : Nat} {w w' : World} {v : Value} {ls : List (List UInt8)} (h : LS D L w v ls) (hk : ∀ k, k ≠ D → k ≠ L → k < w.heap.size → w'.heap[k]? = w.heap[k]?) : LS D L w' v ls := by
  obtain ⟨a, c, rfl, h⟩ := h
  exact ⟨a, c, rfl, (h.keep (fun k hk' hl => hk k hk'.1 hk'.2 hl)).tight⟩
/-- A list that is made behind what is there, of records that are there. -/
theorem LS.made {D L : Nat} {w0 w : World} {v : Value} {ls : List (List UInt8)} {vs : List Value} {n : Nat} (hD : D < w0.heap.size) (hL : L < w0.heap.size) (hn : n = ls.length) (hown : Own w0.heap.size w 43 v 1 n vs)
    (hel : ∀ (k : Nat) (h : k < ls.length), ∃ u, vs[k]? = some u ∧ Bytes w.heap.size w u ls[k] ∧ Sl (fun b => b ≠ D ∧ b ≠ L) u) : LS D L w v ls := by
  subst hn
  obtain ⟨_, a, c, rfl, _, _, _⟩ := id hown
  exact ⟨a, c, rfl, vs, hown.row, hown.sl (fun b hb => by omega), hel⟩
/-- The elements of the records with one more. -/
theorem snoc_el {D L : Nat} {W wd w : World} {vs : List Value} {want : List (List UInt8)} {rec : List UInt8} {ra : Option Addr} {n rc : Nat} (hb : Below wd.heap.size wd w) (hvl : vs.length = want.length)
    (hel : ∀ (k : Nat) (h : k < want.length), ∃ u, vs[k]? = some u ∧ Bytes wd.heap.size wd u want[k] ∧ Sl (fun b => b ≠ D ∧ b ≠ L) u) (hby : Bytes W.heap.size wd (.slice ra n rc) rec) (hD : W.heap.size ≤ D) (hL : W.heap.size ≤ L) :
    ∀ (k : Nat) (h : k < (want ++ [rec]).length), ∃ u, ([] ++ vs ++ [.slice ra n rc])[k]? = some u ∧ Bytes w.heap.size w u (want ++ [rec])[k] ∧ Sl (fun b => b ≠ D ∧ b ≠ L) u := by
  intro k hk
  rw [List.nil_append]
  by_cases hkl : k < want.length
  · obtain ⟨u, h1, h2, h3⟩ := hel k hkl
    refine ⟨u, by rw [List.getElem?_append_left (by omega)]; exact h1, ?_, h3⟩
    rw [List.getElem_append_left hkl]
    exact Bytes.tight (h2.below hb)
  · have hke : k = want.length := by rw [List.length_append, List.length_singleton] at hk; omega
    subst hke
    refine ⟨.slice ra n rc, by rw [List.getElem?_append_right (by omega), hvl, Nat.sub_self]; rfl, ?_, ?_⟩
    · rw [List.getElem_append_right (Nat.le_refl _)]
      simp only [Nat.sub_self, List.getElem_cons_zero]
      have h0 := hby.tight
      exact Bytes.tight (h0.below hb)
    · exact Row.sl hby (fun b hb' => by omega)
/-- The elements of the last records. -/
theorem last_el {D L : Nat} {wd w : World} {vs : List Value} {want : List (List UInt8)} (hb : Below wd.heap.size wd w) (j : Nat)
    (hel : ∀ (k : Nat) (h : k < want.length), ∃ u, vs[k]? = some u ∧ Bytes wd.heap.size wd u want[k] ∧ Sl (fun b => b ≠ D ∧ b ≠ L) u) :
    ∀ (k : Nat) (h : k < (want.drop j).length), ∃ u, ([] ++ vs.drop j)[k]? = some u ∧ Bytes w.heap.size w u (want.drop j)[k] ∧ Sl (fun b => b ≠ D ∧ b ≠ L) u := by
  intro k hk
  rw [List.length_drop] at hk
  obtain ⟨u, h1, h2, h3⟩ := hel (j + k) (by omega)
  refine ⟨u, by rw [List.nil_append, List.getElem?_drop]; exact h1, ?_, h3⟩
  rw [List.getElem_drop]
  exact Bytes.tight (h2.below hb)
theorem run_slice_row {P : Program} {t e : TypeId} {i : TypeInfo} (ht : P.underlying t = some (.slice e)) (hi : P.info? e = some i) (hsz : i.size = 1) {B : Nat} {w : World} {a : Option Addr} {n cap : Nat} {cs : List Value} (h : Row B w (.slice a n cap) 1 n cs) (k m : Nat) (hm : m + k = n) :
    ∃ a2 c2, (∀ w', (Instr.slice t (.slice a n cap) (some (.int .i64 k)) none none).run P w' = .ok (.slice a2 m c2) w') ∧ Row B w (.slice a2 m c2) 1 m (cs.drop k) := by
  obtain rfl : m = n - k := by omega
  have hk : k ≤ n := by omega
  refine ⟨if cap = k then a else a.map (·.add (k * 1)), cap - k, fun w' => ?_, ?_⟩
  · have h0 : (0 : Int) ≤ (k : Int) := by omega
    have h1 : (k : Int) ≤ (n : Int) := by omega
    simp [Instr.slice, run_underlying ht, Instr.sliceBounds, run_sliceBound, sizeOf, typeInfo, hi, hsz, h0, h1]
  · have := Row.drop h k hk
    simpa using this
theorem nine_recS {w w' : World} {g : Nat} (hw : w' = (w.alloc (.cells #[.int .u8 9] 5)).alloc (.cells #[.slice (some ⟨w.heap.size, 0, none⟩) 1 1] 43)) (hg : g = w.heap.size + 1) {S : Nat → Prop} : PiecesS (fun b => S b ∨ w.heap.size ≤ b) w'.heap.size w' (.slice (some ⟨g, 0, none⟩) 1 1) [[9]] := by
  subst hw
  subst hg
  have h1 := Row.fresh (w := w) (C := #[.int .u8 9]) (e := 5) (fz := (0, 0)) (sz := 1) (n := 1) (cap := 1) (cs := [.int .u8 9]) rfl (Nat.le_refl _) (by decide) (fun k u hk => by simpa using hk)
  have hb1 : Below (w.heap.size + 1) (w.alloc (.cells #[.int .u8 9] 5)) ((w.alloc (.cells #[.int .u8 9] 5)).alloc (.cells #[.slice (some ⟨w.heap.size, 0, none⟩) 1 1] 43)) := Below.alloc (Below.refl _ _) (by simp) _
  have h2 := Row.fresh (w := w.alloc (.cells #[.int .u8 9] 5)) (C := #[.slice (some ⟨w.heap.size, 0, none⟩) 1 1]) (e := 43) (fz := (0, 0)) (sz := 1) (n := 1) (cap := 1) (cs := [.slice (some ⟨w.heap.size, 0, none⟩) 1 1]) rfl (Nat.le_refl _) (by decide) (fun k u hk => by simpa using hk)
  have e : (w.alloc (.cells #[.int .u8 9] 5)).heap.size = w.heap.size + 1 := by simp
  rw [e] at h2
  refine ⟨[.slice (some ⟨w.heap.size, 0, none⟩) 1 1], h2.tight (by decide), fun a n c h _ => ?_, fun k hk => ?_⟩
  · cases h
    exact .inr (by show w.heap.size ≤ w.heap.size + 1; omega)
  · obtain rfl : k = 0 := by simpa using hk
    refine ⟨_, rfl, Row.tight (h1.below hb1) (by decide), fun a n c h _ => ?_⟩
    cases h
    exact .inr (Nat.le_refl _)
/-- Blocks of a kind that lie below a bound are of another one, too. -/
theorem PiecesS.weakB {S T : Nat → Prop} {B : Nat} {w : World} {v : Value} {ls : List (List UInt8)} (h : PiecesS S B w v ls) (hT : ∀ b, S b → b < B → T b) : PiecesS T B w v ls := by
  have one : ∀ {sz n : Nat} {cs : List Value} {u : Value}, Row B w u sz n cs → Sl S u → Sl T u := fun {sz n cs u} hr hs => by
    obtain ⟨_, a, cap, rfl, _, _, h3⟩ := hr
    intro a' n' c' hv hp
    have hS := hs _ _ _ hv hp
    cases hv
    obtain ⟨b, off, he, hb, _⟩ := h3 hp
    cases he
    exact hT _ hS hb
  obtain ⟨vs, h1, h2, h3⟩ := h
  exact ⟨vs, h1, one h1 h2, fun k hk => let ⟨u, g1, g2, g3⟩ := h3 k hk; ⟨u, g1, g2, one g2 g3⟩⟩
end Go.Proofs.YtaijompnohkmaaaDoor
