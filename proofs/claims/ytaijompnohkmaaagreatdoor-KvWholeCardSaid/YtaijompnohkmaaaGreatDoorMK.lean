/- Layer 5 (wal): records. -/
import Derived.Test.YtaijompnohkmaaaGreatDoorMJ
set_option linter.unusedSimpArgs false
set_option linter.unusedVariables false
namespace Go.Proofs.YtaijompnohkmaaaGreatDoor
open Go.RowKit WalP PackP
set_option maxRecDepth 100000 in
theorem clip_any {n c : Nat} (a : Option Addr) (w : World) (h : n ≤ c) (hc : c ≤ 9223372036854775807) :
    Calls Tryz.prog 134 #[.slice a n c] w fun e w' => e = .returned (.slice a n n) ∧ w = w' := by
  go_enter Tryz.func134, Tryz.ntmps134
  go_wp2
  go_ret
  exact ⟨rfl, rfl⟩
theorem bytes_clip {B : Nat} {w : World} {a : Option Addr} {n c : Nat} {bs : List UInt8} (h : Bytes B w (.slice a n c) bs) : Bytes B w (.slice a n n) bs := by
  obtain ⟨h1, a', c', hv, h2, h3, h4⟩ := h
  cases hv
  exact ⟨h1, a, bs.length, rfl, Nat.le_refl _, by omega, h4⟩
/-- Records, in a slice of the call's own. -/
def RecsV (B : Nat) (w : World) (lv : Value) (list : List (List UInt8)) : Prop :=
  ∃ vs : List Value, Own B w 23 lv 1 list.length vs ∧ ∀ (k : Nat) (h : k < list.length), ∃ u, vs[k]? = some u ∧ Bytes w.heap.size w u list[k] ∧ Apart lv u ∧ Sl (fun b => B ≤ b) u
theorem RecsV.below {B : Nat} {w w' : World} {lv : Value} {list : List (List UInt8)} (h : RecsV B w lv list) (hb : Below w.heap.size w w') : RecsV B w' lv list := by
  obtain ⟨vs, h1, h2⟩ := h
  exact ⟨vs, h1.below hb (Nat.le_refl _), fun k hk => let ⟨u, h3, h4, h5⟩ := h2 k hk; ⟨u, h3, (h4.below hb).tight, h5⟩⟩
/-- Records whose blocks are of a kind. -/
def PiecesS (S : Nat → Prop) (B : Nat) (w : World) (v : Value) (ls : List (List UInt8)) : Prop :=
  ∃ vs : List Value, Row B w v 1 ls.length vs ∧ Sl S v ∧ ∀ (k : Nat) (h : k < ls.length), ∃ u, vs[k]? = some u ∧ Bytes B w u ls[k] ∧ Sl S u
theorem PiecesS.pieces {S : Nat → Prop} {B : Nat} {w : World} {v : Value} {ls : List (List UInt8)} (h : PiecesS S B w v ls) : Pieces B w v ls := by
  obtain ⟨vs, h1, _, h2⟩ := h
  exact ⟨vs, h1, fun k hk => let ⟨u, h3, h4, _⟩ := h2 k hk; ⟨u, h3, h4⟩⟩
theorem Row.keepS {S : Nat → Prop} {B : Nat} {w w' : World} {v : Value} {sz n : Nat} {cs : List Value} (h : Row B w v sz n cs) (hs : Sl S v) (hk : ∀ k, S k → k < B → w'.heap[k]? = w.heap[k]?) : Row B w' v sz n cs := by
  obtain ⟨hl, a, cap, rfl, h1, h2, h3⟩ := h
  refine ⟨hl, a, cap, rfl, h1, h2, fun hp => ?_⟩
  obtain ⟨b, off, rfl, hb, hc⟩ := h3 hp
  have hS := hs _ _ _ rfl hp
  refine ⟨b, off, rfl, hb, fun k u hku => ?_⟩
  have e : w'.cell? ⟨b, off + k, none⟩ = w.cell? ⟨b, off + k, none⟩ := by unfold World.cell?; rw [hk b hS hb]
  exact e.trans (hc k u hku)
theorem PiecesS.keep {S : Nat → Prop} {B : Nat} {w w' : World} {v : Value} {ls : List (List UInt8)} (h : PiecesS S B w v ls) (hk : ∀ k, S k → k < B → w'.heap[k]? = w.heap[k]?) : PiecesS S B w' v ls := by
  obtain ⟨vs, h1, h2, h3⟩ := h
  exact ⟨vs, Row.keepS h1 h2 hk, h2, fun k hlt => let ⟨u, g1, g2, g3⟩ := h3 k hlt; ⟨u, g1, Row.keepS g2 g3 hk, g3⟩⟩
theorem PiecesS.below {S : Nat → Prop} {B : Nat} {w w' : World} {v : Value} {ls : List (List UInt8)} (h : PiecesS S B w v ls) (hb : Below B w w') : PiecesS S B w' v ls := h.keep fun k _ hk => hb.block k hk
theorem PiecesS.tight {S : Nat → Prop} {B : Nat} {w : World} {v : Value} {ls : List (List UInt8)} (h : PiecesS S B w v ls) : PiecesS S w.heap.size w v ls := by
  obtain ⟨vs, h1, h2, h3⟩ := h
  exact ⟨vs, h1.tight (by decide), h2, fun k hk => let ⟨u, g1, g2, g3⟩ := h3 k hk; ⟨u, g1, g2.tight, g3⟩⟩
theorem PiecesS.weak {S T : Nat → Prop} {B : Nat} {w : World} {v : Value} {ls : List (List UInt8)} (h : PiecesS S B w v ls) (hT : ∀ b, S b → T b) : PiecesS T B w v ls := by
  obtain ⟨vs, h1, h2, h3⟩ := h
  exact ⟨vs, h1, fun a n c e hp => hT _ (h2 a n c e hp), fun k hk => let ⟨u, g1, g2, g3⟩ := h3 k hk; ⟨u, g1, g2, fun a n c e hp => hT _ (g3 a n c e hp)⟩⟩
theorem RecsV.pieces {B : Nat} {w : World} {lv : Value} {list : List (List UInt8)} (h : RecsV B w lv list) : PiecesS (fun b => B ≤ b) w.heap.size w lv list := by
  obtain ⟨vs, h1, h2⟩ := h
  exact ⟨vs, h1.row, h1.sl (fun b hb => hb), fun k hk => let ⟨u, h3, h4, _, h5⟩ := h2 k hk; ⟨u, h3, h4, h5⟩⟩
/-- One record more. -/
theorem RecsV.snoc {B : Nat} {w w' : World} {lv v' u : Value} {list : List (List UInt8)} {vs : List Value} {bs : List UInt8} (hv : vs.length = list.length) (hown : Own B w' 23 v' 1 (list.length + 1) (vs ++ [u]))
    (hel : ∀ (k : Nat) (h : k < list.length), ∃ u, vs[k]? = some u ∧ Bytes w.heap.size w u list[k] ∧ Apart lv u ∧ Sl (fun b => B ≤ b) u) (hu : Bytes w.heap.size w u bs) (ha : Apart lv u) (hsl : Sl (fun b => B ≤ b) u) (hg : Grew w w' lv v') : RecsV B w' v' (list ++ [bs]) := by
  refine ⟨vs ++ [u], by rw [List.length_append]; exact hown, fun k hk => ?_⟩
  rw [List.length_append, List.length_singleton] at hk
  by_cases hkl : k < list.length
  · obtain ⟨x, h1, h2, h3, h3'⟩ := hel k hkl
    obtain ⟨g1, g2⟩ := Row.grew h2 (Nat.le_refl _) hg h3
    refine ⟨x, by rw [List.getElem?_append_left (by omega)]; exact h1, ?_, g2, h3'⟩
    rw [List.getElem_append_left hkl]
    exact Bytes.tight g1
  · obtain rfl : k = list.length := by omega
    obtain ⟨g1, g2⟩ := Row.grew hu (Nat.le_refl _) hg ha
    refine ⟨u, by rw [List.getElem?_append_right (by omega), hv, Nat.sub_self]; rfl, ?_, g2, hsl⟩
    rw [List.getElem_append_right (Nat.le_refl _)]
    simp only [Nat.sub_self, List.getElem_cons_zero]
    exact Bytes.tight g1
/-- A slice of the call's own lies apart from what was made behind it. -/
theorem Own.apart {B C : Nat} {w w' : World} {e e' : TypeId} {v : Value} {a : Option Addr} {sz n sz' n' p c' m d : Nat} {cs cs' : List Value} (h : Own B w e v sz n cs) (h' : Own C w' e' (.slice a p c') sz' n' cs') (hC : w.heap.size ≤ C) (hm : m ≤ p) : Apart v (.slice a m d) := by
  obtain ⟨_, a0, c0, hv0, _⟩ := id h'
  cases hv0
  obtain ⟨_, a1, cap, rfl, _, _, h4⟩ := h
  intro x n1 c1 y m1 e1 hv hu hc hm1
  cases hv
  cases hu
  obtain ⟨g', he, hg', _⟩ := h'.form (by omega)
  cases he
  rcases h4 with h4 | ⟨g, cur, he, hg, hh, _⟩
  · omega
  · cases he
    have := block_lt hh
    show g ≠ g'
    omega
theorem RecsV.apart9 {B C : Nat} {w w' : World} {e' : TypeId} {lv : Value} {a : Option Addr} {list : List (List UInt8)} {sz' n' p c' m d : Nat} {cs' : List Value} (h : RecsV B w lv list) (h' : Own C w' e' (.slice a p c') sz' n' cs') (hC : w.heap.size ≤ C) (hm : m ≤ p) : Apart lv (.slice a m d) := by
  obtain ⟨vs, h1, _⟩ := h
  exact Own.apart h1 h' hC hm
theorem sl9 {B C : Nat} {w' : World} {e' : TypeId} {a : Option Addr} {sz' n' p c' m d : Nat} {cs' : List Value} (h' : Own C w' e' (.slice a p c') sz' n' cs') (hC : B ≤ C) (hm : m ≤ p) : Sl (fun b => B ≤ b) (.slice a m d) := by
  obtain ⟨_, a0, c0, hv0, _⟩ := id h'
  cases hv0
  intro x n c hv hp
  cases hv
  obtain ⟨g', he, hg', _⟩ := h'.form (by omega)
  cases he
  exact Nat.le_trans hC hg'
theorem round_parts {B : Nat} {wr w8 : World} {lv : Value} {list : List (List UInt8)} {a : Option Addr} {n : Nat} {bs : List UInt8} (hw8 : w8 = (wr.alloc (.cells #[.slice a n n] 23)).drew) (h : RecsV B wr lv list) (hv : Bytes wr.heap.size wr (.slice a n n) bs) :
    Below wr.heap.size wr w8 ∧ Src Tryz.prog w8 (.slice (some ⟨wr.heap.size, 0, none⟩) 1 1) 1 1 [.slice a n n] ∧ ∃ vs : List Value, vs.length = list.length ∧ Own B w8 23 lv 1 list.length vs ∧ (∀ (k : Nat) (h : k < list.length), ∃ u, vs[k]? = some u ∧ Bytes w8.heap.size w8 u list[k] ∧ Apart lv u ∧ Sl (fun b => B ≤ b) u) ∧ Bytes w8.heap.size w8 (.slice a n n) bs := by
  have hb8 : Below wr.heap.size wr w8 := by rw [hw8]; exact below_draws (Below.alloc (Below.refl _ _) (Nat.le_refl _) _) 1
  obtain ⟨vs, h1, h2⟩ := h.below hb8
  refine ⟨hb8, ?_, vs, by have := h1.1; omega, h1, h2, (hv.below hb8).tight⟩
  rw [hw8]
  exact Row.src (B := wr.heap.size + 1) (Row.below (Row.fresh (w := wr) rfl (Nat.le_refl _) (by decide) (fun k u hk => by simpa using hk)) (below_draws (Below.refl _ _) 1))
theorem RecsV.form {B : Nat} {w : World} {lv : Value} {list : List (List UInt8)} (h : RecsV B w lv list) : ∃ a c, lv = .slice a list.length c := by
  obtain ⟨vs, h1, h2⟩ := h
  obtain ⟨_, a, c, h, _⟩ := h1
  exact ⟨a, c, h⟩
theorem RecsV.nil (B : Nat) (w : World) : RecsV B w (.slice none 0 0) [] := ⟨[], Own.none _ _ _ _ _, fun k h => absurd h (Nat.not_lt_zero _)⟩
theorem walLoadSec {B : Nat} {w : World} {a : Option Addr} {n c : Nat} {ss : List (List UInt8)} (h : Secs B w (.slice a n c) ss) {k : Nat} (hk : k < ss.length) :
    ∃ b off, a = some ⟨b, off, none⟩ ∧ b < B ∧ n = ss.length ∧ n ≤ c ∧ c ≤ 2 ^ 63 - 1 ∧ ∀ w', (∀ p : Addr, p.block < B → w'.cell? p = w.cell? p) → (loadVar 94 ⟨b, off + k * 64, none⟩).run Tryz.prog w' = .ok (.agg (u8s ss[k]).toArray) w' := by
  obtain ⟨h64, _, a', cap, hv, hnc, hcap, hcells⟩ := h
  cases hv
  obtain ⟨b, off, rfl, hBb, hc⟩ := hcells (by omega)
  obtain ⟨i44, hi44, hs44⟩ := info44
  have hat := flat_at u8s 64 ss (fun x hx => by rw [length_u8s, h64 x hx]) k ss[k] (List.getElem?_eq_getElem hk)
  exact ⟨b, off, rfl, hBb, rfl, hnc, hcap, fun w' hw => run_load_big (P := Tryz.prog) (t := 94) Tryz.underlying94 (.inl ⟨_, _, rfl⟩) hi44 (w := w') (b := b) (off := off + k * 64) (cs := u8s ss[k]) hs44 (by rw [length_u8s, h64 _ (List.getElem_mem hk)])
    (fun j u hj => by rw [Nat.add_assoc]; exact (hw ⟨b, off + (k * 64 + j), none⟩ hBb).trans (hc _ _ (hat j u hj)))⟩
theorem infoz_bytes : (Tryz.prog.info? 23).bind (fun i => i.zero.map fun z => (i.size, i.bytes, z.cells.size)) = some (1, 24, 1) := by kernel_rfl
theorem cells_slice (a : Option Addr) (n c : Nat) : (Value.slice a n c).cells = #[.slice a n c] := rfl
theorem set_one (A : Array Value) (h : A.size = 1) (v : Value) : A.setIfInBounds 0 v = #[v] := by
  obtain ⟨l⟩ := A
  cases l with
  | nil => simp at h
  | cons a l =>
    cases l with
    | nil => simp
    | cons b l => simp at h
set_option maxRecDepth 100000 in
theorem run_buildSlice_rec {w : World} (a : Option Addr) (n c : Nat) :
    (Instr.buildSlice 66 1 #[(0, .slice a n c)]).run Tryz.prog w = .ok (.slice (some ⟨w.heap.size, 0, none⟩) 1 1) (w.alloc (.cells #[.slice a n c] 23)) := by
  obtain ⟨i0, z0, hi, hz0, hz1, hz2, hz3⟩ := zero_parts infoz_bytes
  simp [Instr.buildSlice, zeroValue, typeInfo, hi, hz0, hz1, run_underlying Tryz.underlying66, sizeOf, Instr.fill, cells_slice, hz3, newRow]
  congr 2
  exact set_one _ (by simp) _
/-- What is told at the end. -/
def endedR (list : List (List UInt8)) (used : Nat) (gen : Int) : List (List UInt8) × Nat × Int × Int := if list = [] then ([], 0, 0, 6) else (list, used, gen, 0)
theorem recs_end {l : List (List UInt8)} {f used : Nat} {list : List (List UInt8)} {gen : Int} (h : ¬ used < l.length) : recsGo l (f + 1) list used gen = endedR list used gen := by
  simp only [recsGo]
  rw [if_neg h]
  rfl
theorem recs_stop {l : List (List UInt8)} {f used : Nat} {list : List (List UInt8)} {gen : Int} (h : used < l.length) {m : MarkP} {ok : Bool} (hx : readMark l[used] = (m, ok)) (gen' : Int) (hg : gen' = if list = [] then m.gen else gen)
    (hc : ok = false ∨ m.gen ≠ gen' ∨ m.number ≠ list.length ∨ l.length - used < (takesZ m.length).toNat) : recsGo l (f + 1) list used gen = endedR list used gen' := by
  simp only [recsGo]
  rw [if_pos h]
  have e : l.getD used [] = l[used] := by rw [List.getD_eq_getElem?_getD, List.getElem?_eq_getElem h]; rfl
  rw [e, hx]
  simp only [← hg]
  rw [if_pos hc]
  rfl
theorem mark_takes {s : List UInt8} {m : MarkP} (h : readMark s = (m, true)) : 0 < takesZ m.length := by
  have h1 : (readMark s).2 = true := by rw [h]
  have h2 : (readMark s).1 = m := by rw [h]
  rw [← h2]
  simp only [readMark, Bool.and_eq_true, decide_eq_true_eq] at h1 ⊢
  exact h1.2
theorem flat64_eq : ∀ (l : List (List UInt8)), (∀ s ∈ l, s.length = 64) → l.flatten.length = 64 * l.length
  | [], _ => rfl
  | s :: l, h => by
    rw [List.flatten_cons, List.length_append, h s (List.mem_cons_self ..), flat64_eq l (fun x hx => h x (List.mem_cons_of_mem _ hx)), List.length_cons]
    omega
theorem flat64_le (l : List (List UInt8)) (h : ∀ s ∈ l, s.length = 64) (j : Nat) (hj : l.length ≤ j) : l.flatten.length ≤ 64 * j := by
  rw [flat64_eq l h]
  omega
theorem recs_step {l : List (List UInt8)} {f used n : Nat} {list : List (List UInt8)} {gen : Int} (h : used < l.length) {m : MarkP} (hx : readMark l[used] = (m, true)) (gen' : Int) (hg : gen' = if list = [] then m.gen else gen)
    (hn : takesZ m.length = (n : Int)) (h1 : m.gen = gen') (h2 : m.number = list.length) (h3 : ¬ l.length - used < n) (b : List UInt8) (hb : b = ((l.drop (used + 1)).take (n - 1)).flatten.take m.length.toNat) :
    recsGo l (f + 1) list used gen = if SumP.toI (SumP.sum b) ≠ m.sum then ([], 0, gen', 10) else recsGo l f (list ++ [b]) (used + n) gen' := by
  simp only [recsGo]
  rw [if_pos h]
  have e : l.getD used [] = l[used] := by rw [List.getD_eq_getElem?_getD, List.getElem?_eq_getElem h]; rfl
  have e2 : (takesZ m.length).toNat = n := by rw [hn]; rfl
  rw [e, hx]
  simp only [← hg, e2, ← hb]
  rw [if_neg (fun hh => by
    rcases hh with h | h | h | h
    · cases h
    · exact h h1
    · exact h h2
    · exact h3 h)]
/-- The state behind the loop, as it is returned. -/
theorem ended_nil (used : Nat) (gen : Int) : endedR [] used gen = ([], 0, 0, 6) := rfl
theorem ended_ne {list : List (List UInt8)} (h : list ≠ []) (used : Nat) (gen : Int) : endedR list used gen = (list, used, gen, 0) := if_neg h
set_option maxRecDepth 100000 in
set_option maxHeartbeats 4000000 in
theorem records_any {B : Nat} (v : Value) (ss : List (List UInt8)) (w : World) (hs : Secs B w v ss) (hN : ss.length ≤ 2 ^ 20) (ht : TabAt w) (hT : 1 < w.heap.size) :
    Calls Tryz.prog 91 #[v] w fun e w' => (∃ lv, e = .returned (.tuple #[lv, .int .i64 (recordsP ss).2.1, .int .i64 (recordsP ss).2.2.1, .int .i64 (recordsP ss).2.2.2]) ∧ PiecesS (fun b => w.heap.size ≤ b) w'.heap.size w' lv (recordsP ss).1) ∧ Below w.heap.size w w' := by
  have hs : Secs w.heap.size w v ss := ⟨hs.1, hs.2.tight (by decide)⟩
  obtain ⟨_, a0, c0, rfl, hnc, hcap, hat⟩ := id hs.2
  obtain ⟨N, hNN⟩ : ∃ N, N = ss.length := ⟨_, rfl⟩
  rw [← hNN] at hnc hN ⊢
  have HN := Lib.hid hNN
  have HS := Lib.hid hs
  have HT := Lib.hid ht
  clear hs hat ht hNN
  go_enter Tryz.func91, Tryz.ntmps91
  go_wp2_with fail
  go_loopw [2, 3, 4] (fun lv u g wr => ∃ (list : List (List UInt8)) (used : Nat) (gen : Int) (f : Nat), RecsV w.heap.size wr lv list ∧ u = .int .i64 used ∧ g = .int .i64 gen ∧ used ≤ N ∧ list.length ≤ used ∧ N + 1 ≤ f + used ∧ recordsP ss = recsGo ss f list used gen ∧ Below w.heap.size w wr) (fun _ u _ _ => N - (intOf u).toNat)
  case atStart => exact ⟨[], 0, 0, N + 1, RecsV.nil _ _, rfl, rfl, Nat.zero_le _, Nat.zero_le _, by omega, by rw [HN.out]; rfl, Below.refl _ _⟩
  case round =>
    obtain ⟨list, used, gen, f, hlv, rfl, rfl, hu, hlu, hf, hrec, hb⟩ := hrel
    obtain ⟨la, lc, rfl⟩ := hlv.form
    have HLV := Lib.hid hlv
    have HREC := Lib.hid hrec
    have HB := Lib.hid hb
    clear hlv hrec hb
    obtain ⟨f, rfl⟩ : ∃ f', f = f' + 1 := ⟨f - 1, by omega⟩
    have HNL := Lib.hid (show (((list.length : Int) == 0) = true ∧ list = []) ∨ (((list.length : Int) == 0) = false ∧ list ≠ []) by
      by_cases h : list = []
      · exact .inl ⟨by rw [h]; rfl, h⟩
      · refine .inr ⟨?_, h⟩
        have : 0 < list.length := List.length_pos_iff.2 h
        simp; exact h)
    by_cases hun : used < N
    · have u0 : decide ((used : Int) < (N : Int)) = true := by simp; omega
      have hus : used < ss.length := HN.out ▸ hun
      obtain ⟨b0, off, rfl, hb0, _, _, _, hld⟩ := walLoadSec HS.out hus
      replace hld := hld wr (fun p hp => HB.out.cell hp)
      have hu1 : (0 : Int) ≤ (used : Int) := by omega
      have hu2 : (used : Int) < (N : Int) := by omega
      have kr := wread_any (s := ss[used]) (HS.out.1 _ (List.getElem_mem hus)) wr
      obtain ⟨X, hX⟩ : ∃ X, X = (u8s ss[used]).toArray := ⟨_, rfl⟩
      rw [← hX] at hld kr
      obtain ⟨m, ok, hm⟩ : ∃ m ok, readMark ss[used] = (m, ok) := ⟨_, _, rfl⟩
      rw [hm] at kr
      simp only [markV] at kr
      obtain ⟨a, b, c, D⟩ := m
      simp only at kr
      obtain ⟨gp, hgp⟩ : ∃ gp, gp = if list = [] then a else gen := ⟨_, rfl⟩
      obtain ⟨n, hn⟩ : ∃ n : Nat, takesZ c = (n : Int) := ⟨(takesZ c).toNat, by unfold takesZ; split <;> omega⟩
      have hn95 : n ≤ 95 := by unfold takesZ at hn; split at hn <;> omega
      have HGP := Lib.hid hgp
      have HM := Lib.hid hm
      have HX := Lib.hid hX
      have HUS := Lib.hid hus
      have HNZ := Lib.hid hn
      clear hX hm hgp hn
      go_wp2_with (refine wp_load_at (.tmp 19) 94 rfl rfl rfl hld ?_; clear hld; refine Halt.in ?_)
      refine Halt.out ?_
      go_wp2_with fail
      refine kr.mono ?_
      rintro e w2 ⟨rfl, hb2⟩
      clear kr
      obtain ⟨g3, hg3⟩ : ∃ g, g = w2.heap.size := ⟨_, rfl⟩
      obtain ⟨w3, hw3⟩ : ∃ w3, w3 = w2.alloc (.cells #[.int .i64 a, .int .i64 b, .int .i64 c, .int .u32 D] 145) := ⟨_, rfl⟩
      have hb23 : Below w2.heap.size w2 w3 := by rw [hw3]; exact Below.alloc (Below.refl _ _) (Nat.le_refl _) _
      have hb3 : Below wr.heap.size wr w3 := hb2.trans (hb23.mono hb2.size)
      have M3 : w3.heap[g3]? = some (.cells #[.int .i64 a, .int .i64 b, .int .i64 c, .int .u32 D] 145 (0, 0)) := by rw [hw3, hg3]; exact heap_alloc_new w2 _
      have hg3r : wr.heap.size ≤ g3 := by rw [hg3]; exact hb2.size
      have HW3 := Lib.hid hw3
      have HG3 := Lib.hid hg3
      have HB3 := Lib.hid hb3
      have HM3 := Lib.hid M3
      clear hw3 hg3 hb23 hb2 hb3 M3
      go_upto_if 26 with (fail)
      rw [← HW3.out, ← HG3.out]
      go_cut [4] from 24 to 28 (fun s4 wx => s4 = .int .i64 gp ∧ wx = w3)
      case first =>
        rcases HNL.out with ⟨hl0, he⟩ | ⟨hl0, he⟩
        · have q0 : ((list.length : Int) == 0) = true := hl0
          have HE := Lib.hid he
          have hga : gp = a := by rw [HGP.out, if_pos he]
          have HGA := Lib.hid hga
          have A0 := cell_of_row w3 _ 0 _ _ _ HM3.out
          clear hl0 he hga
          go_wp2_with fail
          go_meet
          case rel => exact ⟨by rw [HGA.out], rfl⟩
        · have q0 : ((list.length : Int) == 0) = false := hl0
          have hga : gp = gen := by rw [HGP.out, if_neg he]
          have HGA := Lib.hid hga
          clear hl0 he hga
          go_wp2_with fail
          go_meet
          case rel => exact ⟨by rw [HGA.out], rfl⟩
      case rest =>
        obtain ⟨rfl, rfl⟩ := hcut
        have A0 := cell_of_row wc _ 0 _ _ _ HM3.out
        have A1 := cell_of_row wc _ 1 _ _ _ HM3.out
        have A2 := cell_of_row wc _ 2 _ _ _ HM3.out
        have HLV3 := Lib.hid (HLV.out.below HB3.out)
        have HBB := Lib.hid (HB.out.trans (HB3.out.mono HB.out.size))
        have kt := takes_any c wc
        rw [HNZ.out] at kt
        have hwr : IntKind.i64.wrap ((N : Int) - used) = (N : Int) - used := by
          simp only [IntKind.wrap, IntKind.bits, IntKind.signed]
          simp
          omega
        cases ok with
        | false =>
          have HR := Lib.hid (HREC.out.trans (recs_stop HUS.out HM.out gp HGP.out (.inl rfl)))
          go_wp2_with fail
          refine kt.mono ?_
          rintro e w4 ⟨rfl, rfl⟩
          clear kt
          rcases HNL.out with ⟨hl0, he⟩ | ⟨hl0, he⟩
          · have q0 : ((list.length : Int) == 0) = true := hl0
            have HE := Lib.hid he
            clear hl0 he
            go_wp2_with fail
            refine bodyPost_ret (v := .tuple #[.slice none 0 0, .int .i64 0, .int .i64 0, .int .i64 6]) (by simp [results, Tryz.results91, go_sem]) rfl ?_
            rw [HR.out, HE.out, ended_nil]
            exact ⟨⟨_, rfl, (RecsV.nil w.heap.size _).pieces⟩, HBB.out⟩
          · have q0 : ((list.length : Int) == 0) = false := hl0
            have HE := Lib.hid he
            clear hl0 he
            go_wp2_with fail
            refine bodyPost_ret (v := .tuple #[.slice la list.length lc, .int .i64 used, .int .i64 gp, .int .i64 0]) (by simp [results, Tryz.results91, go_sem]) rfl ?_
            rw [HR.out, ended_ne HE.out]
            exact ⟨⟨_, rfl, HLV3.out.pieces⟩, HBB.out⟩
        | true =>
          by_cases h1 : a ≠ gp
          · have na : (a != gp) = true := by simp; exact h1
            have HH1 := Lib.hid h1
            clear h1
            have HR := Lib.hid (HREC.out.trans (recs_stop HUS.out HM.out gp HGP.out (.inr (.inl HH1.out))))
            go_wp2_with fail
            refine kt.mono ?_
            rintro e w4 ⟨rfl, rfl⟩
            clear kt
            rcases HNL.out with ⟨hl0, he⟩ | ⟨hl0, he⟩
            · have q0 : ((list.length : Int) == 0) = true := hl0
              have HE := Lib.hid he
              clear hl0 he
              go_wp2_with fail
              refine bodyPost_ret (v := .tuple #[.slice none 0 0, .int .i64 0, .int .i64 0, .int .i64 6]) (by simp [results, Tryz.results91, go_sem]) rfl ?_
              rw [HR.out, HE.out, ended_nil]
              exact ⟨⟨_, rfl, (RecsV.nil w.heap.size _).pieces⟩, HBB.out⟩
            · have q0 : ((list.length : Int) == 0) = false := hl0
              have HE := Lib.hid he
              clear hl0 he
              go_wp2_with fail
              refine bodyPost_ret (v := .tuple #[.slice la list.length lc, .int .i64 used, .int .i64 gp, .int .i64 0]) (by simp [results, Tryz.results91, go_sem]) rfl ?_
              rw [HR.out, ended_ne HE.out]
              exact ⟨⟨_, rfl, HLV3.out.pieces⟩, HBB.out⟩
          · have na : (a != gp) = false := by simp; omega
            have HH1 := Lib.hid h1
            clear h1
            by_cases h2 : b ≠ (list.length : Int)
            · have nb : (b != (list.length : Int)) = true := by simp; exact h2
              have HH2 := Lib.hid h2
              clear h2
              have HR := Lib.hid (HREC.out.trans (recs_stop HUS.out HM.out gp HGP.out (.inr (.inr (.inl HH2.out)))))
              go_wp2_with fail
              refine kt.mono ?_
              rintro e w4 ⟨rfl, rfl⟩
              clear kt
              rcases HNL.out with ⟨hl0, he⟩ | ⟨hl0, he⟩
              · have q0 : ((list.length : Int) == 0) = true := hl0
                have HE := Lib.hid he
                clear hl0 he
                go_wp2_with fail
                refine bodyPost_ret (v := .tuple #[.slice none 0 0, .int .i64 0, .int .i64 0, .int .i64 6]) (by simp [results, Tryz.results91, go_sem]) rfl ?_
                rw [HR.out, HE.out, ended_nil]
                exact ⟨⟨_, rfl, (RecsV.nil w.heap.size _).pieces⟩, HBB.out⟩
              · have q0 : ((list.length : Int) == 0) = false := hl0
                have HE := Lib.hid he
                clear hl0 he
                go_wp2_with fail
                refine bodyPost_ret (v := .tuple #[.slice la list.length lc, .int .i64 used, .int .i64 gp, .int .i64 0]) (by simp [results, Tryz.results91, go_sem]) rfl ?_
                rw [HR.out, ended_ne HE.out]
                exact ⟨⟨_, rfl, HLV3.out.pieces⟩, HBB.out⟩
            · have nb : (b != (list.length : Int)) = false := by simp; omega
              have HH2 := Lib.hid h2
              clear h2
              by_cases h3 : N - used < n
              · have nc : decide ((N : Int) - used < (n : Int)) = true := by simp; omega
                have HR := Lib.hid (HREC.out.trans (recs_stop HUS.out HM.out gp HGP.out (.inr (.inr (.inr (by show ss.length - used < (takesZ c).toNat; rw [HNZ.out, ← HN.out]; omega))))))
                go_wp2_with fail
                refine kt.mono ?_
                rintro e w4 ⟨rfl, rfl⟩
                clear kt
                rcases HNL.out with ⟨hl0, he⟩ | ⟨hl0, he⟩
                · have q0 : ((list.length : Int) == 0) = true := hl0
                  have HE := Lib.hid he
                  clear hl0 he
                  go_wp2_with fail
                  refine bodyPost_ret (v := .tuple #[.slice none 0 0, .int .i64 0, .int .i64 0, .int .i64 6]) (by simp [results, Tryz.results91, go_sem]) rfl ?_
                  rw [HR.out, HE.out, ended_nil]
                  exact ⟨⟨_, rfl, (RecsV.nil w.heap.size _).pieces⟩, HBB.out⟩
                · have q0 : ((list.length : Int) == 0) = false := hl0
                  have HE := Lib.hid he
                  clear hl0 he
                  go_wp2_with fail
                  refine bodyPost_ret (v := .tuple #[.slice la list.length lc, .int .i64 used, .int .i64 gp, .int .i64 0]) (by simp [results, Tryz.results91, go_sem]) rfl ?_
                  rw [HR.out, ended_ne HE.out]
                  exact ⟨⟨_, rfl, HLV3.out.pieces⟩, HBB.out⟩
              · have nc : decide ((N : Int) - used < (n : Int)) = false := by simp; omega
                obtain ⟨hc1, hc2, hc3⟩ : 1 ≤ c ∧ c ≤ 6000 ∧ (n : Int) = 1 + (c + 63) / 64 := by
                  have h0 : 0 < takesZ c := mark_takes HM.out
                  have h1 := HNZ.out
                  unfold takesZ at h0 h1
                  split at h0
                  · omega
                  · rename_i h2
                    rw [if_neg h2] at h1
                    omega
                obtain ⟨k, hk⟩ : ∃ k : Nat, n = k + 1 := ⟨n - 1, by omega⟩
                have hkc : c ≤ 64 * k := by omega
                have hw1 : IntKind.i64.wrap ((used : Int) + 1) = ((used + 1 : Nat) : Int) := by
                  simp only [IntKind.wrap, IntKind.bits, IntKind.signed]
                  simp
                  omega
                have hw2 : IntKind.i64.wrap ((used : Int) + n) = ((used + n : Nat) : Int) := by
                  simp only [IntKind.wrap, IntKind.bits, IntKind.signed]
                  simp
                  omega
                have hle1 : used + 1 ≤ used + n := by omega
                have hle2 : used + n ≤ c0 := by omega
                have hkk : used + n - (used + 1) = k := by omega
                have hne : used + 1 ≠ c0 := by omega
                have HK := Lib.hid hk
                have HKC := Lib.hid hkc
                have HC3 := Lib.hid hc3
                clear hk hkc hc3
                go_wp2_with fail
                refine kt.mono ?_
                rintro e w4 ⟨rfl, rfl⟩
                clear kt
                go_wp2_with fail
                rw [hkk]
                go_loopw [9, 63] (fun bv z wx => ∃ j : Nat, j ≤ k ∧ z = .int .i64 j ∧ OwnB wc.heap.size wx bv ((ss.drop (used + 1)).take j).flatten ∧ Below wc.heap.size wc wx) (fun _ z _ => k - (intOf z).toNat)
                case atStart => exact ⟨0, Nat.zero_le _, rfl, Own.none _ _ _ _ _, Below.refl _ _⟩
                case round =>
                  obtain ⟨j, hj, rfl, hown, hbx⟩ := hrel
                  have HOWN := Lib.hid hown
                  have HBX := Lib.hid hbx
                  clear hown hbx
                  by_cases hjk : j < k
                  · have j0 : decide ((j : Int) < (k : Int)) = true := by simp; omega
                    have hkss : used + 1 + j < ss.length := by rw [← HN.out]; have := HK.out; omega
                    obtain ⟨b1, off1, he, _, _, _, _, hld⟩ := walLoadSec HS.out hkss
                    cases he
                    replace hld := hld wr (fun p hp => ((HBB.out.trans (HBX.out.mono HBB.out.size)).cell hp))
                    rw [show off + (used + 1 + j) * 64 = off + (used + 1) * 64 + j * 64 by omega] at hld
                    obtain ⟨Y, hY⟩ : ∃ Y, Y = (u8s ss[used + 1 + j]).toArray := ⟨_, rfl⟩
                    have hyl : ss[used + 1 + j].length = 64 := HS.out.1 _ (List.getElem_mem hkss)
                    have hYs : Y.size = 64 := by rw [hY]; simp [length_u8s, hyl]
                    have hYo : ∀ v ∈ Y.toList, v.oneCell' = true := by rw [hY]; exact oneCell_u8s _
                    rw [← hY] at hld
                    have j1 : (0 : Int) ≤ (j : Int) := by omega
                    have j2 : (j : Int) < (k : Int) := by omega
                    obtain ⟨z0, hz0, hzr⟩ := zero44
                    obtain ⟨w7, hw7, s7, g7, l7, hgg⟩ := box_alloc hz0 (Below.refl wr.heap.size wr)
                    obtain ⟨w8, hst, hbox⟩ := box_store hYs hYo g7 (Nat.le_refl _) s7
                    have hsrc : Src Tryz.prog w8 (.slice (some ⟨wr.heap.size, 0, none⟩) 64 64) 1 64 (u8s ss[used + 1 + j]) := by
                      refine Row.src (B := w8.heap.size) ⟨by rw [length_u8s, hyl], _, 64, rfl, Nat.le_refl _, by decide, fun _ => ⟨wr.heap.size, 0, rfl, block_lt hbox.2.1, fun q u hq => ?_⟩⟩
                      rw [cell_of_row w8 wr.heap.size (0 + q) _ _ _ hbox.2.1, hY]
                      simpa using hq
                    have HY := Lib.hid hY
                    have HST := Lib.hid hst
                    have HBOX := Lib.hid hbox
                    have HSRC := Lib.hid hsrc
                    have HZR := Lib.hid hzr
                    have HW7 := Lib.hid hw7
                    clear hY hst hbox hsrc hzr hw7 hz0 g7 s7 l7 hyl hYs hYo hgg
                    go_wp2_with (refine wp_load_at (.tmp 65) 94 rfl rfl rfl hld ?_; clear hld; refine Halt.in ?_)
                    refine Halt.out ?_
                    refine wp_alloc_to (w' := w7) 94 rfl rfl (HZR.out _) HW7.out ?_
                    refine wp_store_at (.tmp 11) (.tmp 66) 94 rfl rfl rfl rfl HST.out ?_
                    have hbl : (((ss.drop (used + 1)).take j).flatten).length ≤ 64 * j := flat64_le _ (fun s hs' => HS.out.1 s (List.mem_of_mem_drop (List.mem_of_mem_take hs'))) j (by simp; omega)
                    have hl46 : (((ss.drop (used + 1)).take j).flatten).length + (ss[used + 1 + j]).length ≤ 2 ^ 46 := by rw [HS.out.1 _ (List.getElem_mem hkss)]; omega
                    have hown8 : OwnB wc.heap.size w8 u9 ((ss.drop (used + 1)).take j).flatten := HOWN.out.below HBOX.out.2.2 (Nat.le_refl _)
                    have hB8 : wc.heap.size ≤ w8.heap.size := Nat.le_trans HBX.out.size HBOX.out.2.2.size
                    have hsn : ((ss.drop (used + 1)).take (j + 1)).flatten = ((ss.drop (used + 1)).take j).flatten ++ ss[used + 1 + j] := by
                      rw [List.take_add_one, List.getElem?_drop, List.getElem?_eq_getElem hkss]; simp
                    have HSN := Lib.hid hsn
                    have hyl : ss[used + 1 + j].length = 64 := HS.out.1 _ (List.getElem_mem hkss)
                    have hsrc : Src Tryz.prog w8 (.slice (some ⟨wr.heap.size, 0, none⟩) 64 64) 1 (ss[used + 1 + j]).length (u8s ss[used + 1 + j]) := by rw [hyl]; exact HSRC.out
                    have HSR := Lib.hid hsrc
                    have HL46 := Lib.hid hl46
                    clear hsn hyl hbl hl46 hsrc HSRC
                    go_wp2_with (at_builtin; refine ap_u8 rfl (.tmp 67) (.tmp 68) 23 rfl (.inl ⟨_, Tryz.underlying23⟩) rfl rfl hown8 HSR.out HL46.out hB8 ?_; intro v2 w9 hown2 hb2)
                    have HF := Lib.hid (show OwnB wc.heap.size w9 v2 ((ss.drop (used + 1)).take (j + 1)).flatten by rw [HSN.out]; exact hown2)
                    have HBF := Lib.hid ((HBX.out.trans (HBOX.out.2.2.mono HBX.out.size)).trans hb2)
                    clear hown2 hb2 hown8 hB8
                    go_wp2_with fail
                    go_roundw
                    case rel => exact ⟨j + 1, by omega, by go_num, HF.out, HBF.out⟩
                    case measure => simp [intOf]; omega
                  · have j0 : decide ((j : Int) < (k : Int)) = false := by simp; omega
                    have hjk' : j = k := by omega
                    have HJK := Lib.hid hjk'
                    clear hjk'
                    obtain ⟨cn, rfl⟩ : ∃ cn : Nat, c = (cn : Int) := ⟨c.toNat, by omega⟩
                    obtain ⟨bsA, hbsA⟩ : ∃ b, b = ((ss.drop (used + 1)).take j).flatten := ⟨_, rfl⟩
                    have hb9 := HOWN.out.bytes
                    rw [← hbsA] at hb9
                    have hLA : bsA.length = 64 * k := by
                      rw [hbsA, flat64_eq _ (fun s hs' => HS.out.1 s (List.mem_of_mem_drop (List.mem_of_mem_take hs'))), List.length_take, List.length_drop, HJK.out, ← HN.out]
                      have := HK.out
                      omega
                    have hcl : cn ≤ bsA.length := by have := HKC.out; omega
                    obtain ⟨_, a9, c9, rfl, hl9, hc9, hcells⟩ := id hb9
                    have hl9' : cn ≤ c9 := Nat.le_trans hcl hl9
                    obtain ⟨bs, hbs⟩ : ∃ bs, bs = bsA.take cn := ⟨_, rfl⟩
                    have hbl : bs.length = cn := by rw [hbs, List.length_take]; omega
                    have hbv : Bytes wr.heap.size wr (.slice a9 cn c9) bs := by
                      refine ⟨by rw [length_u8s]; omega, a9, c9, by rw [hbl], by omega, hc9, fun hp => ?_⟩
                      obtain ⟨b9, o9, h1, h2, h3⟩ := hcells (by omega)
                      refine ⟨b9, o9, h1, h2, fun q u hq => h3 q u ?_⟩
                      rw [hbs, ← u8s_take] at hq
                      rw [List.getElem?_take] at hq
                      split at hq
                      · exact hq
                      · cases hq
                    have hM := (HBX.out.block g3 (block_lt HM3.out)).trans HM3.out
                    have hAll : Below w.heap.size w wr := HBB.out.trans (HBX.out.mono HBB.out.size)
                    have A2 := cell_of_row wr _ 2 _ _ _ hM
                    have hA3 : ∀ w', Below wr.heap.size wr w' → w'.cell? ⟨g3, 3, none⟩ = some (.int .u32 D) := fun w' h => cell_of_row w' _ 3 _ _ _ ((h.block _ (block_lt hM)).trans hM)
                    have h00 : Below wr.heap.size wr wr.drew := below_draws (Below.refl _ _) 1
                    have ks := sum_any (.slice a9 cn c9) bs wr.drew wr.heap.size (HT.out.below (hAll.trans (h00.mono hAll.size)) hT) (hbv.below h00)
                    obtain ⟨sm, hsm⟩ : ∃ s, s = SumP.toI (SumP.sum bs) := ⟨_, rfl⟩
                    rw [← hsm] at ks
                    have HSM := Lib.hid hsm
                    have HBV := Lib.hid hbv
                    have HALL := Lib.hid hAll
                    have HBSA := Lib.hid hbsA
                    have HBS := Lib.hid hbs
                    have HLA := Lib.hid hLA
                    clear hsm hbv hAll hbsA hbs hM hb9 hcells hLA hbl
                    go_upto_region 14 with (fail)
                    by_cases hsd : sm = D
                    · have sd : (sm != D) = false := by simp [hsd]
                      have HSD := Lib.hid hsd
                      clear hsd
                      go_wp2_with fail
                      refine wp_region_I [(false, 0), (false, 2), (false, 3), (true, 1), (false, 4)] (fun w' => Below wr.heap.size wr w') (by kernel_rfl) (by kernel_rfl) h00 ?_
                      repeat (first | (refine heldI_skip rfl rfl ?_; simp only [Act.put, List.setIfInBounds_toArray, List.set_cons_zero, List.set_cons_succ]) | (refine heldI_take rfl ?_ rfl (fun w' hw' => ?_) ?_; rotate_left; (go_simp; first | done | with_reducible rfl); (try simp only [Act.put, List.setIfInBounds_toArray, List.set_cons_zero, List.set_cons_succ])))
                      refine heldI_act rfl rfl fun K hK => ?_
                      go_simp
                      refine ks.mono ?_
                      rintro e w9 ⟨rfl, rfl⟩
                      refine hK.out _ _ h00 ?_
                      clear hK K ks
                      repeat (first | (refine heldI_skip rfl rfl ?_; simp only [Act.put, List.setIfInBounds_toArray, List.set_cons_zero, List.set_cons_succ]) | (refine heldI_take rfl ?_ rfl (fun w' hw' => ?_) ?_; rotate_left; (go_simp; first | done | with_reducible rfl); (try simp only [Act.put, List.setIfInBounds_toArray, List.set_cons_zero, List.set_cons_succ])))
                      refine heldI_nil ?_
                      have kc := clip_any (n := cn) (c := c9) a9 wr.drew hl9' hc9
                      have hv9 := bytes_clip HBV.out
                      have hap := HLV3.out.apart9 (d := cn) HOWN.out (Nat.le_refl _) hcl
                      have hel3 := HLV3.out.below HBX.out
                      obtain ⟨hb8, hsrc8, vs, hvl, hown8, hel8, hv8⟩ := round_parts (w8 := (wr.alloc (.cells #[.slice a9 cn cn] 23)).drew) rfl hel3 hv9
                      have HB8 := Lib.hid hb8
                      have HEL8 := Lib.hid hel8
                      have HV8 := Lib.hid hv8
                      have HVL := Lib.hid hvl
                      have HAP := Lib.hid hap
                      have HSL9 := Lib.hid (sl9 (B := w.heap.size) (d := cn) HOWN.out (Nat.le_trans HBB.out.size (Nat.le_refl _)) hcl)
                      clear hb8 hel8 hv8 hv9 hvl hap hel3
                      have hone8 : ∀ u ∈ [Value.slice a9 cn cn], u.oneCell' = true := fun u hu => by rw [List.mem_singleton.1 hu]; rfl
                      obtain ⟨i0, z0, hi0, hz0, hz1, hz2, hz3⟩ := zero_parts infoz_bytes
                      have R1 : list.length + 1 ≤ maxLen := by unfold maxLen; omega
                      have R2 : (list.length + 1) * 24 ≤ 140737488355328 := by omega
                      have hB8 : w.heap.size ≤ (wr.alloc (.cells #[.slice a9 cn cn] 23)).drew.heap.size := Nat.le_trans HALL.out.size HB8.out.size
                      go_wp2_with fail
                      refine kc.mono ?_
                      rintro e w9 ⟨rfl, rfl⟩
                      clear kc
                      go_wp2_with (at_builtin; refine wp_append_apart rfl (.tmp 81) (.tmp 84) 66 66 23 rfl i0 z0 1 24 Tryz.underlying66 (.inl ⟨_, Tryz.underlying66⟩) hi0 hz0 hz1 hz2 hz3 rfl rfl hown8 hsrc8 hone8 R1 R2 hB8 (Nat.lt_succ_self 0) ?_; intro v2 w11 hown11 hb11 hg11; refine Halt.in ?_)
                      refine Halt.out ?_
                      have HR11 := Lib.hid (RecsV.snoc HVL.out hown11 HEL8.out HV8.out HAP.out HSL9.out hg11)
                      have HB11 := Lib.hid ((HALL.out.trans (HB8.out.mono HALL.out.size)).trans hb11)
                      clear hsrc8 hone8 hi0 hz0 hz1 hz2 hz3 hown8 R1 R2 hB8 hown11 hb11 hg11
                      go_wp2_with fail
                      go_roundw
                      case rel =>
                        refine ⟨list ++ [bs], used + n, gp, f, HR11.out, rfl, rfl, by omega, by rw [List.length_append, List.length_singleton]; omega, by omega, ?_, HB11.out⟩
                        rw [HREC.out, recs_step HUS.out HM.out gp HGP.out HNZ.out (Classical.not_not.1 HH1.out) (Classical.not_not.1 HH2.out) (by rw [← HN.out]; exact h3) bs (by rw [HBS.out, HBSA.out, HJK.out, HK.out]; rfl), if_neg (by rw [← HSM.out]; exact fun h => h HSD.out)]
                      case measure => simp [intOf]; omega
                    · have sd : (sm != D) = true := by simp [hsd]
                      go_wp2_with fail
                      refine wp_region_I [(false, 0), (false, 2), (false, 3), (true, 1), (false, 4)] (fun w' => Below wr.heap.size wr w') (by kernel_rfl) (by kernel_rfl) h00 ?_
                      repeat (first | (refine heldI_skip rfl rfl ?_; simp only [Act.put, List.setIfInBounds_toArray, List.set_cons_zero, List.set_cons_succ]) | (refine heldI_take rfl ?_ rfl (fun w' hw' => ?_) ?_; rotate_left; (go_simp; first | done | with_reducible rfl); (try simp only [Act.put, List.setIfInBounds_toArray, List.set_cons_zero, List.set_cons_succ])))
                      refine heldI_act rfl rfl fun K hK => ?_
                      go_simp
                      refine ks.mono ?_
                      rintro e w9 ⟨rfl, rfl⟩
                      refine hK.out _ _ h00 ?_
                      clear hK K ks
                      repeat (first | (refine heldI_skip rfl rfl ?_; simp only [Act.put, List.setIfInBounds_toArray, List.set_cons_zero, List.set_cons_succ]) | (refine heldI_take rfl ?_ rfl (fun w' hw' => ?_) ?_; rotate_left; (go_simp; first | done | with_reducible rfl); (try simp only [Act.put, List.setIfInBounds_toArray, List.set_cons_zero, List.set_cons_succ])))
                      refine heldI_nil ?_
                      go_wp2_with fail
                      refine bodyPost_ret (v := .tuple #[.slice none 0 0, .int .i64 0, .int .i64 gp, .int .i64 10]) (by simp [results, Tryz.results91, go_sem]) rfl ?_
                      have hall : recordsP ss = ([], 0, gp, 10) := by
                        rw [HREC.out, recs_step HUS.out HM.out gp HGP.out HNZ.out (Classical.not_not.1 HH1.out) (Classical.not_not.1 HH2.out) (by rw [← HN.out]; exact h3) bs (by rw [HBS.out, HBSA.out, HJK.out, HK.out]; rfl), if_pos (by rw [← HSM.out]; exact hsd)]
                      rw [hall]
                      exact ⟨⟨_, rfl, (RecsV.nil w.heap.size _).pieces⟩, below_draws HALL.out 1⟩
    · have u0 : decide ((used : Int) < (N : Int)) = false := by simp; omega
      have HR := Lib.hid (HREC.out.trans (recs_end (by rw [← HN.out]; exact hun)))
      rcases HNL.out with ⟨hl0, he⟩ | ⟨hl0, he⟩
      · have q0 : ((list.length : Int) == 0) = true := hl0
        have HE := Lib.hid he
        clear hl0 he
        go_wp2_with fail
        refine bodyPost_ret (v := .tuple #[.slice none 0 0, .int .i64 0, .int .i64 0, .int .i64 6]) (by simp [results, Tryz.results91, go_sem]) rfl ?_
        rw [HR.out, HE.out, ended_nil]
        exact ⟨⟨_, rfl, (RecsV.nil w.heap.size _).pieces⟩, HB.out⟩
      · have q0 : ((list.length : Int) == 0) = false := hl0
        have HE := Lib.hid he
        clear hl0 he
        go_wp2_with fail
        refine bodyPost_ret (v := .tuple #[.slice la list.length lc, .int .i64 used, .int .i64 gen, .int .i64 0]) (by simp [results, Tryz.results91, go_sem]) rfl ?_
        rw [HR.out, ended_ne HE.out]
        exact ⟨⟨_, rfl, HLV.out.pieces⟩, HB.out⟩
end Go.Proofs.YtaijompnohkmaaaGreatDoor
/- Layer 5 (wal), plainly: bounds on what is found in a half. -/
namespace Go.Proofs.YtaijompnohkmaaaGreatDoor
namespace WalP
theorem recsGo_bounds (l : List (List UInt8)) : ∀ (f : Nat) (list : List (List UInt8)) (used : Nat) (gen : Int), (∀ b ∈ list, b.length ≤ 6000) → list.length ≤ used → used ≤ l.length →
    (∀ b ∈ (recsGo l f list used gen).1, b.length ≤ 6000) ∧ (recsGo l f list used gen).1.length ≤ l.length
  | 0, list, used, gen, h1, h2, h3 => by
    simp only [recsGo]
    split
    · exact ⟨fun b hb => absurd hb List.not_mem_nil, Nat.zero_le _⟩
    · exact ⟨h1, Nat.le_trans h2 h3⟩
  | f + 1, list, used, gen, h1, h2, h3 => by
    simp only [recsGo]
    generalize (if list = [] then (readMark (l.getD used [])).1.gen else gen) = g'
    split
    · split
      · split
        · exact ⟨fun b hb => absurd hb List.not_mem_nil, Nat.zero_le _⟩
        · exact ⟨h1, Nat.le_trans h2 h3⟩
      · rename_i hu hc
        have hok : (readMark (l.getD used [])).2 = true := by
          cases e : (readMark (l.getD used [])).2 with
          | true => rfl
          | false => exact absurd (.inl e) hc
        have ht : 0 < takesZ (readMark (l.getD used [])).1.length := by
          simp only [readMark, Bool.and_eq_true, decide_eq_true_eq] at hok ⊢
          exact hok.2
        have h4 : ¬ l.length - used < (takesZ (readMark (l.getD used [])).1.length).toNat := fun h => hc (.inr (.inr (.inr h)))
        have h5 : (readMark (l.getD used [])).1.length ≤ 6000 := by
          generalize (readMark (l.getD used [])).1.length = z at ht
          unfold takesZ at ht
          split at ht <;> omega
        split
        · exact ⟨fun b hb => absurd hb List.not_mem_nil, Nat.zero_le _⟩
        · refine recsGo_bounds l f _ _ _ (fun b hb => ?_) (by rw [List.length_append, List.length_singleton]; omega) (by omega)
          rcases List.mem_append.1 hb with hb | hb
          · exact h1 b hb
          · rw [List.mem_singleton.1 hb, List.length_take]
            omega
    · split
      · exact ⟨fun b hb => absurd hb List.not_mem_nil, Nat.zero_le _⟩
      · exact ⟨h1, Nat.le_trans h2 h3⟩
theorem records_bounds (l : List (List UInt8)) : (∀ b ∈ (recordsP l).1, b.length ≤ 6000) ∧ (recordsP l).1.length ≤ l.length :=
  recsGo_bounds l _ [] 0 0 (fun b hb => absurd hb List.not_mem_nil) (Nat.le_refl _) (Nat.zero_le _)
end WalP
end Go.Proofs.YtaijompnohkmaaaGreatDoor
