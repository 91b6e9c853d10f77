/- Layer 5 (wal), plainly: what a fall leaves of a log, whenever it comes, whatever stays. -/
import Derived.Test.YtaijompnohkmaaaDoorZWalF
namespace Go.Proofs.YtaijompnohkmaaaDoor
namespace WalP
/-- A half's first sector tells no mark, or one of a lesser generation. -/
def low (t : List (List UInt8)) (F : Nat) (g : Int) : Prop := ∀ s, t[F]? = some s → (readMark s).2 = true → (readMark s).1.gen < g
/-- Where a half begins. -/
def base (S : Nat) (w : Int) : Nat := w.toNat * (S / 2)
/-- Records are kept in a half of sectors. -/
structure KeptAt (S : Nat) (t : List (List UInt8)) (w gen : Int) (list : List (List UInt8)) : Prop where
  len : t.length = S
  hS : S ≤ 4096
  hw : w = 0 ∨ w = 1
  g0 : 1 ≤ gen
  ne : list ≠ []
  tk : ∀ b ∈ list, takes b.length ≠ 0
  fits : posN list ≤ S / 2
  here : ∃ z, hv t (base S w) (S / 2) = recsV gen 0 list ++ z ∧ (0 < z.length → (readMark (z.getD 0 [])).2 = false)
  other : low t (base S (1 - w)) gen
theorem base_facts {S : Nat} {w : Int} (hw : w = 0 ∨ w = 1) : w * ((S / 2 : Nat) : Int) = (base S w : Nat) ∧ (1 - w) * ((S / 2 : Nat) : Int) = (base S (1 - w) : Nat) ∧ base S w + S / 2 ≤ S ∧ base S (1 - w) + S / 2 ≤ S ∧ (base S w + S / 2 ≤ base S (1 - w) ∨ base S (1 - w) + S / 2 ≤ base S w) := by
  unfold base
  rcases hw with rfl | rfl
  · refine ⟨by simp, by simp, by simp; omega, by simp; omega, by simp⟩
  · refine ⟨by simp, by simp, by simp; omega, by simp; omega, by simp⟩
theorem zeroS_none {t : List (List UInt8)} {F : Nat} {g : Int} (h : t[F]? = some zeroS) : low t F g := fun s hs hm => by
  rw [h] at hs
  cases hs
  rw [zero_none] at hm
  cases hm
/-- The elder half is as it was; the other one's first sector too, or it is empty. -/
theorem KeptAt.old {S : Nat} {t0 t : List (List UInt8)} {w gen : Int} {list : List (List UInt8)} (h : KeptAt S t0 w gen list) (hl : t.length = S) (he : ∀ i, base S w ≤ i → i < base S w + S / 2 → t[i]? = t0[i]?) (ho : t[base S (1 - w)]? = t0[base S (1 - w)]? ∨ t[base S (1 - w)]? = some zeroS) : KeptAt S t w gen list := by
  refine ⟨hl, h.hS, h.hw, h.g0, h.ne, h.tk, h.fits, ?_, ?_⟩
  · have e : hv t (base S w) (S / 2) = hv t0 (base S w) (S / 2) := by
      apply List.ext_getElem?
      intro i
      rw [hv_at, hv_at]
      by_cases hi : i < S / 2
      · rw [if_pos hi, if_pos hi, he _ (by omega) (by omega)]
      · rw [if_neg hi, if_neg hi]
    rw [e]
    exact h.here
  · rcases ho with ho | ho
    · intro s hs
      rw [ho] at hs
      exact h.other s hs
    · exact zeroS_none ho
/-- The mark at the head of a half. -/
theorem KeptAt.first {S : Nat} {t : List (List UInt8)} {w gen : Int} {list : List (List UInt8)} (h : KeptAt S t w gen list) (hg : gen ≤ 1099511627776) : low t (base S w) (gen + 1) := by
  obtain ⟨z, hz, _⟩ := h.here
  obtain ⟨b, l, hbl⟩ : ∃ b l, list = b :: l := by cases hl : list with | nil => exact absurd hl h.ne | cons b l => exact ⟨b, l, rfl⟩
  have hb := h.tk b (by rw [hbl]; exact List.mem_cons_self ..)
  have hp : 0 < S / 2 := by have := posN_two h.ne h.tk; have := h.fits; omega
  have e : t[base S w]? = some (markOf gen 0 b) := by
    have e1 := hv_at t (base S w) (S / 2) 0
    rw [if_pos hp, Nat.add_zero, hz, hbl] at e1
    rw [← e1]; simp [recsV, recV]
  intro s hs hm
  rw [e] at hs
  cases hs
  have hb' := markOf_back (gen := gen) (k := 0) (b := b) h.g0 hg (by omega) hb
  rw [hb']
  show gen < gen + 1
  omega
theorem recsD_at (gen : Int) : ∀ (l : List (List UInt8)) (a k : Nat), (∀ b ∈ l, takes b.length ≠ 0) → ∀ y ∈ recsD gen a k l, ∃ (p : Nat) (s : List UInt8), y = .put p s ∧ a ≤ p ∧ p < a + posN l ∧ (k = 0 → a < p)
  | [], a, k, _, y, hy => absurd hy List.not_mem_nil
  | b :: l, a, k, hb, y, hy => by
    have h0 := hb b (List.mem_cons_self ..)
    have hc := takes_chunks h0
    rw [length_chunks] at hc
    have h2 := takes_two h0
    simp only [recsD] at hy
    rw [posN_cons]
    rcases List.mem_append.1 hy with hy | hy
    · unfold recD at hy
      rcases List.mem_append.1 hy with hy | hy
      · unfold bytesD at hy
        obtain ⟨i, hi, rfl⟩ := List.mem_map.1 hy
        rw [List.mem_range] at hi
        exact ⟨a + 1 + i, _, by congr 1, by omega, by omega, fun _ => by omega⟩
      · split at hy
        · rw [List.mem_singleton.1 hy]
          exact ⟨a, _, rfl, by omega, by omega, fun h => by omega⟩
        · exact absurd hy List.not_mem_nil
    · rw [show ((a : Int) + (takes b.length : Nat)) = ((a + takes b.length : Nat) : Int) by omega] at hy
      obtain ⟨p, s, rfl, h1, h3, _⟩ := recsD_at gen l (a + takes b.length) (k + 1) (fun x hx => hb x (List.mem_cons_of_mem _ hx)) y hy
      exact ⟨p, s, rfl, by omega, by omega, fun _ => by omega⟩
theorem after_apart {i : Nat} : ∀ (ds : List Deed) (v : List (List UInt8)), (∀ y ∈ ds, ∃ (p : Nat) (s : List UInt8), y = .put p s ∧ p ≠ i) → (after v ds)[i]? = v[i]?
  | [], v, _ => rfl
  | y :: ds, v, h => by
    obtain ⟨p, s, rfl, hp⟩ := h y (List.mem_cons_self ..)
    show (after (v.set (p : Int).toNat s) ds)[i]? = _
    rw [after_apart ds _ (fun z hz => h z (List.mem_cons_of_mem _ hz)), List.getElem?_set_ne (by omega)]
theorem Settled.none {ss t : List (List UInt8)} (h : Settled (ss, []) t) : t = ss := by
  apply List.ext_getElem?
  intro i
  rcases h.each i with h | ⟨x, hx, _⟩
  · exact h
  · exact absurd hx List.not_mem_nil
theorem Settled.one {ss t : List (List UInt8)} {a : Nat} {s : List UInt8} (h : Settled (ss, [⟨(a : Int), s⟩]) t) : t = ss ∨ t = ss.set a s := by
  by_cases ha : t[a]? = ss[a]?
  · left
    apply List.ext_getElem?
    intro i
    rcases h.each i with h | ⟨x, hx, h1, _⟩
    · exact h
    · rw [List.mem_singleton.1 hx] at h1
      have : a = i := by have : (a : Int) = i := h1; omega
      rw [← this]; exact ha
  · right
    apply List.ext_getElem?
    intro i
    rw [List.getElem?_set]
    by_cases hi : a = i
    · subst hi
      rw [if_pos rfl]
      rcases h.each a with h' | ⟨x, hx, _, h2⟩
      · exact absurd h' ha
      · rw [List.mem_singleton.1 hx] at h2
        have hl : a < t.length := (List.getElem?_eq_some_iff.1 h2).1
        have hlen : t.length = ss.length := h.len
        rw [if_pos (by omega), h2]
    · rw [if_neg hi]
      rcases h.each i with h | ⟨x, hx, h1, _⟩
      · exact h
      · rw [List.mem_singleton.1 hx] at h1
        have : (a : Int) = i := h1
        omega
/-- A half is laid, or the disk falls: then the elder half holds, or the new one does. -/
theorem lay_falls {S : Nat} {d : DiskP} {w gen : Int} {list0 list : List (List UInt8)} (hu : Up S 0 d) (hk : KeptAt S d.secs w gen list0) (hg : gen ≤ 1099511627775) (hne : list ≠ []) (hb : ∀ b ∈ list, takes b.length ≠ 0) (hn : posN list ≤ S / 2) :
    ((run d (layD (S / 2) (1 - w) (gen + 1) list)).2 = 0 ∧ Up S 0 (run d (layD (S / 2) (1 - w) (gen + 1) list)).1 ∧ KeptAt S (run d (layD (S / 2) (1 - w) (gen + 1) list)).1.secs (1 - w) (gen + 1) list ∧
      hv (run d (layD (S / 2) (1 - w) (gen + 1) list)).1.secs (base S (1 - w)) (S / 2) = recsV (gen + 1) 0 list ++ List.replicate (S / 2 - posN list) zeroS ∧ (d.fuse = -1 → (run d (layD (S / 2) (1 - w) (gen + 1) list)).1.fuse = -1)) ∨
    ((run d (layD (S / 2) (1 - w) (gen + 1) list)).2 = 9 ∧ Fell S 100000 (run d (layD (S / 2) (1 - w) (gen + 1) list)).1 ∧ d.fuse ≠ -1 ∧ ∀ t, Settled ((run d (layD (S / 2) (1 - w) (gen + 1) list)).1.secs, (run d (layD (S / 2) (1 - w) (gen + 1) list)).1.loose) t → KeptAt S t w gen list0 ∨ KeptAt S t (1 - w) (gen + 1) list) := by
  obtain ⟨b1, b2, b3, b4, b5⟩ := base_facts (S := S) hk.hw
  have hS := hk.hS
  have hL := hk.len
  obtain ⟨F, hF⟩ : ∃ F, F = base S (1 - w) := ⟨_, rfl⟩
  obtain ⟨H, hH⟩ : ∃ H, H = S / 2 := ⟨_, rfl⟩
  have hlo : d.loose = [] := List.eq_nil_of_length_eq_zero (Nat.le_zero.1 hu.len)
  have hfit := fit_lay (S := S) (F := F) (gen := gen + 1) hne hb hn (by rw [hF]; omega) (1 - w) (by rw [hF]; exact b2)
  have hlen := length_layD (H := S / 2) (which := 1 - w) (gen := gen + 1) hb
  obtain ⟨s0, hs0⟩ : ∃ s0, s0 = d.secs := ⟨_, rfl⟩
  rw [← hs0] at hk hL
  have hH2 : 2 ≤ H := by have := posN_two hne hb; omega
  have hFH : F + H ≤ s0.length := by rw [hF, hH, hL]; exact b4
  have e1 : (1 - w) * ((S / 2 : Nat) : Int) = (F : Int) := by rw [hF]; exact b2
  have hview := lay_view (v := s0) (F := F) (H := H) (gen := gen + 1) hne hb (by rw [hH]; exact hn) hFH (1 - w) (by rw [hH]; exact e1)
  have hfar := lay_far (v := s0) (F := F) (H := H) (F' := base S w) (gen := gen + 1) hne hb (by rw [hH]; exact hn) hFH (1 - w) (by rw [hH]; exact e1) (by rw [hH, hF]; omega)
  have hnew : KeptAt S (after s0 (layD H (1 - w) (gen + 1) list)) (1 - w) (gen + 1) list := by
    refine ⟨by rw [length_after]; exact hL, hS, by have := hk.hw; omega, by have := hk.g0; omega, hne, hb, hn, ⟨_, by rw [← hF, ← hH]; exact hview, fun h => ?_⟩, ?_⟩
    · rw [List.length_replicate] at h
      rw [List.getD_eq_getElem?_getD, List.getElem?_replicate, if_pos h]
      exact zero_none
    · rw [show 1 - (1 - w) = w by omega]
      intro s hs hm
      have e := hv_at (after s0 (layD H (1 - w) (gen + 1) list)) (base S w) H 0
      rw [hfar, hv_at, if_pos (by omega), if_pos (by omega), Nat.add_zero] at e
      rw [← e] at hs
      exact hk.first (by omega) s hs hm
  have hold : ∀ t, t.length = S → (∀ i, ¬ (F ≤ i ∧ i < F + H) → t[i]? = s0[i]?) → (t[F]? = s0[F]? ∨ t[F]? = some zeroS) → KeptAt S t w gen list0 := fun t h1 h2 h3 =>
    hk.old h1 (fun i hi1 hi2 => h2 i (by rw [hF, hH]; omega)) (by rw [← hF]; exact h3)
  have hnewQ : ∀ t, t = after s0 (layD H (1 - w) (gen + 1) list) → KeptAt S t (1 - w) (gen + 1) list := fun t h => h ▸ hnew
  -- the phases
  obtain ⟨s1, hs1⟩ : ∃ s1, s1 = after s0 (zerosD F H) := ⟨_, rfl⟩
  have hs1w : s1 = wr s0 F (List.replicate H zeroS) := by rw [hs1, zeros_after]
  have hl1 : s1.length = S := by rw [hs1, length_after]; exact hL
  have h1F : s1[F]? = some zeroS := by
    rw [hs1w, wr_at _ _ _ _ (by simp; exact hFH), if_pos (by simp; omega), List.getElem?_replicate, if_pos (by omega)]
  have h1o : ∀ i, ¬ (F ≤ i ∧ i < F + H) → s1[i]? = s0[i]? := fun i hi => by
    rw [hs1w, wr_at _ _ _ _ (by simp; exact hFH), if_neg (by simpa using hi)]
  obtain ⟨s2, hs2⟩ : ∃ s2, s2 = after s1 (recsD (gen + 1) F 0 list) := ⟨_, rfl⟩
  have hl2 : s2.length = S := by rw [hs2, length_after]; exact hl1
  have hrec := recsD_at (gen + 1) list F 0 hb
  have h2F : s2[F]? = some zeroS := by
    rw [hs2, after_apart _ _ (fun y hy => ?_), h1F]
    obtain ⟨p, s, h1, h2, h3, h4⟩ := hrec y hy
    exact ⟨p, s, h1, by have := h4 rfl; omega⟩
  have h2o : ∀ i, ¬ (F ≤ i ∧ i < F + H) → s2[i]? = s0[i]? := fun i hi => by
    rw [hs2, after_apart _ _ (fun y hy => ?_), h1o i hi]
    obtain ⟨p, s, h1, h2, h3, h4⟩ := hrec y hy
    exact ⟨p, s, h1, by omega⟩
  have hlay : layD (S / 2) (1 - w) (gen + 1) list = (zerosD F H ++ [.flush]) ++ ((recsD (gen + 1) F 0 list ++ [.flush]) ++ [.put F (markOf (gen + 1) 0 (list.headD [])), .flush]) := by
    unfold layD
    rw [← hH, hH, e1, ← hH]
    simp
  have hafter : after s0 (layD H (1 - w) (gen + 1) list) = s2.set F (markOf (gen + 1) 0 (list.headD [])) := by
    rw [hH, hlay, after_append, after_append s0 (zerosD F H), ← hs1]
    show after s1 ((recsD (gen + 1) F 0 list ++ [.flush]) ++ _) = _
    rw [after_append, after_append, ← hs2]
    rfl
  have hfz : ∀ x ∈ zerosD F H, fit S x := fun x hx => hfit x (by rw [hlay]; simp [hx])
  have hfr : ∀ x ∈ recsD (gen + 1) F 0 list, fit S x := fun x hx => hfit x (by rw [hlay]; simp [hx])
  obtain ⟨Q, hQ⟩ : ∃ Q : St → Prop, Q = fun s => ∀ t, Settled s t → KeptAt S t w gen list0 ∨ KeptAt S t (1 - w) (gen + 1) list := ⟨_, rfl⟩
  have hfalls : falls Q (s0, []) (layD (S / 2) (1 - w) (gen + 1) list) := by
    rw [hlay]
    -- zeros
    have pA : ∀ ls : List WriteP, (∀ x ∈ ls, ((F : Int) ≤ x.at_ ∧ x.at_ < F + H) ∧ x.data = zeroS) → Q (s0, ls) := by
      intro ls hls
      rw [hQ]
      intro t ht
      left
      refine hold t (ht.len.trans hL) (fun i hi => ?_) ?_
      · rcases ht.each i with h | ⟨x, hx, h1, _⟩
        · exact h
        · have := (hls x hx).1; omega
      · rcases ht.each F with h | ⟨x, hx, h1, h2⟩
        · exact .inl h
        · right; rw [h2, (hls x hx).2]
    obtain ⟨fA, lsA, sA, hA⟩ := falls_puts (P := fun x => ((F : Int) ≤ x.at_ ∧ x.at_ < F + H) ∧ x.data = zeroS) s0 pA (zerosD F H) [] (fun x hx => absurd hx List.not_mem_nil) (fun y hy => by
      unfold zerosD at hy
      obtain ⟨i, hi, rfl⟩ := List.mem_map.1 hy
      rw [List.mem_range] at hi
      exact ⟨_, _, rfl, ⟨by show (F : Int) ≤ F + i; omega, by show (F : Int) + i < F + H; omega⟩, rfl⟩)
    have fA' : falls Q (s0, []) (zerosD F H ++ [.flush]) := falls_append Q _ _ _ fA (by rw [sA]; exact ⟨pA lsA hA, trivial⟩)
    refine falls_append Q _ _ _ fA' ?_
    rw [steps_flush _ (by rw [hL]; exact hfz), ← hs1]
    -- records
    have pB : ∀ ls : List WriteP, (∀ x ∈ ls, (F : Int) < x.at_ ∧ x.at_ < F + H) → Q (s1, ls) := by
      intro ls hls
      rw [hQ]
      intro t ht
      left
      refine hold t (ht.len.trans hl1) (fun i hi => ?_) ?_
      · rcases ht.each i with h | ⟨x, hx, h1, _⟩
        · exact h.trans (h1o i hi)
        · have := hls x hx; omega
      · rcases ht.each F with h | ⟨x, hx, h1, h2⟩
        · exact .inr (h.trans h1F)
        · have := hls x hx; omega
    obtain ⟨fB, lsB, sB, hB⟩ := falls_puts (P := fun x => (F : Int) < x.at_ ∧ x.at_ < F + H) s1 pB (recsD (gen + 1) F 0 list) [] (fun x hx => absurd hx List.not_mem_nil) (fun y hy => by
      obtain ⟨p, s, h1, h2, h3, h4⟩ := hrec y hy
      have := h4 rfl
      exact ⟨p, s, h1, by show (F : Int) < p; omega, by show (p : Int) < F + H; omega⟩)
    have fB' : falls Q (s1, []) (recsD (gen + 1) F 0 list ++ [.flush]) := falls_append Q _ _ _ fB (by rw [sB]; exact ⟨pB lsB hB, trivial⟩)
    refine falls_append Q _ _ _ fB' ?_
    rw [steps_flush _ (by rw [hl1]; exact hfr), ← hs2]
    -- the mark
    refine ⟨?_, ?_, trivial⟩
    · rw [hQ]
      intro t ht
      rw [ht.none]
      exact .inl (hold s2 hl2 h2o (.inr h2F))
    · rw [hQ]
      intro t ht
      rcases Settled.one ht with h | h
      · rw [h]
        exact .inl (hold s2 hl2 h2o (.inr h2F))
      · right
        exact hnewQ t (by rw [h, hafter])
  have hend : steps (s0, []) (layD (S / 2) (1 - w) (gen + 1) list) = (after s0 (layD H (1 - w) (gen + 1) list), []) := by
    obtain ⟨es, hes⟩ := layD_last (S / 2) (1 - w) (gen + 1) list
    rw [hes, steps_flush _ (fun x hx => by rw [hL]; exact hfit x (by rw [hes]; simp [hx])), hH, hes, after_append]
    rfl
  have hmain := run_falls hS (Q := Q) (layD (S / 2) (1 - w) (gen + 1) list) hu (by omega) hfit (by rw [hlo, ← hs0]; exact hfalls)
  rw [hlo, ← hs0, hend] at hmain
  rcases hmain with ⟨r1, r2, r3, r4, _⟩ | ⟨r1, r2, r3, r4⟩
  · left
    simp only [Prod.mk.injEq] at r3
    refine ⟨r1, ⟨r2.secs, r2.down, r2.fuse, r2.at_, by rw [r3.2]; exact Nat.le_refl _⟩, by rw [r3.1]; exact hnew, by rw [r3.1, ← hF, ← hH]; exact hview, r4⟩
  · right
    rw [hQ] at r3
    exact ⟨r1, ⟨r2.secs, r2.down, r2.fuse, r2.at_, Nat.le_trans r2.len (by omega)⟩, r4, r3⟩
end WalP
end Go.Proofs.YtaijompnohkmaaaDoor
