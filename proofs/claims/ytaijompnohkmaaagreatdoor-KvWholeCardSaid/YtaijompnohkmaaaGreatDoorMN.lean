/- Layer 5 (wal), plainly: a log on a disk that may fall: appended to, compacted, opened. -/
import Derived.Test.YtaijompnohkmaaaGreatDoorMM
import Derived.Maps.OwnSet
import Derived.Maps.StringElems
import Derived.Sort.KeysCollected
set_option linter.unusedSimpArgs false
set_option linter.unusedVariables false
namespace Go.Proofs.YtaijompnohkmaaaGreatDoor
namespace WalP
/-- A log holds records, on a disk that is up, with a fuse or none. -/
structure HoldsF (S : Nat) (d : DiskP) (l : LogP) (list : List (List UInt8)) : Prop where
  up : Up S 0 d
  kept : KeptAt S d.secs l.half l.gen list
  zeros : hv d.secs (base S l.half) (S / 2) = recsV l.gen 0 list ++ List.replicate (S / 2 - posN list) zeroS
  used : l.used = posN list
  count : l.count = list.length
theorem Up.no_loose {S : Nat} {d : DiskP} (h : Up S 0 d) : d.loose = [] := List.eq_nil_of_length_eq_zero (Nat.le_zero.1 h.len)
theorem half_up {S n : Nat} {d : DiskP} (h : Up S n d) : half d = S / 2 := by unfold half; rw [h.secs]
theorem Up.view {S : Nat} {d : DiskP} (h : Up S 0 d) (hS : S ≤ 4096) {w : Int} (hw : w = 0 ∨ w = 1) : viewP d w = hv d.secs (base S w) (S / 2) := by
  have hr := h.right hS (by omega)
  have hs := h.secs
  have hd := h.down
  have hlo := h.no_loose
  have hh := half_up h
  obtain ⟨b1, _, b3, _, _⟩ := base_facts (S := S) hw
  unfold viewP
  rw [hh]
  apply List.ext_getElem?
  intro i
  rw [List.getElem?_map, hv_at]
  by_cases hi : i < S / 2
  · rw [List.getElem?_range hi, if_pos hi, b1]
    have ht : thereB d (((base S w : Nat) : Int) + i) = true := by simp [thereB, hs]; omega
    have hl : base S w + i < d.secs.length := by omega
    have e : (((base S w : Nat) : Int) + i).toNat = base S w + i := by omega
    simp [readP, hr, ht, hd, hlo, lastW, e, hl]
  · rw [if_neg hi, List.getElem?_eq_none (by simpa using hi)]; rfl
theorem HoldsF.right {S : Nat} {d : DiskP} {l : LogP} {list : List (List UInt8)} (h : HoldsF S d l list) (hg : l.gen ≤ 1099511627776) : rightL d l = true := by
  have hr := h.up.right h.kept.hS (by omega)
  have hh := half_up h.up
  have h2 := posN_two h.kept.ne h.kept.tk
  have hc := len_le_posN list h.kept.tk
  have hf := h.kept.fits
  have hp : 0 < list.length := List.length_pos_iff.2 h.kept.ne
  have hw := h.kept.hw
  have g0 := h.kept.g0
  unfold rightL
  rw [hr, h.used, h.count, hh]
  simp only [Bool.true_and, Bool.and_eq_true, Bool.or_eq_true, decide_eq_true_eq]
  omega
theorem KeptAt.list_len {S : Nat} {t : List (List UInt8)} {w gen : Int} {list : List (List UInt8)} (h : KeptAt S t w gen list) : list.length ≤ 2 ^ 40 := by
  have := len_le_posN list h.tk
  have := h.fits
  have := h.hS
  omega
/-- What is kept is read. -/
theorem KeptAt.records {S : Nat} {t : List (List UInt8)} {w gen : Int} {list : List (List UInt8)} (h : KeptAt S t w gen list) (hg : gen ≤ 1099511627776) : recordsP (hv t (base S w) (S / 2)) = (list, posN list, gen, 0) := by
  obtain ⟨z, hz, hz0⟩ := h.here
  rw [hz]
  unfold recordsP
  have hl := length_recsV gen list 0 h.tk
  have hp := len_le_posN list h.tk
  have := recsGo_back gen h.g0 hg z hz0 list [] [] ((recsV gen 0 list ++ z).length + 1) 0 h.tk (by have := h.list_len; simpa using this) (by rw [List.length_append]; omega) (.inl rfl) (by simpa using h.ne)
  simpa using this
theorem low_gen {S : Nat} {t : List (List UInt8)} {w g : Int} (hl : low t (base S w) g) (g0 : 1 ≤ g) : genV (hv t (base S w) (S / 2)) < g := by
  rcases genV_eq (hv t (base S w) (S / 2)) with h | ⟨h1, h2, h3⟩
  · omega
  · rw [h3]
    have hS : 0 < S / 2 := by simp [hv] at h1; omega
    have e := hv_at t (base S w) (S / 2) 0
    rw [if_pos hS, Nat.add_zero] at e
    have hs : t[base S w]? = some ((hv t (base S w) (S / 2)).getD 0 []) := by
      rw [← e, List.getD_eq_getElem?_getD, List.getElem?_eq_getElem h1]; rfl
    exact hl _ hs h2
/-- A record more is appended, or the disk falls. -/
theorem app_falls {S : Nat} {d : DiskP} {l : LogP} {list : List (List UInt8)} (h : HoldsF S d l list) (hg : l.gen ≤ 1099511627776) (b : List UInt8) (hb : takes b.length ≠ 0) (hn : posN list + takes b.length ≤ S / 2) :
    ((run d (appendD d l b)).2 = 0 ∧ HoldsF S (run d (appendD d l b)).1 { l with used := l.used + takes b.length, count := l.count + 1 } (list ++ [b]) ∧ (d.fuse = -1 → (run d (appendD d l b)).1.fuse = -1)) ∨
    ((run d (appendD d l b)).2 = 9 ∧ Fell S 100000 (run d (appendD d l b)).1 ∧ d.fuse ≠ -1 ∧ ∀ t, Settled ((run d (appendD d l b)).1.secs, (run d (appendD d l b)).1.loose) t → KeptAt S t l.half l.gen list ∨ KeptAt S t l.half l.gen (list ++ [b])) := by
  have hk := h.kept
  have hS := hk.hS
  obtain ⟨b1, b2, b3, b4, b5⟩ := base_facts (S := S) hk.hw
  obtain ⟨F, hF⟩ : ∃ F, F = base S l.half := ⟨_, rfl⟩
  obtain ⟨H, hH⟩ : ∃ H, H = S / 2 := ⟨_, rfl⟩
  obtain ⟨a, ha⟩ : ∃ a, a = F + posN list := ⟨_, rfl⟩
  have hc := takes_chunks hb
  have hcl := length_chunks b
  have h2 := takes_two hb
  have hhalf := half_up h.up
  have hat : l.half * (half d : Nat) + l.used = (a : Int) := by rw [hhalf, h.used, ha, hF, b1]; omega
  have hlo := h.up.no_loose
  obtain ⟨s0, hs0⟩ : ∃ s0, s0 = d.secs := ⟨_, rfl⟩
  have hL : s0.length = S := by rw [hs0]; exact h.up.secs
  obtain ⟨m, hm⟩ : ∃ m, m = markOf l.gen list.length b := ⟨_, rfl⟩
  have hD : appendD d l b = (bytesD a b ++ [.flush]) ++ [.put a m, .flush] := by
    unfold appendD
    rw [hat, h.count, hm]
    simp [markOf]
  have haS : a + takes b.length ≤ S := by rw [ha, hF]; omega
  have hfb : ∀ x ∈ bytesD a b, fit S x := fit_bytes haS hb
  have hfit : ∀ x ∈ appendD d l b, fit S x := by
    intro x hx
    rw [hD] at hx
    simp only [List.mem_append, List.mem_cons, List.not_mem_nil, or_false] at hx
    rcases hx with (hx | rfl) | rfl | rfl
    · exact hfb x hx
    · trivial
    · show 0 ≤ (a : Int) ∧ (a : Int) < S
      omega
    · trivial
  have hlen : (appendD d l b).length ≤ 200 := by
    have := takes_le b.length
    rw [hD]
    simp [length_bytesD]
    omega
  have hzs := h.zeros
  rw [← hs0, ← hF, ← hH] at hzs
  -- what agrees with what was there, but for the record's sectors, keeps the elder records
  have hold : ∀ t : List (List UInt8), t.length = S → (∀ i, ¬ (a < i ∧ i < a + takes b.length) → t[i]? = s0[i]?) → KeptAt S t l.half l.gen list := by
    intro t ht he
    have hview : hv t F H = recsV l.gen 0 list ++ (hv t F H).drop (posN list) := by
      have e1 : (hv t F H).take (posN list) = recsV l.gen 0 list := by
        have e2 : (hv s0 F H).take (posN list) = recsV l.gen 0 list := by
          rw [hzs, List.take_left' (length_recsV l.gen list 0 hk.tk)]
        rw [← e2]
        apply List.ext_getElem?
        intro i
        rw [List.getElem?_take, List.getElem?_take]
        by_cases hi : i < posN list
        · rw [if_pos hi, if_pos hi, hv_at, hv_at]
          by_cases hi2 : i < H
          · rw [if_pos hi2, if_pos hi2]
            exact he _ (by omega)
          · rw [if_neg hi2, if_neg hi2]
        · rw [if_neg hi, if_neg hi]
      rw [← e1]
      exact (List.take_append_drop _ _).symm
    refine ⟨ht, hS, hk.hw, hk.g0, hk.ne, hk.tk, hk.fits, ⟨(hv t F H).drop (posN list), by rw [← hF, ← hH]; exact hview, fun _ => ?_⟩, ?_⟩
    · have hpl : posN list < H := by rw [hH]; omega
      have e1 : ((hv t F H).drop (posN list)).getD 0 [] = zeroS := by
        rw [List.getD_eq_getElem?_getD, List.getElem?_drop, Nat.add_zero, hv_at, if_pos hpl, he _ (by omega)]
        have e2 : (hv s0 F H)[posN list]? = some zeroS := by
          rw [hzs, List.getElem?_append_right (by rw [length_recsV l.gen list 0 hk.tk]; exact Nat.le_refl _), length_recsV l.gen list 0 hk.tk, Nat.sub_self, List.getElem?_replicate, if_pos (by omega)]
        rw [hv_at, if_pos hpl] at e2
        rw [e2]; rfl
      rw [e1]
      exact zero_none
    · have e := he (base S (1 - l.half)) (by rw [ha, hF]; omega)
      intro s hs
      rw [e] at hs
      exact hk.other s (hs0 ▸ hs)
  obtain ⟨s1, hs1⟩ : ∃ s1, s1 = after s0 (bytesD a b) := ⟨_, rfl⟩
  have hs1w : s1 = wr s0 (a + 1) (chunks b) := by rw [hs1, bytes_after]
  have hl1 : s1.length = S := by rw [hs1, length_after]; exact hL
  have h1o : ∀ i, ¬ (a < i ∧ i < a + takes b.length) → s1[i]? = s0[i]? := fun i hi => by
    rw [hs1w, wr_at _ _ _ _ (by omega), if_neg (by omega)]
  have hset : (s1.set a m) = (wr s0 (a + 1) (chunks b)).set a m := by rw [hs1w]
  have hview2 := app_view (v := s0) (F := F) (H := H) (gen := l.gen) (list := list) (b := b) hk.tk hb (by rw [hH]; exact hn) (by rw [hL, hF, hH]; exact b3) hzs
  rw [← ha, ← hm, ← hset] at hview2
  have hp2 : posN (list ++ [b]) = posN list + takes b.length := by rw [posN_append]; simp [posN]
  have hlen2 : (s1.set a m).length = S := by rw [List.length_set]; exact hl1
  have hzero2 : ∀ k : Nat, 0 < (List.replicate k zeroS).length → (readMark ((List.replicate k zeroS).getD 0 [])).2 = false := fun k hk0 => by
    rw [List.length_replicate] at hk0
    rw [List.getD_eq_getElem?_getD, List.getElem?_replicate, if_pos hk0]
    exact zero_none
  have htk2 : ∀ x ∈ list ++ [b], takes x.length ≠ 0 := by
    intro x hx
    rcases List.mem_append.1 hx with hx | hx
    · exact hk.tk x hx
    · rw [List.mem_singleton.1 hx]; exact hb
  have hnew : KeptAt S (s1.set a m) l.half l.gen (list ++ [b]) := by
    refine ⟨hlen2, hS, hk.hw, hk.g0, by simp, htk2, by rw [hp2]; exact hn, ⟨_, by rw [← hF, ← hH]; exact hview2, hzero2 _⟩, ?_⟩
    intro s hs
    rw [List.getElem?_set_ne (by rw [ha, hF]; omega), h1o _ (by rw [ha, hF]; omega)] at hs
    exact hk.other s (hs0 ▸ hs)
  obtain ⟨Q, hQ⟩ : ∃ Q : St → Prop, Q = fun s => ∀ t, Settled s t → KeptAt S t l.half l.gen list ∨ KeptAt S t l.half l.gen (list ++ [b]) := ⟨_, rfl⟩
  have hfalls : falls Q (s0, []) (appendD d l b) := by
    rw [hD]
    have pA : ∀ ls : List WriteP, (∀ x ∈ ls, (a : Int) < x.at_ ∧ x.at_ < a + takes b.length) → Q (s0, ls) := by
      intro ls hls
      rw [hQ]
      intro t ht
      left
      refine hold t (ht.len.trans hL) (fun i hi => ?_)
      rcases ht.each i with h | ⟨x, hx, h1, _⟩
      · exact h
      · have := hls x hx; omega
    obtain ⟨fA, lsA, sA, hA⟩ := falls_puts (P := fun x => (a : Int) < x.at_ ∧ x.at_ < a + takes b.length) s0 pA (bytesD a b) [] (fun x hx => absurd hx List.not_mem_nil) (fun y hy => by
      unfold bytesD at hy
      obtain ⟨i, hi, rfl⟩ := List.mem_map.1 hy
      rw [List.mem_range] at hi
      exact ⟨_, _, rfl, by show (a : Int) < a + 1 + i; omega, by show (a : Int) + 1 + i < a + takes b.length; omega⟩)
    have fA' : falls Q (s0, []) (bytesD a b ++ [.flush]) := falls_append Q _ _ _ fA (by rw [sA]; exact ⟨pA lsA hA, trivial⟩)
    refine falls_append Q _ _ _ fA' ?_
    rw [steps_flush _ (by rw [hL]; exact hfb), ← hs1]
    refine ⟨?_, ?_, trivial⟩
    · rw [hQ]
      intro t ht
      rw [ht.none]
      exact .inl (hold s1 hl1 h1o)
    · rw [hQ]
      intro t ht
      rcases Settled.one ht with h | h
      · rw [h]
        exact .inl (hold s1 hl1 h1o)
      · rw [h]
        exact .inr hnew
  have hend : steps (s0, []) (appendD d l b) = (s1.set a m, []) := by
    have e : appendD d l b = (bytesD a b ++ [.flush] ++ [.put a m]) ++ [.flush] := by rw [hD]; simp
    rw [e, steps_flush _ (fun x hx => by rw [hL]; exact hfit x (by rw [e]; simp only [List.mem_append] at hx ⊢; exact .inl hx))]
    rw [after_append, after_append, ← hs1]
    rfl
  have hmain := run_falls hS (Q := Q) (appendD d l b) h.up (by omega) hfit (by rw [hlo, ← hs0]; exact hfalls)
  rw [hlo, ← hs0, hend] at hmain
  rcases hmain with ⟨r1, r2, r3, r4, _⟩ | ⟨r1, r2, r3, r4⟩
  · left
    simp only [Prod.mk.injEq] at r3
    refine ⟨r1, ⟨⟨r2.secs, r2.down, r2.fuse, r2.at_, by rw [r3.2]; exact Nat.le_refl _⟩, by rw [r3.1]; exact hnew, ?_, ?_, ?_⟩, r4⟩
    · show hv _ (base S l.half) _ = recsV l.gen 0 (list ++ [b]) ++ _
      rw [r3.1, ← hF, ← hH]
      exact hview2
    · show l.used + _ = _
      rw [h.used, hp2]; omega
    · show l.count + 1 = _
      rw [h.count]; simp
  · right
    rw [hQ] at r3
    exact ⟨r1, ⟨r2.secs, r2.down, r2.fuse, r2.at_, Nat.le_trans r2.len (by omega)⟩, r4, r3⟩
/-- How a compaction ends. -/
theorem compact_cases {S : Nat} {d : DiskP} {l : LogP} {list0 : List (List UInt8)} (hu : Up S 0 d) (hk : KeptAt S d.secs l.half l.gen list0) (hR : rightL d l = true) (hg : l.gen ≤ 1099511627775) (list : List (List UInt8)) :
    (total list = none ∧ compactP d l list = (d, l, 1)) ∨ (total list = some (posN list) ∧ S / 2 < posN list ∧ compactP d l list = (d, l, 8)) ∨
    (∃ d', compactP d l list = (d', ⟨1 - l.half, l.gen + 1, posN list, list.length⟩, 0) ∧ HoldsF S d' ⟨1 - l.half, l.gen + 1, posN list, list.length⟩ list ∧ (d.fuse = -1 → d'.fuse = -1)) ∨
    (∃ d', compactP d l list = (d', l, 9) ∧ Fell S 100000 d' ∧ d.fuse ≠ -1 ∧ ∀ t, Settled (d'.secs, d'.loose) t → KeptAt S t l.half l.gen list0 ∨ KeptAt S t (1 - l.half) (l.gen + 1) list) := by
  have hh := half_up hu
  rcases total_eq list with ht | ⟨hne, hb, ht⟩
  · exact .inl ⟨ht, by simp only [compactP, ht]⟩
  · right
    by_cases hn : half d < posN list
    · left
      refine ⟨ht, by rw [← hh]; exact hn, ?_⟩
      simp only [compactP, ht, hR, if_true, if_pos hn]
    · right
      have e : compactP d l list = if (run d (layD (S / 2) (1 - l.half) (l.gen + 1) list)).2 = 0 then ((run d (layD (S / 2) (1 - l.half) (l.gen + 1) list)).1, ⟨1 - l.half, l.gen + 1, posN list, list.length⟩, 0) else ((run d (layD (S / 2) (1 - l.half) (l.gen + 1) list)).1, l, (run d (layD (S / 2) (1 - l.half) (l.gen + 1) list)).2) := by
        simp only [compactP, ht, hR, if_true, if_neg hn]
        rw [if_neg (by omega), hh]
      rcases lay_falls hu hk hg hne hb (by rw [← hh]; omega) with ⟨r1, r2, r3, r4, r5⟩ | ⟨r1, r2, r3, r4⟩
      · left
        refine ⟨_, by rw [e, if_pos r1], ⟨r2, r3, r4, rfl, rfl⟩, r5⟩
      · right
        refine ⟨_, by rw [e, if_neg (by rw [r1]; decide), r1], r2, r3, r4⟩
/-- How an append ends. -/
theorem append_cases {S : Nat} {d : DiskP} {l : LogP} {list : List (List UInt8)} (h : HoldsF S d l list) (hg : l.gen ≤ 1099511627776) (b : List UInt8) :
    (takes b.length = 0 ∧ appendP d l b = (d, l, 1)) ∨ (takes b.length ≠ 0 ∧ appendP d l b = (d, l, 8)) ∨
    (∃ d', appendP d l b = (d', { l with used := l.used + takes b.length, count := l.count + 1 }, 0) ∧ HoldsF S d' { l with used := l.used + takes b.length, count := l.count + 1 } (list ++ [b]) ∧ (d.fuse = -1 → d'.fuse = -1)) ∨
    (∃ d', appendP d l b = (d', l, 9) ∧ Fell S 100000 d' ∧ d.fuse ≠ -1 ∧ ∀ t, Settled (d'.secs, d'.loose) t → KeptAt S t l.half l.gen list ∨ KeptAt S t l.half l.gen (list ++ [b])) := by
  have hR := h.right hg
  have hh := half_up h.up
  by_cases ht : takes b.length = 0
  · exact .inl ⟨ht, by unfold appendP; rw [if_pos (.inl ht)]⟩
  · right
    by_cases hro : roomP d l < takes b.length
    · exact .inl ⟨ht, by unfold appendP; rw [if_neg (by simp [ht, hR]), if_pos hro]⟩
    · right
      have hroom : roomP d l = (half d : Nat) - l.used := by unfold roomP; rw [if_pos hR]
      have hn : posN list + takes b.length ≤ S / 2 := by rw [hroom, h.used, hh] at hro; omega
      have e : appendP d l b = if (run d (appendD d l b)).2 = 0 then ((run d (appendD d l b)).1, { l with used := l.used + takes b.length, count := l.count + 1 }, 0) else ((run d (appendD d l b)).1, l, (run d (appendD d l b)).2) := by
        unfold appendP
        rw [if_neg (by simp [ht, hR]), if_neg hro]
      rcases app_falls h hg b ht hn with ⟨r1, r2, r3⟩ | ⟨r1, r2, r3, r4⟩
      · left
        exact ⟨_, by rw [e, if_pos r1], r2, r3⟩
      · right
        exact ⟨_, by rw [e, if_neg (by rw [r1]; decide), r1], r2, r3, r4⟩
/-- How an opening ends. -/
theorem open_cases {S : Nat} {d : DiskP} {w gen : Int} {list : List (List UInt8)} (hu : Up S 0 d) (hk : KeptAt S d.secs w gen list) (hg : gen ≤ 1099511627775) :
    (∃ d', openP d = (d', ⟨1 - w, gen + 1, posN list, list.length⟩, list, 0) ∧ HoldsF S d' ⟨1 - w, gen + 1, posN list, list.length⟩ list ∧ (d.fuse = -1 → d'.fuse = -1)) ∨
    (∃ d', openP d = (d', log0, [], 9) ∧ Fell S 100000 d' ∧ d.fuse ≠ -1 ∧ ∀ t, Settled (d'.secs, d'.loose) t → KeptAt S t w gen list ∨ KeptAt S t (1 - w) (gen + 1) list) := by
  have hS := hk.hS
  have hr := hu.right hS (by omega)
  have hd := hu.down
  have hw' : 1 - w = 0 ∨ 1 - w = 1 := by have := hk.hw; omega
  have eh : recordsP (viewP d w) = (list, posN list, gen, 0) := by rw [hu.view hS hk.hw]; exact hk.records (by omega)
  have eo : genV (viewP d (1 - w)) < gen := by rw [hu.view hS hw']; exact low_gen hk.other hk.g0
  unfold genV at eo
  have hx : (if (recordsP (viewP d 0)).2.2.1 < (recordsP (viewP d 1)).2.2.1 then recordsP (viewP d 1) else recordsP (viewP d 0)) = (list, posN list, gen, 0) ∧ (if (recordsP (viewP d 0)).2.2.1 < (recordsP (viewP d 1)).2.2.1 then (1 : Int) else 0) = w := by
    rcases hk.hw with e | e
    · rw [e] at eh eo
      rw [if_neg (by rw [eh]; show ¬ gen < (recordsP (viewP d (1 - 0))).2.2.1; omega), if_neg (by rw [eh]; show ¬ gen < (recordsP (viewP d (1 - 0))).2.2.1; omega), e]
      exact ⟨eh, rfl⟩
    · rw [e] at eh eo
      rw [if_pos (by rw [eh]; exact eo), if_pos (by rw [eh]; exact eo), e]
      exact ⟨eh, rfl⟩
  obtain ⟨h1, h2⟩ := hx
  have hR : rightL d ⟨w, gen, posN list, list.length⟩ = true := by
    have hh := half_up hu
    have h2 := posN_two hk.ne hk.tk
    have hc := len_le_posN list hk.tk
    have hf := hk.fits
    have hp : 0 < list.length := List.length_pos_iff.2 hk.ne
    have hw := hk.hw
    have g0 := hk.g0
    unfold rightL
    rw [hr, hh]
    simp only [Bool.true_and, Bool.and_eq_true, Bool.or_eq_true, decide_eq_true_eq]
    omega
  have e : openP d = if (compactP d ⟨w, gen, posN list, list.length⟩ list).2.2 ≠ 0 then ((compactP d ⟨w, gen, posN list, list.length⟩ list).1, log0, [], (compactP d ⟨w, gen, posN list, list.length⟩ list).2.2) else ((compactP d ⟨w, gen, posN list, list.length⟩ list).1, (compactP d ⟨w, gen, posN list, list.length⟩ list).2.1, list, 0) := by
    simp only [openP, hr, hd, h1, h2]
    simp
  rcases compact_cases hu hk hR hg list with ⟨ht, _⟩ | ⟨_, hn, _⟩ | ⟨d', c1, c2, c3⟩ | ⟨d', c1, c2, c3, c4⟩
  · rw [total_some hk.ne hk.tk] at ht; cases ht
  · have := hk.fits; omega
  · left
    refine ⟨d', ?_, c2, c3⟩
    rw [e, c1, if_neg (by simp)]
  · right
    refine ⟨d', ?_, c2, c3, c4⟩
    rw [e, c1, if_pos (show (9 : Int) ≠ 0 by decide)]
/-- A disk that has fallen is started. -/
theorem Fell.start {S : Nat} {d : DiskP} (h : Fell S 100000 d) (hS : S ≤ 4096) (m : Int) : ∃ t, startP d m = (⟨t, [], -1, false⟩, 0) ∧ Settled (d.secs, d.loose) t ∧ Up S 0 ⟨t, [], -1, false⟩ := by
  obtain ⟨t, h1, h2⟩ := start_of (h.right hS (by omega)) (fun x hx => (h.at_ x hx).1) m
  exact ⟨t, h1, h2, ⟨h2.len.trans h.secs, rfl, ⟨Int.le_refl _, show (-1 : Int) ≤ 1099511627776 by decide⟩, fun x hx => absurd hx List.not_mem_nil, Nat.zero_le _⟩⟩
/-- A disk that is up with nothing loose is armed. -/
theorem Up.arm {S : Nat} {d : DiskP} (h : Up S 0 d) (hS : S ≤ 4096) {f : Int} (h0 : -1 ≤ f) (h1 : f ≤ 1099511627776) : armP d f = ({ d with fuse := f }, 0) ∧ Up S 0 { d with fuse := f } := by
  have hr := h.right hS (by omega)
  have hf : fusedB f = true := by simp [fusedB]; omega
  exact ⟨by simp [armP, hr, hf], ⟨h.secs, h.down, ⟨h0, h1⟩, h.at_, h.len⟩⟩
theorem HoldsF.arm {S : Nat} {d : DiskP} {l : LogP} {list : List (List UInt8)} (h : HoldsF S d l list) {f : Int} (h0 : -1 ≤ f) (h1 : f ≤ 1099511627776) : armP d f = ({ d with fuse := f }, 0) ∧ HoldsF S { d with fuse := f } l list := by
  obtain ⟨e, hu⟩ := h.up.arm h.kept.hS h0 h1
  exact ⟨e, ⟨hu, h.kept, h.zeros, h.used, h.count⟩⟩
end WalP
end Go.Proofs.YtaijompnohkmaaaGreatDoor
/- Layer 5 (wal), plainly: how a step ends on a disk that may fall, for the statement on falls. -/
namespace Go.Proofs.YtaijompnohkmaaaGreatDoor
open WalP
theorem takes_6000 {n : Nat} (h : takes n ≠ 0) : n ≤ 6000 := by
  unfold takes at h
  split at h
  · exact absurd rfl h
  · omega
/-- What may be behind a fall. -/
def FallP (G : Int) (d : DiskP) (A B : List (List UInt8)) : Prop := Fell 80 100000 d ∧ ∀ t, Settled (d.secs, d.loose) t → ∃ w gen, gen ≤ G ∧ (KeptAt 80 t w gen A ∨ KeptAt 80 t w gen B)
/-- How a step ends. -/
def Outcome (G : Int) (e : Int) (d : DiskP) (l : LogP) (want nx : List (List UInt8)) (quiet : Prop) : Prop :=
  (e = 0 ∧ HoldsF 80 d l nx ∧ l.gen ≤ G) ∨ (e = 1 ∧ quiet ∧ HoldsF 80 d l want ∧ l.gen ≤ G) ∨ (e = 8 ∧ HoldsF 80 d l want ∧ l.gen ≤ G) ∨ (e = 9 ∧ FallP G d want nx)
theorem append_outcome {d : DiskP} {l : LogP} {want : List (List UInt8)} (h : HoldsF 80 d l want) {G : Int} (hg : l.gen ≤ G) (hG : G ≤ 1000000) (b : List UInt8) (hb : b.length ≤ 6000) :
    Outcome (G + 1) (appendP d l b).2.2 (appendP d l b).1 (appendP d l b).2.1 want (want ++ [b]) (b = []) := by
  rcases append_cases h (by omega) b with ⟨h0, e⟩ | ⟨_, e⟩ | ⟨d', e, h1, _⟩ | ⟨d', e, h1, _, h2⟩
  · rw [e]
    refine .inr (.inl ⟨rfl, ?_, h, by show l.gen ≤ _; omega⟩)
    unfold takes at h0
    split at h0
    · exact List.eq_nil_of_length_eq_zero (by omega)
    · omega
  · rw [e]
    exact .inr (.inr (.inl ⟨rfl, h, by show l.gen ≤ _; omega⟩))
  · rw [e]
    exact .inl ⟨rfl, h1, by show l.gen ≤ _; omega⟩
  · rw [e]
    refine .inr (.inr (.inr ⟨rfl, h1, fun t ht => ?_⟩))
    rcases h2 t ht with h | h
    · exact ⟨_, _, by omega, .inl h⟩
    · exact ⟨_, _, by omega, .inr h⟩
theorem compact_outcome {d : DiskP} {l : LogP} {want : List (List UInt8)} (h : HoldsF 80 d l want) {G : Int} (hg : l.gen ≤ G) (hG : G ≤ 1000000) (nx : List (List UInt8)) (hne : nx ≠ []) (htk : ∀ b ∈ nx, takes b.length ≠ 0) (q : Prop) :
    Outcome (G + 1) (compactP d l nx).2.2 (compactP d l nx).1 (compactP d l nx).2.1 want nx q := by
  rcases compact_cases h.up h.kept (h.right (by omega)) (by omega) nx with ⟨ht, _⟩ | ⟨_, _, e⟩ | ⟨d', e, h1, _⟩ | ⟨d', e, h1, _, h2⟩
  · rw [total_some hne htk] at ht; cases ht
  · rw [e]
    exact .inr (.inr (.inl ⟨rfl, h, by show l.gen ≤ _; omega⟩))
  · rw [e]
    exact .inl ⟨rfl, h1, by show l.gen + 1 ≤ _; omega⟩
  · rw [e]
    refine .inr (.inr (.inr ⟨rfl, h1, fun t ht => ?_⟩))
    rcases h2 t ht with h | h
    · exact ⟨_, _, by omega, .inl h⟩
    · exact ⟨_, _, by omega, .inr h⟩
/-- A disk that is up, with records kept in it. -/
def UpK (G : Int) (d : DiskP) (X : List (List UInt8)) : Prop := Up 80 0 d ∧ ∃ w gen, gen ≤ G ∧ KeptAt 80 d.secs w gen X
theorem FallP.start {G : Int} {d : DiskP} {A B : List (List UInt8)} (h : FallP G d A B) (m : Int) : ∃ d', startP d m = (d', 0) ∧ d'.fuse = -1 ∧ ∃ X, (X = A ∨ X = B) ∧ UpK G d' X := by
  obtain ⟨t, e, hs, hu⟩ := h.1.start (by decide) m
  obtain ⟨w, gen, hg, hk⟩ := h.2 t hs
  rcases hk with hk | hk
  · exact ⟨_, e, rfl, A, .inl rfl, hu, w, gen, hg, hk⟩
  · exact ⟨_, e, rfl, B, .inr rfl, hu, w, gen, hg, hk⟩
theorem UpK.arm {G : Int} {d : DiskP} {X : List (List UInt8)} (h : UpK G d X) {f : Int} (h0 : -1 ≤ f) (h1 : f ≤ 1000) : armP d f = ({ d with fuse := f }, 0) ∧ UpK G { d with fuse := f } X := by
  obtain ⟨e, hu⟩ := h.1.arm (by decide) h0 (by omega)
  exact ⟨e, hu, h.2⟩
/-- How an opening ends: the records, or a fall. -/
theorem UpK.opened {G : Int} {d : DiskP} {X : List (List UInt8)} (h : UpK G d X) (hG : G ≤ 1000000) (A B : List (List UInt8)) (hX : X = A ∨ X = B) :
    (∃ d' l', openP d = (d', l', X, 0) ∧ HoldsF 80 d' l' X ∧ l'.gen ≤ G + 1 ∧ (d.fuse = -1 → d'.fuse = -1)) ∨ (∃ d', openP d = (d', log0, [], 9) ∧ d.fuse ≠ -1 ∧ FallP (G + 1) d' A B) := by
  obtain ⟨hu, w, gen, hg, hk⟩ := h
  rcases open_cases hu hk (by omega) with ⟨d', e, h1, h2⟩ | ⟨d', e, h1, h2, h3⟩
  · left
    exact ⟨d', _, e, h1, by show gen + 1 ≤ _; omega, h2⟩
  · right
    refine ⟨d', e, h2, h1, fun t ht => ?_⟩
    rcases h3 t ht with h | h
    · refine ⟨w, gen, by omega, ?_⟩
      rcases hX with rfl | rfl
      · exact .inl h
      · exact .inr h
    · refine ⟨1 - w, gen + 1, by omega, ?_⟩
      rcases hX with rfl | rfl
      · exact .inl h
      · exact .inr h
theorem HoldsF.upK {d : DiskP} {l : LogP} {X : List (List UInt8)} (h : HoldsF 80 d l X) {G : Int} (hg : l.gen ≤ G) : UpK G d X := ⟨h.up, _, _, hg, h.kept⟩
theorem HoldsF.start {d : DiskP} {l : LogP} {X : List (List UInt8)} (h : HoldsF 80 d l X) (m : Int) : startP d m = ({ d with fuse := -1 }, 0) ∧ HoldsF 80 { d with fuse := -1 } l X := by
  have hr := h.up.right (by decide) (by omega)
  have hlo := h.up.no_loose
  have hd := h.up.down
  have e : startP d m = ({ d with fuse := -1 }, 0) := by
    simp only [startP, hr, if_true, hlo]
    obtain ⟨a, b, c, e⟩ := d
    simp only at hlo hd
    subst hlo
    subst hd
    rfl
  exact ⟨e, (h.arm (Int.le_refl _) (by decide)).2⟩
theorem after_put40 (v : List (List UInt8)) (ds : List Deed) : after v (.put 40 zeroS :: ds) = after (v.set 40 zeroS) ds := rfl
theorem format_holdsF {d0 : DiskP} (hc : WalP.Calm 80 0 d0) : ∃ d1, formatP d0 [[9]] = (d1, ⟨0, 1, 2, 1⟩, 0) ∧ HoldsF 80 d1 ⟨0, 1, 2, 1⟩ [[9]] ∧ d1.fuse = -1 := by
  rcases format_holds hc (by decide) [[9]] with ⟨h, _⟩ | ⟨n, h, hn, _⟩ | ⟨hne, htk, hp, f1, f2, f3⟩
  · exact absurd h (by decide)
  · rw [show total [[9]] = some 2 from rfl] at h
    cases h
    exact absurd hn (by decide)
  · have hr := hc.right (by decide) (by omega)
    have hh := half_of hc
    -- what the first put leaves
    obtain ⟨p1, p2, p3⟩ := hc.put (by decide) (by omega) 40 zeroS (by omega) (by omega)
    generalize hF : formatP d0 [[9]] = F at f1 f2 f3 ⊢
    obtain ⟨a, b, c⟩ := F
    simp only at f1 f2 f3
    subst f1
    subst f2
    refine ⟨a, rfl, ?_, f3.calm.fuse⟩
    have hup := f3.calm.is_up
    have hv0 := hup.view (by decide) (w := 0) (.inl rfl)
    have hv1 := hup.view (by decide) (w := 1) (.inr rfl)
    have here := f3.here
    have hhalf := half_up hup
    change viewP a 0 = _ at here
    rw [hv0, hhalf] at here
    -- the other half's first sector is zero
    have hz : a.secs[40]? = some zeroS := by
      have hlo := hup.no_loose
      have hsee : see a = a.secs := by
        have := see_sure a.secs a.fuse a.down
        rw [← hlo] at this
        exact this
      have hrun : a = (run d0 (.put 40 zeroS :: layD 40 0 1 [[9]])).1 := by
        have e : formatP d0 [[9]] = if (run d0 (.put 40 zeroS :: layD 40 0 1 [[9]])).2 = 0 then ((run d0 (.put 40 zeroS :: layD 40 0 1 [[9]])).1, ⟨0, 1, 2, 1⟩, 0) else ((run d0 (.put 40 zeroS :: layD 40 0 1 [[9]])).1, log0, (run d0 (.put 40 zeroS :: layD 40 0 1 [[9]])).2) := by
          have e0 : half d0 = 40 := hh
          simp only [formatP, show total [[9]] = some 2 from rfl, hr, if_true, e0]
          rfl
        rw [hF] at e
        split at e
        · exact congrArg Prod.fst e
        · rename_i hne'
          have := congrArg (fun x => x.2.2) e
          simp only at this
          exact absurd this.symm hne'
      have hfit : ∀ x ∈ (Deed.put 40 zeroS :: layD 40 0 1 [[9]]), fit 80 x := by
        intro x hx
        rcases List.mem_cons.1 hx with rfl | hx
        · exact ⟨by decide, by decide⟩
        · exact fit_lay (F := 0) hne htk (by decide) (by decide) 0 (by decide) x hx
      have hl := length_layD (H := 40) (which := 0) (gen := 1) htk
      have hp2 : posN [[(9 : UInt8)]] = 2 := by decide
      obtain ⟨_, _, r3⟩ := WalP.Calm.run (by decide) (Deed.put 40 zeroS :: layD 40 0 1 [[9]]) hc (by rw [List.length_cons]; omega) hfit
      rw [← hrun, hsee] at r3
      rw [r3]
      rw [after_put40]
      have hsl : (see d0).length = 80 := by rw [length_see]; exact hc.secs
      have e := lay_far (v := (see d0).set 40 zeroS) (F := 0) (H := 40) (F' := 40) (gen := 1) hne htk (by decide) (by rw [List.length_set, hsl]; decide) 0 (by decide) (.inl (by decide))
      have e0 := congrArg (fun l => l[0]?) e
      simp only [hv_at] at e0
      rw [if_pos (by decide), if_pos (by decide)] at e0
      rw [show 40 + 0 = 40 from rfl] at e0
      rw [e0, List.getElem?_set_self (by rw [hsl]; decide)]
    refine ⟨hup, ⟨hup.secs, by decide, .inl rfl, by decide, hne, htk, hp, ⟨_, here, fun h => ?_⟩, zeroS_none hz⟩, here, by decide, by decide⟩
    rw [List.length_replicate] at h
    rw [List.getD_eq_getElem?_getD, List.getElem?_replicate, if_pos h]
    exact zero_none
end Go.Proofs.YtaijompnohkmaaaGreatDoor
/- Layer 5 (wal): what the walk of WalWhole keeps: a disk and a log in variables, and lists of records in slices. -/
namespace Go.Proofs.YtaijompnohkmaaaGreatDoor
open Go.RowKit WalP PackP
theorem op_append2 {P : Program} {o : Oper} {a : Act} {w : World} {K : Act → World → Prop} {Q : Exit → Act → World → Prop} (s y : Operand) (t xt e : TypeId)
    (ho : o.op = .call { callee := .builtin .append, args := #[s, y], argTypes := #[t, xt] }) (i : TypeInfo) (z : Value) (sz bytes : Nat)
    (ht : P.underlying t = some (.slice e)) (hxt : (∃ e', P.underlying xt = some (.slice e')) ∨ P.underlying xt = some .string) (hi : P.info? e = some i) (hz : i.zero = some z) (hsz : i.size = sz) (hby : i.bytes = bytes) (hzs : z.cells.size = sz)
    {B : Nat} {v x : Value} {n m : Nat} {cs news : List Value} (hs : a.eval s = v) (hx : a.eval y = x)
    (hown : Own B w e v sz n cs) (hsrc : Src P w x sz m news) (h1 : ∀ u ∈ news, u.oneCell' = true) (h63 : n + m ≤ maxLen) (hroom : (n + m) * bytes ≤ 140737488355328) (hB : B ≤ w.heap.size) (hm : 0 < m)
    (h : ∀ v' w', Own B w' e v' sz (n + m) (cs ++ news) → Below B w w' → Grew w w' v v' → K (a.put o.dst v') w') : Oper.wp P o a w K Q := by
  obtain ⟨v', w', hr, h2, h3, h4⟩ := run_append_apart (P := P) t xt o.type e i z ht hxt hi hz hsz hby hzs hown hsrc h1 h63 hroom hB hm
  subst hs
  subst hx
  unfold Oper.wp execOp
  simp only [ho, resolve, invoke, builtin, Sem.run_bind, Sem.run_pure, Result.andThen_ok, List.map_toArray, List.map_cons, List.map_nil, hr]
  exact h v' w' h2 h3 h4
theorem grew_empty {w w' : World} {a : Option Addr} {v' : Value} (h : Grew w w' (.slice a 0 0) v') : Below w.heap.size w w' := by
  rcases h with ⟨x, n, c, n', hv, _, hc, _⟩ | ⟨_, _, _, hb⟩
  · cases hv
    omega
  · exact hb
theorem op_buildSlice {P : Program} {o : Oper} {a : Act} {w w' : World} {K : Act → World → Prop} {Q : Exit → Act → World → Prop} (t : TypeId) (n : Nat) (L : List (Nat × Operand)) (ho : o.op = .buildSlice t n L.toArray) {v : Value} {L' : List (Nat × Value)} (hL : L.map (fun x => (x.1, a.eval x.2)) = L') (hb : (Instr.buildSlice t n L'.toArray).run P w = .ok v w')
    (h : K (a.put o.dst v) w') : Oper.wp P o a w K Q := by
  subst hL
  unfold Oper.wp execOp
  simp only [ho, Sem.run_bind, Sem.run_pure, Result.andThen_ok, List.map_toArray, hb]
  exact h
theorem run_build0_recs (w : World) : (Instr.buildSlice 66 0 #[]).run Tryz.prog w = .ok (.slice (some ⟨w.heap.size, 0, none⟩) 0 0) (w.alloc (.cells #[] 23)) := by kernel_rfl
section
variable {P : Program} {ops : Array Oper} {rest : List Oper} {o : Oper} {a : Act} {w : World} {Q : Exit → Act → World → Prop}
theorem wp_remW (k : IntKind) (x y : Operand) (t u : TypeId) (hgd : o.guard = none) (ho : o.op = .binOp .rem t x y u) {m n : Int} {v : Value} (hx : a.eval x = .int k m) (hy : a.eval y = .int k n) (hl : (Op.intDiv .rem k m n).run P w = .ok v w)
    (h : wpList P ops Q rest (a.put o.dst v) w) : wpList P ops Q (o :: rest) a w := by
  refine wpList_plain hgd fun K hK => ?_
  unfold Oper.wp execOp
  simp only [ho, hx, hy, eqGuard_rem, binOp_rem, Sem.run_bind, Sem.run_pure, Result.andThen_ok, hl]
  exact hK _ _ h
theorem run_remW (P : Program) (m n : Nat) (hn : n ≠ 0) (w : World) : (Op.intDiv .rem .i64 m n).run P w = .ok (.int .i64 ((m % n : Nat) : Int)) w := by
  simp [Op.intDiv, hn]
  exact Int.ofNat_tmod m n
end
/-- Records in a slice whose blocks are none of two. -/
def LS (D L : Nat) (w : World) (v : Value) (ls : List (List UInt8)) : Prop := ∃ a c, v = .slice a ls.length c ∧ PiecesS (fun b => b ≠ D ∧ b ≠ L) w.heap.size w (.slice a ls.length c) ls
theorem LS.below {D L : Nat} {w w' : World} {v : Value} {ls : List (List UInt8)} (h : LS D L w v ls) (hb : Below w.heap.size w w') : LS D L w' v ls := by
  obtain ⟨a, c, rfl, h⟩ := h
  exact ⟨a, c, rfl, (h.below hb).tight⟩
theorem LS.keep {D L : Nat} {w w' : World} {v : Value} {ls : List (List UInt8)} (h : LS D L w v ls) (hk : ∀ k, k ≠ D → k ≠ L → w'.heap[k]? = w.heap[k]?) : LS D L w' v ls := by
  obtain ⟨a, c, rfl, h⟩ := h
  exact ⟨a, c, rfl, (h.keep (fun k hk' _ => hk k hk'.1 hk'.2)).tight⟩
theorem LS.pieces {D L : Nat} {w : World} {a : Option Addr} {n c : Nat} {ls : List (List UInt8)} (h : LS D L w (.slice a n c) ls) : Pieces w.heap.size w (.slice a n c) ls := by
  obtain ⟨_, _, hv, h⟩ := h
  rw [hv]
  exact h.pieces
/-- Disk and log in their variables, and the records that are wanted. -/
structure Core (W : World) (D L : Nat) (w : World) (d : DiskP) (l : LogP) (want : List (List UInt8)) (v : Value) : Prop where
  d : DAt w D d
  l : LAt w L l
  b : Below W.heap.size W w
  v : LS D L w v want
theorem Core.below {W : World} {D L : Nat} {w w' : World} {d : DiskP} {l : LogP} {want : List (List UInt8)} {v : Value} (h : Core W D L w d l want v) (hb : Below w.heap.size w w') : Core W D L w' d l want v :=
  ⟨h.d.below hb, h.l.below hb, h.b.trans (hb.mono h.b.size), h.v.below hb⟩
/-- Disk and log are stored, the records stay. -/
theorem Core.stored {W : World} {D L : Nat} {w w9 : World} {d d' : DiskP} {l l' : LogP} {want : List (List UInt8)} {v : Value} (h : Core W D L w d l want v) (hD : W.heap.size ≤ D) (hL : W.heap.size ≤ L)
    (hs : DAt w9 D d' ∧ LAt w9 L l' ∧ w9.heap.size = w.heap.size ∧ (∀ k, k ≠ D → k ≠ L → w9.heap[k]? = w.heap[k]?) ∧ (∀ B w0, Below B w0 w → B ≤ D → B ≤ L → Below B w0 w9)) : Core W D L w9 d' l' want v :=
  ⟨hs.1, hs.2.1, hs.2.2.2.2 _ _ h.b hD hL, h.v.keep hs.2.2.2.1⟩
theorem Core.storedD {W : World} {D L : Nat} {w w9 : World} {d d' : DiskP} {l : LogP} {want : List (List UInt8)} {v : Value} (h : Core W D L w d l want v) (hD : W.heap.size ≤ D) (hne : D ≠ L)
    (hs : DAt w9 D d' ∧ w9.heap.size = w.heap.size ∧ (∀ k, k ≠ D → w9.heap[k]? = w.heap[k]?) ∧ (∀ B w0, Below B w0 w → B ≤ D → Below B w0 w9)) : Core W D L w9 d' l want v :=
  ⟨hs.1, (hs.2.2.1 L (Ne.symm hne)).trans h.l, hs.2.2.2 _ _ h.b hD, h.v.keep (fun k h1 _ => hs.2.2.1 k h1)⟩
theorem row_other {w w9 : World} {D L g : Nat} {o : Obj} (h : w.heap[g]? = some o) (h1 : g ≠ D) (h2 : g ≠ L) (hk : ∀ k, k ≠ D → k ≠ L → w9.heap[k]? = w.heap[k]?) : w9.heap[g]? = some o := (hk g h1 h2).trans h
end Go.Proofs.YtaijompnohkmaaaGreatDoor
/- append, once more: what is of another type stays. -/
namespace Go.Proofs.YtaijompnohkmaaaGreatDoor
open Go.RowKit
theorem run_append2 {P : Program} {B : Nat} {w : World} {v x : Value} {sz n m bytes : Nat} {cs news : List Value} (t xt ty e : TypeId) (i : TypeInfo) (z : Value)
    (ht : P.underlying t = some (.slice e)) (hxt : (∃ e', P.underlying xt = some (.slice e')) ∨ P.underlying xt = some .string) (hi : P.info? e = some i) (hz : i.zero = some z) (hsz : i.size = sz) (hby : i.bytes = bytes) (hzs : z.cells.size = sz)
    (hown : Own B w e v sz n cs) (hsrc : Src P w x sz m news) (h1 : ∀ u ∈ news, u.oneCell' = true) (h63 : n + m ≤ maxLen) (hroom : (n + m) * bytes ≤ 140737488355328) (hB : B ≤ w.heap.size) :
    ∃ v' w', (Builtin.append_ #[t, xt] ty #[v, x]).run P w = .ok v' w' ∧ Own B w' e v' sz (n + m) (cs ++ news) ∧ Below B w w' ∧ (∀ (T : Nat) (cs' : Array Value) (t' : TypeId) (fr : Nat × Nat), w.heap[T]? = some (.cells cs' t' fr) → t' ≠ e → w'.heap[T]? = w.heap[T]?) := by
  subst hsz
  subst hby
  obtain ⟨hl, a, cap, rfl, hnc, hcap, halt⟩ := hown
  obtain ⟨hnl, hlen, hfirst⟩ := hsrc
  have hf0 := hfirst w (fun _ => rfl)
  have hf1 := hfirst w.drew (fun p => by simp)
  have hll : (cs ++ news).length = (n + m) * i.size := by rw [List.length_append, hl, hnl, Nat.add_mul]
  by_cases hfit : n + m ≤ cap
  · rcases halt with h0 | ⟨g, cur, rfl, hg, hh, hs, htake⟩
    · subst h0
      obtain ⟨rfl, rfl⟩ : n = 0 ∧ m = 0 := by omega
      have e1 : cs = [] := List.eq_nil_of_length_eq_zero (by simpa using hl)
      have e2 : news = [] := List.eq_nil_of_length_eq_zero (by simpa using hnl)
      subst e1; subst e2
      refine ⟨.slice a 0 0, w, ?_, Own.none _ _ _ _ _, Below.refl _ _, fun _ _ _ _ _ _ => rfl⟩
      rcases hxt with ⟨e', hxt⟩ | hxt <;> cases a <;> simp [Builtin.append_, run_underlying ht, run_underlying hxt, sizeOf, typeInfo, hi, hlen, hf0, storeCells]
    · have hst := run_storeCells_at P g (n * i.size) e news 0 cur w hh (by rw [hs, hnl, Nat.add_zero, ← Nat.add_mul]; exact Nat.mul_le_mul_right _ hfit) h1
      simp only [Nat.add_zero] at hst
      refine ⟨.slice (some ⟨g, 0, Option.none⟩) (n + m) cap, w.setRow g (cur.toList.take (n * i.size) ++ news ++ cur.toList.drop (n * i.size + news.length)).toArray, ?_, ⟨hll, _, cap, rfl, hfit, hcap, .inr ⟨g, _, rfl, hg, setRow_heap w g cur _ e _ hh, ?_, ?_⟩⟩, ?_, ?_⟩
      · rcases hxt with ⟨e', hxt⟩ | hxt <;> simp [Builtin.append_, run_underlying ht, run_underlying hxt, sizeOf, typeInfo, hi, hlen, hf0, hfit, Addr.add_lit, hst]
      · have : n * i.size + news.length ≤ cap * i.size := by rw [hnl, ← Nat.add_mul]; exact Nat.mul_le_mul_right _ hfit
        simp only [List.size_toArray, List.length_append, List.length_take, List.length_drop, Array.length_toList]
        omega
      · rw [htake, ← hll]
        exact List.take_left
      · exact ⟨rfl, rfl, rfl, by simp [World.setRow], fun k hk => setRow_other w g k _ (by omega)⟩
      · intro T cs' t' fr hT hne
        refine setRow_other w g T _ (fun e' => ?_)
        subst e'
        rw [hh] at hT
        cases hT
        exact hne rfl
  · have hfo : (Builtin.firstCells i.size n (.slice a n cap)).run P w.drew = .ok cs.toArray w.drew := by
      have hr : Row w.heap.size w (.slice a n cap) i.size n cs := Own.row ⟨hl, a, cap, rfl, hnc, hcap, halt⟩
      exact hr.src.2.2 w.drew (fun p => by simp)
    have h63' : ¬ (9223372036854775807 < ((n : Int) + (m : Int))) := by unfold maxLen at h63; omega
    have h48' : ¬ (281474976710656 < Builtin.nextslicecap (n + m) cap * i.bytes) := Nat.not_lt.2 (growslice_fits (by omega) hroom)
    have hge := grownCap_ge w (n + m) cap e
    have hcm := grownCap_le_maxLen w (n + m) cap e h63
    refine ⟨.slice (some ⟨w.heap.size, 0, Option.none⟩) (n + m) (grownCap w (n + m) cap e), w.drew.alloc (.cells (cs.toArray ++ news.toArray ++ Builtin.zeroCells z.cells (grownCap w (n + m) cap e - (n + m))) e), ?_,
      ⟨hll, _, _, rfl, hge, hcm, .inr ⟨w.heap.size, _, rfl, hB, heap_alloc_new w.drew _, ?_, ?_⟩⟩, ?_, ?_⟩
    · rcases hxt with ⟨e', hxt⟩ | hxt <;> (simp [Builtin.append_, run_underlying ht, run_underlying hxt, sizeOf, typeInfo, zeroValue, hi, hz, hlen, hfit, h63', h48', Question.forced, hf1, hfo, newRow, grownCap]; (congr 2; apply Array.ext'; simp [List.append_assoc]))
    · simp only [Array.size_append, List.size_toArray, size_zeroCells, hzs, hl, hnl, ← Nat.add_mul]
      congr 1
      omega
    · simp only [Array.toList_append, List.append_assoc]
      rw [← List.append_assoc, ← hll]
      exact List.take_left
    · exact ⟨rfl, rfl, rfl, by simp, fun k hk => Below.heap_alloc w.drew _ k (Nat.lt_of_lt_of_le hk hB)⟩
    · intro T cs' t' fr hT _
      exact Below.heap_alloc w.drew _ T (block_lt hT)
theorem wp_append2 {P : Program} {ops : Array Oper} {rest : List Oper} {o : Oper} {a : Act} {w : World} {Q : Exit → Act → World → Prop} (hgd : o.guard = Option.none) (s y : Operand) (t xt e : TypeId)
    (ho : o.op = .call { callee := .builtin .append, args := #[s, y], argTypes := #[t, xt] }) (i : TypeInfo) (z : Value) (sz bytes : Nat)
    (ht : P.underlying t = some (.slice e)) (hxt : (∃ e', P.underlying xt = some (.slice e')) ∨ P.underlying xt = some .string) (hi : P.info? e = some i) (hz : i.zero = some z) (hsz : i.size = sz) (hby : i.bytes = bytes) (hzs : z.cells.size = sz)
    {B : Nat} {v x : Value} {n m : Nat} {cs news : List Value} (hs : a.eval s = v) (hx : a.eval y = x)
    (hown : Own B w e v sz n cs) (hsrc : Src P w x sz m news) (h1 : ∀ u ∈ news, u.oneCell' = true) (h63 : n + m ≤ maxLen) (hroom : (n + m) * bytes ≤ 140737488355328) (hB : B ≤ w.heap.size)
    (h : ∀ v' w', Own B w' e v' sz (n + m) (cs ++ news) → Below B w w' → (∀ (T : Nat) (cs' : Array Value) (t' : TypeId) (fr : Nat × Nat), w.heap[T]? = some (.cells cs' t' fr) → t' ≠ e → w'.heap[T]? = w.heap[T]?) → wpList P ops Q rest (a.put o.dst v') w') : wpList P ops Q (o :: rest) a w := by
  refine wpList_plain hgd fun K hK => ?_
  obtain ⟨v', w', hr, h2, h3, h4⟩ := run_append2 (P := P) t xt o.type e i z ht hxt hi hz hsz hby hzs hown hsrc h1 h63 hroom hB
  subst hs
  subst hx
  unfold Oper.wp execOp
  simp only [ho, resolve, invoke, builtin, Sem.run_bind, Sem.run_pure, Result.andThen_ok, List.map_toArray, List.map_cons, List.map_nil, hr]
  exact hK _ _ (h v' w' h2 h3 h4)
/-- An own slice outlives a write into a block of another type. -/
theorem Own.setType {B : Nat} {w : World} {e t : TypeId} {v : Value} {sz n : Nat} {cs : List Value} {cs' : Array Value} {fr : Nat × Nat} (h : Own B w e v sz n cs) (p : Addr) (u : Value) (hp : w.heap[p.block]? = some (.cells cs' t fr)) (ht : t ≠ e) : Own B (w.setCell p u) e v sz n cs := by
  obtain ⟨h1, a, cap, rfl, h2, h3, h4⟩ := h
  refine ⟨h1, a, cap, rfl, h2, h3, ?_⟩
  rcases h4 with h4 | ⟨g, cur, rfl, hg, hh, hs, ht'⟩
  · exact .inl h4
  · refine .inr ⟨g, cur, rfl, hg, ?_, hs, ht'⟩
    simp only [World.setCell, Array.getElem?_modify]
    rw [if_neg (fun e' => by rw [e', hh] at hp; cases hp; exact ht rfl)]
    exact hh
end Go.Proofs.YtaijompnohkmaaaGreatDoor
/- Layer 6 (kv), plainly: a transaction is read change by change. -/
namespace Go.Proofs.YtaijompnohkmaaaGreatDoor
namespace KvP
open PackP
theorem dec1_gone {r : RS} (h : r.num.2 = 1) : dec1 r = (((r.num.1.fail (decide (1 < r.num.2)) 3).text).1, ⟨((r.num.1.fail (decide (1 < r.num.2)) 3).text).2, [], true⟩) := by
  unfold dec1
  simp only [h, if_true]
theorem dec1_put {r : RS} (h : r.num.2 ≠ 1) : dec1 r = ((((r.num.1.fail (decide (1 < r.num.2)) 3).text).1.text).1, ⟨((r.num.1.fail (decide (1 < r.num.2)) 3).text).2, (((r.num.1.fail (decide (1 < r.num.2)) 3).text).1.text).2, false⟩) := by
  unfold dec1
  simp only [if_neg h]
theorem decN_snoc : ∀ (n : Nat) (r : RS), decN (n + 1) r = ((dec1 (decN n r).1).1, (decN n r).2 ++ [(dec1 (decN n r).1).2])
  | 0, r => rfl
  | n + 1, r => by
    have ih := decN_snoc n (dec1 r).1
    rw [decN]
    dsimp only
    rw [ih]
    rfl
theorem len_decN : ∀ (n : Nat) (r : RS), (decN n r).2.length = n
  | 0, _ => rfl
  | n + 1, r => by
    rw [decN]
    dsimp only
    rw [List.length_cons, len_decN n]
theorem take_keep {r : RS} (h : r.e ≠ 0) (n : Nat) : r.take n = (r, none) := by unfold RS.take; rw [if_neg h]
theorem num_keep {r : RS} (h : r.e ≠ 0) : r.num = (r, 0) := by unfold RS.num; rw [take_keep h]
theorem text_keep {r : RS} (h : r.e ≠ 0) : r.text = (r, []) := by unfold RS.text; rw [take_keep h]
theorem fail_keep {r : RS} (h : r.e ≠ 0) (b : Bool) (x : Int) : r.fail b x = r := by unfold RS.fail; rw [if_neg (fun h' => h h'.2)]
theorem doneE_bad {r : RS} (h : r.e ≠ 0) : r.doneE = r.e := by unfold RS.doneE; rw [if_neg (fun h' => h h'.1)]
theorem dec1_keep {r : RS} (h : r.e ≠ 0) : (dec1 r).1 = r := by
  rw [dec1_put (by rw [num_keep h]; exact (by decide : (0 : Int) ≠ 1)), num_keep h]
  dsimp only
  rw [fail_keep h, text_keep h]
  dsimp only
  rw [text_keep h]
theorem decN_stuck (M k : Nat) (r0 : RS) (hk : k ≤ M) (h : (decN k r0).1.e ≠ 0) : (decN M r0).1 = (decN k r0).1 := by
  obtain ⟨n, rfl⟩ := Nat.exists_eq_add_of_le hk
  clear hk
  induction n with
  | zero => rfl
  | succ n ih =>
    rw [← Nat.add_assoc, decN_snoc]
    rw [← ih] at h
    rw [dec1_keep h, ih]
theorem num_nat (r : RS) : ∃ n : Nat, r.num.2 = (n : Int) := by
  unfold RS.num
  split
  · exact ⟨0, rfl⟩
  · split
    · exact ⟨0, rfl⟩
    · exact ⟨_, rfl⟩
theorem count_nat (r : RS) : ∃ M : Nat, (r.count 400).2 = (M : Int) ∧ M ≤ 400 := by
  obtain ⟨n, hn⟩ := num_nat r
  unfold RS.count
  dsimp only
  split
  · split
    · exact ⟨0, rfl, by decide⟩
    · rename_i h
      exact ⟨n, hn, by rw [hn] at h; omega⟩
  · exact ⟨0, rfl, by decide⟩
theorem decodeP_bad (bs : List UInt8) (M : Nat) (hM : ((RS.mk bs 0).count 400).2 = (M : Int)) (h : (decN M ((RS.mk bs 0).count 400).1).1.doneE ≠ 0) : decodeP bs = ([], (decN M ((RS.mk bs 0).count 400).1).1.doneE) := by
  unfold decodeP
  dsimp only
  rw [hM, Int.toNat_natCast]
  have e : (if (decN M ((RS.mk bs 0).count 400).1).1.doneE = 0 ∧ changesB (decN M ((RS.mk bs 0).count 400).1).2 = false then (3 : Int) else (decN M ((RS.mk bs 0).count 400).1).1.doneE) = (decN M ((RS.mk bs 0).count 400).1).1.doneE := if_neg (fun h' => h h'.1)
  rw [e, if_neg h]
theorem decodeP_form (bs : List UInt8) (M : Nat) (hM : ((RS.mk bs 0).count 400).2 = (M : Int)) (h : (decN M ((RS.mk bs 0).count 400).1).1.doneE = 0) (hc : changesB (decN M ((RS.mk bs 0).count 400).1).2 = false) : decodeP bs = ([], 3) := by
  unfold decodeP
  dsimp only
  rw [hM, Int.toNat_natCast]
  have e : (if (decN M ((RS.mk bs 0).count 400).1).1.doneE = 0 ∧ changesB (decN M ((RS.mk bs 0).count 400).1).2 = false then (3 : Int) else (decN M ((RS.mk bs 0).count 400).1).1.doneE) = 3 := if_pos ⟨h, hc⟩
  rw [e]
  rfl
theorem decodeP_good (bs : List UInt8) (M : Nat) (hM : ((RS.mk bs 0).count 400).2 = (M : Int)) (h : (decN M ((RS.mk bs 0).count 400).1).1.doneE = 0) (hc : changesB (decN M ((RS.mk bs 0).count 400).1).2 = true) : decodeP bs = ((decN M ((RS.mk bs 0).count 400).1).2, 0) := by
  unfold decodeP
  dsimp only
  rw [hM, Int.toNat_natCast]
  have e : (if (decN M ((RS.mk bs 0).count 400).1).1.doneE = 0 ∧ changesB (decN M ((RS.mk bs 0).count 400).1).2 = false then (3 : Int) else (decN M ((RS.mk bs 0).count 400).1).1.doneE) = 0 := by
    rw [if_neg (fun h' => by have h2 := h'.2; rw [hc] at h2; cases h2), h]
  rw [e, if_pos rfl]
end KvP
end Go.Proofs.YtaijompnohkmaaaGreatDoor
/- Layer 5 (wal): the steps and the masks that come in to WalWhole. -/
namespace Go.Proofs.YtaijompnohkmaaaGreatDoor
open Go.RowKit WalP PackP
structure StepP where
  bytes : List UInt8
  last : Int
  pack : Bool
  fuse : Int
def stepCells (u : Value) (s : StepP) : List Value := [u, .int .u8 s.last, .bool s.pack, .int .i8 s.fuse]
def StepP.wf (s : StepP) : Prop := 0 ≤ s.last ∧ s.last < 256 ∧ -128 ≤ s.fuse ∧ s.fuse ≤ 127
/-- Steps, in a slice. -/
def StepsV (B : Nat) (w : World) (v : Value) (ss : List StepP) : Prop :=
  ∃ css : List (List Value), Row B w v 4 ss.length css.flatten ∧ (∀ c ∈ css, c.length = 4) ∧ css.length = ss.length ∧ ∀ (k : Nat) (h : k < ss.length), ∃ u, css[k]? = some (stepCells u ss[k]) ∧ Bytes B w u ss[k].bytes
/-- Masks, in a slice. -/
def Masks (B : Nat) (w : World) (v : Value) (ms : List Int) : Prop := Row B w v 1 ms.length (ms.map fun z => .int .u64 z)
theorem flat4 {css : List (List Value)} (h4 : ∀ c ∈ css, c.length = 4) {k : Nat} {c : List Value} (hc : css[k]? = some c) (j : Nat) (hj : j < 4) : css.flatten[k * 4 + j]? = c[j]? := by
  induction css generalizing k with
  | nil => simp at hc
  | cons x css ih =>
    have hx := h4 x (List.mem_cons_self ..)
    rw [List.flatten_cons]
    cases k with
    | zero =>
      simp only [List.getElem?_cons_zero, Option.some.injEq] at hc
      subst hc
      rw [List.getElem?_append_left (by omega)]
      congr 1
      omega
    | succ k =>
      rw [List.getElem?_append_right (by omega), hx]
      have := ih (fun y hy => h4 y (List.mem_cons_of_mem _ hy)) (k := k) (by simpa using hc)
      rw [← this]
      congr 1
      omega
theorem load_step {B : Nat} {w : World} {a : Option Addr} {n c : Nat} {ss : List StepP} (h : StepsV B w (.slice a n c) ss) {k : Nat} (hk : k < ss.length) :
    ∃ b off ra rc, a = some ⟨b, off, none⟩ ∧ b < B ∧ (∀ w', Below B w w' → w'.cell? ⟨b, off + k * 4, none⟩ = some (.slice ra ss[k].bytes.length rc) ∧ w'.cell? ⟨b, off + k * 4 + 1, none⟩ = some (.int .u8 ss[k].last) ∧ w'.cell? ⟨b, off + k * 4 + 2, none⟩ = some (.bool ss[k].pack) ∧ w'.cell? ⟨b, off + k * 4 + 3, none⟩ = some (.int .i8 ss[k].fuse)) ∧ Bytes B w (.slice ra ss[k].bytes.length rc) ss[k].bytes := by
  obtain ⟨css, ⟨hl, a0, cap, hv, hnc, hcap, hcells⟩, h4, hcl, hel⟩ := h
  cases hv
  obtain ⟨b, off, rfl, hBb, hc⟩ := hcells (by omega)
  obtain ⟨u, hu, hb⟩ := hel k hk
  obtain ⟨_, ra, rc, rfl, _, _, _⟩ := id hb
  refine ⟨b, off, ra, rc, rfl, hBb, fun w' hw => ?_, hb⟩
  have one : ∀ j (x : Value), j < 4 → (stepCells (.slice ra ss[k].bytes.length rc) ss[k])[j]? = some x → w'.cell? ⟨b, off + k * 4 + j, none⟩ = some x := fun j x hj hx => by
    have e := flat4 h4 hu j hj
    rw [hx] at e
    have := hc (k * 4 + j) x e
    rw [Nat.add_assoc]
    exact (hw.cell (p := ⟨b, off + (k * 4 + j), none⟩) hBb).trans this
  exact ⟨by simpa using one 0 _ (by decide) rfl, one 1 _ (by decide) rfl, one 2 _ (by decide) rfl, one 3 _ (by decide) rfl⟩
theorem load_mask {B : Nat} {w : World} {a : Option Addr} {n c : Nat} {ms : List Int} (h : Masks B w (.slice a n c) ms) {k : Nat} (hk : k < ms.length) :
    ∃ b off, a = some ⟨b, off, none⟩ ∧ b < B ∧ ∀ w', Below B w w' → w'.cell? ⟨b, off + k, none⟩ = some (.int .u64 ms[k]) := by
  obtain ⟨hl, a0, cap, hv, hnc, hcap, hcells⟩ := h
  cases hv
  obtain ⟨b, off, rfl, hBb, hc⟩ := hcells (by omega)
  refine ⟨b, off, rfl, hBb, fun w' hw => (hw.cell (p := ⟨b, off + k, none⟩) hBb).trans (hc k _ ?_)⟩
  rw [List.getElem?_map, List.getElem?_eq_getElem hk]; rfl
/-- A list that is made behind what is there, of records that are there. -/
theorem LS.made {D L : Nat} {w0 w : World} {v : Value} {ls : List (List UInt8)} {vs : List Value} {n : Nat} (hD : D < w0.heap.size) (hL : L < w0.heap.size) (hn : n = ls.length) (hown : Own w0.heap.size w 23 v 1 n vs)
    (hel : ∀ (k : Nat) (h : k < ls.length), ∃ u, vs[k]? = some u ∧ Bytes w.heap.size w u ls[k] ∧ Sl (fun b => b ≠ D ∧ b ≠ L) u) : LS D L w v ls := by
  subst hn
  obtain ⟨_, a, c, rfl, _, _, _⟩ := id hown
  exact ⟨a, c, rfl, vs, hown.row, hown.sl (fun b hb => by omega), hel⟩
/-- The elements of the records with one more. -/
theorem snoc_el {D L : Nat} {W wd w : World} {vs : List Value} {want : List (List UInt8)} {rec : List UInt8} {ra : Option Addr} {n rc : Nat} (hb : Below wd.heap.size wd w) (hvl : vs.length = want.length)
    (hel : ∀ (k : Nat) (h : k < want.length), ∃ u, vs[k]? = some u ∧ Bytes wd.heap.size wd u want[k] ∧ Sl (fun b => b ≠ D ∧ b ≠ L) u) (hby : Bytes W.heap.size wd (.slice ra n rc) rec) (hD : W.heap.size ≤ D) (hL : W.heap.size ≤ L) :
    ∀ (k : Nat) (h : k < (want ++ [rec]).length), ∃ u, ([] ++ vs ++ [.slice ra n rc])[k]? = some u ∧ Bytes w.heap.size w u (want ++ [rec])[k] ∧ Sl (fun b => b ≠ D ∧ b ≠ L) u := by
  intro k hk
  rw [List.nil_append]
  by_cases hkl : k < want.length
  · obtain ⟨u, h1, h2, h3⟩ := hel k hkl
    refine ⟨u, by rw [List.getElem?_append_left (by omega)]; exact h1, ?_, h3⟩
    rw [List.getElem_append_left hkl]
    exact Bytes.tight (h2.below hb)
  · have hke : k = want.length := by rw [List.length_append, List.length_singleton] at hk; omega
    subst hke
    refine ⟨.slice ra n rc, by rw [List.getElem?_append_right (by omega), hvl, Nat.sub_self]; rfl, ?_, ?_⟩
    · rw [List.getElem_append_right (Nat.le_refl _)]
      simp only [Nat.sub_self, List.getElem_cons_zero]
      have h0 := hby.tight
      exact Bytes.tight (h0.below hb)
    · exact Row.sl hby (fun b hb' => by omega)
/-- The elements of the last records. -/
theorem last_el {D L : Nat} {wd w : World} {vs : List Value} {want : List (List UInt8)} (hb : Below wd.heap.size wd w) (j : Nat)
    (hel : ∀ (k : Nat) (h : k < want.length), ∃ u, vs[k]? = some u ∧ Bytes wd.heap.size wd u want[k] ∧ Sl (fun b => b ≠ D ∧ b ≠ L) u) :
    ∀ (k : Nat) (h : k < (want.drop j).length), ∃ u, ([] ++ vs.drop j)[k]? = some u ∧ Bytes w.heap.size w u (want.drop j)[k] ∧ Sl (fun b => b ≠ D ∧ b ≠ L) u := by
  intro k hk
  rw [List.length_drop] at hk
  obtain ⟨u, h1, h2, h3⟩ := hel (j + k) (by omega)
  refine ⟨u, by rw [List.nil_append, List.getElem?_drop]; exact h1, ?_, h3⟩
  rw [List.getElem_drop]
  exact Bytes.tight (h2.below hb)
theorem nine_recS {w w' : World} {g : Nat} (hw : w' = (w.alloc (.cells #[.int .u8 9] 5)).alloc (.cells #[.slice (some ⟨w.heap.size, 0, none⟩) 1 1] 23)) (hg : g = w.heap.size + 1) {S : Nat → Prop} : PiecesS (fun b => S b ∨ w.heap.size ≤ b) w'.heap.size w' (.slice (some ⟨g, 0, none⟩) 1 1) [[9]] := by
  subst hw
  subst hg
  have h1 := Row.fresh (w := w) (C := #[.int .u8 9]) (e := 5) (fz := (0, 0)) (sz := 1) (n := 1) (cap := 1) (cs := [.int .u8 9]) rfl (Nat.le_refl _) (by decide) (fun k u hk => by simpa using hk)
  have hb1 : Below (w.heap.size + 1) (w.alloc (.cells #[.int .u8 9] 5)) ((w.alloc (.cells #[.int .u8 9] 5)).alloc (.cells #[.slice (some ⟨w.heap.size, 0, none⟩) 1 1] 23)) := Below.alloc (Below.refl _ _) (by simp) _
  have h2 := Row.fresh (w := w.alloc (.cells #[.int .u8 9] 5)) (C := #[.slice (some ⟨w.heap.size, 0, none⟩) 1 1]) (e := 23) (fz := (0, 0)) (sz := 1) (n := 1) (cap := 1) (cs := [.slice (some ⟨w.heap.size, 0, none⟩) 1 1]) rfl (Nat.le_refl _) (by decide) (fun k u hk => by simpa using hk)
  have e : (w.alloc (.cells #[.int .u8 9] 5)).heap.size = w.heap.size + 1 := by simp
  rw [e] at h2
  refine ⟨[.slice (some ⟨w.heap.size, 0, none⟩) 1 1], h2.tight (by decide), fun a n c h _ => ?_, fun k hk => ?_⟩
  · cases h
    exact .inr (by show w.heap.size ≤ w.heap.size + 1; omega)
  · obtain rfl : k = 0 := by simpa using hk
    refine ⟨_, rfl, Row.tight (h1.below hb1) (by decide), fun a n c h _ => ?_⟩
    cases h
    exact .inr (Nat.le_refl _)
/-- Blocks of a kind that lie below a bound are of another one, too. -/
theorem PiecesS.weakB {S T : Nat → Prop} {B : Nat} {w : World} {v : Value} {ls : List (List UInt8)} (h : PiecesS S B w v ls) (hT : ∀ b, S b → b < B → T b) : PiecesS T B w v ls := by
  have one : ∀ {sz n : Nat} {cs : List Value} {u : Value}, Row B w u sz n cs → Sl S u → Sl T u := fun {sz n cs u} hr hs => by
    obtain ⟨_, a, cap, rfl, _, _, h3⟩ := hr
    intro a' n' c' hv hp
    have hS := hs _ _ _ hv hp
    cases hv
    obtain ⟨b, off, he, hb, _⟩ := h3 hp
    cases he
    exact hT _ hS hb
  obtain ⟨vs, h1, h2, h3⟩ := h
  exact ⟨vs, h1, one h1 h2, fun k hk => let ⟨u, g1, g2, g3⟩ := h3 k hk; ⟨u, g1, g2, one g2 g3⟩⟩
end Go.Proofs.YtaijompnohkmaaaGreatDoor
/- Layer 5 (wal), plainly: the fixed fact. -/
namespace Go.Proofs.YtaijompnohkmaaaGreatDoor
namespace WalP
theorem alive_plain : ∃ d1 d2 d3, formatP (newP 20).1 [[1]] = (d1, ⟨0, 1, 2, 1⟩, 0) ∧ appendP d1 ⟨0, 1, 2, 1⟩ [116, 119, 111] = (d2, ⟨0, 1, 4, 2⟩, 0) ∧ openP d2 = (d3, ⟨1, 2, 4, 2⟩, [[1], [116, 119, 111]], 0) ∧ appendP d3 ⟨1, 2, 4, 2⟩ (List.replicate 500 0) = (d3, ⟨1, 2, 4, 2⟩, 8) := by
  have h0 := calm_new (n := 20) (by decide)
  have ht : takes ([1] : List UInt8).length ≠ 0 := by decide
  rcases format_holds h0 (by decide) [[1]] with ⟨h, _⟩ | ⟨n, h, hn, _⟩ | ⟨_, _, _, f1, f2, f3⟩
  · exact absurd h (by rw [total_some (by decide) (fun b hb => by rw [List.mem_singleton.1 hb]; exact ht)]; simp)
  · rw [total_some (by decide) (fun b hb => by rw [List.mem_singleton.1 hb]; exact ht)] at h
    cases h
    exact absurd hn (by decide)
  · generalize formatP (newP 20).1 [[1]] = F at f1 f2 f3 ⊢
    obtain ⟨d1, l1, e1⟩ := F
    dsimp only at f1 f2 f3
    subst f1
    have el : l1 = ⟨0, 1, 2, 1⟩ := f2
    subst el
    have hr1 := f3.room
    have hh1 : WalP.half d1 = 10 := half_of f3.calm
    rw [hh1] at hr1
    rcases append_holds f3 [116, 119, 111] with ⟨h, _⟩ | ⟨_, h, _⟩ | ⟨_, _, a1, a2, a3⟩
    · exact absurd h (by decide)
    · rw [hr1] at h
      exact absurd h (by decide)
    · refine ⟨d1, ?_⟩
      generalize appendP d1 ⟨0, 1, 2, 1⟩ [116, 119, 111] = F at a1 a2 a3 ⊢
      obtain ⟨d2, l2, e2⟩ := F
      dsimp only at a1 a2 a3
      subst a1
      have el : l2 = ⟨0, 1, 4, 2⟩ := a2
      subst el
      obtain ⟨o1, o2, o3, o4⟩ := open_holds a3 (by decide)
      have key : ∃ d3, openP d2 = (d3, ⟨1, 2, 4, 2⟩, [[1], [116, 119, 111]], 0) ∧ Holds 20 d3 ⟨1, 2, 4, 2⟩ [[1], [116, 119, 111]] := by
        generalize openP d2 = F at o1 o2 o3 o4 ⊢
        obtain ⟨d3, l3, r3, e3⟩ := F
        dsimp only at o1 o2 o3 o4
        subst o1
        subst o2
        have el : l3 = ⟨1, 2, 4, 2⟩ := o3
        subst el
        exact ⟨d3, rfl, o4⟩
      clear o1 o2 o3 o4
      obtain ⟨d3, hop, o4⟩ := key
      have hr3 := o4.room
      have hh3 : WalP.half d3 = 10 := half_of o4.calm
      rw [hh3] at hr3
      rcases append_holds o4 (List.replicate 500 0) with ⟨h, _⟩ | ⟨_, _, h⟩ | ⟨_, h, _⟩
      · rw [List.length_replicate] at h
        exact absurd h (by decide)
      · exact ⟨d2, d3, rfl, rfl, hop, h⟩
      · rw [hr3, List.length_replicate] at h
        exact absurd h (by decide)
end WalP
end Go.Proofs.YtaijompnohkmaaaGreatDoor
/- Layer 5 (wal): the fixed fact, walked. -/
namespace Go.Proofs.YtaijompnohkmaaaGreatDoor
open Go.RowKit WalP PackP
theorem run_make500 (w : World) : (Instr.makeSlice 23 (.int .i64 500) (.int .i64 500)).run Tryz.prog w = .ok (.slice (some ⟨w.heap.size, 0, none⟩) 500 500) (w.alloc (.cells (Array.replicate 500 (.int .u8 0)) 5)) := by kernel_rfl
theorem make500 (w : World) : ∃ w' g, (Instr.makeSlice 23 (.int .i64 500) (.int .i64 500)).run Tryz.prog w = .ok (.slice (some ⟨g, 0, none⟩) 500 500) w' ∧ Below w.heap.size w w' ∧ Bytes w'.heap.size w' (.slice (some ⟨g, 0, none⟩) 500 500) (List.replicate 500 0) := by
  refine ⟨_, _, run_make500 w, Below.alloc (Below.refl _ _) (Nat.le_refl _) _, ?_⟩
  have h := Row.fresh (w := w) (C := Array.replicate 500 (.int .u8 0)) (e := 5) (fz := (0, 0)) (sz := 1) (n := 500) (cap := 500) (cs := List.replicate 500 (.int .u8 0)) (by rw [List.length_replicate]) (Nat.le_refl _) (by decide) (fun k u hk => by rw [List.getElem?_replicate] at hk; rw [Array.getElem?_replicate]; exact hk)
  unfold Bytes
  rw [List.length_replicate, show u8s (List.replicate 500 0) = List.replicate 500 (.int .u8 0) by rw [u8s, List.map_replicate]; rfl]
  exact Row.tight h (by decide)
theorem one_rec (w : World) : ∃ w' g, Hid (w' = (w.alloc (.cells #[.int .u8 1] 5)).alloc (.cells #[.slice (some ⟨w.heap.size, 0, none⟩) 1 1] 23)) ∧ Hid (g = w.heap.size + 1) ∧ Below w.heap.size w w' ∧ Pieces w'.heap.size w' (.slice (some ⟨g, 0, none⟩) 1 1) [[1]] := by
  have h1 := Row.fresh (w := w) (C := #[.int .u8 1]) (e := 5) (fz := (0, 0)) (sz := 1) (n := 1) (cap := 1) (cs := [.int .u8 1]) rfl (Nat.le_refl _) (by decide) (fun k u hk => by simpa using hk)
  have hb1 : Below (w.heap.size + 1) (w.alloc (.cells #[.int .u8 1] 5)) ((w.alloc (.cells #[.int .u8 1] 5)).alloc (.cells #[.slice (some ⟨w.heap.size, 0, none⟩) 1 1] 23)) := Below.alloc (Below.refl _ _) (by simp) _
  have h2 := Row.fresh (w := w.alloc (.cells #[.int .u8 1] 5)) (C := #[.slice (some ⟨w.heap.size, 0, none⟩) 1 1]) (e := 23) (fz := (0, 0)) (sz := 1) (n := 1) (cap := 1) (cs := [.slice (some ⟨w.heap.size, 0, none⟩) 1 1]) rfl (Nat.le_refl _) (by decide) (fun k u hk => by simpa using hk)
  have e : (w.alloc (.cells #[.int .u8 1] 5)).heap.size = w.heap.size + 1 := by simp
  rw [e] at h2
  refine ⟨_, _, Lib.hid rfl, Lib.hid rfl, Below.alloc (Below.alloc (Below.refl _ _) (Nat.le_refl _) _) (by simp) _, [.slice (some ⟨w.heap.size, 0, none⟩) 1 1], h2.tight (by decide), fun k hk => ?_⟩
  obtain rfl : k = 0 := by simpa using hk
  exact ⟨_, rfl, Row.tight (h1.below hb1) (by decide)⟩
theorem info_disk : ∃ i, Tryz.prog.info? 38 = some i ∧ i.size = 4 := by
  obtain ⟨i, hi, hs⟩ := Option.map_eq_some_iff.1 size_disk
  exact ⟨i, hi, hs⟩
theorem info_log : ∃ i, Tryz.prog.info? 41 = some i ∧ i.size = 4 := by
  obtain ⟨i, hi, hs⟩ := Option.map_eq_some_iff.1 size_log
  exact ⟨i, hi, hs⟩
theorem ones4 {a b c d : Value} (h0 : a.oneCell' = true) (h1 : b.oneCell' = true) (h2 : c.oneCell' = true) (h3 : d.oneCell' = true) : ∀ v ∈ (#[a, b, c, d] : Array Value).toList, v.oneCell' = true := by
  intro v hv
  simp only [List.mem_cons, List.not_mem_nil, or_false] at hv
  rcases hv with rfl | rfl | rfl | rfl <;> assumption
end Go.Proofs.YtaijompnohkmaaaGreatDoor
/- Layer 5 (wal): what the statements' walks share. -/
namespace Go.Proofs.YtaijompnohkmaaaGreatDoor
open Go.RowKit WalP PackP
theorem sl_far {T : Nat} {B : Nat} {w : World} {v : Value} {sz n : Nat} {cs : List Value} {C : Array Value} {e : TypeId} {fz : Nat × Nat} (hsz : 64 ≤ sz) (h : Row B w v sz n cs) (hT : w.heap[T]? = some (.cells C e fz)) (hC : C.size < 64) : Sl (· ≠ T) v := by
  obtain ⟨hl, a, cap, rfl, _, _, h3⟩ := h
  intro a' n' c' hv hp
  cases hv
  obtain ⟨b, off, hb, _, hc⟩ := h3 hp
  cases hb
  show b ≠ T
  intro e1
  subst e1
  have hlen : off + 63 < off + cs.length := by
    rw [hl]
    have : sz ≤ n * sz := Nat.le_mul_of_pos_left sz hp
    omega
  have h63 : 63 < cs.length := by omega
  have := hc 63 _ (List.getElem?_eq_getElem h63)
  unfold World.cell? at this
  rw [hT] at this
  simp only at this
  have h4 : C[off + 63]? = none := Array.getElem?_eq_none (by omega)
  rw [h4] at this
  cases this
/-- What is stored elsewhere, over a small block, leaves a disk as it is. -/
theorem DiskV.kept {B T : Nat} {w w' : World} {v : Value} {d : DiskP} {C : Array Value} {e : TypeId} {fz : Nat × Nat} (h : DiskV B w v d) (hT : w.heap[T]? = some (.cells C e fz)) (hC : C.size < 64) (hk : ∀ k, k ≠ T → w'.heap[k]? = w.heap[k]?) : DiskV B w' v d := by
  obtain ⟨sv, lv, rfl, hs, hl⟩ := h
  exact ⟨sv, lv, rfl, ⟨hs.1, hs.2.keepS (sl_far (by decide) hs.2 hT hC) (fun k hk1 _ => hk k hk1)⟩, ⟨hl.1, hl.2.keepS (sl_far (by decide) hl.2 hT hC) (fun k hk1 _ => hk k hk1)⟩⟩
theorem DAt.kept {T D : Nat} {w w' : World} {d : DiskP} {C : Array Value} {e : TypeId} {fz : Nat × Nat} (h : DAt w D d) (hT : w.heap[T]? = some (.cells C e fz)) (hC : C.size < 64) (hk : ∀ k, k ≠ T → w'.heap[k]? = w.heap[k]?) (hne : D ≠ T) : DAt w' D d := by
  obtain ⟨a0, n0, a1, n1, h1, h2⟩ := h
  exact ⟨a0, n0, a1, n1, (hk D hne).trans h1, (h2.kept hT hC hk).tight⟩
theorem LAt.kept {T L : Nat} {w w' : World} {l : LogP} (h : LAt w L l) (hk : ∀ k, k ≠ T → w'.heap[k]? = w.heap[k]?) (hne : L ≠ T) : LAt w' L l := (hk L hne).trans h
/-- A disk is stored into its variable. -/
theorem DAt.stored {D : Nat} {w w' : World} {d d' : DiskP} {y0 y1 y2 y3 : Value} (h : DAt w D d) (hd : DiskV w.heap.size w (.agg #[y0, y1, y2, y3]) d') (hr : w'.heap[D]? = some (.cells #[y0, y1, y2, y3] 38 (0, 0))) (hk : ∀ k, k ≠ D → w'.heap[k]? = w.heap[k]?) : DAt w' D d' := by
  obtain ⟨x0, x1, x2, x3, hx⟩ := h.row
  obtain ⟨p1, q1, p2, q2, hv, _, _⟩ := hd.parts
  have hd' := (hd.kept hx (by simp) hk).tight
  simp only [Value.agg.injEq, Array.mk.injEq, List.cons.injEq] at hv
  obtain ⟨rfl, rfl, rfl, rfl, _⟩ := hv
  exact ⟨p1, q1, p2, q2, hr, hd'⟩
/-- A step's disk and log, in fresh variables. -/
def DLBox (w : World) (r : DiskP × LogP × Int) (wx : World) (s1 s2 s3 : Value) : Prop :=
  ∃ ga gb, s1 = .pointer (some ⟨ga, 0, none⟩) ∧ s2 = .pointer (some ⟨gb, 0, none⟩) ∧ s3 = .int .i64 r.2.2 ∧ w.heap.size ≤ ga ∧ w.heap.size ≤ gb ∧ ga ≠ gb ∧ DAt wx ga r.1 ∧ LAt wx gb r.2.1 ∧ Below w.heap.size w wx
theorem greatB0 (list : List (List UInt8)) : greatB 0 0 list = decide (20000 < greatN list 0) := by simp [greatB]
end Go.Proofs.YtaijompnohkmaaaGreatDoor
/- Layer 6 (kv), plainly: the fixed fact. -/
namespace Go.Proofs.YtaijompnohkmaaaGreatDoor
namespace KvP
open PackP WalP
def cA : List ChangeP := [⟨[98], [50], false⟩, ⟨[97], [49], false⟩]
def cB : List ChangeP := [⟨[97], [], true⟩]
def prA : List PairP := [⟨[97], [49]⟩, ⟨[98], [50]⟩]
def prB : List PairP := [⟨[98], [50]⟩]
theorem commit_step {d : DiskP} {l : LogP} {recs : List (List UInt8)} {pairs : List PairP} {c : List ChangeP} {n : Nat} (h : Holds 40 d l recs) (hpb : pairsB pairs = true) (hc : changesB c = true) (hlen : (bytesP c).length ≤ 6000)
    (hp' : pairsB (doP pairs c) = true) (htk : takes (bytesP c).length = n) (hn : n ≠ 0) (hroom : n + posN recs ≤ 20) :
    ∃ d', commitK d ⟨l, pairs⟩ c = (d', ⟨{ l with used := l.used + n, count := l.count + 1 }, doP pairs c⟩, 0) ∧ Holds 40 d' { l with used := l.used + n, count := l.count + 1 } (recs ++ [bytesP c]) := by
  have hrm := h.room
  have hh : WalP.half d = 20 := half_of h.calm
  rw [hh] at hrm
  have hen : encodeP c = (bytesP c, 0) := by unfold encodeP; rw [hc, if_pos rfl, if_neg (by omega)]
  have hrs : rightS d ⟨l, pairs⟩ = true := by
    unfold rightS
    rw [Bool.and_eq_true]
    exact ⟨h.right, hpb⟩
  rcases append_holds h (bytesP c) with ⟨h1, _⟩ | ⟨_, h1, _⟩ | ⟨_, _, a1, a2, a3⟩
  · rw [htk] at h1
    exact absurd h1 hn
  · rw [htk, hrm] at h1
    exact absurd h1 (by omega)
  · rw [htk] at a2
    refine ⟨(appendP d l (bytesP c)).1, ?_, ?_⟩
    · unfold commitK
      rw [hc, hrs, hen]
      dsimp only
      rw [hp', a1]
      simp only [Bool.and_self, if_true]
      rw [if_neg (show ¬ ((0 : Int) = 8) by decide), a1, if_pos rfl, a2]
    · rw [a2] at a3
      exact a3
theorem kalive_plain : ∃ d1 d2 d3 d4 l4, formatK (newP 40).1 = (d1, ⟨⟨0, 1, 2, 1⟩, []⟩, 0) ∧ commitK d1 ⟨⟨0, 1, 2, 1⟩, []⟩ cA = (d2, ⟨⟨0, 1, 4, 2⟩, prA⟩, 0) ∧ commitK d2 ⟨⟨0, 1, 4, 2⟩, prA⟩ cB = (d3, ⟨⟨0, 1, 6, 3⟩, prB⟩, 0) ∧ openK d3 = (d4, ⟨l4, prB⟩, 0) := by
  have h0 := calm_new (n := 40) (by decide)
  have ht : takes (bytesP []).length ≠ 0 := by decide
  have hs : snapP [] = [bytesP []] := rfl
  rcases format_holds h0 (by decide) [bytesP []] with ⟨h, _⟩ | ⟨n, h, hn, _⟩ | ⟨_, _, _, f1, f2, f3⟩
  · exact absurd h (by rw [total_some (by decide) (fun b hb => by rw [List.mem_singleton.1 hb]; exact ht)]; simp)
  · rw [total_some (by decide) (fun b hb => by rw [List.mem_singleton.1 hb]; exact ht)] at h
    cases h
    exact absurd hn (by decide)
  · have hfk : ∃ d1, formatK (newP 40).1 = (d1, ⟨⟨0, 1, 2, 1⟩, []⟩, 0) ∧ Holds 40 d1 ⟨0, 1, 2, 1⟩ [bytesP []] := by
      unfold formatK
      rw [hs]
      generalize formatP (newP 40).1 [bytesP []] = F at f1 f2 f3 ⊢
      obtain ⟨d1, l1, e1⟩ := F
      dsimp only at f1 f2 f3
      subst f1
      have el : l1 = ⟨0, 1, 2, 1⟩ := f2
      subst el
      exact ⟨d1, rfl, f3⟩
    obtain ⟨d1, e1, g1⟩ := hfk
    obtain ⟨d2, e2, g2⟩ := commit_step (n := 2) (pairs := []) (c := cA) g1 (by decide) (by decide) (by decide) (by decide) (by decide) (by decide) (by decide)
    obtain ⟨d3, e3, g3⟩ := commit_step (n := 2) (pairs := prA) (c := cB) g2 (by decide) (by decide) (by decide) (by decide) (by decide) (by decide) (by decide)
    obtain ⟨o1, o2, o3, o4⟩ := open_holds g3 (by decide)
    have p1 : playedP [bytesP []] [] = ([], 0) := played_snoc (a := []) (x := []) (l := []) (c := []) rfl rfl rfl
    have p2 : playedP ([bytesP []] ++ [bytesP cA]) [] = (doP [] cA, 0) := played_snoc p1 (by decide) (by decide)
    have p3 : playedP (([bytesP []] ++ [bytesP cA]) ++ [bytesP cB]) [] = (doP (doP [] cA) cB, 0) := played_snoc p2 (by decide) (by decide)
    refine ⟨d1, d2, d3, (openP d3).1, (openP d3).2.1, e1, e2, e3, ?_⟩
    unfold openK
    dsimp only
    rw [o2, if_pos rfl, o1, p3, if_pos rfl]
    rfl
end KvP
end Go.Proofs.YtaijompnohkmaaaGreatDoor
/- Layer 6 (kv): a map of texts, held against pairs by rising keys (no program). -/
namespace Go.Proofs.YtaijompnohkmaaaGreatDoor
open Go.Maps KvP
/-- The datum holds just these pairs. -/
def AgreeM (D : DataW Unit) (l : List PairP) : Prop :=
  Rising l ∧ (∀ k, Maps.has D (.string k) = (getP l k).isSome) ∧ ∀ k z, D.atKey (.string k) z = match getP l k with | some v => .lit (.string v) | none => z
theorem AgreeM.nil : AgreeM (.map []) [] := ⟨List.Pairwise.nil, fun _ => rfl, fun _ _ => rfl⟩
theorem isKey_str (k : List UInt8) : WideAt.IsKeyLit (.string k) := by
  first | exact trivial | exact ⟨_, rfl⟩ | simp [WideAt.IsKeyLit]
theorem AgreeM.put {D : DataW Unit} {l : List PairP} (h : AgreeM D l) (hD : IsMap D) (k v : List UInt8) : AgreeM (D.put (.string k) (.lit (.string v))) (putK l k v) := by
  obtain ⟨h1, h2, h3⟩ := h
  refine ⟨h1.put k v, fun x => ?_, fun x z => ?_⟩
  · rw [getP_put]
    by_cases hx : k = x
    · subst hx
      rw [has_put_same hD (isKey_str k), if_pos rfl]
      rfl
    · rw [has_put_other (fun e => hx (by cases e; rfl)), h2, if_neg hx]
  · rw [getP_put]
    by_cases hx : k = x
    · subst hx
      rw [atKey_put_same hD (isKey_str k), if_pos rfl]
    · rw [atKey_put_other (fun e => hx (by cases e; rfl)), h3, if_neg hx]
theorem AgreeM.del {D : DataW Unit} {l : List PairP} (h : AgreeM D l) (k : List UInt8) : AgreeM (D.del (.string k)) (delK l k) := by
  obtain ⟨h1, h2, h3⟩ := h
  refine ⟨h1.del k, fun x => ?_, fun x z => ?_⟩
  · rw [getP_del]
    by_cases hx : k = x
    · subst hx
      rw [has_del_same, if_pos rfl]
      rfl
    · rw [has_del_other (fun e => hx (by cases e; rfl)), h2, if_neg hx]
  · rw [getP_del]
    by_cases hx : k = x
    · subst hx
      rw [atKey_del_same, if_pos rfl]
    · rw [atKey_del_other (fun e => hx (by cases e; rfl)), h3, if_neg hx]
theorem putK_end {l : List PairP} {k v : List UInt8} (h : ∀ q ∈ l, q.key < k) : putK l k v = l ++ [⟨k, v⟩] := by
  induction l with
  | nil => rfl
  | cons p l ih =>
    rw [putK, if_pos (h p (List.mem_cons_self ..)), ih (fun q hq => h q (List.mem_cons_of_mem _ hq))]
    rfl
theorem putK_take {l : List PairP} (hr : Rising l) (k : Nat) (hk : k < l.length) : putK (l.take k) l[k].key l[k].val = l.take (k + 1) := by
  rw [List.take_succ_eq_append_getElem hk, putK_end]
  intro q hq
  obtain ⟨i, hi, rfl⟩ := List.mem_iff_getElem.1 hq
  rw [List.length_take] at hi
  rw [List.getElem_take]
  exact List.pairwise_iff_getElem.1 hr i k (by omega) hk (by omega)
theorem getP_mem {l : List PairP} (hr : Rising l) {p : PairP} (hp : p ∈ l) : getP l p.key = some p.val := by
  induction l with
  | nil => cases hp
  | cons q l ih =>
    rw [getP_cons]
    rcases List.mem_cons.1 hp with rfl | hp
    · rw [if_pos rfl]
    · have h1 := hr.head p hp
      rw [if_neg (fun e => List.lt_irrefl p.key (by rw [e] at h1; exact h1)), ih hr.tail hp]
theorem getP_isSome {l : List PairP} (hr : Rising l) (k : List UInt8) : k ∈ l.map PairP.key ↔ (getP l k).isSome = true := by
  constructor
  · intro h
    obtain ⟨p, hp, rfl⟩ := List.mem_map.1 h
    rw [getP_mem hr hp]
    rfl
  · intro h
    refine Classical.byContradiction fun hn => ?_
    rw [getP_none_of (fun q hq e => hn (by rw [← e]; exact List.mem_map_of_mem hq))] at h
    cases h
/-- The keys, sorted, are the pairs' keys in their order. -/
theorem AgreeM.keys {P : Program} {K : TypeId} {R : Value → Option (DataW Unit × List MemPlace)} {w : World} {b n : Nat} {D : DataW Unit} {l : List PairP} (h : AgreeM D l) (hown : w.ownsMap P K R b n D) (hK : Keyed P K) (hk : P.underlying K = some .string)
    {ss : List (List UInt8)} (hp : ss.Perm (strKeys D)) : ss.mergeSort (fun x y => decide (x ≤ y)) = l.map PairP.key := by
  have hc : Collected D (fun _ => false) (l.map PairP.key) := by
    refine ⟨?_, fun x => ?_⟩
    · refine List.pairwise_map.2 (h.1.imp (fun {a b} hab e => ?_))
      rw [e] at hab
      exact List.lt_irrefl _ hab
    · rw [getP_isSome h.1, h.2.1]
      simp
  have h2 := hc.perm hown hK hk (fun _ => rfl)
  rw [mergeSort_of_perm (hp.trans h2.symm)]
  refine List.mergeSort_of_pairwise (List.pairwise_map.2 (h.1.imp (fun {a b} hab => ?_)))
  simp only [decide_eq_true_eq]
  exact List.le_of_lt hab
theorem AgreeM.size {P : Program} {K : TypeId} {R : Value → Option (DataW Unit × List MemPlace)} {w : World} {b n : Nat} {D : DataW Unit} {l : List PairP} (h : AgreeM D l) (hown : w.ownsMap P K R b n D) (hK : Keyed P K) (hk : P.underlying K = some .string) :
    Maps.size D = l.length := by
  have hc : Collected D (fun _ => false) (l.map PairP.key) := by
    refine ⟨?_, fun x => ?_⟩
    · refine List.pairwise_map.2 (h.1.imp (fun {a b} hab e => ?_))
      rw [e] at hab
      exact List.lt_irrefl _ hab
    · rw [getP_isSome h.1, h.2.1]
      simp
  have h2 := (hc.perm hown hK hk (fun _ => rfl)).length_eq
  obtain ⟨es, rfl⟩ := hown.isMap
  rw [List.length_map] at h2
  rw [size_eq, h2]
  simp [strKeys]
end Go.Proofs.YtaijompnohkmaaaGreatDoor
