/- Layer 5 (wal), plainly: a log on a disk that may fall: appended to, compacted, opened. -/
import Derived.Test.YtaijompnohkmaaaDoorZWalG
import Derived.Test.YtaijompnohkmaaaDoorMR
namespace Go.Proofs.YtaijompnohkmaaaDoor
namespace WalP
/-- A log holds records, on a disk that is up, with a fuse or none. -/
structure HoldsF (S : Nat) (d : DiskP) (l : LogP) (list : List (List UInt8)) : Prop where
  up : Up S 0 d
  kept : KeptAt S d.secs l.half l.gen list
  zeros : hv d.secs (base S l.half) (S / 2) = recsV l.gen 0 list ++ List.replicate (S / 2 - posN list) zeroS
  used : l.used = posN list
  count : l.count = list.length
theorem Up.no_loose {S : Nat} {d : DiskP} (h : Up S 0 d) : d.loose = [] := List.eq_nil_of_length_eq_zero (Nat.le_zero.1 h.len)
theorem half_up {S n : Nat} {d : DiskP} (h : Up S n d) : half d = S / 2 := by unfold half; rw [h.secs]
theorem Up.view {S : Nat} {d : DiskP} (h : Up S 0 d) (hS : S ≤ 4096) {w : Int} (hw : w = 0 ∨ w = 1) : viewP d w = hv d.secs (base S w) (S / 2) := by
  have hr := h.right hS (by omega)
  have hs := h.secs
  have hd := h.down
  have hlo := h.no_loose
  have hh := half_up h
  obtain ⟨b1, _, b3, _, _⟩ := base_facts (S := S) hw
  unfold viewP
  rw [hh]
  apply List.ext_getElem?
  intro i
  rw [List.getElem?_map, hv_at]
  by_cases hi : i < S / 2
  · rw [List.getElem?_range hi, if_pos hi, b1]
    have ht : thereB d (((base S w : Nat) : Int) + i) = true := by simp [thereB, hs]; omega
    have hl : base S w + i < d.secs.length := by omega
    have e : (((base S w : Nat) : Int) + i).toNat = base S w + i := by omega
    simp [readP, hr, ht, hd, hlo, lastW, e, hl]
  · rw [if_neg hi, List.getElem?_eq_none (by simpa using hi)]; rfl
theorem HoldsF.right {S : Nat} {d : DiskP} {l : LogP} {list : List (List UInt8)} (h : HoldsF S d l list) (hg : l.gen ≤ 1099511627776) : rightL d l = true := by
  have hr := h.up.right h.kept.hS (by omega)
  have hh := half_up h.up
  have h2 := posN_two h.kept.ne h.kept.tk
  have hc := len_le_posN list h.kept.tk
  have hf := h.kept.fits
  have hp : 0 < list.length := List.length_pos_iff.2 h.kept.ne
  have hw := h.kept.hw
  have g0 := h.kept.g0
  unfold rightL
  rw [hr, h.used, h.count, hh]
  simp only [Bool.true_and, Bool.and_eq_true, Bool.or_eq_true, decide_eq_true_eq]
  omega
theorem KeptAt.list_len {S : Nat} {t : List (List UInt8)} {w gen : Int} {list : List (List UInt8)} (h : KeptAt S t w gen list) : list.length ≤ 2 ^ 40 := by
  have := len_le_posN list h.tk
  have := h.fits
  have := h.hS
  omega
/-- What is kept is read. -/
theorem KeptAt.records {S : Nat} {t : List (List UInt8)} {w gen : Int} {list : List (List UInt8)} (h : KeptAt S t w gen list) (hg : gen ≤ 1099511627776) : recordsP (hv t (base S w) (S / 2)) = (list, posN list, gen, 0) := by
  obtain ⟨z, hz, hz0⟩ := h.here
  rw [hz]
  unfold recordsP
  have hl := length_recsV gen list 0 h.tk
  have hp := len_le_posN list h.tk
  have := recsGo_back gen h.g0 hg z hz0 list [] [] ((recsV gen 0 list ++ z).length + 1) 0 h.tk (by have := h.list_len; simpa using this) (by rw [List.length_append]; omega) (.inl rfl) (by simpa using h.ne)
  simpa using this
theorem low_gen {S : Nat} {t : List (List UInt8)} {w g : Int} (hl : low t (base S w) g) (g0 : 1 ≤ g) : genV (hv t (base S w) (S / 2)) < g := by
  rcases genV_eq (hv t (base S w) (S / 2)) with h | ⟨h1, h2, h3⟩
  · omega
  · rw [h3]
    have hS : 0 < S / 2 := by simp [hv] at h1; omega
    have e := hv_at t (base S w) (S / 2) 0
    rw [if_pos hS, Nat.add_zero] at e
    have hs : t[base S w]? = some ((hv t (base S w) (S / 2)).getD 0 []) := by
      rw [← e, List.getD_eq_getElem?_getD, List.getElem?_eq_getElem h1]; rfl
    exact hl _ hs h2
/-- A record more is appended, or the disk falls. -/
theorem app_falls {S : Nat} {d : DiskP} {l : LogP} {list : List (List UInt8)} (h : HoldsF S d l list) (hg : l.gen ≤ 1099511627776) (b : List UInt8) (hb : takes b.length ≠ 0) (hn : posN list + takes b.length ≤ S / 2) :
    ((run d (appendD d l b)).2 = 0 ∧ HoldsF S (run d (appendD d l b)).1 { l with used := l.used + takes b.length, count := l.count + 1 } (list ++ [b]) ∧ (d.fuse = -1 → (run d (appendD d l b)).1.fuse = -1)) ∨
    ((run d (appendD d l b)).2 = 9 ∧ Fell S 100000 (run d (appendD d l b)).1 ∧ d.fuse ≠ -1 ∧ ∀ t, Settled ((run d (appendD d l b)).1.secs, (run d (appendD d l b)).1.loose) t → KeptAt S t l.half l.gen list ∨ KeptAt S t l.half l.gen (list ++ [b])) := by
  have hk := h.kept
  have hS := hk.hS
  obtain ⟨b1, b2, b3, b4, b5⟩ := base_facts (S := S) hk.hw
  obtain ⟨F, hF⟩ : ∃ F, F = base S l.half := ⟨_, rfl⟩
  obtain ⟨H, hH⟩ : ∃ H, H = S / 2 := ⟨_, rfl⟩
  obtain ⟨a, ha⟩ : ∃ a, a = F + posN list := ⟨_, rfl⟩
  have hc := takes_chunks hb
  have hcl := length_chunks b
  have h2 := takes_two hb
  have hhalf := half_up h.up
  have hat : l.half * (half d : Nat) + l.used = (a : Int) := by rw [hhalf, h.used, ha, hF, b1]; omega
  have hlo := h.up.no_loose
  obtain ⟨s0, hs0⟩ : ∃ s0, s0 = d.secs := ⟨_, rfl⟩
  have hL : s0.length = S := by rw [hs0]; exact h.up.secs
  obtain ⟨m, hm⟩ : ∃ m, m = markOf l.gen list.length b := ⟨_, rfl⟩
  have hD : appendD d l b = (bytesD a b ++ [.flush]) ++ [.put a m, .flush] := by
    unfold appendD
    rw [hat, h.count, hm]
    simp [markOf]
  have haS : a + takes b.length ≤ S := by rw [ha, hF]; omega
  have hfb : ∀ x ∈ bytesD a b, fit S x := fit_bytes haS hb
  have hfit : ∀ x ∈ appendD d l b, fit S x := by
    intro x hx
    rw [hD] at hx
    simp only [List.mem_append, List.mem_cons, List.not_mem_nil, or_false] at hx
    rcases hx with (hx | rfl) | rfl | rfl
    · exact hfb x hx
    · trivial
    · show 0 ≤ (a : Int) ∧ (a : Int) < S
      omega
    · trivial
  have hlen : (appendD d l b).length ≤ 200 := by
    have := takes_le b.length
    rw [hD]
    simp [length_bytesD]
    omega
  have hzs := h.zeros
  rw [← hs0, ← hF, ← hH] at hzs
  -- what agrees with what was there, but for the record's sectors, keeps the elder records
  have hold : ∀ t : List (List UInt8), t.length = S → (∀ i, ¬ (a < i ∧ i < a + takes b.length) → t[i]? = s0[i]?) → KeptAt S t l.half l.gen list := by
    intro t ht he
    have hview : hv t F H = recsV l.gen 0 list ++ (hv t F H).drop (posN list) := by
      have e1 : (hv t F H).take (posN list) = recsV l.gen 0 list := by
        have e2 : (hv s0 F H).take (posN list) = recsV l.gen 0 list := by
          rw [hzs, List.take_left' (length_recsV l.gen list 0 hk.tk)]
        rw [← e2]
        apply List.ext_getElem?
        intro i
        rw [List.getElem?_take, List.getElem?_take]
        by_cases hi : i < posN list
        · rw [if_pos hi, if_pos hi, hv_at, hv_at]
          by_cases hi2 : i < H
          · rw [if_pos hi2, if_pos hi2]
            exact he _ (by omega)
          · rw [if_neg hi2, if_neg hi2]
        · rw [if_neg hi, if_neg hi]
      rw [← e1]
      exact (List.take_append_drop _ _).symm
    refine ⟨ht, hS, hk.hw, hk.g0, hk.ne, hk.tk, hk.fits, ⟨(hv t F H).drop (posN list), by rw [← hF, ← hH]; exact hview, fun _ => ?_⟩, ?_⟩
    · have hpl : posN list < H := by rw [hH]; omega
      have e1 : ((hv t F H).drop (posN list)).getD 0 [] = zeroS := by
        rw [List.getD_eq_getElem?_getD, List.getElem?_drop, Nat.add_zero, hv_at, if_pos hpl, he _ (by omega)]
        have e2 : (hv s0 F H)[posN list]? = some zeroS := by
          rw [hzs, List.getElem?_append_right (by rw [length_recsV l.gen list 0 hk.tk]; exact Nat.le_refl _), length_recsV l.gen list 0 hk.tk, Nat.sub_self, List.getElem?_replicate, if_pos (by omega)]
        rw [hv_at, if_pos hpl] at e2
        rw [e2]; rfl
      rw [e1]
      exact zero_none
    · have e := he (base S (1 - l.half)) (by rw [ha, hF]; omega)
      intro s hs
      rw [e] at hs
      exact hk.other s (hs0 ▸ hs)
  obtain ⟨s1, hs1⟩ : ∃ s1, s1 = after s0 (bytesD a b) := ⟨_, rfl⟩
  have hs1w : s1 = wr s0 (a + 1) (chunks b) := by rw [hs1, bytes_after]
  have hl1 : s1.length = S := by rw [hs1, length_after]; exact hL
  have h1o : ∀ i, ¬ (a < i ∧ i < a + takes b.length) → s1[i]? = s0[i]? := fun i hi => by
    rw [hs1w, wr_at _ _ _ _ (by omega), if_neg (by omega)]
  have hset : (s1.set a m) = (wr s0 (a + 1) (chunks b)).set a m := by rw [hs1w]
  have hview2 := app_view (v := s0) (F := F) (H := H) (gen := l.gen) (list := list) (b := b) hk.tk hb (by rw [hH]; exact hn) (by rw [hL, hF, hH]; exact b3) hzs
  rw [← ha, ← hm, ← hset] at hview2
  have hp2 : posN (list ++ [b]) = posN list + takes b.length := by rw [posN_append]; simp [posN]
  have hlen2 : (s1.set a m).length = S := by rw [List.length_set]; exact hl1
  have hzero2 : ∀ k : Nat, 0 < (List.replicate k zeroS).length → (readMark ((List.replicate k zeroS).getD 0 [])).2 = false := fun k hk0 => by
    rw [List.length_replicate] at hk0
    rw [List.getD_eq_getElem?_getD, List.getElem?_replicate, if_pos hk0]
    exact zero_none
  have htk2 : ∀ x ∈ list ++ [b], takes x.length ≠ 0 := by
    intro x hx
    rcases List.mem_append.1 hx with hx | hx
    · exact hk.tk x hx
    · rw [List.mem_singleton.1 hx]; exact hb
  have hnew : KeptAt S (s1.set a m) l.half l.gen (list ++ [b]) := by
    refine ⟨hlen2, hS, hk.hw, hk.g0, by simp, htk2, by rw [hp2]; exact hn, ⟨_, by rw [← hF, ← hH]; exact hview2, hzero2 _⟩, ?_⟩
    intro s hs
    rw [List.getElem?_set_ne (by rw [ha, hF]; omega), h1o _ (by rw [ha, hF]; omega)] at hs
    exact hk.other s (hs0 ▸ hs)
  obtain ⟨Q, hQ⟩ : ∃ Q : St → Prop, Q = fun s => ∀ t, Settled s t → KeptAt S t l.half l.gen list ∨ KeptAt S t l.half l.gen (list ++ [b]) := ⟨_, rfl⟩
  have hfalls : falls Q (s0, []) (appendD d l b) := by
    rw [hD]
    have pA : ∀ ls : List WriteP, (∀ x ∈ ls, (a : Int) < x.at_ ∧ x.at_ < a + takes b.length) → Q (s0, ls) := by
      intro ls hls
      rw [hQ]
      intro t ht
      left
      refine hold t (ht.len.trans hL) (fun i hi => ?_)
      rcases ht.each i with h | ⟨x, hx, h1, _⟩
      · exact h
      · have := hls x hx; omega
    obtain ⟨fA, lsA, sA, hA⟩ := falls_puts (P := fun x => (a : Int) < x.at_ ∧ x.at_ < a + takes b.length) s0 pA (bytesD a b) [] (fun x hx => absurd hx List.not_mem_nil) (fun y hy => by
      unfold bytesD at hy
      obtain ⟨i, hi, rfl⟩ := List.mem_map.1 hy
      rw [List.mem_range] at hi
      exact ⟨_, _, rfl, by show (a : Int) < a + 1 + i; omega, by show (a : Int) + 1 + i < a + takes b.length; omega⟩)
    have fA' : falls Q (s0, []) (bytesD a b ++ [.flush]) := falls_append Q _ _ _ fA (by rw [sA]; exact ⟨pA lsA hA, trivial⟩)
    refine falls_append Q _ _ _ fA' ?_
    rw [steps_flush _ (by rw [hL]; exact hfb), ← hs1]
    refine ⟨?_, ?_, trivial⟩
    · rw [hQ]
      intro t ht
      rw [ht.none]
      exact .inl (hold s1 hl1 h1o)
    · rw [hQ]
      intro t ht
      rcases Settled.one ht with h | h
      · rw [h]
        exact .inl (hold s1 hl1 h1o)
      · rw [h]
        exact .inr hnew
  have hend : steps (s0, []) (appendD d l b) = (s1.set a m, []) := by
    have e : appendD d l b = (bytesD a b ++ [.flush] ++ [.put a m]) ++ [.flush] := by rw [hD]; simp
    rw [e, steps_flush _ (fun x hx => by rw [hL]; exact hfit x (by rw [e]; simp only [List.mem_append] at hx ⊢; exact .inl hx))]
    rw [after_append, after_append, ← hs1]
    rfl
  have hmain := run_falls hS (Q := Q) (appendD d l b) h.up (by omega) hfit (by rw [hlo, ← hs0]; exact hfalls)
  rw [hlo, ← hs0, hend] at hmain
  rcases hmain with ⟨r1, r2, r3, r4, _⟩ | ⟨r1, r2, r3, r4⟩
  · left
    simp only [Prod.mk.injEq] at r3
    refine ⟨r1, ⟨⟨r2.secs, r2.down, r2.fuse, r2.at_, by rw [r3.2]; exact Nat.le_refl _⟩, by rw [r3.1]; exact hnew, ?_, ?_, ?_⟩, r4⟩
    · show hv _ (base S l.half) _ = recsV l.gen 0 (list ++ [b]) ++ _
      rw [r3.1, ← hF, ← hH]
      exact hview2
    · show l.used + _ = _
      rw [h.used, hp2]; omega
    · show l.count + 1 = _
      rw [h.count]; simp
  · right
    rw [hQ] at r3
    exact ⟨r1, ⟨r2.secs, r2.down, r2.fuse, r2.at_, Nat.le_trans r2.len (by omega)⟩, r4, r3⟩
/-- How a compaction ends. -/
theorem compact_cases {S : Nat} {d : DiskP} {l : LogP} {list0 : List (List UInt8)} (hu : Up S 0 d) (hk : KeptAt S d.secs l.half l.gen list0) (hR : rightL d l = true) (hg : l.gen ≤ 1099511627775) (list : List (List UInt8)) :
    (total list = none ∧ compactP d l list = (d, l, 1)) ∨ (total list = some (posN list) ∧ S / 2 < posN list ∧ compactP d l list = (d, l, 8)) ∨
    (∃ d', compactP d l list = (d', ⟨1 - l.half, l.gen + 1, posN list, list.length⟩, 0) ∧ HoldsF S d' ⟨1 - l.half, l.gen + 1, posN list, list.length⟩ list ∧ (d.fuse = -1 → d'.fuse = -1)) ∨
    (∃ d', compactP d l list = (d', l, 9) ∧ Fell S 100000 d' ∧ d.fuse ≠ -1 ∧ ∀ t, Settled (d'.secs, d'.loose) t → KeptAt S t l.half l.gen list0 ∨ KeptAt S t (1 - l.half) (l.gen + 1) list) := by
  have hh := half_up hu
  rcases total_eq list with ht | ⟨hne, hb, ht⟩
  · exact .inl ⟨ht, by simp only [compactP, ht]⟩
  · right
    by_cases hn : half d < posN list
    · left
      refine ⟨ht, by rw [← hh]; exact hn, ?_⟩
      simp only [compactP, ht, hR, if_true, if_pos hn]
    · right
      have e : compactP d l list = if (run d (layD (S / 2) (1 - l.half) (l.gen + 1) list)).2 = 0 then ((run d (layD (S / 2) (1 - l.half) (l.gen + 1) list)).1, ⟨1 - l.half, l.gen + 1, posN list, list.length⟩, 0) else ((run d (layD (S / 2) (1 - l.half) (l.gen + 1) list)).1, l, (run d (layD (S / 2) (1 - l.half) (l.gen + 1) list)).2) := by
        simp only [compactP, ht, hR, if_true, if_neg hn]
        rw [if_neg (by omega), hh]
      rcases lay_falls hu hk hg hne hb (by rw [← hh]; omega) with ⟨r1, r2, r3, r4, r5⟩ | ⟨r1, r2, r3, r4⟩
      · left
        refine ⟨_, by rw [e, if_pos r1], ⟨r2, r3, r4, rfl, rfl⟩, r5⟩
      · right
        refine ⟨_, by rw [e, if_neg (by rw [r1]; decide), r1], r2, r3, r4⟩
/-- How an append ends. -/
theorem append_cases {S : Nat} {d : DiskP} {l : LogP} {list : List (List UInt8)} (h : HoldsF S d l list) (hg : l.gen ≤ 1099511627776) (b : List UInt8) :
    (takes b.length = 0 ∧ appendP d l b = (d, l, 1)) ∨ (takes b.length ≠ 0 ∧ appendP d l b = (d, l, 8)) ∨
    (∃ d', appendP d l b = (d', { l with used := l.used + takes b.length, count := l.count + 1 }, 0) ∧ HoldsF S d' { l with used := l.used + takes b.length, count := l.count + 1 } (list ++ [b]) ∧ (d.fuse = -1 → d'.fuse = -1)) ∨
    (∃ d', appendP d l b = (d', l, 9) ∧ Fell S 100000 d' ∧ d.fuse ≠ -1 ∧ ∀ t, Settled (d'.secs, d'.loose) t → KeptAt S t l.half l.gen list ∨ KeptAt S t l.half l.gen (list ++ [b])) := by
  have hR := h.right hg
  have hh := half_up h.up
  by_cases ht : takes b.length = 0
  · exact .inl ⟨ht, by unfold appendP; rw [if_pos (.inl ht)]⟩
  · right
    by_cases hro : roomP d l < takes b.length
    · exact .inl ⟨ht, by unfold appendP; rw [if_neg (by simp [ht, hR]), if_pos hro]⟩
    · right
      have hroom : roomP d l = (half d : Nat) - l.used := by unfold roomP; rw [if_pos hR]
      have hn : posN list + takes b.length ≤ S / 2 := by rw [hroom, h.used, hh] at hro; omega
      have e : appendP d l b = if (run d (appendD d l b)).2 = 0 then ((run d (appendD d l b)).1, { l with used := l.used + takes b.length, count := l.count + 1 }, 0) else ((run d (appendD d l b)).1, l, (run d (appendD d l b)).2) := by
        unfold appendP
        rw [if_neg (by simp [ht, hR]), if_neg hro]
      rcases app_falls h hg b ht hn with ⟨r1, r2, r3⟩ | ⟨r1, r2, r3, r4⟩
      · left
        exact ⟨_, by rw [e, if_pos r1], r2, r3⟩
      · right
        exact ⟨_, by rw [e, if_neg (by rw [r1]; decide), r1], r2, r3, r4⟩
/-- How an opening ends. -/
theorem open_cases {S : Nat} {d : DiskP} {w gen : Int} {list : List (List UInt8)} (hu : Up S 0 d) (hk : KeptAt S d.secs w gen list) (hg : gen ≤ 1099511627775) :
    (∃ d', openP d = (d', ⟨1 - w, gen + 1, posN list, list.length⟩, list, 0) ∧ HoldsF S d' ⟨1 - w, gen + 1, posN list, list.length⟩ list ∧ (d.fuse = -1 → d'.fuse = -1)) ∨
    (∃ d', openP d = (d', log0, [], 9) ∧ Fell S 100000 d' ∧ d.fuse ≠ -1 ∧ ∀ t, Settled (d'.secs, d'.loose) t → KeptAt S t w gen list ∨ KeptAt S t (1 - w) (gen + 1) list) := by
  have hS := hk.hS
  have hr := hu.right hS (by omega)
  have hd := hu.down
  have hw' : 1 - w = 0 ∨ 1 - w = 1 := by have := hk.hw; omega
  have eh : recordsP (viewP d w) = (list, posN list, gen, 0) := by rw [hu.view hS hk.hw]; exact hk.records (by omega)
  have eo : genV (viewP d (1 - w)) < gen := by rw [hu.view hS hw']; exact low_gen hk.other hk.g0
  unfold genV at eo
  have hx : (if (recordsP (viewP d 0)).2.2.1 < (recordsP (viewP d 1)).2.2.1 then recordsP (viewP d 1) else recordsP (viewP d 0)) = (list, posN list, gen, 0) ∧ (if (recordsP (viewP d 0)).2.2.1 < (recordsP (viewP d 1)).2.2.1 then (1 : Int) else 0) = w := by
    rcases hk.hw with e | e
    · rw [e] at eh eo
      rw [if_neg (by rw [eh]; show ¬ gen < (recordsP (viewP d (1 - 0))).2.2.1; omega), if_neg (by rw [eh]; show ¬ gen < (recordsP (viewP d (1 - 0))).2.2.1; omega), e]
      exact ⟨eh, rfl⟩
    · rw [e] at eh eo
      rw [if_pos (by rw [eh]; exact eo), if_pos (by rw [eh]; exact eo), e]
      exact ⟨eh, rfl⟩
  obtain ⟨h1, h2⟩ := hx
  have hR : rightL d ⟨w, gen, posN list, list.length⟩ = true := by
    have hh := half_up hu
    have h2 := posN_two hk.ne hk.tk
    have hc := len_le_posN list hk.tk
    have hf := hk.fits
    have hp : 0 < list.length := List.length_pos_iff.2 hk.ne
    have hw := hk.hw
    have g0 := hk.g0
    unfold rightL
    rw [hr, hh]
    simp only [Bool.true_and, Bool.and_eq_true, Bool.or_eq_true, decide_eq_true_eq]
    omega
  have e : openP d = if (compactP d ⟨w, gen, posN list, list.length⟩ list).2.2 ≠ 0 then ((compactP d ⟨w, gen, posN list, list.length⟩ list).1, log0, [], (compactP d ⟨w, gen, posN list, list.length⟩ list).2.2) else ((compactP d ⟨w, gen, posN list, list.length⟩ list).1, (compactP d ⟨w, gen, posN list, list.length⟩ list).2.1, list, 0) := by
    simp only [openP, hr, hd, h1, h2]
    simp
  rcases compact_cases hu hk hR hg list with ⟨ht, _⟩ | ⟨_, hn, _⟩ | ⟨d', c1, c2, c3⟩ | ⟨d', c1, c2, c3, c4⟩
  · rw [total_some hk.ne hk.tk] at ht; cases ht
  · have := hk.fits; omega
  · left
    refine ⟨d', ?_, c2, c3⟩
    rw [e, c1, if_neg (by simp)]
  · right
    refine ⟨d', ?_, c2, c3, c4⟩
    rw [e, c1, if_pos (show (9 : Int) ≠ 0 by decide)]
/-- A disk that has fallen is started. -/
theorem Fell.start {S : Nat} {d : DiskP} (h : Fell S 100000 d) (hS : S ≤ 4096) (m : Int) : ∃ t, startP d m = (⟨t, [], -1, false⟩, 0) ∧ Settled (d.secs, d.loose) t ∧ Up S 0 ⟨t, [], -1, false⟩ := by
  obtain ⟨t, h1, h2⟩ := start_of (h.right hS (by omega)) (fun x hx => (h.at_ x hx).1) m
  exact ⟨t, h1, h2, ⟨h2.len.trans h.secs, rfl, ⟨Int.le_refl _, show (-1 : Int) ≤ 1099511627776 by decide⟩, fun x hx => absurd hx List.not_mem_nil, Nat.zero_le _⟩⟩
/-- A disk that is up with nothing loose is armed. -/
theorem Up.arm {S : Nat} {d : DiskP} (h : Up S 0 d) (hS : S ≤ 4096) {f : Int} (h0 : -1 ≤ f) (h1 : f ≤ 1099511627776) : armP d f = ({ d with fuse := f }, 0) ∧ Up S 0 { d with fuse := f } := by
  have hr := h.right hS (by omega)
  have hf : fusedB f = true := by simp [fusedB]; omega
  exact ⟨by simp [armP, hr, hf], ⟨h.secs, h.down, ⟨h0, h1⟩, h.at_, h.len⟩⟩
theorem HoldsF.arm {S : Nat} {d : DiskP} {l : LogP} {list : List (List UInt8)} (h : HoldsF S d l list) {f : Int} (h0 : -1 ≤ f) (h1 : f ≤ 1099511627776) : armP d f = ({ d with fuse := f }, 0) ∧ HoldsF S { d with fuse := f } l list := by
  obtain ⟨e, hu⟩ := h.up.arm h.kept.hS h0 h1
  exact ⟨e, ⟨hu, h.kept, h.zeros, h.used, h.count⟩⟩
end WalP
end Go.Proofs.YtaijompnohkmaaaDoor
