/- Layer 5 (wal), plainly: how a step ends on a disk that may fall, for the statement on falls. -/
import Derived.Test.YtaijompnohkmaaaDoorZWalH
namespace Go.Proofs.YtaijompnohkmaaaDoor
open WalP
theorem takes_6000 {n : Nat} (h : takes n ≠ 0) : n ≤ 6000 := by
  unfold takes at h
  split at h
  · exact absurd rfl h
  · omega
/-- What may be behind a fall. -/
def FallP (G : Int) (d : DiskP) (A B : List (List UInt8)) : Prop := Fell 80 100000 d ∧ ∀ t, Settled (d.secs, d.loose) t → ∃ w gen, gen ≤ G ∧ (KeptAt 80 t w gen A ∨ KeptAt 80 t w gen B)
/-- How a step ends. -/
def Outcome (G : Int) (e : Int) (d : DiskP) (l : LogP) (want nx : List (List UInt8)) (quiet : Prop) : Prop :=
  (e = 0 ∧ HoldsF 80 d l nx ∧ l.gen ≤ G) ∨ (e = 1 ∧ quiet ∧ HoldsF 80 d l want ∧ l.gen ≤ G) ∨ (e = 8 ∧ HoldsF 80 d l want ∧ l.gen ≤ G) ∨ (e = 9 ∧ FallP G d want nx)
theorem append_outcome {d : DiskP} {l : LogP} {want : List (List UInt8)} (h : HoldsF 80 d l want) {G : Int} (hg : l.gen ≤ G) (hG : G ≤ 1000000) (b : List UInt8) (hb : b.length ≤ 6000) :
    Outcome (G + 1) (appendP d l b).2.2 (appendP d l b).1 (appendP d l b).2.1 want (want ++ [b]) (b = []) := by
  rcases append_cases h (by omega) b with ⟨h0, e⟩ | ⟨_, e⟩ | ⟨d', e, h1, _⟩ | ⟨d', e, h1, _, h2⟩
  · rw [e]
    refine .inr (.inl ⟨rfl, ?_, h, by show l.gen ≤ _; omega⟩)
    unfold takes at h0
    split at h0
    · exact List.eq_nil_of_length_eq_zero (by omega)
    · omega
  · rw [e]
    exact .inr (.inr (.inl ⟨rfl, h, by show l.gen ≤ _; omega⟩))
  · rw [e]
    exact .inl ⟨rfl, h1, by show l.gen ≤ _; omega⟩
  · rw [e]
    refine .inr (.inr (.inr ⟨rfl, h1, fun t ht => ?_⟩))
    rcases h2 t ht with h | h
    · exact ⟨_, _, by omega, .inl h⟩
    · exact ⟨_, _, by omega, .inr h⟩
theorem compact_outcome {d : DiskP} {l : LogP} {want : List (List UInt8)} (h : HoldsF 80 d l want) {G : Int} (hg : l.gen ≤ G) (hG : G ≤ 1000000) (nx : List (List UInt8)) (hne : nx ≠ []) (htk : ∀ b ∈ nx, takes b.length ≠ 0) (q : Prop) :
    Outcome (G + 1) (compactP d l nx).2.2 (compactP d l nx).1 (compactP d l nx).2.1 want nx q := by
  rcases compact_cases h.up h.kept (h.right (by omega)) (by omega) nx with ⟨ht, _⟩ | ⟨_, _, e⟩ | ⟨d', e, h1, _⟩ | ⟨d', e, h1, _, h2⟩
  · rw [total_some hne htk] at ht; cases ht
  · rw [e]
    exact .inr (.inr (.inl ⟨rfl, h, by show l.gen ≤ _; omega⟩))
  · rw [e]
    exact .inl ⟨rfl, h1, by show l.gen + 1 ≤ _; omega⟩
  · rw [e]
    refine .inr (.inr (.inr ⟨rfl, h1, fun t ht => ?_⟩))
    rcases h2 t ht with h | h
    · exact ⟨_, _, by omega, .inl h⟩
    · exact ⟨_, _, by omega, .inr h⟩
/-- A disk that is up, with records kept in it. -/
def UpK (G : Int) (d : DiskP) (X : List (List UInt8)) : Prop := Up 80 0 d ∧ ∃ w gen, gen ≤ G ∧ KeptAt 80 d.secs w gen X
theorem FallP.start {G : Int} {d : DiskP} {A B : List (List UInt8)} (h : FallP G d A B) (m : Int) : ∃ d', startP d m = (d', 0) ∧ d'.fuse = -1 ∧ ∃ X, (X = A ∨ X = B) ∧ UpK G d' X := by
  obtain ⟨t, e, hs, hu⟩ := h.1.start (by decide) m
  obtain ⟨w, gen, hg, hk⟩ := h.2 t hs
  rcases hk with hk | hk
  · exact ⟨_, e, rfl, A, .inl rfl, hu, w, gen, hg, hk⟩
  · exact ⟨_, e, rfl, B, .inr rfl, hu, w, gen, hg, hk⟩
theorem UpK.arm {G : Int} {d : DiskP} {X : List (List UInt8)} (h : UpK G d X) {f : Int} (h0 : -1 ≤ f) (h1 : f ≤ 1000) : armP d f = ({ d with fuse := f }, 0) ∧ UpK G { d with fuse := f } X := by
  obtain ⟨e, hu⟩ := h.1.arm (by decide) h0 (by omega)
  exact ⟨e, hu, h.2⟩
/-- How an opening ends: the records, or a fall. -/
theorem UpK.opened {G : Int} {d : DiskP} {X : List (List UInt8)} (h : UpK G d X) (hG : G ≤ 1000000) (A B : List (List UInt8)) (hX : X = A ∨ X = B) :
    (∃ d' l', openP d = (d', l', X, 0) ∧ HoldsF 80 d' l' X ∧ l'.gen ≤ G + 1 ∧ (d.fuse = -1 → d'.fuse = -1)) ∨ (∃ d', openP d = (d', log0, [], 9) ∧ d.fuse ≠ -1 ∧ FallP (G + 1) d' A B) := by
  obtain ⟨hu, w, gen, hg, hk⟩ := h
  rcases open_cases hu hk (by omega) with ⟨d', e, h1, h2⟩ | ⟨d', e, h1, h2, h3⟩
  · left
    exact ⟨d', _, e, h1, by show gen + 1 ≤ _; omega, h2⟩
  · right
    refine ⟨d', e, h2, h1, fun t ht => ?_⟩
    rcases h3 t ht with h | h
    · refine ⟨w, gen, by omega, ?_⟩
      rcases hX with rfl | rfl
      · exact .inl h
      · exact .inr h
    · refine ⟨1 - w, gen + 1, by omega, ?_⟩
      rcases hX with rfl | rfl
      · exact .inl h
      · exact .inr h
theorem HoldsF.upK {d : DiskP} {l : LogP} {X : List (List UInt8)} (h : HoldsF 80 d l X) {G : Int} (hg : l.gen ≤ G) : UpK G d X := ⟨h.up, _, _, hg, h.kept⟩
theorem HoldsF.start {d : DiskP} {l : LogP} {X : List (List UInt8)} (h : HoldsF 80 d l X) (m : Int) : startP d m = ({ d with fuse := -1 }, 0) ∧ HoldsF 80 { d with fuse := -1 } l X := by
  have hr := h.up.right (by decide) (by omega)
  have hlo := h.up.no_loose
  have hd := h.up.down
  have e : startP d m = ({ d with fuse := -1 }, 0) := by
    simp only [startP, hr, if_true, hlo]
    obtain ⟨a, b, c, e⟩ := d
    simp only at hlo hd
    subst hlo
    subst hd
    rfl
  exact ⟨e, (h.arm (Int.le_refl _) (by decide)).2⟩
theorem after_put40 (v : List (List UInt8)) (ds : List Deed) : after v (.put 40 zeroS :: ds) = after (v.set 40 zeroS) ds := rfl
theorem format_holdsF {d0 : DiskP} (hc : WalP.Calm 80 0 d0) : ∃ d1, formatP d0 [[9]] = (d1, ⟨0, 1, 2, 1⟩, 0) ∧ HoldsF 80 d1 ⟨0, 1, 2, 1⟩ [[9]] ∧ d1.fuse = -1 := by
  rcases format_holds hc (by decide) [[9]] with ⟨h, _⟩ | ⟨n, h, hn, _⟩ | ⟨hne, htk, hp, f1, f2, f3⟩
  · exact absurd h (by decide)
  · rw [show total [[9]] = some 2 from rfl] at h
    cases h
    exact absurd hn (by decide)
  · have hr := hc.right (by decide) (by omega)
    have hh := half_of hc
    -- what the first put leaves
    obtain ⟨p1, p2, p3⟩ := hc.put (by decide) (by omega) 40 zeroS (by omega) (by omega)
    generalize hF : formatP d0 [[9]] = F at f1 f2 f3 ⊢
    obtain ⟨a, b, c⟩ := F
    simp only at f1 f2 f3
    subst f1
    subst f2
    refine ⟨a, rfl, ?_, f3.calm.fuse⟩
    have hup := f3.calm.is_up
    have hv0 := hup.view (by decide) (w := 0) (.inl rfl)
    have hv1 := hup.view (by decide) (w := 1) (.inr rfl)
    have here := f3.here
    have hhalf := half_up hup
    change viewP a 0 = _ at here
    rw [hv0, hhalf] at here
    -- the other half's first sector is zero
    have hz : a.secs[40]? = some zeroS := by
      have hlo := hup.no_loose
      have hsee : see a = a.secs := by
        have := see_sure a.secs a.fuse a.down
        rw [← hlo] at this
        exact this
      have hrun : a = (run d0 (.put 40 zeroS :: layD 40 0 1 [[9]])).1 := by
        have e : formatP d0 [[9]] = if (run d0 (.put 40 zeroS :: layD 40 0 1 [[9]])).2 = 0 then ((run d0 (.put 40 zeroS :: layD 40 0 1 [[9]])).1, ⟨0, 1, 2, 1⟩, 0) else ((run d0 (.put 40 zeroS :: layD 40 0 1 [[9]])).1, log0, (run d0 (.put 40 zeroS :: layD 40 0 1 [[9]])).2) := by
          have e0 : half d0 = 40 := hh
          simp only [formatP, show total [[9]] = some 2 from rfl, hr, if_true, e0]
          rfl
        rw [hF] at e
        split at e
        · exact congrArg Prod.fst e
        · rename_i hne'
          have := congrArg (fun x => x.2.2) e
          simp only at this
          exact absurd this.symm hne'
      have hfit : ∀ x ∈ (Deed.put 40 zeroS :: layD 40 0 1 [[9]]), fit 80 x := by
        intro x hx
        rcases List.mem_cons.1 hx with rfl | hx
        · exact ⟨by decide, by decide⟩
        · exact fit_lay (F := 0) hne htk (by decide) (by decide) 0 (by decide) x hx
      have hl := length_layD (H := 40) (which := 0) (gen := 1) htk
      have hp2 : posN [[(9 : UInt8)]] = 2 := by decide
      obtain ⟨_, _, r3⟩ := WalP.Calm.run (by decide) (Deed.put 40 zeroS :: layD 40 0 1 [[9]]) hc (by rw [List.length_cons]; omega) hfit
      rw [← hrun, hsee] at r3
      rw [r3]
      rw [after_put40]
      have hsl : (see d0).length = 80 := by rw [length_see]; exact hc.secs
      have e := lay_far (v := (see d0).set 40 zeroS) (F := 0) (H := 40) (F' := 40) (gen := 1) hne htk (by decide) (by rw [List.length_set, hsl]; decide) 0 (by decide) (.inl (by decide))
      have e0 := congrArg (fun l => l[0]?) e
      simp only [hv_at] at e0
      rw [if_pos (by decide), if_pos (by decide)] at e0
      rw [show 40 + 0 = 40 from rfl] at e0
      rw [e0, List.getElem?_set_self (by rw [hsl]; decide)]
    refine ⟨hup, ⟨hup.secs, by decide, .inl rfl, by decide, hne, htk, hp, ⟨_, here, fun h => ?_⟩, zeroS_none hz⟩, here, by decide, by decide⟩
    rw [List.length_replicate] at h
    rw [List.getD_eq_getElem?_getD, List.getElem?_replicate, if_pos h]
    exact zero_none
end Go.Proofs.YtaijompnohkmaaaDoor
