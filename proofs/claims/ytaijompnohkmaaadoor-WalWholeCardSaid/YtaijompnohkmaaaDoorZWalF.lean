/- Layer 5 (wal), plainly: deeds on a disk that may fall: what a fall leaves, whatever stays of the loose writes. -/
import Derived.Test.YtaijompnohkmaaaDoorMR
namespace Go.Proofs.YtaijompnohkmaaaDoor
namespace WalP
/-- The sectors that are sure, and the loose writes. -/
abbrev St := List (List UInt8) × List WriteP
def stepS (s : St) : Deed → St
  | .put a x => (s.1, s.2 ++ [⟨a, x⟩])
  | .flush => (settleN s.1 s.2 (fun _ => true) s.2.length, [])
def steps (s : St) (ds : List Deed) : St := ds.foldl stepS s
theorem steps_append (s : St) (xs ys : List Deed) : steps s (xs ++ ys) = steps (steps s xs) ys := by simp [steps, List.foldl_append]
/-- It is so ahead of each deed. -/
def falls (Q : St → Prop) : St → List Deed → Prop
  | _, [] => True
  | s, x :: xs => Q s ∧ falls Q (stepS s x) xs
theorem falls_append (Q : St → Prop) : ∀ (xs ys : List Deed) (s : St), falls Q s xs → falls Q (steps s xs) ys → falls Q s (xs ++ ys)
  | [], ys, s, _, h => h
  | x :: xs, ys, s, h1, h2 => ⟨h1.1, falls_append Q xs ys (stepS s x) h1.2 h2⟩
/-- A disk of S sectors that is up, with a fuse or none. -/
structure Up (S n : Nat) (d : DiskP) : Prop where
  secs : d.secs.length = S
  down : d.down = false
  fuse : -1 ≤ d.fuse ∧ d.fuse ≤ 1099511627776
  at_ : ∀ x ∈ d.loose, 0 ≤ x.at_ ∧ x.at_ < S
  len : d.loose.length ≤ n
theorem Up.right {S n : Nat} {d : DiskP} (h : Up S n d) (hS : S ≤ 4096) (hn : n ≤ 100000) : rightB d = true := right_of h.secs h.len h.fuse h.at_ hS hn
theorem Up.mono {S n m : Nat} {d : DiskP} (h : Up S n d) (hm : n ≤ m) : Up S m d := ⟨h.secs, h.down, h.fuse, h.at_, Nat.le_trans h.len hm⟩
theorem Calm.is_up {S n : Nat} {d : DiskP} (h : Calm S n d) : Up S n d := ⟨h.secs, h.down, by rw [h.fuse]; omega, h.at_, h.len⟩
theorem Up.calm {S n : Nat} {d : DiskP} (h : Up S n d) (hf : d.fuse = -1) : Calm S n d := ⟨h.secs, h.down, hf, h.at_, h.len⟩
/-- A disk of S sectors that has fallen. -/
structure Fell (S n : Nat) (d : DiskP) : Prop where
  secs : d.secs.length = S
  down : d.down = true
  fuse : d.fuse = 0
  at_ : ∀ x ∈ d.loose, 0 ≤ x.at_ ∧ x.at_ < S
  len : d.loose.length ≤ n
theorem Fell.right {S n : Nat} {d : DiskP} (h : Fell S n d) (hS : S ≤ 4096) (hn : n ≤ 100000) : rightB d = true := right_of h.secs h.len (by rw [h.fuse]; omega) h.at_ hS hn
/-- A deed is done, or the disk falls. -/
theorem Up.deed {S n : Nat} {d : DiskP} (h : Up S n d) (hS : S ≤ 4096) (hn : n ≤ 100000) (x : Deed) (hx : fit S x) :
    ((WalP.deed d x).2 = 0 ∧ Up S (n + 1) (WalP.deed d x).1 ∧ ((WalP.deed d x).1.secs, (WalP.deed d x).1.loose) = stepS (d.secs, d.loose) x ∧ (d.fuse = -1 → (WalP.deed d x).1.fuse = -1) ∧ (WalP.deed d x).1.fuse ≤ d.fuse) ∨
    ((WalP.deed d x).2 = 9 ∧ Fell S n (WalP.deed d x).1 ∧ (WalP.deed d x).1.secs = d.secs ∧ (WalP.deed d x).1.loose = d.loose ∧ d.fuse = 0) := by
  have hr := h.right hS hn
  have hd := h.down
  have hf := h.fuse
  by_cases h0 : d.fuse = 0
  · right
    have hdn : downP d = true := by simp [downP, h0]
    have hb : burnF d = 0 := by simp [burnF, hdn, h0]
    cases x with
    | put a s =>
      have ht : thereB d a = true := by simp only [thereB, h.secs]; simp; exact hx
      have e : WalP.deed d (.put a s) = ({ d with fuse := 0, down := true }, 9) := by simp [WalP.deed, putP, hr, ht, hdn, hb]
      rw [e]
      exact ⟨rfl, ⟨h.secs, rfl, rfl, h.at_, h.len⟩, rfl, rfl, h0⟩
    | flush =>
      have e : WalP.deed d .flush = ({ d with fuse := 0, down := true }, 9) := by simp [WalP.deed, flushP, hr, hdn, hb]
      rw [e]
      exact ⟨rfl, ⟨h.secs, rfl, rfl, h.at_, h.len⟩, rfl, rfl, h0⟩
  · left
    have hdn : downP d = false := by simp [downP, hd, h0]
    obtain ⟨f, hfe⟩ : ∃ f, f = burnF d := ⟨_, rfl⟩
    have hfb : -1 ≤ f ∧ f ≤ 1099511627776 ∧ f ≤ d.fuse ∧ (d.fuse = -1 → f = -1) := by
      rw [hfe]; unfold burnF; rw [hdn]
      simp only [Bool.false_eq_true, if_false]
      split <;> omega
    cases x with
    | put a s =>
      have ht : thereB d a = true := by simp only [thereB, h.secs]; simp; exact hx
      have e : WalP.deed d (.put a s) = ({ d with loose := d.loose ++ [⟨a, s⟩], fuse := f, down := false }, 0) := by simp [WalP.deed, putP, hr, ht, hdn, hfe]
      rw [e]
      refine ⟨rfl, ⟨h.secs, rfl, ⟨hfb.1, hfb.2.1⟩, ?_, ?_⟩, rfl, hfb.2.2.2, hfb.2.2.1⟩
      · intro y hy
        rcases List.mem_append.1 hy with hy | hy
        · exact h.at_ y hy
        · rw [List.mem_singleton.1 hy]; exact hx
      · have := h.len
        simp; omega
    | flush =>
      have e : WalP.deed d .flush = (⟨settleN d.secs d.loose (fun _ => true) d.loose.length, [], f, false⟩, 0) := by simp [WalP.deed, flushP, hr, hdn, hfe]
      rw [e]
      exact ⟨rfl, ⟨by show (settleN _ _ _ _).length = S; rw [length_settleN]; exact h.secs, rfl, ⟨hfb.1, hfb.2.1⟩, fun x hx => absurd hx List.not_mem_nil, Nat.zero_le _⟩, rfl, hfb.2.2.2, hfb.2.2.1⟩
/-- Deeds are done, or the disk falls ahead of one of them. -/
theorem run_falls {S : Nat} (hS : S ≤ 4096) {Q : St → Prop} : ∀ (ds : List Deed) {n : Nat} {d : DiskP}, Up S n d → n + ds.length ≤ 100000 → (∀ x ∈ ds, fit S x) → falls Q (d.secs, d.loose) ds →
    ((run d ds).2 = 0 ∧ Up S (n + ds.length) (run d ds).1 ∧ ((run d ds).1.secs, (run d ds).1.loose) = steps (d.secs, d.loose) ds ∧ (d.fuse = -1 → (run d ds).1.fuse = -1) ∧ (run d ds).1.fuse ≤ d.fuse) ∨
    ((run d ds).2 = 9 ∧ Fell S (n + ds.length) (run d ds).1 ∧ Q ((run d ds).1.secs, (run d ds).1.loose) ∧ d.fuse ≠ -1)
  | [], n, d, h, _, _, _ => .inl ⟨rfl, h, rfl, id, Int.le_refl _⟩
  | x :: ds, n, d, h, hn, hf, hq => by
    have hl : (x :: ds).length = ds.length + 1 := rfl
    rcases h.deed hS (by omega) x (hf x (List.mem_cons_self ..)) with ⟨e1, e2, e3, e4, e4'⟩ | ⟨e1, e2, e3, e4, e5⟩
    · have hq2 := hq.2
      rw [← e3] at hq2
      simp only [WalP.run, e1, if_true]
      rcases run_falls hS ds e2 (by omega) (fun y hy => hf y (List.mem_cons_of_mem _ hy)) hq2 with ⟨i1, i2, i3, i4, i5⟩ | ⟨i1, i2, i3, i4⟩
      · refine .inl ⟨i1, i2.mono (by omega), ?_, fun h => i4 (e4 h), Int.le_trans i5 e4'⟩
        rw [i3, e3]; rfl
      · refine .inr ⟨i1, ⟨i2.secs, i2.down, i2.fuse, i2.at_, Nat.le_trans i2.len (by omega)⟩, i3, fun h => i4 (e4 h)⟩
    · simp only [WalP.run, e1, show (9 : Int) ≠ 0 by decide, if_false]
      refine .inr ⟨trivial, ⟨e2.secs, e2.down, e2.fuse, e2.at_, Nat.le_trans e2.len (by omega)⟩, ?_, by omega⟩
      rw [e3, e4]
      exact hq.1
/-- What may be behind a fall: each sector is as it was sure, or as one of the loose writes. -/
structure Settled (s : St) (t : List (List UInt8)) : Prop where
  len : t.length = s.1.length
  each : ∀ i : Nat, t[i]? = s.1[i]? ∨ ∃ x ∈ s.2, x.at_ = i ∧ t[i]? = some x.data
theorem settled_of (ss : List (List UInt8)) (ls : List WriteP) (st : Nat → Bool) (h0 : ∀ x ∈ ls, 0 ≤ x.at_) : ∀ k, Settled (ss, ls) (settleN ss ls st k)
  | 0 => ⟨rfl, fun i => .inl rfl⟩
  | k + 1 => by
    have ih := settled_of ss ls st h0 k
    have hl := length_settleN ss ls st (k + 1)
    refine ⟨hl, fun i => ?_⟩
    unfold settleN
    split
    · rename_i x hx
      split
      · have hm := List.mem_of_getElem? hx
        have hx0 := h0 x hm
        rw [List.getElem?_set]
        by_cases hi : x.at_.toNat = i
        · rw [if_pos hi]
          by_cases hlt : x.at_.toNat < (settleN ss ls st k).length
          · rw [if_pos hlt]
            exact .inr ⟨x, hm, by omega, rfl⟩
          · rw [if_neg hlt]
            left
            rw [List.getElem?_eq_none]
            rw [ih.len] at hlt
            show ss.length ≤ i
            have : ¬ x.at_.toNat < ss.length := hlt
            omega
        · rw [if_neg hi]
          exact ih.each i
      · exact ih.each i
    · exact ih.each i
/-- A disk that is started. -/
theorem start_of {d : DiskP} (hr : rightB d = true) (h0 : ∀ x ∈ d.loose, 0 ≤ x.at_) (m : Int) : ∃ t, startP d m = (⟨t, [], -1, false⟩, 0) ∧ Settled (d.secs, d.loose) t := by
  refine ⟨settleN d.secs d.loose (stay m) d.loose.length, by simp [startP, hr], settled_of _ _ _ h0 _⟩
/-- Puts that are all of one kind, ahead of a flush. -/
theorem falls_puts {Q : St → Prop} {P : WriteP → Prop} (ss : List (List UInt8)) (hQ : ∀ ls : List WriteP, (∀ x ∈ ls, P x) → Q (ss, ls)) : ∀ (ds : List Deed) (ls : List WriteP), (∀ x ∈ ls, P x) → (∀ y ∈ ds, ∃ a s, y = .put a s ∧ P ⟨a, s⟩) →
    falls Q (ss, ls) ds ∧ (∃ ls', steps (ss, ls) ds = (ss, ls') ∧ (∀ x ∈ ls', P x))
  | [], ls, h, _ => ⟨trivial, ls, rfl, h⟩
  | y :: ds, ls, h, hy => by
    obtain ⟨a, s, rfl, hp⟩ := hy y (List.mem_cons_self ..)
    have h' : ∀ x ∈ ls ++ [⟨a, s⟩], P x := by
      intro x hx
      rcases List.mem_append.1 hx with hx | hx
      · exact h x hx
      · rw [List.mem_singleton.1 hx]; exact hp
    obtain ⟨h1, ls', h2, h3⟩ := falls_puts ss hQ ds _ h' (fun z hz => hy z (List.mem_cons_of_mem _ hz))
    exact ⟨⟨hQ ls h, h1⟩, ls', h2, h3⟩
/-- What is behind deeds, seen. -/
theorem see_steps (f : Int) (b : Bool) : ∀ (ds : List Deed) (s : St), (∀ x ∈ s.2, 0 ≤ x.at_ ∧ x.at_ < s.1.length) → (∀ x ∈ ds, fit s.1.length x) →
    see ⟨(steps s ds).1, (steps s ds).2, f, b⟩ = after (see ⟨s.1, s.2, f, b⟩) ds ∧ (∀ x ∈ (steps s ds).2, 0 ≤ x.at_ ∧ x.at_ < s.1.length) ∧ (steps s ds).1.length = s.1.length
  | [], s, h, _ => ⟨rfl, h, rfl⟩
  | x :: ds, s, h, hf => by
    have h1 : see ⟨(stepS s x).1, (stepS s x).2, f, b⟩ = after1 (see ⟨s.1, s.2, f, b⟩) x ∧ (∀ y ∈ (stepS s x).2, 0 ≤ y.at_ ∧ y.at_ < s.1.length) ∧ (stepS s x).1.length = s.1.length := by
      have hx := hf x (List.mem_cons_self ..)
      cases x with
      | put a u =>
        obtain ⟨k, rfl⟩ : ∃ k : Nat, a = k := ⟨a.toNat, by have := hx.1; omega⟩
        refine ⟨?_, ?_, rfl⟩
        · have := see_put ⟨s.1, s.2, f, b⟩ k u f b (by have := hx.2; show k < s.1.length; omega)
          exact this
        · intro y hy
          rcases List.mem_append.1 hy with hy | hy
          · exact h y hy
          · rw [List.mem_singleton.1 hy]; exact hx
      | flush =>
        refine ⟨?_, fun y hy => absurd hy List.not_mem_nil, length_settleN _ _ _ _⟩
        have := settle_see (d := ⟨s.1, s.2, f, b⟩) (fun x hx => (h x hx).1)
        show see ⟨settleN s.1 s.2 (fun _ => true) s.2.length, [], f, b⟩ = _
        rw [see_sure]
        exact this
    obtain ⟨e1, e2, e3⟩ := h1
    have ih := see_steps f b ds (stepS s x) (by rw [e3]; exact e2) (by rw [e3]; exact fun y hy => hf y (List.mem_cons_of_mem _ hy))
    rw [e3] at ih
    refine ⟨?_, ih.2.1, ih.2.2⟩
    show see ⟨(steps (stepS s x) ds).1, (steps (stepS s x) ds).2, f, b⟩ = _
    rw [ih.1, e1]
    rfl
/-- Behind a flush, nothing is loose: what is sure is what is seen. -/
theorem steps_flush {ss : List (List UInt8)} (ds : List Deed) (hf : ∀ x ∈ ds, fit ss.length x) : steps (ss, []) (ds ++ [.flush]) = (after ss ds, []) := by
  have hf' : ∀ x ∈ ds ++ [Deed.flush], fit ss.length x := by
    intro x hx
    rcases List.mem_append.1 hx with hx | hx
    · exact hf x hx
    · rw [List.mem_singleton.1 hx]; trivial
  have h := see_steps 0 false (ds ++ [.flush]) (ss, []) (fun x hx => absurd hx List.not_mem_nil) hf'
  have h2 : (steps (ss, []) (ds ++ [.flush])).2 = [] := by rw [steps_append]; rfl
  have h1 := h.1
  rw [h2, see_sure] at h1
  show ((steps (ss, []) (ds ++ [.flush])).1, (steps (ss, []) (ds ++ [.flush])).2) = _
  rw [h2, h1]
  have e : see ⟨ss, [], 0, false⟩ = ss := see_sure _ _ _
  show (after (see ⟨ss, [], 0, false⟩) (ds ++ [Deed.flush]), _) = _
  rw [e, after_append]
  rfl
end WalP
end Go.Proofs.YtaijompnohkmaaaDoor
